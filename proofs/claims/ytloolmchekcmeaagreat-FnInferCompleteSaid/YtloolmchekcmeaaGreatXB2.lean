/- A part. -/
import Derived.Test.YtloolmchekcmeaaGreatXB1
set_option linter.unusedVariables false
set_option linter.unusedSimpArgs false
open Option renaming map_eq_some_iff->W3,bind_some->W4
open List renaming getElem?_eq_some_iff->W5,getElem?_append_left->W6,getElem?_append_right->W7,getElem?_eq_getElem->W8,range->W9,mem_of_getElem?->Xa,getElem?_map->Xb,getElem?_of_mem->Xc,getD->Xd,mem_cons->Xe,flatMap_cons->Xf,all_eq_true->Xg,nodup_nil->Xh,mem_append->Xi,length_append->Xj,map_cons->Xk,append_nil->Xl,mem_range->Xm,getElem?_inj->Xn,getElem?_eq_none->Xo,foldl_cons->Xp,eq_nil_of_length_eq_zero->Xq,contains_eq_mem->Xr,nodup_cons->Xs,mem_map->Xt,mem_filter->Xu,mem_cons_of_mem->Xv,length_eq_one_iff->Xw,zipWith->Xx,take_append_drop->Xy,sizeOf_lt_of_mem->Xz,set_append_right->XA,mem_iff_getElem?->XB,mem_filterMap->XC,map_map->XD,length_nil->XE,length_filter_le->XF,getElem?_zipIdx->XG,getElem?_drop->XH,getElem?_cons_succ->XI,ext_getElem?->XJ,all_cons->XK
open Bool renaming and_eq_true->XL,or_eq_true->XM,false_eq_true->XN,not_eq_true'->XO
open Nat renaming le_refl->XP,lt_or_ge->XQ,zero_le->XR,le_trans->XS,zero_add->XT,strongRecOn->XU,lt_trichotomy->XV,lt_of_lt_of_le->XW,testBit_or->XX,le_total->XY,add_sub_cancel_left->XZ,add_assoc->X0
open Array renaming getElem?_eq_getElem->X1,getElem?_eq_some_iff->X2,mem_toList_iff->X3,getElem?_setIfInBounds_ne->X4,length_toList->X5,replicate->X6,mem_of_getElem?->X7,getD_eq_getD_getElem?->X8,empty_append->X9
namespace Go.Av
open Go
def pos?:List Nat->Nat->Option Nat
 |[],_=>none
 |x::r,l=>if l=x then some 0 else(pos? r l).map (·+1)
def wD (ids:List Nat):List Nat->Option (List Nat)
 |[]=>some []
 |l::r=>match pos? ids l,wD ids r with
  |some i,some is=>some (i::is)
  |_,_=>none
def CV.kT (A:List bu) (ids:List Nat):CV->Option CV
 |.d x=>some (.d x)
 |.nil=>some (.d (.sl []))
 |.own k n=>(nE A (.own k n)).map CV.d
 |.ptr l off=>(pos? ids l).map fun i=>.ptr i off
 |.np=>some .np
 |.ip row off=>some (.ip row off)
 |.op _ _ _ _=>none
 |.fn f cap=>(wD ids cap).map fun is=>.fn f is
 |.undef=>none
def qD (A:List bu) (ids:List Nat):List CV->Option (List CV)
 |[]=>some []
 |c::r=>match c.kT A ids,qD A ids r with
  |some d,some ds=>some (d::ds)
  |_,_=>none
def AV.kT (A:List bu) (ids:List Nat):AV->Option AV
 |.c x=>(x.kT A ids).map AV.c
 |.agg xs=>(qD A ids xs).map AV.agg
 |.a8 _=>none
def ib (A:List bu) (ids:List Nat):List AV->Option (List AV)
 |[]=>some []
 |c::r=>match c.kT A ids,ib A ids r with
  |some d,some ds=>some (d::ds)
  |_,_=>none
def ic (A:List bu) (V:List (List CV)) (ids:List Nat):List Nat->Option (List (List CV))
 |[]=>some []
 |l::r=>match V[l]?,ic A V ids r with
  |some row,some rs=>match qD A ids row with
   |some row'=>some (row'::rs)
   |none=>none
  |_,_=>none
def back (ids:List Nat) (nV:Nat) (i:Nat):Nat:=match ids[i]? with
 |some l=>l
 |none=>nV+(i-ids.length)
def CV.fS (ids:List Nat) (nV nA:Nat):CV->CV
 |.ptr i off=>.ptr (back ids nV i) off
 |.own k n=>.own (nA+k) n
 |.op k n i off=>.op (nA+k) n i off
 |.fn f cap=>.fn f (cap.map (back ids nV))
 |c=>c
def AV.fS (ids:List Nat) (nV nA:Nat):AV->AV
 |.c x=>.c (x.fS ids nV nA)
 |.agg xs=>.agg (xs.map (CV.fS ids nV nA))
 |.a8 xs=>.a8 (xs.map fun x=>match x with
  |.c x=>.c (x.fS ids nV nA)
  |.agg xs=>.agg (xs.map (CV.fS ids nV nA))
  |x=>x)
def ck (nA nV:Nat) (ids:List Nat):List (List CV)->List Nat->List (List CV)->List (List CV)
 |V,l::ls,row::rows=>ck nA nV ids (V.set l (row.map (CV.fS ids nV nA))) ls rows
 |V,[],rows=>V++rows.map fun row=>row.map (CV.fS ids nV nA)
 |V,_::_,[]=>V
def bA (xs:List AV):List CV:=xs.flatMap AV.cells
def bK (V:List (List CV)) (ids:List Nat):List CV:=ids.flatMap fun l=>V.getD l []
def ah (P:Program) (f:FuncId) (as:List AV) (V:List (List CV)) (r:AV) (V':List (List CV)) (A':List bu):Prop:=
 (∀args w,(callFunc f args).run P w=.ok (.enter f args) w)/\V.length<=V'.length/\
 ∀(g:Gh) (w:World) (vs:Array Value),g.ar=[]->Inv g w V []->Bi w g->vs.size=as.length->(∀(i:Nat) x u,as[i]? =some x->vs[i]? =some u->aO g w [] x u)->
  Calls P f vs w fun e w'=>∃v g',e=.returned v/\aO g' w' A' r v/\Inv g' w' V' A'/\Fr w g w' g'
def EF (P:Program) (s:St) (f:FuncId) (xs:List AV) (K:AV->List (List CV)->List bu->Prop):Prop:=
 ∃(ids:List Nat) (as:List AV) (Vc:List (List CV)) (r:AV) (Vc':List (List CV)) (Ac':List bu),ids.Nodup/\ib s.A ids xs=some as/\ic s.A s.V ids ids=some Vc/\ah P f as Vc r Vc' Ac'/\
  K (r.fS ids s.V.length s.A.length) (ck s.A.length s.V.length ids s.V ids Vc') (bQ s.A (bA xs++bK s.V ids)++Ac')
def r8:bu:=⟨0,0,[],false⟩
def qE {α:Type} (l:List α):List Nat->List α->List α
 |h::hs,v::vs=>qE (l.set h v) hs vs
 |_,_=>l
def CV.eH (hs:List Nat):CV->Option CV
 |.d x=>some (.d x)
 |.nil=>some (.d (.sl []))
 |.own k n=>(pos? hs k).map fun i=>.own i n
 |.np=>some .np
 |.ip row off=>some (.ip row off)
 |.fn f []=>some (.fn f [])
 |_=>none
def iX (hs:List Nat):List CV->Option (List CV)
 |[]=>some []
 |c::r=>match c.eH hs,iX hs r with
  |some d,some ds=>some (d::ds)
  |_,_=>none
def AV.eH (hs:List Nat):AV->Option AV
 |.c x=>(x.eH hs).map AV.c
 |.agg xs=>(iX hs xs).map AV.agg
 |.a8 _=>none
def fb (hs:List Nat):List AV->Option (List AV)
 |[]=>some []
 |c::r=>match c.eH hs,fb hs r with
  |some d,some ds=>some (d::ds)
  |_,_=>none
def CV.dO (hs:List Nat) (nA:Nat):CV->CV
 |.own k n=>.own (back hs nA k) n
 |.op k n i off=>.op (back hs nA k) n i off
 |c=>c
def AV.dO (hs:List Nat) (nA:Nat):AV->AV
 |.c x=>.c (x.dO hs nA)
 |.agg xs=>.agg (xs.map (CV.dO hs nA))
 |.a8 xs=>.a8 (xs.map fun x=>match x with
  |.c x=>.c (x.dO hs nA)
  |.agg xs=>.agg (xs.map (CV.dO hs nA))
  |x=>x)
def e7 (P:Program) (f:FuncId) (as:List AV) (V:List (List CV)) (A0:List bu) (r:AV) (V':List (List CV)) (A':List bu):Prop:=
 (∀args w,(callFunc f args).run P w=.ok (.enter f args) w)/\V.length<=V'.length/\
 ∀(g:Gh) (w:World) (vs:Array Value),Inv g w V A0->Bi w g->vs.size=as.length->(∀(i:Nat) x u,as[i]? =some x->vs[i]? =some u->aO g w A0 x u)->
  Calls P f vs w fun e w'=>∃v g',e=.returned v/\aO g' w' A' r v/\Inv g' w' V' A'/\Fr w g w' g'
def EG (P:Program) (s:St) (f:FuncId) (xs:List AV) (K:AV->List (List CV)->List bu->Prop):Prop:=
 ∃(hs:List Nat) (as:List AV) (r:AV) (Ac':List bu),hs.Nodup/\(∀(i h:Nat),hs[i]? =some h->∃a a',s.A[h]? =some a/\a.wr=true/\Ac'[i]? =some a'/\a'.sz=a.sz)/\fb hs xs=some as/\
  e7 P f as [] (hs.map fun h=>s.A.getD h r8) r [] Ac'/\K (r.dO hs s.A.length) s.V (qE s.A hs Ac'++Ac'.drop hs.length)
def gJ (P:Program) (s:St) (f:FuncId) (xs:List AV) (K:AV->List (List CV)->List bu->Prop):Prop:=EF P s f xs K\/EG P s f xs K
section
variable {P:Program} {g g' g0:Gh} {w w' w0:World} {V V':List (List CV)} {A A':List bu} {s:St} {a:Act} {K:AV->List (List CV)->List bu->Prop}
theorem mS:∀{ids:List Nat} {l i:Nat},pos? ids l=some i->ids[i]? =some l
 |[],l,i,h=>by simp[pos?]at h
 |x::r,l,i,h=>by
  simp only[pos?]at h;split at h
  ·rename_i e;simp at h;subst h;simp[e]
  ·simp only[W3]at h;obtain⟨j,h1,rfl⟩:=h;simpa using mS h1
theorem y4:∀{ids cap is:List Nat},wD ids cap=some is->is.length=cap.length/\∀(j l i:Nat),cap[j]? =some l->is[j]? =some i->ids[i]? =some l
 |ids,[],is,h=>by simp[wD]at h;subst h;exact⟨rfl,fun j l i h=>by simp at h⟩
 |ids,c::r,is,h=>by
  simp only[wD]at h;split at h
  ·rename_i i is' h1 h2;simp at h;subst h;obtain⟨h3,h4⟩:=y4 h2;refine⟨by simp[h3],fun j l i h5 h6=>?_⟩;cases j with
   |zero=>simp at h5 h6;subst h5;subst h6;exact mS h1
   |succ j=>simp at h5 h6;exact h4 j l i h5 h6
  ·simp at h
theorem y5:∀{cs:List CV} {vs:List Value} {g:Gh} {A:List bu},Inv g w V A->Fr w0 g0 w g->km g w A cs vs->(∀k n,CV.own k n∈cs->(nE A (.own k n)).isSome=true)->
  ∃g',Inv g' w V (bQ A cs)/\Ext g w A g' w (bQ A cs)/\Fr w0 g0 w g'/\g'.ar=g.ar/\g'.ob=g.ob/\∀(j:Nat) c x u,cs[j]? =some c->vs[j]? =some u->nE A c=some x->bh g'.im w x u
 |[],vs,g,A,hI,hF,hr,hd=>⟨g,hI,.refl _ _ _,hF,rfl,rfl,fun j c x u h=>by simp at h⟩
 |c::r,vs,g,A,hI,hF,hr,hd=>by
  cases vs with
  |nil=>exact absurd hr.1 (by simp)
  |cons v vs=>
   have vF:∃g1,Inv g1 w V (fM A c)/\Ext g w A g1 w (fM A c)/\Fr w0 g0 w g1/\g1.ar=g.ar/\g1.ob=g.ob/\∀x,nE A c=some x->bh g1.im w x v:=by
    have PG:=hr.2 0 c v rfl rfl;cases ht:nE A c with
    |some x=>
     obtain⟨g1,h1,h2,h3,h4,h5,h6⟩:=rZ hI hF PG ht;exact⟨g1,h1,h2,h3,h4,h5,fun y hy=>by simp at hy;subst hy;exact h6⟩
    |none=>
     have dj:fM A c=A:=by
      cases c<;>try rfl
      rename_i k n;have:=hd k n (by simp);rw[ht]at this;simp at this
     rw[dj];exact⟨g,hI,.refl _ _ _,hF,rfl,rfl,fun y hy=>by simp at hy⟩
   obtain⟨g1,fj,dC,kH,tA,p9,gk⟩:=vF;have Bc:km g1 w (fM A c) r vs:=⟨by simpa using hr.1,fun j c' u h3 h4=>bn.ext dC (hr.2 (j+1) c' u (by simpa using h3) (by simpa using h4))⟩;obtain⟨g2,Bm,kR,C2,MP,mI,jk⟩:=y5 fj kH Bc (fun k n h=>by rw[tv];exact hd k n (by simp[h]));refine⟨g2,Bm,dC.trans kR,C2,MP.trans tA,mI.trans p9,fun j c' x u h3 h4 h5=>?_⟩;cases j with
   |zero=>simp at h3 h4;subst h3;subst h4;exact bh.fL kR.gr _ _ (gk x h5)
   |succ j=>simp at h3 h4;exact jk j c' x u h3 h4 (by rw[tv];exact h5)
theorem CV.EH {ids:List Nat} {k n:Nat} {d:CV} (h:CV.kT A ids (.own k n)=some d):(nE A (.own k n)).isSome=true:=by
 simp only[CV.kT,W3]at h;obtain⟨x,hx,_⟩:=h;simp[hx]
theorem wE {ids:List Nat}:∀{cs ds:List CV},qD A ids cs=some ds->∀k n,CV.own k n∈cs->(nE A (.own k n)).isSome=true
 |[],ds,h,k,n,hm=>by simp at hm
 |c::r,ds,h,k,n,hm=>by
  simp only[qD]at h;split at h
  ·rename_i d ds' h1 h2;simp only[Xe]at hm;rcases hm with rfl|hm
   ·exact CV.EH h1
   ·exact wE h2 k n hm
  ·simp at h
theorem r9 {ids:List Nat}:∀{cs ds:List CV},qD A ids cs=some ds->ds.length=cs.length/\∀(j:Nat) c d,cs[j]? =some c->ds[j]? =some d->c.kT A ids=some d
 |[],ds,h=>by simp[qD]at h;subst h;exact⟨rfl,fun j c d h=>by simp at h⟩
 |c::r,ds,h=>by
  simp only[qD]at h;split at h
  ·rename_i d ds' h1 h2;simp at h;subst h;obtain⟨h3,h4⟩:=r9 h2;refine⟨by simp[h3],fun j c' d' h5 h6=>?_⟩;cases j with
   |zero=>simp at h5 h6;subst h5;subst h6;exact h1
   |succ j=>simp at h5 h6;exact h4 j c' d' h5 h6
  ·simp at h
theorem Bw {ids:List Nat}:∀{xs as:List AV},ib A ids xs=some as->as.length=xs.length/\∀(j:Nat) x y,xs[j]? =some x->as[j]? =some y->x.kT A ids=some y
 |[],as,h=>by simp[ib]at h;subst h;exact⟨rfl,fun j x y h=>by simp at h⟩
 |c::r,as,h=>by
  simp only[ib]at h;split at h
  ·rename_i d ds' h1 h2;simp at h;subst h;obtain⟨h3,h4⟩:=Bw h2;refine⟨by simp[h3],fun j c' d' h5 h6=>?_⟩;cases j with
   |zero=>simp at h5 h6;subst h5;subst h6;exact h1
   |succ j=>simp at h5 h6;exact h4 j c' d' h5 h6
  ·simp at h
theorem Bx {ids:List Nat}:∀{ls:List Nat} {Vc:List (List CV)},ic A V ids ls=some Vc->Vc.length=ls.length/\∀(i l:Nat) row',ls[i]? =some l->Vc[i]? =some row'->∃row,V[l]? =some row/\qD A ids row=some row'
 |[],Vc,h=>by simp[ic]at h;subst h;exact⟨rfl,fun i l row' h=>by simp at h⟩
 |l::r,Vc,h=>by
  simp only[ic]at h;split at h
  ·rename_i row rs h1 h2;split at h
   ·rename_i row' h3;simp at h;subst h;obtain⟨h4,h5⟩:=Bx h2;refine⟨by simp[h4],fun i l' rw' h6 h7=>?_⟩;cases i with
    |zero=>simp at h6 h7;subst h6;subst h7;exact⟨row,h1,h3⟩
    |succ i=>simp at h6 h7;exact h5 i l' rw' h6 h7
   ·simp at h
  ·simp at h
theorem tF {ids:List Nat} {g1 gc:Gh} {c d:CV} {u:Value} (h:c.kT A ids=some d) (hr:bn g1 w A' c u) (hd:∀x,nE A c=some x->bh g1.im w x u) (I8:∀(i l b:Nat),ids[i]? =some l->g1.ob[l]? =some b->gc.ob[i]? =some b) (qX:gc.im=g1.im):bn gc w [] d u:=by
 cases c with
 |d x=>simp[CV.kT]at h;subst h;simp only[bn]at hr⊢;rw[qX];exact hr
 |nil=>simp[CV.kT]at h;subst h;simp only[bn];rw[qX];exact hd _ rfl
 |own k n=>
  simp only[CV.kT,W3]at h;obtain⟨x,hx,rfl⟩:=h;simp only[bn];rw[qX];exact hd x hx
 |ptr l off=>
  simp only[CV.kT,W3]at h;obtain⟨i,hi,rfl⟩:=h;obtain⟨b,hb,e⟩:=hr;exact⟨b,I8 i l b (mS hi) hb,e⟩
 |np=>simp[CV.kT]at h;subst h;exact hr
 |ip row off=>
  simp[CV.kT]at h;subst h;obtain⟨b,o,e,h1,h2⟩:=hr;exact⟨b,o,e,by rw[qX];exact h1,by rw[qX];exact h2⟩
 |op k n i off=>simp[CV.kT]at h
 |fn f cap=>
  simp only[CV.kT,W3]at h;obtain⟨is,hi,rfl⟩:=h;obtain⟨bks,e,hl,hb⟩:=hr;obtain⟨h1,h2⟩:=y4 hi;refine⟨bks,e,by omega,fun j i b h3 h4=>?_⟩;have hj:j<cap.length:=by have:=(W5.1 h3).1;omega
  have hc:cap[j]? =some cap[j]:=W8 hj;exact I8 i _ b (h2 j _ i hc h3) (hb j _ b hc h4)
 |undef=>simp[CV.kT]at h
theorem Dr {ids:List Nat} {nV nA:Nat} {Ac' A2:List bu} {g2:Gh} {c:CV} {u:Value} (hr:bn g' w Ac' c u) (I8:∀(i b:Nat),g'.ob[i]? =some b->g2.ob[back ids nV i]? =some b) (qX:g2.im=g'.im)
  (hA:∀(k:Nat) r,Ac'[k]? =some r->A2[nA+k]? =some r) (MW:∀(k:Nat) v,g'.ar[k]? =some v->g2.ar[nA+k]? =some v):bn g2 w A2 (c.fS ids nV nA) u:=by
 cases c with
 |d x=>simp only[CV.fS,bn]at hr⊢;rw[qX];exact hr
 |own k n=>
  obtain⟨ad,cap,e,r,h1,h2,h3⟩:=hr;exact⟨ad,cap,e,r,hA k r h1,h2,fun h=>MW k _ (h3 h)⟩
 |ptr l off=>
  obtain⟨b,hb,e⟩:=hr;exact⟨b,I8 l b hb,e⟩
 |ip row off=>
  obtain⟨b,o,e,h1,h2⟩:=hr;exact⟨b,o,e,by rw[qX];exact h1,by rw[qX];exact h2⟩
 |op k n i off=>
  obtain⟨b,e,hv,r,h1,h2,h3⟩:=hr;refine⟨b,e,hv,r,hA k r h1,h2,fun h=>?_⟩;obtain⟨cap,h4,h5⟩:=h3 h;exact⟨cap,MW k _ h4,h5⟩
 |fn f cap=>
  obtain⟨bks,e,hl,hb⟩:=hr;refine⟨bks,e,by simpa using hl,fun i l b h1 h2=>?_⟩;simp only[Xb,W3]at h1;obtain⟨l',h3,rfl⟩:=h1;exact I8 l' b (hb i l' b h3 h2)
 |_=>exact hr
theorem uN {nA nV:Nat} {ids:List Nat}:∀{V:List (List CV)} {ls:List Nat} {rows:List (List CV)},ls.length<=rows.length->(ck nA nV ids V ls rows).length=V.length+(rows.length-ls.length)
 |V,[],rows,_=>by simp[ck]
 |V,l::ls,[],h=>by simp at h
 |V,l::ls,row::rows,h=>by
  simp only[ck];rw[uN (by simpa using h)];simp
theorem wF {nA nV:Nat} {ids:List Nat}:∀{V:List (List CV)} {ls:List Nat} {rows:List (List CV)},ls.length<=rows.length->ls.Nodup->(∀l∈ls,l<V.length)->∀(l:Nat) row,(ck nA nV ids V ls rows)[l]? =some row->
  (∃(i:Nat) (row':List CV),ls[i]? =some l/\rows[i]? =some row'/\row=row'.map (CV.fS ids nV nA))\/(l∉ls/\l<V.length/\V[l]? =some row)\/(V.length<=l/\∃row':List CV,rows[ls.length+(l-V.length)]? =some row'/\row=row'.map (CV.fS ids nV nA))
 |V,[],rows,_,_,_,l,row,h=>by
  simp only[ck]at h;by_cases hl:l<V.length
  ·rw[W6 hl]at h;exact .inr (.inl ⟨by simp,hl,h⟩)
  ·rw[W7 (by omega),Xb,W3]at h;obtain⟨row',h1,rfl⟩:=h;exact .inr (.inr ⟨by omega,row',by simpa using h1,rfl⟩)
 |V,l0::ls,[],h,_,_,_,_,_=>by simp at h
 |V,l0::ls,row0::rows,hlen,oO,ax,l,row,h=>by
  simp only[ck]at h;rw[Xs]at oO;have I6:l0<V.length:=ax l0 (by simp);have hV:V[l0]? =some V[l0]:=W8 I6;rcases wF (by simpa using hlen) oO.2 (fun l hl=>by simpa using ax l (by simp[hl])) l row h with⟨i,row',h1,h2,h3⟩|⟨h1,h2,h3⟩|⟨h1,row',h2,h3⟩
  ·exact .inl ⟨i+1,row',by simpa using h1,by simpa using h2,h3⟩
  ·rw[dA hV]at h3;by_cases e:l=l0
   ·subst e;simp at h3;exact .inl ⟨0,row0,rfl,rfl,h3.symm⟩
   ·rw[if_neg e]at h3;exact .inr (.inl ⟨by simp[e,h1],by simpa using h2,h3⟩)
  ·simp at h1 h2;refine .inr (.inr ⟨h1,row',?_,h3⟩);rw[List.length_cons,show ls.length+1+(l-V.length)=(ls.length+(l-V.length))+1 by omega,XI];exact h2
set_option maxHeartbeats 1000000 in
theorem yt (hI:Inv g w s.V s.A) (hF:Fr w0 g0 w g) {f:FuncId} {xs:List AV} {vs:Array Value} (hl:vs.size=xs.length) (hr:∀(i:Nat) x u,xs[i]? =some x->vs[i]? =some u->aO g w s.A x u) (h:EF P s f xs K):
  (∀args w,(callFunc f args).run P w=.ok (.enter f args) w)/\∃x V' A',K x V' A'/\Calls P f vs w fun e w'=>∃v g',e=.returned v/\aO g' w' A' x v/\Inv g' w' V' A'/\Ext g w s.A g' w' A'/\Fr w0 g0 w' g':=by
 obtain⟨ids,as,Vc,r,Vc',Ac',oO,has,Uh,⟨Hm,hlen,iB⟩,hK⟩:=h;refine⟨Hm,_,_,_,hK,?_⟩;obtain⟨QH,Hn⟩:=Bw has;obtain⟨Lv,MX⟩:=Bx Uh;have Ho:∀l∈ids,l<s.V.length:=fun l I5=>by
  obtain⟨i,hi⟩:=Xc I5;have Bd:=(W5.1 hi).1;obtain⟨row,h1,_⟩:=MX i l _ hi (W8 (show i<Vc.length by omega));exact(W5.1 h1).1
 have pd:∀(l:List AV) (us:List Value),us.length=l.length->(∀(i:Nat) x u,l[i]? =some x->us[i]? =some u->aO g w s.A x u)->(∀x∈l,∃y,x.kT s.A ids=some y)->
   km g w s.A (bA l) (us.flatMap fun u=>u.cells.toList)/\∀k n,CV.own k n∈bA l->(nE s.A (.own k n)).isSome=true:=by
  intro l;induction l with
  |nil=>intro us h1 _ _;have:us=[]:=Xq (by simpa using h1);subst this;exact⟨⟨rfl,fun j c u h=>by simp[bA]at h⟩,fun k n h=>by simp[bA]at h⟩
  |cons x l ih=>
   intro us h1 h2 h3;cases us with
   |nil=>simp at h1
   |cons u us=>
    obtain⟨⟨h4,h5⟩,h6⟩:=ih us (by simpa using h1) (fun i x u h7 h8=>h2 (i+1) x u (by simpa using h7) (by simpa using h8)) (fun x hx=>h3 x (by simp[hx]));obtain⟨y,hy⟩:=h3 x (by simp);have MY:=h2 0 x u rfl rfl;have l6:km g w s.A x.cells u.cells.toList:=by
     refine(AV.gH MY ?_).1;cases x with
     |c c=>simp only[AV.kT,W3]at hy;obtain⟨d,hd,_⟩:=hy;cases c<;>first|rfl|simp[CV.kT]at hd
     |agg cs=>
      simp only[AV.kT,W3]at hy;obtain⟨ds,hd,_⟩:=hy;simp only[AV.plain,Xg,XO];intro c hc;obtain⟨j,hj⟩:=Xc hc;obtain⟨h9,cJ⟩:=r9 hd;have jA:j<ds.length:=by have:=(W5.1 hj).1;omega
      have:=cJ j c _ hj (W8 jA);cases c<;>first|rfl|simp[CV.kT]at this
     |a8 ys=>simp[AV.kT]at hy
    refine⟨⟨by simp only[bA,Xf,Xj]at h4⊢;have:=l6.1;omega,fun j c v h7 h8=>?_⟩,fun k n h7=>?_⟩
    ·simp only[bA,Xf]at h7 h8;by_cases hj:j<x.cells.length
     ·rw[W6 hj]at h7;rw[W6 (by rw[l6.1];exact hj)]at h8;exact l6.2 j c v h7 h8
     ·rw[W7 (by omega)]at h7;rw[W7 (by rw[l6.1];omega),l6.1]at h8;exact h5 _ c v h7 h8
    ·simp only[bA,Xf,Xi]at h7;rcases h7 with h7|h7
     ·cases x with
      |c c=>
       simp[AV.cells]at h7;subst h7;simp only[AV.kT,W3]at hy;obtain⟨d,hd,_⟩:=hy;exact CV.EH hd
      |agg cs=>
       simp only[AV.kT,W3]at hy;obtain⟨ds,hd,_⟩:=hy;exact wE hd k n h7
      |a8 ys=>simp[AV.cells]at h7
     ·exact h6 k n h7
 obtain⟨FD,Ui⟩:=pd xs vs.toList (by simpa using hl) (fun i x u h1 h2=>hr i x u h1 (by simpa using h2)) (fun x hx=>by
  obtain⟨i,hi⟩:=Xc hx;have:i<as.length:=by have:=(W5.1 hi).1;omega
  exact⟨_,Hn i x _ hi (W8 this)⟩)
 have NA:∀ls:List Nat,(∀l∈ls,l∈ids)->∃us:List Value,km g w s.A (bK s.V ls) us/\(∀k n,CV.own k n∈bK s.V ls->(nE s.A (.own k n)).isSome=true)/\
   ∀(l:Nat) row b,l∈ls->s.V[l]? =some row->g.ob[l]? =some b->∃cs ty,w.heap[b]? =some (.cells cs ty (0,0))/\cs.size=row.length/\∃o,∀(j:Nat) c u,row[j]? =some c->cs[j]? =some u->(bK s.V ls)[o+j]? =some c/\us[o+j]? =some u:=by
  intro ls;induction ls with
  |nil=>intro _;exact⟨[],⟨rfl,fun j c u h=>by simp[bK]at h⟩,fun k n h=>by simp[bK]at h,fun l row b h=>by simp at h⟩
  |cons l0 ls ih=>
   intro gK;obtain⟨us,⟨h1,h2⟩,h3,h4⟩:=ih (fun l hl=>gK l (by simp[hl]));have I6:=Ho l0 (gK l0 (by simp));have EI:s.V[l0]? =some s.V[l0]:=W8 I6;have Hp:g.ob[l0]? =some (g.ob[l0]'(by rw[hI.o0];exact I6)):=W8 _;obtain⟨_,cs0,ty0,Uj,Be,Jr⟩:=hI.obj l0 _ _ EI Hp;have vI:s.V.getD l0 []=s.V[l0]:=by simp[Xd,EI]
   have nJ:bK s.V (l0::ls)=s.V[l0]++bK s.V ls:=by simp only[bK,Xf,vI]
   refine⟨cs0.toList++us,?_,?_,?_⟩
   ·rw[nJ];refine⟨by simp[h1,Be],fun j c u h5 h6=>?_⟩;by_cases hj:j<s.V[l0].length
    ·rw[W6 hj]at h5;rw[W6 (by simp;omega)]at h6;exact Jr j c u h5 (by simpa using h6)
    ·rw[W7 (by omega)]at h5;rw[W7 (by simp;omega)]at h6;exact h2 _ c u h5 (by simpa[Be]using h6)
   ·rw[nJ];intro k n hm;rcases Xi.1 hm with hm|hm
    ·obtain⟨i,hi⟩:=Xc (gK l0 (by simp));have Bd:=(W5.1 hi).1;obtain⟨row,h5,h6⟩:=MX i l0 _ hi (W8 (show i<Vc.length by omega));rw[EI]at h5;cases h5;exact wE h6 k n hm
    ·exact h3 k n hm
   ·intro l row b GO ef hb;rw[nJ];by_cases e:l=l0
    ·subst e;rw[EI]at ef;cases ef;rw[Hp]at hb;cases hb;refine⟨cs0,ty0,Uj,Be,0,fun j c u h5 h6=>?_⟩;have hj:=(W5.1 h5).1;rw[XT,W6 hj,W6 (by simp;omega)];exact⟨h5,by simpa using h6⟩
    ·simp only[Xe,e,false_or]at GO;obtain⟨cs,ty,h5,h6,o,h7⟩:=h4 l row b GO ef hb;refine⟨cs,ty,h5,h6,s.V[l0].length+o,fun j c u h8 h9=>?_⟩;obtain⟨cJ,eG⟩:=h7 j c u h8 h9;rw[X0,W7 (by omega),W7 (by simp;omega)];simp only[XZ,X5,Be];exact⟨cJ,eG⟩
 obtain⟨us,QI,Uk,Ul⟩:=NA ids (fun _ h=>h);have yu:km g w s.A (bA xs++bK s.V ids) ((vs.toList.flatMap fun u=>u.cells.toList)++us):=by
  refine⟨by simp only[Xj];have:=FD.1;have:=QI.1;omega,fun j c u h1 h2=>?_⟩;by_cases hj:j<(bA xs).length
  ·rw[W6 hj]at h1;rw[W6 (by rw[FD.1];exact hj)]at h2;exact FD.2 j c u h1 h2
  ·rw[W7 (by omega)]at h1;rw[W7 (by rw[FD.1];omega),FD.1]at h2;exact QI.2 _ c u h1 h2
 obtain⟨g1,fj,dC,kH,tA,p9,gk⟩:=y5 hI hF yu (fun k n hm=>by
  rcases Xi.1 hm with hm|hm
  ·exact Ui k n hm
  ·exact Uk k n hm)
 let gc:Gh:={ob:=ids.map fun l=>g1.ob.getD l 0,ar:=[],im:=g1.im}
 have Hq:∀(i l b:Nat),ids[i]? =some l->g1.ob[l]? =some b->gc.ob[i]? =some b:=fun i l b h1 h2=>by
  simp[gc,h1,h2]
 have oG:∀(i b:Nat),gc.ob[i]? =some b->∃l,ids[i]? =some l/\g1.ob[l]? =some b:=fun i b h1=>by
  simp only[gc,Xb,W3]at h1;obtain⟨l,h2,h3⟩:=h1;have vV:l<g1.ob.length:=by rw[fj.o0];exact Ho l (Xa h2)
  exact⟨l,h2,by rw[<-h3];simp[Xd,vV]⟩
 have Hr:Inv gc w Vc []:=by
  refine⟨by simp[gc,Lv],rfl,fun i row' b h1 h2=>?_,fun k r v h1=>by simp at h1,fun i i' b h1 h2=>?_,fun k k' v v' b h1=>by simp[gc]at h1,fun l k v b _ h2=>by simp[gc]at h2,fj.fresh⟩
  ·obtain⟨l,h3,h4⟩:=oG i b h2;obtain⟨row,h5,h6⟩:=MX i l row' h3 h1;have hb:g.ob[l]? =some b:=by rw[<-p9];exact h4
   obtain⟨cs,ty,h7,h8,o,h9⟩:=Ul l row b (Xa h3) h5 hb;obtain⟨cJ,eG⟩:=r9 h6;refine⟨(fj.obj l row b h5 h4).1,cs,ty,h7,by omega,fun j d u fY dG=>?_⟩;have hj:j<row.length:=by have:=(W5.1 fY).1;omega
   have hc:row[j]? =some row[j]:=W8 hj;obtain⟨gF,qL⟩:=h9 j _ u hc dG;refine tF (eG j _ d hc fY) (bn.ext dC (QI.2 (o+j) _ u gF qL)) (fun x hx=>?_) Hq rfl;refine gk ((bA xs).length+(o+j)) row[j] x u ?_ ?_ hx
   ·rw[W7 (by omega)];simpa using gF
   ·rw[W7 (by rw[FD.1];omega),FD.1];simpa using qL
  ·obtain⟨l,h3,h4⟩:=oG i b h1;obtain⟨l',h5,h6⟩:=oG i' b h2;obtain rfl:=fj.kZ l l' b h4 h6;have hi:=(W5.1 h3).1;exact(Xn hi oO).1 (h3.trans h5.symm)
 have Hs:∀(i:Nat) x u,as[i]? =some x->vs[i]? =some u->aO gc w [] x u:=by
  intro i y u h1 h2;have hi:i<xs.length:=by have:=(W5.1 h1).1;omega
  have hx:xs[i]? =some xs[i]:=W8 hi;have b8:=Hn i _ y hx h1;have Jr:=hr i _ u hx h2
  have Lw:∀(l:List AV) (us:List Value),km g w s.A (bA l) (us.flatMap fun u=>u.cells.toList)->us.length=l.length->(∀(i:Nat) x u,l[i]? =some x->us[i]? =some u->x.cells.length=u.cells.size)->∀(i:Nat) x u,l[i]? =some x->us[i]? =some u->
    ∃o,∀(j:Nat) c v,x.cells[j]? =some c->u.cells[j]? =some v->(bA l)[o+j]? =some c/\(us.flatMap fun u=>u.cells.toList)[o+j]? =some v:=by
   intro l;induction l with
   |nil=>intro us _ _ _ i x u h;simp at h
   |cons x0 l ih=>
    intro us PG Bq e5 i x u h3 h4;cases us with
    |nil=>simp at Bq
    |cons u0 us=>
     have Be:=e5 0 x0 u0 rfl rfl;cases i with
     |zero=>
      simp at h3 h4;subst h3;subst h4;refine⟨0,fun j c v h5 h6=>?_⟩;have hj:=(W5.1 h5).1;simp only[bA,Xf,XT];rw[W6 hj,W6 (by simp;omega)];exact⟨h5,by simpa using h6⟩
     |succ i=>
      simp at h3 h4;obtain⟨o,ho⟩:=ih us ⟨by have:=PG.1;simp only[bA,Xf,Xj,X5]at this⊢;omega,fun j c v h5 h6=>PG.2 (x0.cells.length+j) c v (by
        simp only[bA,Xf];rw[W7 (by omega)];simpa[bA]using h5) (by
        simp only[Xf];rw[W7 (by simp;omega)];simpa[Be]using h6)⟩ (by simpa using Bq) (fun i x u h5 h6=>e5 (i+1) x u (by simpa using h5) (by simpa using h6)) i x u h3 h4
      refine⟨x0.cells.length+o,fun j c v h5 h6=>?_⟩;obtain⟨h7,h8⟩:=ho j c v h5 h6;simp only[bA,Xf,X0];rw[W7 (by omega),W7 (by simp;omega)];simp only[XZ,X5];exact⟨h7,by rw[show x0.cells.length+(o+j)-u0.cells.size=o+j by omega];exact h8⟩
  have l6:∀(i:Nat) x u,xs[i]? =some x->vs.toList[i]? =some u->km g w s.A x.cells u.cells.toList:=by
   intro i x u h3 h4;have Fv:i<as.length:=by have:=(W5.1 h3).1;omega
   have hy:=Hn i x _ h3 (W8 Fv);refine(AV.gH (hr i x u h3 (by simpa using h4)) ?_).1;cases x with
   |c c=>simp only[AV.kT,W3]at hy;obtain⟨d,hd,_⟩:=hy;cases c<;>first|rfl|simp[CV.kT]at hd
   |agg cs=>
    simp only[AV.kT,W3]at hy;obtain⟨ds,hd,_⟩:=hy;simp only[AV.plain,Xg,XO];intro c hc;obtain⟨j,hj⟩:=Xc hc;obtain⟨h9,cJ⟩:=r9 hd;have jA:j<ds.length:=by have:=(W5.1 hj).1;omega
    have:=cJ j c _ hj (W8 jA);cases c<;>first|rfl|simp[CV.kT]at this
   |a8 ys=>simp[AV.kT]at hy
  obtain⟨o,ho⟩:=Lw xs vs.toList FD (by simpa using hl) (fun i x u h3 h4=>by have:=(l6 i x u h3 h4).1;simp at this;omega) i _ u hx (by simpa using h2);have oD:∀(j:Nat) c d v,xs[i].cells[j]? =some c->u.cells[j]? =some v->c.kT s.A ids=some d->bn gc w [] d v:=fun j c d v h3 h4 h5=>by
   obtain⟨h6,h7⟩:=ho j c v h3 h4;have ax:=(W5.1 h6).1;refine tF h5 (bn.ext dC (FD.2 _ c v h6 h7)) (fun x hx=>gk (o+j) c x v ?_ ?_ hx) Hq rfl
   ·rw[W6 ax];exact h6
   ·rw[W6 (by rw[FD.1];exact ax)];exact h7
  generalize SR:xs[i]=x at b8 Jr oD;cases x with
  |c c=>
   simp only[AV.kT,W3]at b8;obtain⟨d,hd,rfl⟩:=b8;have vF:u.oneCell'=true:=bn.l5 (by cases c<;>first|rfl|simp[CV.kT]at hd) Jr;have vS:u.cells= #[u]:=by cases u<;>first|rfl|simp[Value.oneCell']at vF
   exact oD 0 c d u rfl (by rw[vS];rfl) hd
  |agg cs=>
   simp only[AV.kT,W3]at b8;obtain⟨ds,hd,rfl⟩:=b8;obtain⟨us',rfl,Um,_⟩:=Jr;obtain⟨h9,cJ⟩:=r9 hd;refine⟨us',rfl,by omega,fun j d v h3 h4=>?_⟩;have hj:j<cs.length:=by have:=(W5.1 h3).1;omega
   have hc:cs[j]? =some cs[j]:=W8 hj;exact oD j _ d v hc (by simpa[Value.cells]using h4) (cJ j _ d hc h3)
  |a8 ys=>simp[AV.kT]at b8
 refine(iB gc w vs rfl Hr (kH.now.less (fun b hb=>by obtain⟨i,hi⟩:=Xc hb;obtain⟨l,_,h⟩:=oG i b hi;exact Xa h) (fun b hb=>by simp[Gh.jy,gc]at hb)) (by omega) Hs).mono ?_;rintro e w' ⟨v,g',rfl,yv,yb,s8⟩;have MZ:∀b,b∉gc.jy:=fun b h=>by simp[Gh.jy,gc]at h
 obtain⟨new,Js,yw⟩:=s8.ob;have Lx:gc.ob.length=ids.length:=by simp[gc]
 let g2:Gh:={ob:=g1.ob++new,ar:=g1.ar++g'.ar,im:=g'.im}
 have KH:g1.ob.length=s.V.length:=fj.o0;have uO:g1.ar.length=(bQ s.A (bA xs++bK s.V ids)).length:=fj.lT;have uM:(bQ s.A (bA xs++bK s.V ids)).length=s.A.length:=by rw[<-uO,tA,hI.lT]
 have QJ:∀(i b:Nat),g'.ob[i]? =some b->g2.ob[back ids s.V.length i]? =some b:=by
  intro i b h1;rw[Js]at h1;simp only[back];by_cases hi:i<ids.length
  ·have hid:ids[i]? =some ids[i]:=W8 hi;rw[W6 (by omega)]at h1;obtain⟨l,h2,h3⟩:=oG i b h1;simp only[h2,g2];rw[W6 (by have:=(W5.1 h3).1;exact this)];exact h3
  ·have hid:ids[i]? =none:=Xo (by omega);rw[W7 (by omega),Lx]at h1;simp only[hid,g2];rw[W7 (by omega),KH];simpa using h1
 have QK:∀(k:Nat) r,Ac'[k]? =some r->(bQ s.A (bA xs++bK s.V ids)++Ac')[s.A.length+k]? =some r:=fun k r h1=>by
  rw[W7 (by omega),uM];simpa using h1
 have QL:∀(k:Nat) v,g'.ar[k]? =some v->g2.ar[s.A.length+k]? =some v:=fun k v h1=>by
  simp only[g2];rw[W7 (by omega),uO,uM];simpa using h1
 have ym:kj g1.im w g'.im w':=by
  refine⟨fun b=>?_,fun b o ho=>?_⟩
  ·rcases XQ b w.heap.size with hb|hb
   ·rw[s8.js b hb (MZ b)];exact XP _
   ·rw[fj.fresh b hb];exact XR _
  ·have hb:=fj.G7 ho;refine World.cell?_of_block (a:=⟨b,o,none⟩) (s8.qI b hb (fun hm=>?_) (MZ b));obtain⟨i,hi⟩:=Xc hm;obtain⟨l,h2,h3⟩:=oG i b hi;have vV:=Ho l (Xa h2);have:=(fj.obj l _ b (W8 vV) h3).1;omega
 have kR:Ext g1 w (bQ s.A (bA xs++bK s.V ids)) g2 w' (bQ s.A (bA xs++bK s.V ids)++Ac'):=by
  refine⟨fun l b hb=>?_,ym,fun k r hk=>⟨r,?_,rfl,XP _,fun _=>?_⟩⟩
  ·simp only[g2];rw[W6 (W5.1 hb).1];exact hb
  ·rw[W6 (W5.1 hk).1];exact hk
  ·simp only[g2];rw[W6 (by rw[uO];exact(W5.1 hk).1)]
 have pg:∀c u,bn g' w' Ac' c u->bn g2 w' (bQ s.A (bA xs++bK s.V ids)++Ac') (c.fS ids s.V.length s.A.length) u:=fun c u h1=>Dr h1 QJ rfl QK QL
 have hold:∀b,b<w.heap.size->(∀(l:Nat),l∈ids->g1.ob[l]? ≠some b)->w'.heap[b]? =w.heap[b]? :=fun b hb dj=>s8.qI b hb (fun hm=>by
  obtain⟨i,hi⟩:=Xc hm;obtain⟨l,h2,h3⟩:=oG i b hi;exact dj l (Xa h2) h3) (MZ b)
 have hVc'l:ids.length<=Vc'.length:=by omega
 have Ly:=yb.o0;have SS:new.length=Vc'.length-ids.length:=by
  have:g'.ob.length=Vc'.length:=Ly;rw[Js,Xj,Lx]at this;omega
 have wG:∀(l b:Nat),g2.ob[l]? =some b->(l<s.V.length/\g1.ob[l]? =some b/\b<w.heap.size)\/(s.V.length<=l/\g'.ob[ids.length+(l-s.V.length)]? =some b/\w.heap.size<=b):=by
  intro l b h1;simp only[g2]at h1;by_cases I5:l<s.V.length
  ·rw[W6 (by omega)]at h1;exact .inl ⟨I5,h1,fj.qW h1⟩
  ·rw[W7 (by omega),KH]at h1;refine .inr ⟨by omega,?_,yw b (Xa h1)⟩;rw[Js,W7 (by omega),Lx];simpa using h1
 have hg'idx:∀(i l b:Nat),ids[i]? =some l->g1.ob[l]? =some b->g'.ob[i]? =some b:=fun i l b h1 h2=>by
  have h3:=Hq i l b h1 h2;rw[Js,W6 (W5.1 h3).1];exact h3
 refine⟨v,g2,rfl,?_,?_,dC.trans kR,?_⟩
 ·-- the result
  cases r with
  |c c=>exact pg c v yv
  |agg cs=>
   obtain⟨us',rfl,h1,h2⟩:=yv;refine⟨us',rfl,by simpa using h1,fun j c u h3 h4=>?_⟩;simp only[Xb,W3]at h3;obtain⟨c',h5,rfl⟩:=h3;exact pg c' u (h2 j c' u h5 h4)
  |a8 ys=>
   obtain⟨us',rfl,h1,h2⟩:=yv;refine⟨us',rfl,by simpa using h1,fun j y u h3 h4=>?_⟩;simp only[Xb,W3]at h3;obtain⟨y',h5,rfl⟩:=h3;have h6:=h2 j y' u h5 h4;cases y' with
   |c c=>exact pg c u h6
   |agg cs=>
    obtain⟨us'',rfl,h7,h8⟩:=h6;refine⟨us'',rfl,by simpa using h7,fun j c u h9 cJ=>?_⟩;simp only[Xb,W3]at h9;obtain⟨c',eG,rfl⟩:=h9;exact pg c' u (h8 j c' u eG cJ)
   |a8 zs=>exact h6.elim
 ·-- the memory
  refine⟨?_,?_,fun l row b h1 h2=>?_,fun k r v' h1 h2=>?_,fun l l' b h1 h2=>?_,fun k k' v1 v2 b h1 h2 h3 h4=>?_,fun l k v' b h1 h2 h3=>?_,fun b hb=>yb.fresh b hb⟩
  ·rw[uN hVc'l];simp only[g2,Xj];omega
  ·simp only[g2,Xj,uO];rw[yb.lT]
  ·rcases wF hVc'l oO Ho l row h1 with⟨i,row',h3,h4,rfl⟩|⟨h3,h4,h5⟩|⟨h3,row',h4,rfl⟩
   ·have I5:=Ho l (Xa h3);rcases wG l b h2 with⟨_,h5,_⟩|⟨h5,_⟩
    ·obtain⟨h6,cs,ty,h7,h8,h9⟩:=yb.obj i row' b h4 (hg'idx i l b h3 h5);refine⟨h6,cs,ty,h7,by simpa using h8,fun j c u cJ eG=>?_⟩;simp only[Xb,W3]at cJ;obtain⟨c',fY,rfl⟩:=cJ;exact pg c' u (h9 j c' u fY eG)
    ·omega
   ·rcases wG l b h2 with⟨_,h6,h7⟩|⟨h6,_⟩
    ·refine fj.fA kR h5 h6 (hold b h7 (fun l' I5 h8=>h3 (fj.kZ l l' b h6 h8▸I5))) ?_;show g'.im b=0;rw[s8.js b h7 (MZ b)];exact(fj.obj l row b h5 h6).1
    ·omega
   ·rcases wG l b h2 with⟨h5,_⟩|⟨_,h5,_⟩
    ·omega
    ·obtain⟨h6,cs,ty,h7,h8,h9⟩:=yb.obj _ row' b h4 h5;refine⟨h6,cs,ty,h7,by simpa using h8,fun j c u cJ eG=>?_⟩;simp only[Xb,W3]at cJ;obtain⟨c',fY,rfl⟩:=cJ;exact pg c' u (h9 j c' u fY eG)
  ·simp only[g2]at h2;by_cases hk:k<s.A.length
   ·rw[W6 (by omega)]at h1;rw[W6 (by omega)]at h2;exact fj.fB kR h1 h2 (fun b hb=>hold b (fj.mN h2 hb) (fun l _ h3=>fj.jz l k v' b h3 h2 hb)) (fun b hb=>s8.js b (fj.mN h2 hb) (MZ b))
   ·rw[W7 (by omega),uM]at h1;rw[W7 (by omega),uO,uM]at h2;exact yb.arr _ r v' h1 h2
  ·rcases wG l b h1 with⟨h3,h4,h5⟩|⟨h3,h4,h5⟩<;>rcases wG l' b h2 with⟨h6,h7,h8⟩|⟨h6,h7,h8⟩
   ·exact fj.kZ l l' b h4 h7
   ·omega
   ·omega
   ·have:=yb.kZ _ _ b h4 h7;omega
  ·have KI:∀(k:Nat) v b,g2.ar[k]? =some v->v.ownBlock=some b->(k<s.A.length/\g1.ar[k]? =some v/\b<w.heap.size)\/(s.A.length<=k/\g'.ar[k-s.A.length]? =some v/\w.heap.size<=b):=fun k v b h5 h6=>by
    simp only[g2]at h5;by_cases hk:k<s.A.length
    ·rw[W6 (by omega)]at h5;exact .inl ⟨hk,h5,fj.mN h5 h6⟩
    ·rw[W7 (by omega),uO,uM]at h5;exact .inr ⟨by omega,h5,s8.Qk rfl _ v b h5 h6⟩
   rcases KI k v1 b h1 h3 with⟨h5,h6,h7⟩|⟨h5,h6,h7⟩<;>rcases KI k' v2 b h2 h4 with⟨h8,h9,cJ⟩|⟨h8,h9,cJ⟩
   ·exact fj.jr k k' v1 v2 b h6 h9 h3 h4
   ·omega
   ·omega
   ·have:=yb.jr _ _ v1 v2 b h6 h9 h3 h4;omega
  ·simp only[g2]at h2;by_cases hk:k<s.A.length
   ·rw[W6 (by omega)]at h2;rcases wG l b h1 with⟨_,h5,_⟩|⟨_,_,h6⟩
    ·exact fj.jz l k v' b h5 h2 h3
    ·have:=fj.mN h2 h3;omega
   ·rw[W7 (by omega),uO,uM]at h2;have h7:=s8.Qk rfl _ v' b h2 h3;rcases wG l b h1 with⟨_,_,h5⟩|⟨_,h5,_⟩
    ·omega
    ·exact yb.jz _ _ v' b h5 h2 h3
 ·-- what is left alone
  refine⟨s8.os.trans hF.os,s8.tape.trans hF.tape,s8.output.trans hF.output,XS hF.size s8.size,fun b h1 h2 Lz=>?_,fun b h1 mB=>?_,?_,fun k v' b h1 h2=>?_,fun k v' h1=>?_,hF.yl⟩
  ·rw[hold b (XW h1 hF.size) (fun l I5 h3=>by rcases kH.Nn h3 with h4|h4<;>first|exact h2 h4|omega)];exact kH.qI b h1 h2 Lz
  ·show g'.im b=g0.im b;rw[s8.js b (XW h1 hF.size) (MZ b)];exact kH.js b h1 mB
  ·obtain⟨pj,e1,FE⟩:=kH.ob;exact⟨pj++new,by simp only[g2,e1,List.append_assoc],fun b hb=>by
    rcases Xi.1 hb with h|h
    ·exact FE b h
    ·exact XS hF.size (yw b h)⟩
  ·simp only[g2]at h1;by_cases hk:k<s.A.length
   ·rw[W6 (by omega)]at h1;exact kH.ar k v' b h1 h2
   ·rw[W7 (by omega),uO,uM]at h1;exact .inl (XS hF.size (s8.Qk rfl _ v' b h1 h2))
  ·obtain⟨v2,h3,h4⟩:=kH.wk k v' h1;exact⟨v2,by simp only[g2];rw[W6 (W5.1 h3).1];exact h3,h4⟩
theorem wH {α:Type}:∀{l:List α} {hs:List Nat} {vs:List α},(qE l hs vs).length=l.length
 |l,[],vs=>by cases vs<;>rfl
 |l,h::hs,[]=>rfl
 |l,h::hs,v::vs=>by simp only[qE];rw[wH];simp
theorem sd {α:Type} {k:Nat}:∀{l:List α} {hs:List Nat} {vs:List α},k∉hs->(qE l hs vs)[k]? =l[k]?
 |l,[],vs,_=>by cases vs<;>rfl
 |l,h::hs,[],_=>rfl
 |l,h::hs,v::vs,hk=>by
  simp only[Xe,not_or]at hk;simp only[qE];rw[sd hk.2,List.getElem?_set_ne (by omega)]
theorem Ac {α:Type}:∀{l:List α} {hs:List Nat} {vs:List α} {i h:Nat},hs.Nodup->hs.length<=vs.length->hs[i]? =some h->h<l.length->(qE l hs vs)[h]? =vs[i]?
 |l,[],vs,i,h,_,_,hi,_=>by simp at hi
 |l,h0::hs,[],i,h,_,hl,_,_=>by simp at hl
 |l,h0::hs,v::vs,0,h,hn,_,hi,ax=>by
  simp at hi;subst hi;simp only[qE];rw[sd (Xs.1 hn).1];simp[ax]
 |l,h0::hs,v::vs,i+1,h,hn,hl,hi,ax=>by
  simp only[qE];rw[Ac (Xs.1 hn).2 (by simpa using hl) (by simpa using hi) (by simpa using ax)];simp
theorem By {hs:List Nat}:∀{cs ds:List CV},iX hs cs=some ds->ds.length=cs.length/\∀(j:Nat) c d,cs[j]? =some c->ds[j]? =some d->c.eH hs=some d
 |[],ds,h=>by simp[iX]at h;subst h;exact⟨rfl,fun j c d h=>by simp at h⟩
 |c::r,ds,h=>by
  simp only[iX]at h;split at h
  ·rename_i d ds' h1 h2;simp at h;subst h;obtain⟨h3,h4⟩:=By h2;refine⟨by simp[h3],fun j c' d' h5 h6=>?_⟩;cases j with
   |zero=>simp at h5 h6;subst h5;subst h6;exact h1
   |succ j=>simp at h5 h6;exact h4 j c' d' h5 h6
  ·simp at h
theorem y6 {hs:List Nat}:∀{xs as:List AV},fb hs xs=some as->as.length=xs.length/\∀(j:Nat) x y,xs[j]? =some x->as[j]? =some y->x.eH hs=some y
 |[],as,h=>by simp[fb]at h;subst h;exact⟨rfl,fun j x y h=>by simp at h⟩
 |c::r,as,h=>by
  simp only[fb]at h;split at h
  ·rename_i d ds' h1 h2;simp at h;subst h;obtain⟨h3,h4⟩:=y6 h2;refine⟨by simp[h3],fun j c' d' h5 h6=>?_⟩;cases j with
   |zero=>simp at h5 h6;subst h5;subst h6;exact h1
   |succ j=>simp at h5 h6;exact h4 j c' d' h5 h6
  ·simp at h
set_option maxHeartbeats 1000000 in
theorem yx (hI:Inv g w s.V s.A) (hF:Fr w0 g0 w g) {f:FuncId} {xs:List AV} {vs:Array Value} (hl:vs.size=xs.length) (hr:∀(i:Nat) x u,xs[i]? =some x->vs[i]? =some u->aO g w s.A x u) (h:EG P s f xs K):
  (∀args w,(callFunc f args).run P w=.ok (.enter f args) w)/\∃x V' A',K x V' A'/\Calls P f vs w fun e w'=>∃v g',e=.returned v/\aO g' w' A' x v/\Inv g' w' V' A'/\Ext g w s.A g' w' A'/\Fr w0 g0 w' g':=by
 obtain⟨hs,as,r,Ac',oO,M0,has,⟨Hm,_,iB⟩,hK⟩:=h;refine⟨Hm,_,_,_,hK,?_⟩;obtain⟨QH,Hn⟩:=y6 has;have QM:∀h∈hs,h<s.A.length:=fun h hm=>by
  obtain⟨i,hi⟩:=Xc hm;obtain⟨a,_,h1,_⟩:=M0 i h hi;exact(W5.1 h1).1
 have LA:=hI.lT;have hlen:hs.length<=Ac'.length:=by
  rcases XQ Ac'.length hs.length with h1|h1
  ·obtain⟨_,_,_,_,h2,_⟩:=M0 Ac'.length _ (W8 h1);simp at h2
  ·exact h1
 let gc:Gh:={ob:=[],ar:=hs.map fun h=>g.ar.getD h undef,im:=g.im}
 have FF:∀(i h:Nat) v,hs[i]? =some h->g.ar[h]? =some v->gc.ar[i]? =some v:=fun i h v h1 h2=>by simp[gc,h1,h2]
 have pk:∀(i:Nat) v,gc.ar[i]? =some v->∃h,hs[i]? =some h/\g.ar[h]? =some v:=fun i v h1=>by
  simp only[gc,Xb,W3]at h1;obtain⟨h,h2,h3⟩:=h1;have vV:h<g.ar.length:=by rw[LA];exact QM h (Xa h2)
  exact⟨h,h2,by rw[<-h3];simp[Xd,vV]⟩
 have Un:∀(i:Nat) a,(hs.map fun h=>s.A.getD h r8)[i]? =some a->∃h,hs[i]? =some h/\s.A[h]? =some a:=fun i a h1=>by
  simp only[Xb,W3]at h1;obtain⟨h,h2,h3⟩:=h1;have vV:=QM h (Xa h2);exact⟨h,h2,by rw[<-h3];simp[Xd,vV]⟩
 have QN:∀(i h:Nat) a,hs[i]? =some h->s.A[h]? =some a->(hs.map fun h=>s.A.getD h r8)[i]? =some a:=fun i h a h1 h2=>by simp[h1,h2]
 have Ds:∀b,b∈gc.jy->∃(i h:Nat) (v:Value),hs[i]? =some h/\g.ar[h]? =some v/\v.ownBlock=some b:=fun b hb=>by
  obtain⟨i,v,h1,h2⟩:=Gh.fQ hb;obtain⟨h,h3,h4⟩:=pk i v h1;exact⟨i,h,v,h3,h4,h2⟩
 have KJ:∀b,b∈gc.jy->g.im b=0:=fun b hb=>by
  obtain⟨i,h,v,h1,h2,h3⟩:=Ds b hb;obtain⟨a,_,h4,h5,_⟩:=M0 i h h1;have h6:=(hI.arr h a v h4 h2).2.1 b h3;rw[h5]at h6;simpa using h6
 have Hr:Inv gc w [] (hs.map fun h=>s.A.getD h r8):=by
  refine⟨rfl,by simp[gc],fun l row b h1=>by simp at h1,fun k r' v h1 h2=>?_,fun l l' b h1=>by simp[gc]at h1,fun k k' v v' b h1 h2 h3 h4=>?_,fun l k v b h1=>by simp[gc]at h1,hI.fresh⟩
  ·obtain⟨h,h3,h4⟩:=Un k r' h1;obtain⟨h',h5,h6⟩:=pk k v h2;obtain rfl:h=h':=by rw[h3]at h5;exact Option.some.inj h5
   exact hI.arr h r' v h4 h6
  ·obtain⟨h,h5,h6⟩:=pk k v h1;obtain⟨h',h7,h8⟩:=pk k' v' h2;obtain rfl:=hI.jr h h' v v' b h6 h8 h3 h4;exact(Xn (W5.1 h5).1 oO).1 (h5.trans h7.symm)
 have oD:∀(c d:CV) (u:Value),c.eH hs=some d->bn g w s.A c u->bn gc w (hs.map fun h=>s.A.getD h r8) d u:=by
  intro c d u h1 h2;cases c with
  |d x=>simp only[CV.eH]at h1;cases h1;exact h2
  |nil=>simp only[CV.eH]at h1;cases h1;simp only[bn]at h2;subst h2;simp only[bn,bh];exact⟨none,0,rfl,XP _,.inl trivial⟩
  |own k n=>
   simp only[CV.eH,W3]at h1;obtain⟨i,hi,rfl⟩:=h1;obtain⟨a,cap,e,r',h3,h4,h5⟩:=h2;have M1:=mS hi;exact⟨a,cap,e,r',QN i k r' M1 h3,h4,fun h6=>FF i k u M1 (h5 h6)⟩
  |np=>simp only[CV.eH]at h1;cases h1;exact h2
  |ip row off=>simp only[CV.eH]at h1;cases h1;exact h2
  |fn f cap=>
   cases cap with
   |nil=>
    simp only[CV.eH]at h1;cases h1;obtain⟨bks,h3,h4,_⟩:=h2;exact⟨bks,h3,h4,fun i l b h5=>by simp at h5⟩
   |cons _ _=>simp[CV.eH]at h1
  |ptr _ _=>simp[CV.eH]at h1
  |op _ _ _ _=>simp[CV.eH]at h1
  |undef=>simp[CV.eH]at h1
 have Hs:∀(i:Nat) x u,as[i]? =some x->vs[i]? =some u->aO gc w (hs.map fun h=>s.A.getD h r8) x u:=by
  intro i y u h1 h2;have hi:i<xs.length:=by have:=(W5.1 h1).1;omega
  have hx:xs[i]? =some xs[i]:=W8 hi;have b8:=Hn i _ y hx h1;have Jr:=hr i _ u hx h2;generalize xs[i]=x at b8 Jr;cases x with
  |c c=>
   simp only[AV.eH,W3]at b8;obtain⟨d,hd,rfl⟩:=b8;exact oD c d u hd Jr
  |agg cs=>
   simp only[AV.eH,W3]at b8;obtain⟨ds,hd,rfl⟩:=b8;obtain⟨us',rfl,Um,h3⟩:=Jr;obtain⟨h9,cJ⟩:=By hd;refine⟨us',rfl,by omega,fun j d v h4 h5=>?_⟩;have hj:j<cs.length:=by have:=(W5.1 h4).1;omega
   have hc:cs[j]? =some cs[j]:=W8 hj;exact oD _ d v (cJ j _ d hc h4) (h3 j _ v hc h5)
  |a8 ys=>simp[AV.eH]at b8
 refine(iB gc w vs Hr (hF.now.less (fun b hb=>by simp[gc]at hb) (fun b hb=>by obtain⟨i,v,q1,q2⟩:=Gh.fQ hb;obtain⟨h,_,q3⟩:=pk i v q1;exact Gh.j6 q3 q2)) (by omega) Hs).mono ?_;rintro e w' ⟨v,g',rfl,yv,yb,s8⟩;have Jt:g'.ob=[]:=Xq (by rw[yb.o0];rfl);have SU:=yb.lT
 let g2:Gh:={ob:=g.ob,ar:=qE g.ar hs g'.ar++g'.ar.drop hs.length,im:=g'.im}
 let A2:=qE s.A hs Ac'++Ac'.drop hs.length
 have Uo:(qE g.ar hs g'.ar).length=s.A.length:=by rw[wH,LA]
 have QO:(qE s.A hs Ac').length=s.A.length:=wH;have b8:∀(i h:Nat),hs[i]? =some h->g2.ar[h]? =g'.ar[i]? /\A2[h]? =Ac'[i]? :=fun i h h1=>by
  have h2:=QM h (Xa h1);constructor
  ·simp only[g2];rw[W6 (by omega)];exact Ac oO (by omega) h1 (by omega)
  ·simp only[A2];rw[W6 (by omega)];exact Ac oO hlen h1 h2
 have jB:∀k,k<s.A.length->k∉hs->g2.ar[k]? =g.ar[k]? /\A2[k]? =s.A[k]? :=fun k h1 h2=>by
  constructor
  ·simp only[g2];rw[W6 (by omega),sd h2]
  ·simp only[A2];rw[W6 (by omega),sd h2]
 have yw:∀k,s.A.length<=k->g2.ar[k]? =g'.ar[hs.length+(k-s.A.length)]? /\A2[k]? =Ac'[hs.length+(k-s.A.length)]? :=fun k h1=>by
  constructor
  ·simp only[g2];rw[W7 (by omega),Uo,XH]
  ·simp only[A2];rw[W7 (by omega),QO,XH]
 have Ji:∀k,g2.ar[back hs s.A.length k]? =g'.ar[k]? /\A2[back hs s.A.length k]? =Ac'[k]? :=fun k=>by
  by_cases hk:k<hs.length
  ·have e:hs[k]? =some hs[k]:=W8 hk;have e2:back hs s.A.length k=hs[k]:=by simp only[back,e]
   rw[e2];exact b8 k _ e
  ·have e:hs[k]? =none:=Xo (by omega);have e2:back hs s.A.length k=s.A.length+(k-hs.length):=by simp only[back,e]
   rw[e2];have:=yw (s.A.length+(k-hs.length)) (by omega);rwa[show hs.length+(s.A.length+(k-hs.length)-s.A.length)=k by omega]at this
 have Bz:∀k,(∃i:Nat,g2.ar[k]? =g'.ar[i]? /\A2[k]? =Ac'[i]? /\((hs[i]? =some k)\/(hs.length<=i/\k=s.A.length+(i-hs.length))))\/(k<s.A.length/\k∉hs/\g2.ar[k]? =g.ar[k]? /\A2[k]? =s.A[k]?):=fun k=>by
  by_cases h1:k<s.A.length
  ·by_cases h2:k∈hs
   ·obtain⟨i,hi⟩:=Xc h2;exact .inl ⟨i,(b8 i k hi).1,(b8 i k hi).2,.inl hi⟩
   ·exact .inr ⟨h1,h2,jB k h1 h2⟩
  ·exact .inl ⟨hs.length+(k-s.A.length),(yw k (by omega)).1,(yw k (by omega)).2,.inr ⟨by omega,by omega⟩⟩
 have NB:∀(k k' i:Nat),((hs[i]? =some k)\/(hs.length<=i/\k=s.A.length+(i-hs.length)))->((hs[i]? =some k')\/(hs.length<=i/\k'=s.A.length+(i-hs.length)))->k=k':=fun k k' i h1 h2=>by
  rcases h1 with h1|⟨h1,h3⟩<;>rcases h2 with h2|⟨h2,h4⟩
  ·rw[h1]at h2;exact Option.some.inj h2
  ·have:=(W5.1 h1).1;omega
  ·have:=(W5.1 h2).1;omega
  ·omega
 have QP:∀b,b∉gc.ob:=fun b h=>by simp[gc]at h
 have yy:∀b,b<w.heap.size->b∉gc.jy->w'.heap[b]? =w.heap[b]? :=fun b h1 h2=>s8.qI b h1 (QP b) h2
 have qX:∀b,b<w.heap.size->b∉gc.jy->g'.im b=g.im b:=fun b h1 h2=>s8.js b h1 h2
 have Hp:∀(l b:Nat),g.ob[l]? =some b->b<w.heap.size/\b∉gc.jy:=fun l b h1=>⟨hI.qW h1,fun h2=>by
  obtain⟨i,h,v',h3,h4,h5⟩:=Ds b h2;exact hI.jz l h v' b h1 h4 h5⟩
 have Ju:∀(k b:Nat) (v:Value),k∉hs->g.ar[k]? =some v->v.ownBlock=some b->b<w.heap.size/\b∉gc.jy:=fun k b v h0 h1 mB=>⟨hI.mN h1 mB,fun h2=>by
  obtain⟨i,h,v',h3,h4,h5⟩:=Ds b h2;obtain rfl:=hI.jr k h v v' b h1 h4 mB h5;exact h0 (Xa h3)⟩
 have EJ:∀(i b:Nat) (v:Value),g'.ar[i]? =some v->v.ownBlock=some b->w.heap.size<=b\/b∈gc.jy:=fun i b v h1 h2=>s8.ar i v b h1 h2
 have ym:kj g.im w g'.im w':=by
  refine⟨fun b=>?_,fun b o ho=>?_⟩
  ·rcases XQ b w.heap.size with hb|hb
   ·by_cases h1:b∈gc.jy
    ·rw[KJ b h1];exact XR _
    ·rw[qX b hb h1];exact XP _
   ·rw[hI.fresh b hb];exact XR _
  ·have hb:=hI.G7 ho;refine World.cell?_of_block (a:=⟨b,o,none⟩) (yy b hb (fun h1=>?_));have:=KJ b h1;omega
 have kR:Ext g w s.A g2 w' A2:=by
  refine⟨fun l b hb=>hb,ym,fun k r' hk=>?_⟩;have C5:=(W5.1 hk).1;by_cases h2:k∈hs
  ·obtain⟨i,hi⟩:=Xc h2;obtain⟨a,a',h3,h4,h5,h6⟩:=M0 i k hi;obtain rfl:r'=a:=by rw[hk]at h3;exact Option.some.inj h3
   have hv:g.ar[k]? =some (g.ar[k]'(by omega)):=W8 (by omega);obtain⟨v',h7,h8,h9⟩:=s8.wk i _ (FF i k _ hi hv);obtain⟨_,_,xs1,p9,_⟩:=hI.arr k r' _ hk hv;obtain⟨_,_,xs2,mI,_⟩:=yb.arr i a' v' h5 h7;rw[rU p9,rU mI]at h8 h9;refine⟨a',(b8 i k hi).2.trans h5,h6,h8,fun cJ=>?_⟩;rw[(b8 i k hi).1,h7,h9 cJ,hv]
  ·obtain⟨h3,h4⟩:=jB k C5 h2;exact⟨r',h4.trans hk,rfl,XP _,fun _=>h3⟩
 have pg:∀c u,bn g' w' Ac' c u->bn g2 w' A2 (c.dO hs s.A.length) u:=fun c u h1=>by
  cases c with
  |d x=>exact h1
  |nil=>exact h1
  |own k n=>
   obtain⟨a,cap,e,r',h3,h4,h5⟩:=h1;exact⟨a,cap,e,r',(Ji k).2.trans h3,h4,fun h6=>(Ji k).1.trans (h5 h6)⟩
  |ptr l off=>obtain⟨b,h3,_⟩:=h1;rw[Jt]at h3;simp at h3
  |np=>exact h1
  |ip row off=>exact h1
  |op k n i off=>
   obtain⟨b,e,h2,r',h3,h4,h5⟩:=h1;exact⟨b,e,h2,r',(Ji k).2.trans h3,h4,fun h6=>by obtain⟨cap,h7,h8⟩:=h5 h6;exact⟨cap,(Ji k).1.trans h7,h8⟩⟩
  |fn f cap=>
   obtain⟨bks,h3,h4,h5⟩:=h1;refine⟨bks,h3,h4,fun i l b h6 h7=>?_⟩;have:=h5 i l b h6 h7;rw[Jt]at this;simp at this
  |undef=>exact h1
 refine⟨v,g2,rfl,?_,?_,kR,?_⟩
 ·-- the result
  cases r with
  |c c=>exact pg c v yv
  |agg cs=>
   obtain⟨us',rfl,h1,h2⟩:=yv;refine⟨us',rfl,by simpa using h1,fun j c u h3 h4=>?_⟩;simp only[Xb,W3]at h3;obtain⟨c',h5,rfl⟩:=h3;exact pg c' u (h2 j c' u h5 h4)
  |a8 ys=>
   obtain⟨us',rfl,h1,h2⟩:=yv;refine⟨us',rfl,by simpa using h1,fun j y u h3 h4=>?_⟩;simp only[Xb,W3]at h3;obtain⟨y',h5,rfl⟩:=h3;have h6:=h2 j y' u h5 h4;cases y' with
   |c c=>exact pg c u h6
   |agg cs=>
    obtain⟨us'',rfl,h7,h8⟩:=h6;refine⟨us'',rfl,by simpa using h7,fun j c u h9 cJ=>?_⟩;simp only[Xb,W3]at h9;obtain⟨c',eG,rfl⟩:=h9;exact pg c' u (h8 j c' u eG cJ)
   |a8 zs=>exact h6.elim
 ·-- the memory
  refine⟨hI.o0,?_,fun l row b h1 h2=>?_,fun k r' v' h1 h2=>?_,hI.kZ,fun k k' v1 v2 b h1 h2 h3 h4=>?_,fun l k v' b h1 h2 h3=>?_,fun b hb=>yb.fresh b hb⟩
  ·show(qE g.ar hs g'.ar++g'.ar.drop hs.length).length=(qE s.A hs Ac'++Ac'.drop hs.length).length;simp only[Xj,List.length_drop];omega
  ·obtain⟨h3,h4⟩:=Hp l b h2;exact hI.fA kR h1 h2 (yy b h3 h4) ((qX b h3 h4).trans (hI.obj l row b h1 h2).1)
  ·rcases Bz k with⟨i,h3,h4,_⟩|⟨h3,h4,h5,h6⟩
   ·exact yb.arr i r' v' (h4.symm.trans h1) (h3.symm.trans h2)
   ·refine hI.fB kR (h6.symm.trans h1) (h5.symm.trans h2) (fun b hb=>?_) (fun b hb=>?_)
    ·obtain⟨h7,h8⟩:=Ju k b v' h4 (h5.symm.trans h2) hb;exact yy b h7 h8
    ·obtain⟨h7,h8⟩:=Ju k b v' h4 (h5.symm.trans h2) hb;exact qX b h7 h8
  ·rcases Bz k with⟨i,h5,_,h6⟩|⟨h5,h6,h7,_⟩<;>rcases Bz k' with⟨i',h8,_,h9⟩|⟨h8,h9,cJ,_⟩
   ·obtain rfl:=yb.jr i i' v1 v2 b (h5.symm.trans h1) (h8.symm.trans h2) h3 h4;exact NB k k' i h6 h9
   ·obtain⟨eG,fY⟩:=Ju k' b v2 h9 (cJ.symm.trans h2) h4;rcases EJ i b v1 (h5.symm.trans h1) h3 with dG|dG
    ·omega
    ·exact absurd dG fY
   ·obtain⟨eG,fY⟩:=Ju k b v1 h6 (h7.symm.trans h1) h3;rcases EJ i' b v2 (h8.symm.trans h2) h4 with dG|dG
    ·omega
    ·exact absurd dG fY
   ·exact hI.jr k k' v1 v2 b (h7.symm.trans h1) (cJ.symm.trans h2) h3 h4
  ·obtain⟨h4,h5⟩:=Hp l b h1;rcases Bz k with⟨i,h6,_,_⟩|⟨_,_,h6,_⟩
   ·rcases EJ i b v' (h6.symm.trans h2) h3 with h7|h7
    ·omega
    ·exact h5 h7
   ·exact hI.jz l k v' b h1 (h6.symm.trans h2) h3
 ·-- what is left alone
  have gK:∀b,b<w0.heap.size->b∉g0.jy->b∉gc.jy:=fun b h1 h2 h3=>by
   obtain⟨i,h,v',h4,h5,h6⟩:=Ds b h3;rcases hF.ar h v' b h5 h6 with h7|h7
   ·omega
   ·exact h2 h7
  refine⟨s8.os.trans hF.os,s8.tape.trans hF.tape,s8.output.trans hF.output,XS hF.size s8.size,fun b h1 h2 Lz=>?_,fun b h1 mB=>?_,hF.ob,fun k v' b h1 h2=>?_,fun k v' h1=>?_,hF.yl⟩
  ·rw[yy b (XW h1 hF.size) (gK b h1 Lz)];exact hF.qI b h1 h2 Lz
  ·show g'.im b=g0.im b;rw[qX b (XW h1 hF.size) (gK b h1 mB)];exact hF.js b h1 mB
  ·rcases Bz k with⟨i,h3,_,_⟩|⟨_,_,h3,_⟩
   ·rcases EJ i b v' (h3.symm.trans h1) h2 with h4|h4
    ·exact .inl (XS hF.size h4)
    ·obtain⟨i',h,v2,h5,h6,h7⟩:=Ds b h4;exact hF.ar h v2 b h6 h7
   ·exact hF.ar k v' b (h3.symm.trans h1) h2
  ·obtain⟨v1,h2,h3,h4⟩:=hF.wk k v' h1;have C5:k<s.A.length:=by rw[<-LA];exact(W5.1 h2).1
   by_cases h5:k∈hs
   ·obtain⟨i,hi⟩:=Xc h5;obtain⟨v2,h6,h7,h8⟩:=s8.wk i v1 (FF i k v1 hi h2);refine⟨v2,(b8 i k hi).1.trans h6,by omega,fun h9=>?_⟩;rw[h8 (by omega)];exact h4 (by omega)
   ·exact⟨v1,(jB k C5 h5).1.trans h2,h3,h4⟩
theorem Ad (hI:Inv g w s.V s.A) (hF:Fr w0 g0 w g) {f:FuncId} {xs:List AV} {vs:Array Value} (hl:vs.size=xs.length) (hr:∀(i:Nat) x u,xs[i]? =some x->vs[i]? =some u->aO g w s.A x u) (h:gJ P s f xs K):
  (∀args w,(callFunc f args).run P w=.ok (.enter f args) w)/\∃x V' A',K x V' A'/\Calls P f vs w fun e w'=>∃v g',e=.returned v/\aO g' w' A' x v/\Inv g' w' V' A'/\Ext g w s.A g' w' A'/\Fr w0 g0 w' g':=
 h.elim (yt hI hF hl hr) (yx hI hF hl hr)
end
def bI (P:Program) (s:St) (ow:Bool) (o:Oper) (K:AV->List (List CV)->List bu->Prop):Prop:=
 match o.op with
 |.call {callee:=.value f,args,.. }=>bU (bF s f) fun fv=>match fv with
  |.c (.fn fid cap)=>bU (iz s args.toList) fun xs=>gJ P s fid (xs++cap.map fun l=>.c (.ptr l 0)) K
  |_=>False
 |op=>eS P s ow op K
def St.put (s:St) (dst:Option Tmp) (x:AV) (V:List (List CV)) (A:List bu):St:=
 ⟨match dst with|some d=>(d,x)::s.fr|none=>s.fr,V,A⟩
def iv (all:Array Oper) (s:St) (o:Oper) (yes no:Prop):Prop:=
 match o.guard with
 |none=>yes
 |some (j,want)=>bU (all[j]?) fun oj=>bU oj.dst fun t=>bU (look s.fr t) fun x=>match x with
  |.c (.d (.bool b))=>(b=want->yes)/\(b=(!want)->no)
  |.c .undef=>no
  |_=>False
def wI (P:Program) (all:Array Oper) (ow:Nat->Bool) (K:St->Prop):Nat->List Oper->St->Prop
 |_,[],s=>K s
 |i,o::rest,s=>iv all s o (bI P s (ow i) o fun x V A=>wI P all ow K (i+1) rest (s.put o.dst x V A)) (wI P all ow K (i+1) rest (s.put o.dst (.c .undef) s.V s.A))
def da (n:Nat) (ops:List Oper):Bool:=ops.all fun o=>match o.dst with
 |some d=>decide (d<n)
 |none=>true
def codeOk (n:Nat):Code->Bool
 |.region _ ops _=>da n ops.toList
 |.seq a b=>codeOk n a && codeOk n b
 |.cond _ a b=>codeOk n a && codeOk n b
 |.block _ c=>codeOk n c
 |.loop c=>codeOk n c
 |.scope c=>codeOk n c
 |_=>true
def T (P:Program) (n:Nat) (c:Code) (Q:Exit->St->Prop) (s:St):Prop:=
 codeOk n c=true->∀w0 g0 g a w,Rp n w0 g0 s g a w->c.wp P (fun e a' w'=>∃s' g',Q e s'/\Rp n w0 g0 s' g' a' w') a w
section
variable {P:Program} {n:Nat} {Q Q':Exit->St->Prop} {s s':St} {w0:World} {g0 g g':Gh} {a:Act} {w w':World}
theorem dk (hI:Inv g w s.V s.A) (hF:Fr w0 g0 w g) (hS:iA g w s a) {ow:Bool} {o:Oper} {K:AV->List (List CV)->List bu->Prop} (h:bI P s ow o K):
  ∃x V' A',K x V' A'/\∀(next:Act->World->Prop) (Q:Exit->Act->World->Prop),(∀v w' g',aO g' w' A' x v->Inv g' w' V' A'->Ext g w s.A g' w' A'->Fr w0 g0 w' g'->next (a.put o.dst v) w')->o.wp P a w next Q:=by
 have plain:eS P s ow o.op K->∃x V' A',K x V' A'/\∀(next:Act->World->Prop) (Q:Exit->Act->World->Prop),(∀v w' g',aO g' w' A' x v->Inv g' w' V' A'->Ext g w s.A g' w' A'->Fr w0 g0 w' g'->next (a.put o.dst v) w')->o.wp P a w next Q:=by
  intro h;obtain⟨x,V',A',nx,v,w',g',h1,h2,h3,h4,h5,h6,h7⟩:=FC hI hF hS h;refine⟨x,V',A',h1,fun next Q hn=>?_⟩;unfold Oper.wp;rw[h2];rcases h3 with rfl|⟨rfl,rfl⟩
  ·exact hn v w' g' h4 h5 h6 h7
  ·exact hn _ w' g' h4 h5 h6 h7
 unfold bI at h;split at h
 ·rename_i f args argTypes heq;refine ai h fun fv h1 h2=>?_
  have QQ:=aJ hS h1;split at h2
  ·rename_i fid cap;refine ai h2 fun xs h3 h4=>?_
   obtain⟨h5,h6⟩:=l8 hS h3;have Up:xs.length=args.size:=by rw[h5,X5]
   obtain⟨bks,h7,h8,h9⟩:bn g w s.A (.fn fid cap) (a.eval f):=QQ;have pd:args.map a.eval++(bks.map fun b=>Value.pointer (some ⟨b,0,none⟩)).toArray=((args.toList.map a.eval)++bks.map fun b=>Value.pointer (some ⟨b,0,none⟩)).toArray:=by
    apply Array.ext';simp
   obtain⟨Hm,x,V',A',hK,hc⟩:=Ad (vs:=((args.toList.map a.eval)++bks.map fun b=>Value.pointer (some ⟨b,0,none⟩)).toArray) hI hF (by simp[h5,h8]) (fun i x u cJ eG=>by
    simp only[List.getElem?_toArray]at eG;by_cases hi:i<xs.length
    ·rw[W6 hi]at cJ;rw[W6 (by simp;omega)]at eG;exact h6 i x u cJ eG
    ·rw[W7 (by omega)]at cJ;rw[W7 (by simp;omega)]at eG;simp only[Xb,W3]at cJ eG;obtain⟨l,fY,rfl⟩:=cJ;obtain⟨b,dG,rfl⟩:=eG;exact⟨b,h9 _ l b fY (by rw[<-dG];congr 1;simp[h5]),rfl⟩) h4
   refine⟨x,V',A',hK,fun next Q hn=>?_⟩;have fC:(execOp a.eval o).run P w=.ok (.enter fid ((args.toList.map a.eval)++bks.map fun b=>Value.pointer (some ⟨b,0,none⟩)).toArray) w:=by
    simp only[execOp,heq,resolve,h7,Deferred.ofValue,Sem.run_bind,Sem.run_pure,Result.andThen_ok,invoke,X9];rw[Hm,pd]
   unfold Oper.wp;rw[fC];show Calls P fid _ w _;refine hc.mono ?_;rintro e w' ⟨v,g',rfl,gF,qL,rQ,Bv⟩;exact hn v w' g' gF qL rQ Bv
  ·exact h2.elim
 ·exact plain h
theorem Rp.put (h:Rp n w0 g0 s g a w) {dst:Option Tmp} (hd:∀d,dst=some d->d<n) {x:AV} {v:Value} {V':List (List CV)} {A':List bu} (hr:aO g' w' A' x v) (hI:Inv g' w' V' A') (hx:Ext g w s.A g' w' A') (hF:Fr w0 g0 w' g'):
  Rp n w0 g0 (s.put dst x V' A') g' (a.put dst v) w':=by
 refine⟨hI,hF,?_,?_,fun t y hy=>?_⟩
 ·cases dst<;>simp[Act.put,h.size]
 ·cases dst<;>simp[Act.put,h.defers]
 ·cases dst with
  |none=>
   obtain⟨u,h1,h2⟩:=h.slot t y hy;exact⟨u,h1,aO.ext hx h2⟩
  |some d=>
   have Ae:=hd d rfl;simp only[St.put,look]at hy;by_cases e:t=d
   ·subst e;simp at hy;subst hy;refine⟨v,?_,hr⟩;have:t<a.tmps.size:=by rw[h.size];exact Ae
    simp[Act.put,this]
   ·rw[if_neg e]at hy;obtain⟨u,h1,h2⟩:=h.slot t y hy;refine⟨u,?_,aO.ext hx h2⟩;simp only[Act.put];rw[X4 (fun e'=>e e'.symm)];exact h1
theorem jI (h:Rp n w0 g0 s g a w) {all:Array Oper} {j t:Nat} {oj:Oper} {x:AV} (h1:all[j]? =some oj) (h2:oj.dst=some t) (h3:look s.fr t=some x):(∀b,x=.c (.d (.bool b))->yielded all a.tmps j=some b)/\(x=.c .undef->yielded all a.tmps j=none):=by
 obtain⟨u,h4,h5⟩:=h.slot t x h3;refine⟨fun b hb=>?_,fun hb=>?_⟩
 ·subst hb;simp only[aO,dK,bn,bh]at h5;subst h5;simp[yielded,h1,h2,h4]
 ·subst hb;simp only[aO,dK,bn]at h5;subst h5;simp[yielded,h1,h2,h4,undef]
theorem qb (h:Rp n w0 g0 s g a w) {all:Array Oper} {o:Oper} {yes no:Prop} (hg:iv all s o yes no):(Region.wanted o (yielded all a.tmps)=true/\yes)\/(Region.wanted o (yielded all a.tmps)=false/\no):=by
 unfold iv at hg;split at hg
 ·rename_i uP;exact .inl ⟨by simp[Region.wanted,uP],hg⟩
 ·rename_i j want uP;refine ai hg fun oj h1 h2=>ai h2 fun t h3 h4=>ai h4 fun x h5 h6=>?_
  obtain⟨h7,h8⟩:=jI h h1 h3 h5;split at h6
  ·rename_i b;have h9:=h7 b rfl;by_cases e:b=want
   ·exact .inl ⟨by simp[Region.wanted,uP,h9,e],h6.1 e⟩
   ·exact .inr ⟨by simp[Region.wanted,uP,h9,e],h6.2 (by cases b<;>cases want<;>simp_all)⟩
  ·exact .inr ⟨by simp[Region.wanted,uP,h8 rfl],h6⟩
  ·exact h6.elim
theorem rf {all:Array Oper} {ow:Nat->Bool} {K:St->Prop} {Q:Exit->Act->World->Prop}:∀(ops:List Oper) (i:Nat) (s:St) (g:Gh) (a:Act) (w:World),da n ops=true->Rp n w0 g0 s g a w->wI P all ow K i ops s->
  (∀s' g' a' w',K s'->Rp n w0 g0 s' g' a' w'->Q .normal a' w')->wpList P all Q ops a w
 |[],i,s,g,a,w,_,hR,h,hQ=>hQ s g a w h hR
 |o::rest,i,s,g,a,w,hd,hR,h,hQ=>by
  simp only[da,XK,XL]at hd;have fc:∀d,o.dst=some d->d<n:=fun d e=>by have:=hd.1;rw[e]at this;simpa using this
  simp only[wI]at h;unfold wpList;rcases qb hR h with⟨h1,h2⟩|⟨h1,h2⟩
  ·rw[if_pos h1];obtain⟨x,V',A',h3,h4⟩:=dk hR.inv hR.fr hR.slot h2;exact .inl (h4 _ _ fun v w' g' h5 h6 h7 h8=>rf rest (i+1) _ g' _ w' hd.2 (hR.put fc h5 h6 h7 h8) h3 hQ)
  ·rw[if_neg (by rw[h1];simp)];exact rf rest (i+1) _ g _ w hd.2 (hR.put fc (x:=.c .undef) (v:=undef) rfl hR.inv (.refl _ _ _) hR.fr) h2 hQ
theorem T.region {id:Nat} {ops:Array Oper} (ow:Nat->Bool) (h:wI P ops ow (fun s'=>Q .normal s') 0 ops.toList s):T P n (.region id ops false) Q s:=by
 intro eT w0 g0 g a w hR;exact wp_region_list (rf ops.toList 0 s g a w eT hR h fun s' g' a' w' h1 h2=>⟨s',g',h1,h2⟩)
theorem T.mono {c:Code} (h:T P n c Q s) (hq:∀e s',Q e s'->Q' e s'):T P n c Q' s:=
 fun eT w0 g0 g a w hR=>Go.wp_mono (h eT w0 g0 g a w hR) fun _ _ _ ⟨s',g',h1,h2⟩=>⟨s',g',hq _ _ h1,h2⟩
def wJ (P:Program) (n:Nat) (c:Code) (Q:Exit->St->Prop):Exit->St->Prop
 |.normal,s=>T P n c Q s
 |e,s=>Q e s
theorem T.seq {x y:Code} (h:T P n x (wJ P n y Q) s):T P n (.seq x y) Q s:=by
 intro eT w0 g0 g a w hR;simp only[codeOk,XL]at eT;refine wp_seq (Go.wp_mono (h eT.1 w0 g0 g a w hR) ?_);rintro e a' w' ⟨s',g',h1,h2⟩;cases e with
 |normal=>exact h1 eT.2 w0 g0 g' a' w' h2
 |_=>exact⟨s',g',h1,h2⟩
theorem T.skip (h:Q .normal s):T P n .skip Q s:=fun _ _ _ g _ _ hR=>wp_skip ⟨s,g,h,hR⟩
theorem T.exit {id:Nat} (h:Q (.exit id) s):T P n (.exit id) Q s:=fun _ _ _ g _ _ hR=>wp_exit ⟨s,g,h,hR⟩
theorem T.ret (h:Q .ret s):T P n .ret Q s:=fun _ _ _ g _ _ hR=>wp_ret ⟨s,g,h,hR⟩
theorem T.cond {c:Operand} {x y:Code} {b:Bool} (hc:bF s c=some (.c (.d (.bool b)))) (ht:b=true->T P n x Q s) (hf:b=false->T P n y Q s):T P n (.cond c x y) Q s:=by
 intro eT w0 g0 g a w hR;simp only[codeOk,XL]at eT;have hv:=aJ hR.slot hc;simp only[aO,dK,bn,bh]at hv;exact wp_cond_split hv (fun e=>ht e eT.1 w0 g0 g a w hR) (fun e=>hf e eT.2 w0 g0 g a w hR)
def gR (id:Nat) (Q:Exit->St->Prop):Exit->St->Prop
 |.exit id',s=>if id'=id then Q .normal s else Q (.exit id') s
 |e,s=>Q e s
theorem T.block {id:Nat} {c:Code} (h:T P n c (gR id Q) s):T P n (.block id c) Q s:=by
 intro eT w0 g0 g a w hR;refine wp_block (Go.wp_mono (h eT w0 g0 g a w hR) ?_);rintro e a' w' ⟨s',g',h1,h2⟩;cases e with
 |exit id'=>
  simp only[gR]at h1;simp only[Exit.inBlock];split
  ·rename_i e;rw[if_pos e]at h1;exact⟨s',g',h1,h2⟩
  ·rename_i e;rw[if_neg e]at h1;exact⟨s',g',h1,h2⟩
 |_=>exact⟨s',g',h1,h2⟩
def Iter (P:Program) (n:Nat) (c:Code) (Q:Exit->St->Prop):Nat->St->Prop
 |0,_=>False
 |k+1,s=>T P n c (fun e s'=>match e with|.normal=>Iter P n c Q k s'|e=>Q e s') s
theorem Iter.succ {c:Code}:∀{k:Nat} {s:St},Iter P n c Q k s->Iter P n c Q (k+1) s
 |0,_,h=>h.elim
 |k+1,s,h=>T.mono h fun e s' h1=>by cases e<;>first|exact Iter.succ h1|exact h1
theorem Iter.le {c:Code} {k k':Nat} (hk:k<=k') {s:St} (h:Iter P n c Q k s):Iter P n c Q k' s:=by
 induction hk with
 |refl=>exact h
 |step _ ih=>exact ih.succ
theorem T.mU {c:Code} {k:Nat} (h:Iter P n c Q k s):T P n (.loop c) Q s:=by
 intro eT w0 g0 g a w hR;refine wp_loop_rounds k ?_;have key:∀k s g a w,Iter P n c Q k s->Rp n w0 g0 s g a w->Code.rounds P c (fun e a' w'=>∃s' g',Q e s'/\Rp n w0 g0 s' g' a' w') k a w:=by
  intro k;induction k with
  |zero=>intro s g a w h _;exact h.elim
  |succ k ih=>
   intro s g a w h hR;rw[rounds_succ];refine Go.wp_mono (h eT w0 g0 g a w hR) ?_;rintro e a' w' ⟨s',g',h1,h2⟩;cases e with
   |normal=>exact ih s' g' a' w' h1 h2
   |_=>exact⟨s',g',h1,h2⟩
 exact key k s g a w h hR
theorem T.loop {c:Code} (I:Nat->St->Prop) (h:∀k s,I k s->T P n c (fun e s'=>match e with|.normal=>∃k',k'<k/\I k' s'|e=>Q e s') s) {k:Nat} (h0:I k s):T P n (.loop c) Q s:=by
 have key:∀k s,I k s->Iter P n c Q (k+1) s:=by
  intro k;induction k using XU with
  |_ k ih=>
   intro s hs;refine T.mono (h k s hs) fun e s' h1=>?_
   cases e with
   |normal=>obtain⟨k',hk,h2⟩:=h1;exact(ih k' hk s' h2).le hk
   |_=>exact h1
 exact T.mU (key k s h0)
theorem T.forget {c:Code} (cR:List (Nat×AV)) (gK:∀t x,look cR t=some x->look s.fr t=some x) (h:T P n c Q ⟨cR,s.V,s.A⟩):T P n c Q s:=
 fun eT w0 g0 g a w hR=>h eT w0 g0 g a w ⟨hR.inv,hR.fr,hR.size,hR.defers,fun t x hx=>hR.slot t x (gK t x hx)⟩
theorem T.pq {c:Code} (t:Nat) (sz:Nat) (e:TypeId) (ht:look s.fr t=some (.c .nil)) (h:T P n c Q ⟨(t,.c (.own s.A.length 0))::s.fr,s.V,s.A++[⟨sz,e,[],true⟩]⟩):T P n c Q s:=by
 intro eT w0 g0 g a w hR;obtain⟨g1,KG,p9,tA,fj,dC,kH⟩:=hR.inv.qY hR.fr {sz:=sz,eA:=e,rows:=[],wr:=true} (.slice none 0 0) [] (by simp) (World.ownsRow_nil w 0 e sz) (fun j x u h=>by simp at h) (fun b h=>by simp[Value.ownBlock]at h);refine h eT w0 g0 g1 a w ⟨fj,kH,hR.size,hR.defers,fun t' x hx=>?_⟩;simp only[look]at hx;by_cases e':t'=t
 ·subst e';simp at hx;subst hx;obtain⟨u,h1,h2⟩:=hR.slot t' _ ht;refine⟨u,h1,?_⟩;simp only[aO,dK,bn]at h2;subst h2;exact⟨none,0,rfl,_,by simp;rfl,XR _,fun _=>by rw[tA,W7 (by rw[hR.inv.lT];exact XP _),hR.inv.lT];simp⟩
 ·rw[if_neg e']at hx;obtain⟨u,h1,h2⟩:=hR.slot t' x hx;exact⟨u,h1,aO.ext dC h2⟩
theorem T.dq {c:Code} (l j:Nat) (sz:Nat) (e:TypeId) {row:List CV} (hl:s.V[l]? =some row) (hj:row[j]? =some .nil) (h:T P n c Q ⟨s.fr,s.V.set l (row.set j (.own s.A.length 0)),s.A++[⟨sz,e,[],true⟩]⟩):T P n c Q s:=by
 intro eT w0 g0 g a w hR;obtain⟨g1,KG,p9,tA,fj,dC,kH⟩:=hR.inv.qY hR.fr {sz:=sz,eA:=e,rows:=[],wr:=true} (.slice none 0 0) [] (by simp) (World.ownsRow_nil w 0 e sz) (fun j x u h=>by simp at h) (fun b h=>by simp[Value.ownBlock]at h);refine h eT w0 g0 g1 a w ⟨?_,kH,hR.size,hR.defers,fun t' x hx=>?_⟩
 ·refine⟨by simpa using fj.o0,fj.lT,fun l' row' b h1 h2=>?_,fj.arr,fj.kZ,fj.jr,fj.jz,fj.fresh⟩;have mB:(s.V.set l (row.set j (.own s.A.length 0)))[l']? =some row':=h1;rw[dA hl]at mB;by_cases e':l'=l
  ·subst e';simp at mB;subst mB;obtain⟨h3,cs,ty,h4,h5,h6⟩:=fj.obj l' row b hl h2;refine⟨h3,cs,ty,h4,by simpa using h5,fun i c u h7 h8=>?_⟩;rw[dA hj]at h7;by_cases e'':i=j
   ·subst e'';simp at h7;subst h7;have h9:=h6 i _ u hj h8;simp only[bn]at h9;subst h9;exact⟨none,0,rfl,_,by simp;rfl,XR _,fun _=>by rw[tA,W7 (by rw[hR.inv.lT];exact XP _),hR.inv.lT];simp⟩
   ·rw[if_neg e'']at h7;exact h6 i c u h7 h8
  ·rw[if_neg e']at mB;exact fj.obj l' row' b mB h2
 ·obtain⟨u,h1,h2⟩:=hR.slot t' x hx;exact⟨u,h1,aO.ext dC h2⟩
end
def uQ (P:Program) (s:St):ResultVar->Option AV
 |.tmp t=>look s.fr t
 |.cell t ty=>match td P ty,look s.fr t with
  |some d,some (.c p)=>match gQ s p d.sz with
   |some cs=>Fy d.ag cs
   |none=>none
  |_,_=>none
def fu (P:Program) (s:St):List ResultVar->Option (List AV)
 |[]=>some []
 |r::rs=>match uQ P s r,fu P s rs with
  |some x,some xs=>some (x::xs)
  |_,_=>none
def one (xs:List AV):AV:=match xs with
 |[x]=>x
 |xs=>.a8 xs
def CV.res (A:List bu) (os ks:List Nat):CV->Option CV
 |.own k n=>match pos? ks k with
  |some i=>(nE A (.own k n)).map fun _=>.own i n
  |none=>(nE A (.own k n)).map CV.d
 |c=>c.kT A os
def se (A:List bu) (os ks:List Nat):List CV->Option (List CV)
 |[]=>some []
 |c::r=>match c.res A os ks,se A os ks r with
  |some d,some ds=>some (d::ds)
  |_,_=>none
def AV.qF (A:List bu) (os ks:List Nat):AV->Option AV
 |.c x=>(x.res A os ks).map AV.c
 |.agg xs=>(se A os ks xs).map AV.agg
 |.a8 _=>none
def ay (A:List bu) (os ks:List Nat):List AV->Option (List AV)
 |[]=>some []
 |c::r=>match c.qF A os ks,ay A os ks r with
  |some d,some ds=>some (d::ds)
  |_,_=>none
def fD (A:List bu) (V:List (List CV)) (os ks:List Nat):List Nat->Option (List (List CV))
 |[]=>some []
 |l::r=>match V[l]?,fD A V os ks r with
  |some row,some rs=>match se A os ks row with
   |some row'=>some (row'::rs)
   |none=>none
  |_,_=>none
def dS (A:List bu):List Nat->Option (List bu)
 |[]=>some []
 |k::r=>match A[k]?,dS A r with
  |some x,some xs=>some (x::xs)
  |_,_=>none
def aB (P:Program) (fn:Func) (m:Nat) (r:AV) (V':List (List CV)) (A':List bu) (e:Exit) (s:St):Prop:=
 (e=.normal\/e=.ret)/\∃(ext ks:List Nat) (xs ys:List AV),fu P s fn.results.toList=some xs/\ks.Nodup/\ext.Nodup/\(∀l∈ext,m<=l)/\ay s.A (W9 m++ext) ks xs=some ys/\r=one ys/\
  fD s.A s.V (W9 m++ext) ks (W9 m++ext)=some V'/\dS s.A ks=some A'
def pr (A:List bu) (L:List Nat):List bu:=L.foldl (fun A k=>match A[k]? with|some r=>A.set k {r with wr:=false}|none=>A) A
section
variable {P:Program} {n:Nat} {Q Q':Exit->St->Prop} {s s':St} {w0:World} {g0 g g':Gh} {a:Act} {w w':World} {V:List (List CV)} {A A':List bu}
theorem tG:∀(L:List Nat) (g:Gh) (A:List bu),Inv g w V A->Fr w0 g0 w g->
  ∃g',Inv g' w V (pr A L)/\Ext g w A g' w (pr A L)/\Fr w0 g0 w g'/\g'.ar=g.ar/\g'.ob=g.ob/\(∀k,k∉L->(pr A L)[k]? =A[k]?)/\∀k∈L,∀r v,A[k]? =some r->g.ar[k]? =some v->bh g'.im w (.sl r.rows) v
 |[],g,A,hI,hF=>⟨g,hI,.refl _ _ _,hF,rfl,rfl,fun _ _=>rfl,fun k h=>by simp at h⟩
 |k0::L,g,A,hI,hF=>by
  cases hk:A[k0]? with
  |none=>
   obtain⟨g',h1,h2,h3,h4,h5,h6,h7⟩:=tG L g A hI hF;have he:pr A (k0::L)=pr A L:=by simp only[pr,Xp,hk]
   rw[he];exact⟨g',h1,h2,h3,h4,h5,fun k h=>h6 k (fun h'=>h (by simp[h'])),fun k h r v h8 h9=>by
    simp only[Xe]at h;rcases h with rfl|h
    ·rw[hk]at h8;cases h8
    ·exact h7 k h r v h8 h9⟩
  |some r0=>
   have C5:k0<g.ar.length:=by rw[hI.lT];exact(W5.1 hk).1
   have Di:g.ar[k0]? =some g.ar[k0]:=W8 C5;obtain⟨g1,i1,i2,i3,i4,i5,i6⟩:=hI.seal hF hk Di;obtain⟨g',h1,h2,h3,h4,h5,h6,h7⟩:=tG L g1 _ i1 i3;have he:pr A (k0::L)=pr (A.set k0 {r0 with wr:=false}) L:=by simp only[pr,Xp,hk]
   rw[he];refine⟨g',h1,i2.trans h2,h3,h4.trans i4,h5.trans i5,fun k h=>?_,fun k h r v h8 h9=>?_⟩
   ·simp only[Xe,not_or]at h;rw[h6 k h.2,dA hk,if_neg h.1]
   ·by_cases e:k=k0
    ·subst e;rw[hk]at h8;cases h8;rw[Di]at h9;cases h9;exact bh.fL h2.gr _ _ i6
    ·simp only[Xe,e,false_or]at h;exact h7 k h r v (by rw[dA hk,if_neg e];exact h8) (by rw[i4];exact h9)
theorem bn.QR {c:CV} {u:Value} (h:bn g w [] c u):bn {g with ar:=g'.ar} w A' c u:=by
 cases c with
 |own k n=>obtain⟨_,_,_,r,h1,_⟩:=h;simp at h1
 |op k n i off=>obtain⟨_,_,_,r,h1,_⟩:=h;simp at h1
 |_=>exact h
theorem BA:∀{ks:List Nat} {xs:List bu},dS A ks=some xs->xs.length=ks.length/\∀(i k:Nat) x,ks[i]? =some k->xs[i]? =some x->A[k]? =some x
 |[],xs,h=>by simp[dS]at h;subst h;exact⟨rfl,fun i k x h=>by simp at h⟩
 |k::r,xs,h=>by
  simp only[dS]at h;split at h
  ·rename_i x xs' h1 h2;simp at h;subst h;obtain⟨h3,h4⟩:=BA h2;refine⟨by simp[h3],fun i k' x' h5 h6=>?_⟩;cases i with
   |zero=>simp at h5 h6;subst h5;subst h6;exact h1
   |succ i=>simp at h5 h6;exact h4 i k' x' h5 h6
  ·simp at h
theorem Af {os ks:List Nat}:∀{cs ds:List CV},se A os ks cs=some ds->ds.length=cs.length/\∀(j:Nat) c d,cs[j]? =some c->ds[j]? =some d->c.res A os ks=some d
 |[],ds,h=>by simp[se]at h;subst h;exact⟨rfl,fun j c d h=>by simp at h⟩
 |c::r,ds,h=>by
  simp only[se]at h;split at h
  ·rename_i d ds' h1 h2;simp at h;subst h;obtain⟨h3,h4⟩:=Af h2;refine⟨by simp[h3],fun j c' d' h5 h6=>?_⟩;cases j with
   |zero=>simp at h5 h6;subst h5;subst h6;exact h1
   |succ j=>simp at h5 h6;exact h4 j c' d' h5 h6
  ·simp at h
theorem BB {os ks:List Nat}:∀{cs ds:List AV},ay A os ks cs=some ds->ds.length=cs.length/\∀(j:Nat) c d,cs[j]? =some c->ds[j]? =some d->c.qF A os ks=some d
 |[],ds,h=>by simp[ay]at h;subst h;exact⟨rfl,fun j c d h=>by simp at h⟩
 |c::r,ds,h=>by
  simp only[ay]at h;split at h
  ·rename_i d ds' h1 h2;simp at h;subst h;obtain⟨h3,h4⟩:=BB h2;refine⟨by simp[h3],fun j c' d' h5 h6=>?_⟩;cases j with
   |zero=>simp at h5 h6;subst h5;subst h6;exact h1
   |succ j=>simp at h5 h6;exact h4 j c' d' h5 h6
  ·simp at h
theorem BC {os ks:List Nat}:∀{ls:List Nat} {Vc:List (List CV)},fD A V os ks ls=some Vc->Vc.length=ls.length/\∀(i l:Nat) row',ls[i]? =some l->Vc[i]? =some row'->∃row,V[l]? =some row/\se A os ks row=some row'
 |[],Vc,h=>by simp[fD]at h;subst h;exact⟨rfl,fun i l row' h=>by simp at h⟩
 |l::r,Vc,h=>by
  simp only[fD]at h;split at h
  ·rename_i row rs h1 h2;split at h
   ·rename_i row' h3;simp at h;subst h;obtain⟨h4,h5⟩:=BC h2;refine⟨by simp[h4],fun i l' rw' h6 h7=>?_⟩;cases i with
    |zero=>simp at h6 h7;subst h6;subst h7;exact⟨row,h1,h3⟩
    |succ i=>simp at h6 h7;exact h5 i l' rw' h6 h7
   ·simp at h
  ·simp at h
def pw (tmps:Array Value):ResultVar->Sem Value
 |.tmp t=>pure (tmps.getD t undef)
 |.cell p t=>do loadVar t (<-asAddr (tmps.getD p undef))
theorem wK (fn:Func) (tmps:Array Value):results fn tmps=(do let vs<-fn.results.mapM (pw tmps);pure (if h:vs.size=1 then vs[0]else .tuple vs)):=by
 unfold results
 congr 1
theorem rh (hI:Inv g w s.V s.A) (hS:iA g w s a):∀{rs:List ResultVar} {xs:List AV},fu P s rs=some xs->
  ∃us:List Value,us.length=xs.length/\(∀(i:Nat) x u,xs[i]? =some x->us[i]? =some u->aO g w s.A x u)/\
   (rs.mapM (pw a.tmps)).run P w=.ok us w
 |[],xs,h=>by simp[fu]at h;subst h;exact⟨[],rfl,fun i x u h=>by simp at h,rfl⟩
 |r::rs,xs,h=>by
  simp only[fu]at h;split at h
  ·rename_i x xs' h1 h2;simp at h;subst h;obtain⟨us,h3,h4,h5⟩:=rh hI hS h2;have vF:∃u,aO g w s.A x u/\(pw a.tmps r).run P w=.ok u w:=by
    cases r with
    |tmp t=>
     obtain⟨u,h6,h7⟩:=hS t x h1;exact⟨u,h7,by simp[pw,h6]⟩
    |cell p ty=>
     simp only[uQ]at h1;split at h1
     ·rename_i d c hd hp;split at h1
      ·rename_i cs vS;obtain⟨u,h6,h7⟩:=hS p _ hp;obtain⟨b,off,vs,rfl,hl,hr,hc⟩:=qJ hI h7 vS;obtain⟨k1,k2⟩:=mA (P:=P) hd hc (hr.1.trans hl);have vI:a.tmps.getD p undef=.pointer (some ⟨b,off,none⟩):=by simp[h6]
       cases Dk:d.ag with
       |true=>
        simp[Fy,Dk]at h1;subst h1;exact⟨.agg vs.toArray,⟨vs,rfl,hr.1,fun i c u h8 h9=>hr.2 i c u h8 h9⟩,by simp only[pw,vI];exact k1 Dk⟩
       |false=>
        simp only[Fy,Dk,XN,if_false]at h1;split at h1
        ·rename_i c';simp at h1;subst h1;obtain⟨u,rfl⟩:∃u,vs=[u]:=by
          have:=hr.1;simp at this;exact Xw.1 this
         exact⟨u,hr.2 0 c' u rfl rfl,by simp only[pw,vI];exact k2 Dk u rfl⟩
        ·simp at h1
      ·simp at h1
     ·simp at h1
   obtain⟨u,h6,h7⟩:=vF;refine⟨u::us,by simp[h3],fun i x' u' h8 h9=>?_,?_⟩
   ·cases i with
    |zero=>simp at h8 h9;subst h8;subst h9;exact h6
    |succ i=>simp at h8 h9;exact h4 i x' u' h8 h9
   ·simp only[List.mapM_cons,Sem.run_bind,h7,Result.andThen_ok,h5,Sem.run_pure]
  ·simp at h
theorem enters {f:FuncId} {fn:Func} {c:Code} (hf:P.funcs[f]? =some fn) (kn:(fn.name== "runtime.NumGoroutine")=false) (hb:fn.body=some c) (args:Array Value) (w:World):(callFunc f args).run P w=.ok (.enter f args) w:=by
 have h:¬fn.name= "runtime.NumGoroutine" :=by simpa using kn
 simp[callFunc,hf,h,hb]
def kU (as:List AV):List (Nat×AV):=(as.zipIdx 0).map fun(x,i)=>(i,x)
theorem ri:∀(as:List AV) (k t:Nat) (x:AV),look ((as.zipIdx k).map fun(x,i)=>(i,x)) t=some x->k<=t/\as[t-k]? =some x
 |[],k,t,x,h=>by simp[look]at h
 |y::as,k,t,x,h=>by
  simp only[List.zipIdx_cons,Xk,look]at h;split at h
  ·rename_i e;subst e;simp at h;subst h;simp
  ·rename_i e;obtain⟨h1,h2⟩:=ri as (k+1) t x h;refine⟨by omega,?_⟩;rw[show t-k=(t-(k+1))+1 by omega,XI];exact h2
def qM (P:Program) (fn:Func) (m a:Nat) (r:AV) (V':List (List CV)) (A':List bu) (e:Exit) (s:St):Prop:=
 (e=.normal\/e=.ret)/\∃(ext ks:List Nat) (xs ys:List AV),(∃ke,ks=W9 a++ke)/\fu P s fn.results.toList=some xs/\ks.Nodup/\ext.Nodup/\(∀l∈ext,m<=l)/\ay s.A (W9 m++ext) ks xs=some ys/\r=one ys/\
  fD s.A s.V (W9 m++ext) ks (W9 m++ext)=some V'/\dS s.A ks=some A'
set_option maxHeartbeats 1000000 in
theorem e7.cA {f:FuncId} {fn:Func} {c:Code} {as:List AV} {V V':List (List CV)} {A0:List bu} {r:AV} {A':List bu} (hf:P.funcs[f]? =some fn) (kn:(fn.name== "runtime.NumGoroutine")=false) (hb:fn.body=some c) (eT:codeOk fn.ntmps c=true) (hn:as.length<=fn.ntmps)
  (Lv:V.length<=V'.length) (h:T P fn.ntmps c (qM P fn V.length A0.length r V' A') ⟨kU as,V,A0⟩):e7 P f as V A0 r V' A':=by
 refine⟨enters hf kn hb,Lv,fun g w vs hI Uq Fx Qs=>?_⟩;refine calls_of_wp hf hb ?_;have hR:Rp fn.ntmps w g ⟨kU as,V,A0⟩ g {tmps:=vs++X6 (fn.ntmps-vs.size) undef,defers:=[]} w:=by
  refine⟨hI,Fr.refl Uq,by simp;omega,rfl,fun t x hx=>?_⟩;obtain⟨_,hx⟩:=ri as 0 t x hx;rw[Nat.sub_zero]at hx;have ht:t<vs.size:=by have:=(W5.1 hx).1;omega
  exact⟨vs[t],by rw[Array.getElem?_append_left ht];simp[ht],Qs t x _ hx (by simp[ht])⟩
 refine Go.wp_mono (h eT w g g _ w hR) ?_;rintro e a' w' ⟨s',g',⟨hex,ext,ks,xs,ys,⟨ke,Ur⟩,NC,QS,lU,Jv,mJ,rfl,Us,Ut⟩,vW⟩;obtain⟨us,Bq,MQ,fC⟩:=rh vW.inv vW.slot NC
 let v:Value:=if h:us.toArray.size=1 then us.toArray[0]else .tuple us.toArray
 have wL:(results fn a'.tmps).run P w'=.ok v w':=by
  rw[wK,Sem.run_bind,Array.mapM_eq_mapM_toList];have hm:(List.toArray<$>fn.results.toList.mapM (pw a'.tmps)).run P w'=.ok us.toArray w':=by
   simp[fC]
  rw[hm]
  rfl
 let os:=W9 V.length++ext
 obtain⟨g1,fj,dC,kH,tA,p9,uR,ND⟩:=tG ((W9 s'.A.length).filter fun k=>(pos? ks k).isNone) g' s'.A vW.inv vW.fr;obtain⟨QO,QT⟩:=BA Ut;obtain⟨QU,MX⟩:=BC Us;have QV:∀(i k:Nat),ks[i]? =some k->k<s'.A.length:=fun i k hi=>by
  have Bd:=(W5.1 hi).1;have:=QT i k _ hi (W8 (show i<A'.length by omega));exact(W5.1 this).1
 have NF:∀l∈os,l<s'.V.length:=fun l hl=>by
  obtain⟨i,hi⟩:=Xc hl;have Bd:=(W5.1 hi).1;have Uu:i<(W9 V.length++ext).length:=Bd;obtain⟨row,h1,_⟩:=MX i l _ hi (W8 (show i<V'.length by omega));exact(W5.1 h1).1
 have NG:os.Nodup:=by
  simp only[os];refine List.nodup_append.2 ⟨List.nodup_range,lU,fun a ha b dN=>?_⟩;have h1:=Jv b dN;simp at ha;omega
 let gf:Gh:={ob:=os.map fun l=>g1.ob.getD l 0,ar:=ks.map fun k=>g1.ar.getD k undef,im:=g1.im}
 have Hq:∀(i l b:Nat),os[i]? =some l->g1.ob[l]? =some b->gf.ob[i]? =some b:=fun i l b h1 h2=>by simp[gf,h1,h2]
 have oG:∀(i b:Nat),gf.ob[i]? =some b->∃l,os[i]? =some l/\g1.ob[l]? =some b:=fun i b h1=>by
  simp only[gf,Xb,W3]at h1;obtain⟨l,h2,h3⟩:=h1;have vV:l<g1.ob.length:=by rw[fj.o0];exact NF l (Xa h2)
  exact⟨l,h2,by rw[<-h3];simp[Xd,vV]⟩
 have FF:∀(i k:Nat) v,ks[i]? =some k->g1.ar[k]? =some v->gf.ar[i]? =some v:=fun i k v h1 h2=>by simp[gf,h1,h2]
 have pk:∀(i:Nat) v,gf.ar[i]? =some v->∃k,ks[i]? =some k/\g1.ar[k]? =some v:=fun i v h1=>by
  simp only[gf,Xb,W3]at h1;obtain⟨k,h2,h3⟩:=h1;have C5:k<g1.ar.length:=by rw[tA,vW.inv.lT];exact QV i k h2
  exact⟨k,h2,by rw[<-h3];simp[Xd,C5]⟩
 have Jw:∀{l:List Nat} {k:Nat},(pos? l k).isNone=true↔k∉l:=by
  intro l;induction l with
  |nil=>intro k;simp[pos?]
  |cons x l ih=>
   intro k;simp only[pos?];by_cases e:k=x
   ·subst e;simp
   ·simp only[e,if_false,Option.isNone_map,ih,Xe,false_or]
 have Uv:∀(i k:Nat) x,ks[i]? =some k->A'[i]? =some x->(pr s'.A ((W9 s'.A.length).filter fun k=>(pos? ks k).isNone))[k]? =some x:=fun i k x h1 h2=>by
  rw[uR k (by simp only[Xu,not_and,Jw];intro _ h;exact h (Xa h1))];exact QT i k x h1 h2
 have oD:∀(c d:CV) (u:Value),c.res s'.A os ks=some d->bn g' w' s'.A c u->bn gf w' A' d u:=by
  intro c d u h1 h2;have plain:c.kT s'.A os=some d->(∀k n,c≠.own k n)->bn gf w' A' d u:=by
   intro h3 h4;have h5:=tF (A:=s'.A) (A':=pr s'.A ((W9 s'.A.length).filter fun k=>(pos? ks k).isNone)) (ids:=os) (g1:=g1) (gc:={gf with ar:=[]}) (w:=w') h3 (bn.ext dC h2) (fun x hx=>by
    cases c with
    |d y=>simp[nE]at hx;subst hx;exact bh.fL dC.gr _ _ h2
    |nil=>simp[nE]at hx;subst hx;simp only[bn]at h2;subst h2;simp only[bh];exact⟨none,0,rfl,XP _,.inl trivial⟩
    |own k n=>exact absurd rfl (h4 k n)
    |_=>simp[nE]at hx) Hq rfl
   exact bn.QR (g:={gf with ar:=[]}) (g':=gf) h5
  cases c with
  |own k n=>
   simp only[CV.res]at h1;obtain⟨ad,cap,e,r,hk,GL,hv⟩:=h2;split at h1
   ·rename_i i hi;simp only[W3]at h1;obtain⟨x,hx,rfl⟩:=h1;simp only[nE,hk]at hx;split at hx
    ·rename_i dj;have M1:=mS hi;have Bd:=(W5.1 M1).1;have hA'i:A'[i]? =some (A'[i]'(by omega)):=W8 (by omega);have h3:=QT i k _ M1 hA'i;rw[hk]at h3;have h4:r=A'[i]'(by omega):=Option.some.inj h3;refine⟨ad,cap,e,r,by rw[hA'i,h4],GL,fun _=>FF i k u M1 (by rw[tA];exact hv dj)⟩
    ·simp at hx
   ·rename_i hi;simp only[W3]at h1;obtain⟨x,hx,rfl⟩:=h1;simp only[nE,hk]at hx;split at hx
    ·rename_i dj;simp at hx;subst hx;exact ND k (by simp[hi];exact(W5.1 hk).1) r u hk (hv dj)
    ·simp at hx
  |d y=>exact plain h1 (by intro k n h;cases h)
  |nil=>exact plain h1 (by intro k n h;cases h)
  |ptr l off=>exact plain h1 (by intro k n h;cases h)
  |np=>exact plain h1 (by intro k n h;cases h)
  |ip row off=>exact plain h1 (by intro k n h;cases h)
  |op k n i off=>exact plain h1 (by intro k n h;cases h)
  |fn f cap=>exact plain h1 (by intro k n h;cases h)
  |undef=>exact plain h1 (by intro k n h;cases h)
 have Dq:∀(x y:AV) (u:Value),x.qF s'.A os ks=some y->aO g' w' s'.A x u->dK gf w' A' y u:=by
  intro x y u h1 h2;cases x with
  |c c=>
   simp only[AV.qF,W3]at h1;obtain⟨d,hd,rfl⟩:=h1;exact oD c d u hd h2
  |agg cs=>
   simp only[AV.qF,W3]at h1;obtain⟨ds,hd,rfl⟩:=h1;obtain⟨us',rfl,h3,h4⟩:=h2;obtain⟨h5,h6⟩:=Af hd;refine⟨us',rfl,by omega,fun j d u h7 h8=>?_⟩;have hj:j<cs.length:=by have:=(W5.1 h7).1;omega
   have hc:cs[j]? =some cs[j]:=W8 hj;exact oD _ d u (h6 j _ d hc h7) (h4 j _ u hc h8)
  |a8 zs=>simp[AV.qF]at h1
 obtain⟨VO,Uw⟩:=BB mJ;have NH:aO gf w' A' (one ys) v:=by
  have dh:∀(i:Nat) y u,ys[i]? =some y->us[i]? =some u->dK gf w' A' y u:=fun i y u h1 h2=>by
   have hi:i<xs.length:=by have:=(W5.1 h1).1;omega
   have hx:xs[i]? =some xs[i]:=W8 hi;exact Dq _ y u (Uw i _ y hx h1) (MQ i _ u hx h2)
  by_cases h1:us.length=1
  ·obtain⟨u,rfl⟩:=Xw.1 h1;obtain⟨y,rfl⟩:=Xw.1 (show ys.length=1 by omega);have h2:=dh 0 y u rfl rfl;have hv:v=u:=by simp[v]
   rw[hv];cases y with
   |a8 zs=>exact h2.elim
   |c c=>exact h2
   |agg cs=>exact h2
  ·have hv:v=.tuple us.toArray:=by simp[v,h1]
   have ho:one ys=.a8 ys:=by
    match ys,(show ys.length≠1 by omega)with
    |[],_=>rfl
    |_::_::_,_=>rfl
   rw[hv,ho];exact⟨us,rfl,by omega,dh⟩
 have SV:g.ob.length=V.length:=hI.o0;have NI:∃new,gf.ob=g.ob++new/\∀b∈new,w.heap.size<=b:=by
  obtain⟨new,e,yw⟩:=kH.ob;refine⟨ext.map fun l=>g1.ob.getD l 0,?_,fun b dN=>?_⟩
  ·simp only[gf,os,List.map_append]
   congr 1
   apply XJ;intro i;by_cases hi:i<V.length
   ·simp[hi,e,Xd,W6 (show i<g.ob.length by omega),W8 (show i<g.ob.length by omega)]
   ·simp[Xo (show g.ob.length<=i by omega),Xo (show(W9 V.length).length<=i by simp;omega)]
  ·simp only[Xt]at dN;obtain⟨l,hl,rfl⟩:=dN;have vV:l<g1.ob.length:=by rw[fj.o0];exact NF l (by simp[os,hl])
   have GO:=Jv l hl;have cV:g1.ob.getD l 0∈new:=by
    have h1:g1.ob[l]? =some (g1.ob.getD l 0):=by simp[Xd,vV]
    generalize g1.ob.getD l 0=q at h1⊢;rw[e,W7 (by omega)]at h1;exact Xa h1
   exact yw _ cV
 have NJ:Inv gf w' V' A':=by
  refine⟨by simp[gf,QU,os],by simp[gf,QO],fun i row' b h1 h2=>?_,fun i x v' h1 h2=>?_,fun i i' b h1 h2=>?_,fun i i' v1 v2 b h1 h2 h3 h4=>?_,fun i j v' b h1 h2=>?_,fj.fresh⟩
  ·obtain⟨l,h3,h4⟩:=oG i b h2;obtain⟨row,h5,h6⟩:=MX i l row' h3 h1;obtain⟨h7,h8⟩:=Af h6;have dN:g'.ob[l]? =some b:=by rw[<-p9];exact h4
   obtain⟨_,cs,ty,cJ,eG,fY⟩:=vW.inv.obj l row b h5 dN;refine⟨(fj.obj l row b h5 h4).1,cs,ty,cJ,by omega,fun j d u dG gF=>?_⟩;have hj:j<row.length:=by have:=(W5.1 dG).1;omega
   have hc:row[j]? =some row[j]:=W8 hj;exact oD _ d u (h8 j _ d hc dG) (fY j _ u hc gF)
  ·obtain⟨k,h3,h4⟩:=pk i v' h2;exact fj.arr k x v' (Uv i k x h3 h1) h4
  ·obtain⟨l,h3,h4⟩:=oG i b h1;obtain⟨l',h5,h6⟩:=oG i' b h2;obtain rfl:=fj.kZ l l' b h4 h6;exact(Xn (W5.1 h3).1 NG).1 (h3.trans h5.symm)
  ·obtain⟨k,h5,h6⟩:=pk i v1 h1;obtain⟨k',h7,h8⟩:=pk i' v2 h2;obtain rfl:=fj.jr k k' v1 v2 b h6 h8 h3 h4;exact(Xn (W5.1 h5).1 QS).1 (h5.trans h7.symm)
  ·obtain⟨l,h3,h4⟩:=oG i b h1;obtain⟨k,h5,h6⟩:=pk j v' h2;exact fj.jz l k v' b h4 h6
 have Ht:a'.defers=[]/\∃v,(results fn a'.tmps).run P w'=.ok v w'/\∃v1 g',Ending.returned v=.returned v1/\aO g' w' A' (one ys) v1/\Inv g' w' V' A'/\Fr w g w' g':=
  ⟨vW.defers,v,wL,v,gf,rfl,NH,NJ,⟨kH.os,kH.tape,kH.output,kH.size,kH.qI,kH.js,NI,fun i v' b h1 h2=>by
   obtain⟨k,h3,h4⟩:=pk i v' h1;exact kH.ar k v' b h4 h2,fun k v' h1=>by
   obtain⟨v2,h2,h3⟩:=kH.wk k v' h1;have hk:k<A0.length:=by rw[<-hI.lT];exact(W5.1 h1).1
   exact⟨v2,FF k k v2 (by rw[Ur,W6 (by simpa using hk)];simp[hk]) h2,h3⟩,kH.yl⟩⟩
 rcases hex with rfl|rfl<;>exact Ht
theorem ah.cA {f:FuncId} {fn:Func} {c:Code} {as:List AV} {V V':List (List CV)} {r:AV} {A':List bu} (hf:P.funcs[f]? =some fn) (kn:(fn.name== "runtime.NumGoroutine")=false) (hb:fn.body=some c) (eT:codeOk fn.ntmps c=true) (hn:as.length<=fn.ntmps)
  (Lv:V.length<=V'.length) (h:T P fn.ntmps c (aB P fn V.length r V' A') ⟨kU as,V,[]⟩):ah P f as V r V' A':=by
 obtain⟨h1,h2,h3⟩:=e7.cA (A0:=[]) hf kn hb eT hn Lv (T.mono h fun e s' hd=>by
  obtain⟨hex,ext,ks,xs,ys,h⟩:=hd;exact⟨hex,ext,ks,xs,ys,⟨ks,by simp⟩,h⟩)
 exact⟨h1,h2,fun g w vs _ hI=>h3 g w vs hI⟩
theorem ah.ob {f:FuncId} {fn:Func} {N:Nat} {c:Code} {as:List AV} {V V':List (List CV)} {r:AV} {A':List bu} (hf:P.funcs[f]? =some fn) (hN:fn.ntmps=N) (hb:fn.body=some c) (h:T P N c (aB P fn V.length r V' A') ⟨kU as,V,[]⟩) (kn:(fn.name== "runtime.NumGoroutine")=false:=by kernel_rfl) (eT:codeOk N c=true:=by kernel_rfl) (hn:as.length<=N:=by simp) (Lv:V.length<=V'.length:=by simp):ah P f as V r V' A':=by
 subst hN;exact ah.cA hf kn hb eT hn Lv h
end
def cO:Op->Bool
 |.move _|.assign _|.pick _ _ _|.fieldAddr _ _ _|.unOp _ _ _|.binOp _ _ _ _ _|.extract _ _=>true
 |_=>false
def gw (all:Array Oper) (s:St) (o:Oper):Bool:=
 match o.guard with
 |none=>true
 |some (j,want)=>match(all[j]?).bind (·.dst)with
  |some t=>match look s.fr t with
   |some (.c (.d (.bool b)))=>b==want
   |_=>false
  |none=>false
def SW (P:Program) (all:Array Oper) (ow:Bool) (o:Oper) (s s':St):Prop:=
 iv all s o True True/\((gw all s o=true/\∃x V A,s'=s.put o.dst x V A/\∀K:AV->List (List CV)->List bu->Prop,K x V A->bI P s ow o K)\/(gw all s o=false/\s'=s.put o.dst (.c .undef) s.V s.A))
def px (P:Program) (all:Array Oper) (ow:Nat->Bool) (ws:List Nat) (K:St->Prop):Nat->List Oper->St->Prop
 |_,[],s=>K s
 |i,o::rest,s=>iv all s o (bI P s (ow i) o fun x V A=>(i∈ws\/(V=s.V/\A=s.A))/\px P all ow ws K (i+1) rest (s.put o.dst x V A)) (px P all ow ws K (i+1) rest (s.put o.dst (.c .undef) s.V s.A))
def mV (acc:List Nat) (o:Oper):Nat:=o.after.toList.foldl (fun m e=>if Region.binds .any e then m|||2 ^ e.on|||acc.getD e.on 0 else m) 0
def aX:List Oper->List Nat->List Nat
 |[],acc=>acc
 |o::r,acc=>aX r (acc++[mV acc o])
def dE (all:Array Oper) (x y:Oper):Bool:=match x.dst with
 |some d=>(y.looksAt all).contains d
 |none=>false
def bq (all:Array Oper) (ws ms:List Nat) (oi oj:Oper) (i j:Nat):Bool:=
 (oi.dst.isNone||oi.dst !=oj.dst)&&((!dE all oi oj && !dE all oj oi && !(ws.contains i && !cO oj.op)&& !(ws.contains j && !cO oi.op))||(ms.getD j 0).testBit i)
def eC (all:Array Oper) (ws:List Nat):Bool:=
 let l:=all.toList.zipIdx
 let ms:=aX all.toList []
 (l.all fun(o,j)=>o.after.toList.all fun e=> !Region.binds .any e||decide (e.on<j))&&
 (l.all fun(oj,j)=>l.all fun(oi,i)=> !(decide (i<j))||bq all ws ms oi oj i j)&&
 (l.all fun(o,j)=> !ws.contains j|| !cO o.op)
section
variable {P:Program} {n:Nat} {Q Q':Exit->St->Prop} {s s':St} {w0:World} {g0 g g':Gh} {a:Act} {w w':World} {V:List (List CV)} {A A':List bu}
theorem fZ {all:Array Oper} {o:Oper} {y n:Prop} (h:iv all s o y n):(gw all s o=true/\y\/gw all s o=false/\n)/\iv all s o True True:=by
 unfold iv at h;unfold gw iv;split at h
 ·rename_i hg;simp[hg,h]
 ·rename_i j want hg;refine ai h fun oj h1 h2=>ai h2 fun t h3 h4=>ai h4 fun x h5 h6=>?_
  simp only[hg,h1,W4,h3,h5,bU];split at h6
  ·rename_i b;simp only[beq_iff_eq,beq_eq_false_iff_ne,implies_true,and_self,and_true];by_cases e:b=want
   ·exact .inl ⟨e,h6.1 e⟩
   ·exact .inr ⟨e,h6.2 (by cases b<;>cases want<;>simp_all)⟩
  ·simp[h6]
  ·exact h6.elim
theorem Jx {ow:Bool} {op:Op} {K:AV->List (List CV)->List bu->Prop} (h:eS P s ow op K):∃x V A,K x V A/\∀K':AV->List (List CV)->List bu->Prop,K' x V A->eS P s ow op K':=by
 cases op with
 |move x=>exact ai h fun v h1 h2=>⟨_,_,_,h2,fun K' h=>by simpa only[eS,bU,h1]using h⟩
 |assign x=>exact ai h fun v h1 h2=>⟨_,_,_,h2,fun K' h=>by simpa only[eS,bU,h1]using h⟩
 |pick c x y=>
  refine ai h fun v h1 h2=>?_
  split at h2
  ·rename_i t;cases t with
   |true=>simp only[if_true]at h2;exact ai h2 fun v h3 h4=>⟨_,_,_,h4,fun K' h=>by simpa only[eS,bU,h1,if_true,h3]using h⟩
   |false=>simp only[XN,if_false]at h2;exact ai h2 fun v h3 h4=>⟨_,_,_,h4,fun K' h=>by simpa only[eS,bU,h1,XN,if_false,h3]using h⟩
  ·exact h2.elim
 |alloc e=>exact ai h fun d h1 h2=>ai h2 fun z h3 h4=>⟨_,_,_,h4,fun K' h=>by simpa only[eS,bU,h1,h3]using h⟩
 |box e x=>exact ai h fun v h1 h2=>⟨_,_,_,h2.2,fun K' h=>by simp only[eS,bU,h1];exact⟨h2.1,h⟩⟩
 |build t parts=>exact ai h fun d h1 h2=>ai h2 fun z h3 h4=>ai h4 fun ps h5 h6=>ai h6 fun cs h7 h8=>⟨_,_,_,h8.2.2,fun K' h=>by simp only[eS,bU,h1,h3,h5,h7];exact⟨h8.1,h8.2.1,h⟩⟩
 |buildSlice t len parts=>
  refine ai h fun d h1 h2=>ai h2 fun e h3 h4=>ai h4 fun de h5 h6=>ai h6 fun rows h7 h8=>ai h8 fun ds h9 cJ=>?_
  obtain⟨k1,k2,k3,k4,k5⟩:=cJ;cases ow with
  |true=>simp only[if_true]at k5;exact⟨_,_,_,k5,fun K' h=>by simp only[eS,bU,h1,h3,h5,h7,h9];exact⟨k1,k2,k3,k4,by simpa only[if_true]using h⟩⟩
  |false=>simp only[XN,if_false]at k5;exact⟨_,_,_,k5,fun K' h=>by simp only[eS,bU,h1,h3,h5,h7,h9];exact⟨k1,k2,k3,k4,by simpa only[XN,if_false]using h⟩⟩
 |load t x=>
  refine ai h fun d h1 h2=>ai h2 fun p h3 h4=>?_
  split at h4
  ·exact ai h4 fun cs h5 h6=>ai h6 fun v h7 h8=>⟨_,_,_,h8,fun K' h=>by simpa only[eS,bU,h1,h3,h5,h7]using h⟩
  ·exact h4.elim
 |store t x y=>
  refine ai h fun d h1 h2=>ai h2 fun p h3 h4=>ai h4 fun v h5 h6=>?_
  obtain⟨h7,h8,h9⟩:=h6;split at h9
  ·exact ai h9 fun row cJ eG=>⟨_,_,_,eG.2,fun K' h=>by simp only[eS,bU,h1,h3,h5,cJ];exact⟨h7,h8,eG.1,h⟩⟩
  ·refine ai h9 fun r cJ eG=>?_
   obtain⟨fY,dG,gF⟩:=eG;exact ai gF fun row qL rQ=>ai rQ fun ds Bv rR=>⟨_,_,_,rR.2.2,fun K' h=>by simp only[eS,bU,h1,h3,h5,cJ,qL,Bv];exact⟨h7,h8,fY,dG,rR.1,rR.2.1,h⟩⟩
  ·exact h9.elim
 |nilCheck x=>
  refine ai h fun v h1 h2=>?_
  split at h2
  ·exact⟨_,_,_,h2,fun K' h=>by simpa only[eS,bU,h1]using h⟩
  ·exact⟨_,_,_,h2,fun K' h=>by simpa only[eS,bU,h1]using h⟩
  ·exact⟨_,_,_,h2,fun K' h=>by simpa only[eS,bU,h1]using h⟩
  ·exact⟨_,_,_,h2,fun K' h=>by simpa only[eS,bU,h1]using h⟩
  ·exact h2.elim
 |binOp op t x y t'=>
  refine ai h fun u h1 h2=>ai h2 fun v h3 h4=>?_
  split at h4
  ·rename_i r hr;exact⟨_,_,_,h4,fun K' h=>by simpa only[eS,bU,h1,h3,hr]using h⟩
  ·rename_i hr;split at h4
   ·rename_i r Dh;exact⟨_,_,_,h4,fun K' h=>by simpa only[eS,bU,h1,h3,hr,Dh]using h⟩
   ·rename_i Dh;exact ai h4 fun r h5 h6=>ai h6 fun d h7 h8=>⟨_,_,_,h8.2,fun K' h=>by simp only[eS,bU,h1,h3,hr,Dh,h5,h7];exact⟨h8.1,h⟩⟩
 |unOp op t x=>exact ai h fun u h1 h2=>ai h2 fun r h3 h4=>⟨_,_,_,h4,fun K' h=>by simpa only[eS,bU,h1,h3]using h⟩
 |convert src dst x=>
  refine ai h fun u h1 h2=>ai h2 fun ds h3 h4=>ai h4 fun dd h5 h6=>?_
  split at h6
  ·exact ai h6 fun k h7 h8=>⟨_,_,_,h8,fun K' h=>by simpa only[eS,bU,h1,h3,h5,h7]using h⟩
  ·exact⟨_,_,_,h6.2.2,fun K' h=>by simp only[eS,bU,h1,h3,h5];exact⟨h6.1,h6.2.1,h⟩⟩
  ·obtain⟨h7,h8⟩:=h6;exact ai h8 fun e h9 cJ=>ai cJ fun de eG fY=>ai fY.2 fun b dG gF=>⟨_,_,_,gF,fun K' h=>by simp only[eS,bU,h1,h3,h5,h9,eG,dG];exact⟨h7,fY.1,h⟩⟩
  ·exact h6.elim
 |makeFunc fn first captured=>
  cases fn with
  |func f=>
   obtain⟨h1,h2⟩:=h;exact ai h2 fun cs h3 h4=>ai h4 fun ls h5 h6=>⟨_,_,_,h6,fun K' h=>by simp only[eS,bU,h3,h5];exact⟨h1,h⟩⟩
  |_=>exact h.elim
 |makeSlice t l c=>
  refine ai h fun d h1 h2=>ai h2 fun e h3 h4=>ai h4 fun de h5 h6=>ai h6 fun z h7 h8=>ai h8 fun dz h9 cJ=>ai cJ fun vl eG fY=>ai fY fun vc dG gF=>?_
  split at gF
  ·obtain⟨k1,k2,k3,k4,k5,k6,k7⟩:=gF;exact⟨_,_,_,k7,fun K' h=>by simp only[eS,bU,h1,h3,h5,h7,h9,eG,dG];exact⟨k1,k2,k3,k4,k5,k6,h⟩⟩
  ·exact gF.elim
 |slice t x lo hi mx=>
  obtain⟨rfl,h⟩:=h;refine ai h fun d h1 h2=>ai h2 fun v h3 h4=>ai h4 fun l h5 h6=>ai h6 fun hh h7 h8=>?_
  split at h8
  ·obtain⟨h9,cJ⟩:=h8;exact ai cJ fun i eG fY=>ai fY fun j dG gF=>⟨_,_,_,gF.2.2.2,fun K' h=>by simp only[eS,bU,h1,h3,h5,h7,eG,dG];exact⟨trivial,h9,gF.1,gF.2.1,gF.2.2.1,h⟩⟩
  ·refine ai h8 fun rows h9 cJ=>ai cJ fun e eG fY=>ai fY fun de dG gF=>ai gF fun i qL rQ=>ai rQ fun j Bv rR=>?_
   refine⟨_,_,_,rR.2.2.2.2,fun K' h=>?_⟩;simp only[eS,bU,h1,h3,h5,h7,h9,eG,dG,qL,Bv];exact⟨trivial,rR.1,rR.2.1,rR.2.2.1,rR.2.2.2.1,h⟩
 |fieldAddr t x f=>
  refine ai h fun d h1 h2=>ai h2 fun fo h3 h4=>?_
  obtain⟨off,sz⟩:=fo;obtain⟨h5,h6⟩:=h4;refine ai h6 fun v h7 h8=>?_
  split at h8
  ·exact⟨_,_,_,h8,fun K' h=>by simp only[eS,bU,h1,h3,h7];exact⟨h5,h⟩⟩
  ·exact⟨_,_,_,h8,fun K' h=>by simp only[eS,bU,h1,h3,h7];exact⟨h5,h⟩⟩
  ·exact⟨_,_,_,h8,fun K' h=>by simp only[eS,bU,h1,h3,h7];exact⟨h5,h⟩⟩
  ·exact h8.elim
 |indexAddr t x ix=>
  refine ai h fun d h1 h2=>ai h2 fun v h3 h4=>ai h4 fun i h5 h6=>?_
  split at h6
  ·obtain⟨h0,h6⟩:=h6;split at h6
   ·exact ai h6 fun e h7 h8=>ai h8 fun de h9 cJ=>ai cJ fun row eG fY=>⟨_,_,_,fY.2,fun K' h=>by simp only[eS,bU,h1,h3,h5,h7,h9,eG];exact⟨h0,fY.1,h⟩⟩
   ·exact ai h6 fun e h7 h8=>ai h8 fun de h9 cJ=>ai cJ fun r eG fY=>⟨_,_,_,fY.2.2.2,fun K' h=>by simp only[eS,bU,h1,h3,h5,h7,h9,eG];exact⟨h0,fY.1,fY.2.1,fY.2.2.1,h⟩⟩
   ·refine ai h6 fun le h7 h8=>?_
    obtain⟨len,e⟩:=le;exact ai h8 fun de h9 cJ=>⟨_,_,_,cJ.2,fun K' h=>by simp only[eS,bU,h1,h3,h5,h7,h9];exact⟨h0,cJ.1,h⟩⟩
   ·exact h6.elim
  ·exact h6.elim
 |index t x ix=>
  refine ai h fun d h1 h2=>ai h2 fun v h3 h4=>ai h4 fun i h5 h6=>?_
  split at h6
  ·obtain⟨h7,h0,h8⟩:=h6;exact ai h8 fun c h9 cJ=>⟨_,_,_,cJ,fun K' h=>by simp only[eS,bU,h1,h3,h5,h9];exact⟨h7,h0,h⟩⟩
  ·refine ai h6 fun le h7 h8=>ai h8 fun de h9 cJ=>?_
   obtain⟨eG,fY,h0,dG,gF⟩:=cJ;exact ai gF fun c qL rQ=>⟨_,_,_,rQ,fun K' h=>by simp only[eS,bU,h1,h3,h5,h7,h9,qL];exact⟨eG,fY,h0,dG,h⟩⟩
  ·exact h6.elim
 |extract x i=>
  refine ai h fun v h1 h2=>?_
  split at h2
  ·refine ai h2 fun u h3 h4=>?_
   split at h4
   ·exact h4.elim
   ·refine⟨_,_,_,h4,fun K' h=>?_⟩;simp only[eS,bU,h1,h3];exact h
  ·exact h2.elim
 |call c=>
  obtain⟨callee,args,argTypes⟩:=c;cases callee with
  |builtin b=>
   cases b with
   |len=>
    refine ai h fun x h1 h2=>ai h2 fun v h3 h4=>ai h4 fun t h5 h6=>ai h6 fun d h7 h8=>ai h8 fun n h9 cJ=>?_
    exact⟨_,_,_,cJ.2.2,fun K' h=>by simp only[eS,bU,h1,h3,h5,h7,h9];exact⟨cJ.1,cJ.2.1,h⟩⟩
   |append=>
    refine ai h fun x h1 h2=>ai h2 fun y h3 h4=>ai h4 fun t h5 h6=>?_
    obtain⟨h7,h8⟩:=h6;refine ai h8 fun d h9 cJ=>ai cJ fun e eG fY=>ai fY fun de dG gF=>?_
    obtain⟨qL,rQ,Bv⟩:=gF;refine ai Bv fun v rR Lu=>ai Lu fun u I7 Nz=>ai Nz fun nr Jn QF=>?_
    obtain⟨Jo,Jp⟩:=QF;split at Jp
    ·refine ai Jp fun r Jq MU=>?_
     obtain⟨k1,k2,k3,k4,k5,k6⟩:=MU;cases ow with
     |true=>simp only[if_true]at k6;exact⟨_,_,_,k6,fun K' h=>by simp only[eS];simp only[bU]at rQ;simp only[bU,h1,h3,h5,h9,eG,dG,rR,I7,Jn,Jq];exact⟨h7,qL,rQ,Jo,k1,k2,k3,k4,k5,by simpa only[if_true]using h⟩⟩
     |false=>simp only[XN,if_false]at k6;exact⟨_,_,_,k6,fun K' h=>by simp only[eS];simp only[bU]at rQ;simp only[bU,h1,h3,h5,h9,eG,dG,rR,I7,Jn,Jq];exact⟨h7,qL,rQ,Jo,k1,k2,k3,k4,k5,by simpa only[XN,if_false]using h⟩⟩
    ·obtain⟨k1,k2,k6⟩:=Jp;cases ow with
     |true=>simp only[if_true]at k6;exact⟨_,_,_,k6,fun K' h=>by simp only[eS];simp only[bU]at rQ;simp only[bU,h1,h3,h5,h9,eG,dG,rR,I7,Jn];exact⟨h7,qL,rQ,Jo,k1,k2,by simpa only[if_true]using h⟩⟩
     |false=>simp only[XN,if_false]at k6;exact⟨_,_,_,k6,fun K' h=>by simp only[eS];simp only[bU]at rQ;simp only[bU,h1,h3,h5,h9,eG,dG,rR,I7,Jn];exact⟨h7,qL,rQ,Jo,k1,k2,by simpa only[XN,if_false]using h⟩⟩
    ·exact Jp.elim
   |max=>
    refine ai h fun x h1 h2=>ai h2 fun y h3 h4=>?_
    obtain⟨h5,h6⟩:=h4;refine ai h6 fun v h7 h8=>ai h8 fun u h9 cJ=>?_
    split at cJ
    ·exact⟨_,_,_,cJ,fun K' h=>by simp only[eS,bU,h1,h3,h7,h9];exact⟨h5,h⟩⟩
    ·exact cJ.elim
   |min=>
    refine ai h fun x h1 h2=>ai h2 fun y h3 h4=>?_
    obtain⟨h5,h6⟩:=h4;refine ai h6 fun v h7 h8=>ai h8 fun u h9 cJ=>?_
    split at cJ
    ·exact⟨_,_,_,cJ,fun K' h=>by simp only[eS,bU,h1,h3,h7,h9];exact⟨h5,h⟩⟩
    ·exact cJ.elim
   |_=>exact h.elim
  |_=>exact h.elim
 |_=>exact h.elim
theorem l9 {ow:Bool} {o:Oper} {K:AV->List (List CV)->List bu->Prop} (h:∀f args ts,o.op≠.call ⟨.value f,args,ts⟩):bI P s ow o K=eS P s ow o.op K:=by
 obtain⟨dst,op,ty,pos,after,guard⟩:=o;cases op<;>try rfl
 rename_i c;obtain⟨callee,args,ts⟩:=c;cases callee<;>first|rfl|exact absurd rfl (h _ _ _)
theorem gl {ow:Bool} {o:Oper} {K:AV->List (List CV)->List bu->Prop} (h:bI P s ow o K):∃x V A,K x V A/\∀K':AV->List (List CV)->List bu->Prop,K' x V A->bI P s ow o K':=by
 by_cases gL:∃f args ts,o.op=.call ⟨.value f,args,ts⟩
 ·obtain⟨f,args,ts,heq⟩:=gL;simp only[bI,heq]at h⊢;refine ai h fun fv h1 h2=>?_
  split at h2
  ·rename_i fid cap;refine ai h2 fun xs h3 h4=>?_
   rcases h4 with⟨ids,as,Vc,r,Vc',Ac',k1,k2,k3,k4,k5⟩|⟨hs,as,r,Ac',k1,k2,k3,k4,k5⟩
   ·refine⟨_,_,_,k5,fun K' h=>?_⟩;simp only[bU,h1,h3];exact .inl ⟨ids,as,Vc,r,Vc',Ac',k1,k2,k3,k4,h⟩
   ·refine⟨_,_,_,k5,fun K' h=>?_⟩;simp only[bU,h1,h3];exact .inr ⟨hs,as,r,Ac',k1,k2,k3,k4,h⟩
  ·exact h2.elim
 ·have dj:∀f args ts,o.op≠.call ⟨.value f,args,ts⟩:=fun f args ts e=>gL ⟨f,args,ts,e⟩
  rw[l9 dj]at h;obtain⟨x,V,A,h1,h2⟩:=Jx h;exact⟨x,V,A,h1,fun K' h3=>by rw[l9 dj];exact h2 K' h3⟩
theorem py {all:Array Oper} {ow:Nat->Bool} {ws:List Nat} {K:St->Prop}:∀(ops:List Oper) (i:Nat) (s:St),px P all ow ws K i ops s->
  ∃σ:Nat->St,σ 0=s/\K (σ ops.length)/\∀(j:Nat) o,ops[j]? =some o->SW P all (ow (i+j)) o (σ j) (σ (j+1))/\(i+j∈ws\/((σ (j+1)).V=(σ j).V/\(σ (j+1)).A=(σ j).A))
 |[],i,s,h=>⟨fun _=>s,rfl,h,fun j o h=>by simp at h⟩
 |o::rest,i,s,h=>by
  simp only[px]at h;obtain⟨h0,hg⟩:=fZ h;rcases h0 with⟨h1,h2⟩|⟨h1,h2⟩
  ·obtain⟨x,V,A,⟨h3,h4⟩,h5⟩:=gl h2;obtain⟨σ,k1,k2,k3⟩:=py rest (i+1) _ h4;refine⟨fun j=>match j with|0=>s|j+1=>σ j,rfl,k2,fun j o' ho=>?_⟩;cases j with
   |zero=>
    simp at ho;subst ho;refine⟨⟨hg,.inl ⟨h1,x,V,A,k1,h5⟩⟩,?_⟩;rcases h3 with h3|⟨h3,s7⟩
    ·exact .inl h3
    ·exact .inr (by simp only[k1];exact⟨h3,s7⟩)
   |succ j=>
    simp at ho;have:=k3 j o' ho;rwa[show i+1+j=i+(j+1) by omega]at this
  ·obtain⟨σ,k1,k2,k3⟩:=py rest (i+1) _ h2;refine⟨fun j=>match j with|0=>s|j+1=>σ j,rfl,k2,fun j o' ho=>?_⟩;cases j with
   |zero=>
    simp at ho;subst ho;exact⟨⟨hg,.inr ⟨h1,k1⟩⟩,.inr (by simp only[k1];exact⟨rfl,rfl⟩)⟩
   |succ j=>
    simp at ho;have:=k3 j o' ho;rwa[show i+1+j=i+(j+1) by omega]at this
end
section
variable {P:Program} {n:Nat} {Q Q':Exit->St->Prop} {s s':St} {w0:World} {g0 g g':Gh} {a:Act} {w w':World} {V:List (List CV)} {A A':List bu}
theorem yz {fr cR:List (Nat×AV)} {p:CV} {k:Nat}:gQ ⟨cR,V,A⟩ p k=gQ ⟨fr,V,A⟩ p k:=by
 cases p<;>rfl
theorem sf:∀{parts:List (Nat×Operand)},(∀p∈parts,bF s' p.2=bF s p.2)->iM s' parts=iM s parts
 |[],_=>rfl
 |(i,x)::r,h=>by
  have e:=sf (parts:=r) (fun p hp=>h p (Xv _ hp));simp only[iM,h (i,x) (by simp),e]
theorem uS {sz:Nat}:∀{parts:List (Nat×Operand)} {k:Nat},(∀p∈parts,bF s' p.2=bF s p.2)->kk s' sz k parts=kk s sz k parts
 |[],_,_=>rfl
 |(i,x)::r,k,h=>by
  have e:=uS (sz:=sz) (parts:=r) (k:=k+1) (fun p hp=>h p (Xv _ hp));simp only[kk,h (i,x) (by simp),e]
theorem ma:∀{os:List Operand},(∀p∈os,bF s' p=bF s p)->iz s' os=iz s os
 |[],_=>rfl
 |x::r,h=>by
  have e:=ma (os:=r) (fun p hp=>h p (Xv _ hp));simp only[iz,h x (by simp),e]
theorem FG {fr cR:List (Nat×AV)} {ow:Bool} {op:Op} {K:AV->List (List CV)->List bu->Prop} (he:∀x∈op.operands.toList,bF ⟨cR,V,A⟩ x=bF ⟨fr,V,A⟩ x) (h:eS P ⟨fr,V,A⟩ ow op K):eS P ⟨cR,V,A⟩ ow op K:=by
 cases op with
 |move x=>simpa only[eS,he x (by simp[Op.operands])]using h
 |assign x=>simpa only[eS,he x (by simp[Op.operands])]using h
 |pick c x y=>simpa only[eS,he c (by simp[Op.operands]),he x (by simp[Op.operands]),he y (by simp[Op.operands])]using h
 |alloc e=>exact h
 |box e x=>simpa only[eS,he x (by simp[Op.operands])]using h
 |build t parts=>simpa only[eS,sf (s':=⟨cR,V,A⟩) (s:=⟨fr,V,A⟩) (parts:=parts.toList) (fun p hp=>he p.2 (by simp only[Op.operands,Xt];exact⟨p,hp,rfl⟩))]using h
 |buildSlice t len parts=>
  simp only[eS]at h⊢;have:∀sz,kk ⟨cR,V,A⟩ sz 0 parts.toList=kk ⟨fr,V,A⟩ sz 0 parts.toList:=fun sz=>uS (fun p hp=>he p.2 (by simp only[Op.operands,Xt];exact⟨p,hp,rfl⟩))
  simpa only[this]using h
 |load t x=>
  simp only[eS,he x (by simp[Op.operands])]at h⊢;simpa only[yz (fr:=fr) (cR:=cR)]using h
 |store t x y=>simpa only[eS,he x (by simp[Op.operands]),he y (by simp[Op.operands])]using h
 |nilCheck x=>simpa only[eS,he x (by simp[Op.operands])]using h
 |binOp op t x y t'=>simpa only[eS,he x (by simp[Op.operands]),he y (by simp[Op.operands])]using h
 |unOp op t x=>simpa only[eS,he x (by simp[Op.operands])]using h
 |convert src dst x=>simpa only[eS,he x (by simp[Op.operands])]using h
 |makeFunc fn first captured=>
  cases fn with
  |func f=>simpa only[eS,ma (s':=⟨cR,V,A⟩) (s:=⟨fr,V,A⟩) (os:=captured.toList) (fun p hp=>he p (by simp[Op.operands];exact .inr (by simpa using hp)))]using h
  |_=>exact h
 |makeSlice t l c=>simpa only[eS,he l (by simp[Op.operands]),he c (by simp[Op.operands])]using h
 |slice t x lo hi mx=>
  have GJ:mz ⟨cR,V,A⟩ lo=mz ⟨fr,V,A⟩ lo:=by
   cases lo with
   |none=>rfl
   |some l=>simp only[mz,he l (by simp[Op.operands])]
  have QB:mz ⟨cR,V,A⟩ hi=mz ⟨fr,V,A⟩ hi:=by
   cases hi with
   |none=>rfl
   |some l=>simp only[mz,he l (by simp[Op.operands])]
  simpa only[eS,he x (by simp[Op.operands]),GJ,QB]using h
 |fieldAddr t x f=>simpa only[eS,he x (by simp[Op.operands])]using h
 |indexAddr t x ix=>simpa only[eS,he x (by simp[Op.operands]),he ix (by simp[Op.operands])]using h
 |index t x ix=>simpa only[eS,he x (by simp[Op.operands]),he ix (by simp[Op.operands])]using h
 |extract x i=>simpa only[eS,he x (by simp[Op.operands])]using h
 |call c=>
  obtain⟨callee,args,argTypes⟩:=c;cases callee with
  |builtin b=>
   have hx:∀(i:Nat) x,args[i]? =some x->bF ⟨cR,V,A⟩ x=bF ⟨fr,V,A⟩ x:=fun i x hi=>he x (by
    simp only[Op.operands,Call.operands,X9,X3];exact X7 hi)
   cases b with
   |len=>exact ai h fun x h1 h2=>by simp only[eS,bU,h1,hx 0 x h1];exact h2
   |append=>exact ai h fun x h1 h2=>ai h2 fun y h3 h4=>by simp only[eS,bU,h1,h3,hx 0 x h1,hx 1 y h3];exact h4
   |max=>exact ai h fun x h1 h2=>ai h2 fun y h3 h4=>by simp only[eS,bU,h1,h3,hx 0 x h1,hx 1 y h3];exact h4
   |min=>exact ai h fun x h1 h2=>ai h2 fun y h3 h4=>by simp only[eS,bU,h1,h3,hx 0 x h1,hx 1 y h3];exact h4
   |_=>exact h
  |_=>exact h
 |_=>exact h
theorem eo {fr cR:List (Nat×AV)} {ow:Bool} {o:Oper} {K:AV->List (List CV)->List bu->Prop} (he:∀x∈o.op.operands.toList,bF ⟨cR,V,A⟩ x=bF ⟨fr,V,A⟩ x) (h:bI P ⟨fr,V,A⟩ ow o K):bI P ⟨cR,V,A⟩ ow o K:=by
 by_cases gL:∃f args ts,o.op=.call ⟨.value f,args,ts⟩
 ·obtain⟨f,args,ts,heq⟩:=gL;simp only[bI,heq]at h he⊢;have h1:bF ⟨cR,V,A⟩ f=bF ⟨fr,V,A⟩ f:=he f (by simp[Op.operands,Call.operands]);have h2:iz ⟨cR,V,A⟩ args.toList=iz ⟨fr,V,A⟩ args.toList:=ma fun p hp=>he p (by simp[Op.operands,Call.operands];exact .inr (by simpa using hp))
  rw[h1,h2];exact h
 ·have dj:∀f args ts,o.op≠.call ⟨.value f,args,ts⟩:=fun f args ts e=>gL ⟨f,args,ts,e⟩
  rw[l9 dj]at h⊢;exact FG he h
theorem nK {ow:Bool} {o:Oper} (hs:cO o.op=true) (he:∀x∈o.op.operands.toList,bF s' x=bF s x) {x:AV} {V0:List (List CV)} {A0:List bu} (h:∀K:AV->List (List CV)->List bu->Prop,K x V0 A0->bI P s ow o K)
  {K:AV->List (List CV)->List bu->Prop} (hK:K x s'.V s'.A):bI P s' ow o K:=by
 have dj:∀f args ts,o.op≠.call ⟨.value f,args,ts⟩:=fun f args ts e=>by rw[e]at hs;simp[cO]at hs
 have h0:=h (fun v _ _=>v=x) rfl;rw[l9 dj]at h0⊢;obtain⟨dst,op,ty,pos,after,guard⟩:=o;simp only at h0 he hs⊢;cases op with
 |move y=>exact ai h0 fun v h1 h2=>by subst h2;simp only[eS,bU,he y (by simp[Op.operands]),h1];exact hK
 |assign y=>exact ai h0 fun v h1 h2=>by subst h2;simp only[eS,bU,he y (by simp[Op.operands]),h1];exact hK
 |pick c y z=>
  refine ai h0 fun v h1 h2=>?_
  split at h2
  ·rename_i t;cases t with
   |true=>simp only[if_true]at h2;exact ai h2 fun v h3 h4=>by subst h4;simp only[eS,bU,he c (by simp[Op.operands]),h1,if_true,he y (by simp[Op.operands]),h3];exact hK
   |false=>simp only[XN,if_false]at h2;exact ai h2 fun v h3 h4=>by subst h4;simp only[eS,bU,he c (by simp[Op.operands]),h1,XN,if_false,he z (by simp[Op.operands]),h3];exact hK
  ·exact h2.elim
 |fieldAddr t y f=>
  refine ai h0 fun d h1 h2=>ai h2 fun fo h3 h4=>?_
  obtain⟨off,sz⟩:=fo;obtain⟨h5,h6⟩:=h4;refine ai h6 fun v h7 h8=>?_
  split at h8
  ·subst h8;simp only[eS,bU,h1,h3,he y (by simp[Op.operands]),h7];exact⟨h5,hK⟩
  ·subst h8;simp only[eS,bU,h1,h3,he y (by simp[Op.operands]),h7];exact⟨h5,hK⟩
  ·subst h8;simp only[eS,bU,h1,h3,he y (by simp[Op.operands]),h7];exact⟨h5,hK⟩
  ·exact h8.elim
 |unOp op t y=>exact ai h0 fun u h1 h2=>ai h2 fun r h3 h4=>by subst h4;simp only[eS,bU,he y (by simp[Op.operands]),h1,h3];exact hK
 |binOp op t y z t'=>
  refine ai h0 fun u h1 h2=>ai h2 fun v h3 h4=>?_
  split at h4
  ·rename_i r hr;subst h4;simp only[eS,bU,he y (by simp[Op.operands]),he z (by simp[Op.operands]),h1,h3,hr];exact hK
  ·rename_i hr;split at h4
   ·rename_i r Dh;subst h4;simp only[eS,bU,he y (by simp[Op.operands]),he z (by simp[Op.operands]),h1,h3,hr,Dh];exact hK
   rename_i Dh;exact ai h4 fun r h5 h6=>ai h6 fun d h7 h8=>by
    obtain⟨h8,h9⟩:=h8;subst h9;simp only[eS,bU,he y (by simp[Op.operands]),he z (by simp[Op.operands]),h1,h3,hr,Dh,h5,h7];exact⟨h8,hK⟩
 |extract y i=>
  refine ai h0 fun v h1 h2=>?_
  split at h2
  ·refine ai h2 fun u h3 h4=>?_
   split at h4
   ·exact h4.elim
   ·subst h4;simp only[eS,bU,he y (by simp[Op.operands]),h1,h3];exact hK
  ·exact h2.elim
 |_=>simp[cO]at hs
theorem fT {acc:List Nat} {o:Oper} {k:Nat} (h:(mV acc o).testBit k=true):∃e∈o.after,Region.binds .any e=true/\(k=e.on\/(acc.getD e.on 0).testBit k=true):=by
 have key:∀(l:List Edge) (m:Nat),(l.foldl (fun m e=>if Region.binds .any e then m|||2 ^ e.on|||acc.getD e.on 0 else m) m).testBit k=true->m.testBit k=true\/∃e∈l,Region.binds .any e=true/\(k=e.on\/(acc.getD e.on 0).testBit k=true):=by
  intro l;induction l with
  |nil=>intro m h;exact .inl h
  |cons e l ih=>
   intro m h;simp only[Xp]at h;rcases ih _ h with h1|⟨e',h1,h2⟩
   ·split at h1
    ·rename_i hb;rw[XX,XX,XM,XM]at h1;rcases h1 with(h1|h1)|h1
     ·exact .inl h1
     ·rw[Nat.testBit_two_pow]at h1;exact .inr ⟨e,by simp,hb,.inl (by simpa using(by simpa using h1:e.on=k).symm)⟩
     ·exact .inr ⟨e,by simp,hb,.inr h1⟩
    ·exact .inl h1
   ·exact .inr ⟨e',by simp[h1],h2⟩
 rcases key _ 0 h with h1|⟨e,h1,h2⟩
 ·simp at h1
 ·exact⟨e,X3.1 h1,h2⟩
theorem fe:∀(l:List Oper) (acc:List Nat),(aX l acc).length=acc.length+l.length/\(∀i,i<acc.length->(aX l acc)[i]? =acc[i]?)/\
  ∀(i:Nat) o,l[i]? =some o->∃pre:List Nat,pre.length=acc.length+i/\(∀j,j<pre.length->pre[j]? =(aX l acc)[j]?)/\(aX l acc)[acc.length+i]? =some (mV pre o)
 |[],acc=>⟨by simp[aX],fun _ _=>rfl,fun i o h=>by simp at h⟩
 |o::r,acc=>by
  obtain⟨h1,h2,h3⟩:=fe r (acc++[mV acc o]);simp only[aX];refine⟨by rw[h1];simp;omega,fun i hi=>?_,fun i o' ho=>?_⟩
  ·rw[h2 i (by simp;omega),W6 hi]
  ·cases i with
   |zero=>
    simp at ho;subst ho;refine⟨acc,by simp,fun j hj=>?_,?_⟩
    ·rw[h2 j (by simp;omega),W6 hj]
    ·rw[Nat.add_zero,h2 _ (by simp)];simp
   |succ i=>
    simp at ho;obtain⟨pre,h4,h5,h6⟩:=h3 i o' ho;simp at h4;exact⟨pre,by omega,h5,by rw[<-h6];congr 1;simp;omega⟩
theorem e8 (f:Nat->Bool):∀(fr:List (Nat×AV)) (t:Nat),look (fr.filter fun p=>f p.1) t=if f t then look fr t else none
 |[],t=>by simp[look]
 |(d,x)::r,t=>by
  by_cases hd:f d=true
  ·rw[List.filter_cons_of_pos (by exact hd)];simp only[look];rw[e8 f r t];by_cases e:t=d
   ·subst e;simp[hd]
   ·simp[e]
  ·rw[List.filter_cons_of_neg (by exact hd),e8 f r t];simp only[look];by_cases e:t=d
   ·subst e;simp[hd]
   ·simp[e]
structure DS (all:Array Oper) (ws:List Nat) (σ:Nat->St) (n:Nat) (w0:World) (g0:Gh) (af:Array Bool) (k0:Nat) (g:Gh) (a:Act) (w:World):Prop where
 inv:Inv g w (σ k0).V (σ k0).A
 fr:Fr w0 g0 w g
 size:a.tmps.size=n
 defers:a.defers=[]
 eI:af.size=all.size
 ga:∀(i:Nat) o t x,all[i]? =some o->af[i]? =some true->o.dst=some t->look (σ (i+1)).fr t=some x->∃u,a.tmps[t]? =some u/\aO g w (σ k0).A x u
 gd:∀t x,(∀(i:Nat) o,all[i]? =some o->af[i]? =some true->o.dst≠some t)->look (σ 0).fr t=some x->∃u,a.tmps[t]? =some u/\aO g w (σ k0).A x u
 ep:∀i∈ws,i<all.size->(af[i]? =some true↔i<k0)
 nL:k0<=all.size
 closed:∀(i:Nat) o,all[i]? =some o->af[i]? =some true->∀e∈o.after,Region.binds .any e=true->af[e.on]? =some true
theorem filter_le {α:Type} {p q:α->Bool} (h:∀i,p i=true->q i=true):∀(l:List α),(l.filter p).length<=(l.filter q).length
 |[]=>by simp
 |x::l=>by
  have ih:=filter_le h l;cases hp:p x with
  |true=>simp[hp,h x hp];exact ih
  |false=>cases hq:q x<;>simp[hp,hq]<;>omega
theorem filter_lt {α:Type} {p q:α->Bool} (h:∀i,p i=true->q i=true) {j:α}:∀{l:List α},j∈l->q j=true->p j=false->(l.filter p).length<(l.filter q).length
 |[],hj,_,_=>by simp at hj
 |x::l,hj,hq,hp=>by
  rcases Xe.1 hj with rfl|Hg
  ·have:=filter_le h l;simp[hp,hq];omega
  ·have ih:=filter_lt h Hg hq hp;cases ff:p x with
   |true=>simp[ff,h x ff];exact ih
   |false=>cases QE:q x<;>simp[ff,QE]<;>omega
theorem cF {af:Array Bool} {i:Nat}:af.getD i false=true↔af[i]? =some true:=by
 rcases XQ i af.size with h|h
 ·simp[h]
 ·simp[h]
theorem er {af:Array Bool} {i:Nat} (h:af.getD i true=false):af[i]? =some false:=by
 rcases XQ i af.size with h1|h1
 ·simp[h1]at h⊢;exact h
 ·simp[h1]at h
set_option maxHeartbeats 2000000 in
theorem Dt {all:Array Oper} {ow:Nat->Bool} {ws:List Nat} {σ:Nat->St} {K:St->Prop} {Q:Exit->Act->World->Prop} (hd:eC all ws=true) (fc:da n all.toList=true)
  (lV:∀(j:Nat) o,all[j]? =some o->SW P all (ow j) o (σ j) (σ (j+1))/\(j∈ws\/((σ (j+1)).V=(σ j).V/\(σ (j+1)).A=(σ j).A)))
  (hK:K (σ all.size)) (hQ:∀s' g' a' w',K s'->Rp n w0 g0 s' g' a' w'->Q .normal a' w'):
  ∀(fuel:Nat) (af:Array Bool) (k0:Nat) (g:Gh) (a:Act) (w:World),((W9 all.size).filter fun i=> !af.getD i true).length<=fuel->DS all ws σ n w0 g0 af k0 g a w->wpAny P .any all Q fuel af a w:=by
 simp only[eC,XL,Xg]at hd;obtain⟨⟨gk,jk⟩,nM⟩:=hd;have cV:∀(j:Nat) o,all[j]? =some o->(o,j)∈all.toList.zipIdx:=fun j o h=>by
  rw[XB];exact⟨j,by simp[XG,h]⟩
 have c7:∀(j:Nat) o,all[j]? =some o->∀e∈o.after,Region.binds .any e=true->e.on<j:=fun j o h e he hb=>by
  have:=gk _ (cV j o h) e (X3.2 he);simpa[hb]using this
 have b7:∀(i j:Nat) oi oj,all[i]? =some oi->all[j]? =some oj->i<j->bq all ws (aX all.toList []) oi oj i j=true:=fun i j oi oj h1 h2 ax=>by
  have:=jk _ (cV j oj h2) _ (cV i oi h1);simpa[ax]using this
 have uT:∀(j:Nat) o,all[j]? =some o->j∈ws->cO o.op=false:=fun j o h hj=>by
  have:=nM _ (cV j o h);simpa[hj]using this
 have fU:∀(i j:Nat) oi oj d,all[i]? =some oi->all[j]? =some oj->i<j->oi.dst=some d->oj.dst≠some d:=fun i j oi oj d h1 h2 ax h3 h4=>by
  have:=b7 i j oi oj h1 h2 ax;simp[bq,h3,h4]at this
 have rj:∀(i j:Nat) oi oj d,all[i]? =some oi->all[j]? =some oj->oi.dst=some d->oj.dst=some d->i=j:=fun i j oi oj d h1 h2 h3 h4=>by
  rcases XV i j with h|h|h
  ·exact absurd h4 (fU i j oi oj d h1 h2 h h3)
  ·exact h
  ·exact absurd h3 (fU j i oj oi d h2 h1 h h4)
 have Ae:∀(j:Nat) o d,all[j]? =some o->o.dst=some d->d<n:=fun j o d h1 h2=>by
  have:=Xg.1 fc o (by rw[X3];exact X7 h1);simpa[h2]using this
 obtain⟨GO,_,BD⟩:=fe all.toList []
 have mW:∀{af:Array Bool},(∀(i:Nat) o,all[i]? =some o->af[i]? =some true->∀e∈o.after,Region.binds .any e=true->af[e.on]? =some true)->
   ∀(i:Nat) o,all[i]? =some o->(∀e∈o.after,Region.binds .any e=true->af[e.on]? =some true)->∀k,((aX all.toList []).getD i 0).testBit k=true->af[k]? =some true:=by
  intro af kS i;induction i using XU with
  |_ i ih=>
   intro o ho cG k hk;obtain⟨pre,h1,h2,h3⟩:=BD i o (by simpa using ho);simp only[XE,XT]at h1 h3;have h4:(aX all.toList []).getD i 0=mV pre o:=by simp[Xd,h3]
   rw[h4]at hk;obtain⟨e,he,hb,h5⟩:=fT hk;have s9:=cG e he hb;rcases h5 with rfl|h5
   ·exact s9
   ·have ax:=c7 i o ho e he hb;have h6:pre.getD e.on 0=(aX all.toList []).getD e.on 0:=by simp only[Xd,h2 e.on (by omega)]
    rw[h6]at h5;have e5:e.on<all.size:=by have:=(X2.1 ho).1;omega
    have uU:all[e.on]? =some all[e.on]:=X1 e5;exact ih e.on ax _ uU (kS e.on _ uU s9) k h5
 have mb:∀(j:Nat) o t,all[j]? =some o->o.dst≠some t->look (σ (j+1)).fr t=look (σ j).fr t:=fun j o t h1 h2=>by
  obtain⟨⟨_,h3⟩,_⟩:=lV j o h1;have kp:∀(x:AV) V A,look ((σ j).put o.dst x V A).fr t=look (σ j).fr t:=fun x V A=>by
   simp only[St.put];cases q9:o.dst with
   |none=>rfl
   |some d=>simp only[look];rw[if_neg (fun e=>h2 (by rw[q9,e]))]
  rcases h3 with⟨_,x,V,A,h4,_⟩|⟨_,h4⟩
  ·rw[h4];exact kp x V A
  ·rw[h4];exact kp _ _ _
 have oP:∀(j t:Nat),j<=all.size->(∀(i:Nat) o,i<j->all[i]? =some o->o.dst≠some t)->look (σ j).fr t=look (σ 0).fr t:=by
  intro j;induction j with
  |zero=>intro t _ _;rfl
  |succ j ih=>
   intro t hj iw;have ho:all[j]? =some all[j]:=X1 (by omega);rw[mb j _ t ho (iw j _ (by omega) ho)];exact ih t (by omega) (fun i o hi=>iw i o (by omega))
 have oQ:∀(j i:Nat) oi t,j<=all.size->i<j->all[i]? =some oi->oi.dst=some t->look (σ j).fr t=look (σ (i+1)).fr t:=by
  intro j;induction j with
  |zero=>intro i oi t _ h;omega
  |succ j ih=>
   intro i oi t hj kI aV cn;by_cases e:i=j
   ·subst e;rfl
   ·have ho:all[j]? =some all[j]:=X1 (by omega);rw[mb j _ t ho (fU i j oi _ t aV ho (by omega) cn)];exact ih i oi t (by omega) (by omega) aV cn
 have tH:∀(b a:Nat),a<=b->b<=all.size->(∀i,a<=i->i<b->i∉ws)->(σ b).V=(σ a).V/\(σ b).A=(σ a).A:=by
  intro b;induction b with
  |zero=>
   intro a h _ _;obtain rfl:a=0:=by omega
   exact⟨rfl,rfl⟩
  |succ b ih=>
   intro a PH hb iw;by_cases e:a=b+1
   ·subst e;exact⟨rfl,rfl⟩
   ·have ho:all[b]? =some all[b]:=X1 (by omega);obtain⟨h1,h2⟩:=ih a (by omega) (by omega) (fun i hi Fv=>iw i hi (by omega));rcases(lV b _ ho).2 with h3|⟨h3,h4⟩
    ·exact absurd h3 (iw b (by omega) (by omega))
    ·exact⟨h3.trans h1,h4.trans h2⟩
 have lU:∀{af:Array Bool} {k0:Nat} {g:Gh} {a:Act} {w:World},DS all ws σ n w0 g0 af k0 g a w->Region.ready .any all af=[]->Q .normal a w:=by
  intro af k0 g a w hD hr;have dh:∀i,i<all.size->af[i]? =some true:=by
   intro i;induction i using XU with
   |_ i ih=>
    intro hi;have ho:all[i]? =some all[i]:=X1 hi;have bE:i<af.size:=by rw[hD.eI];exact hi
    cases hl:af[i]with
    |true=>rw[X1 bE,hl]
    |false=>
     exfalso
     have:i∈Region.ready .any all af:=mem_ready.2 ⟨by simp[bE,hl],_,ho,fun e he hb=>cF.2 (ih e.on (c7 i _ ho e he hb) (by have:=c7 i _ ho e he hb;omega))⟩;rw[hr]at this;simp at this
  have kV:=tH all.size k0 hD.nL (XP _) (fun i h1 h2 h3=>by have:=(hD.ep i h3 h2).1 (dh i h2);omega);refine hQ _ g a w hK ⟨by rw[kV.1,kV.2];exact hD.inv,hD.fr,hD.size,hD.defers,fun t x hx=>?_⟩;rw[kV.2];by_cases hex:∃(i:Nat) (o:Oper),all[i]? =some o/\o.dst=some t
  ·obtain⟨i,o,ho,cn⟩:=hex;have hi:=(X2.1 ho).1;rw[oQ all.size i o t (XP _) hi ho cn]at hx;exact hD.ga i o t x ho (dh i hi) cn hx
  ·rw[oP all.size t (XP _) (fun i o _ ho cn=>hex ⟨i,o,ho,cn⟩)]at hx;exact hD.gd t x (fun i o ho _ cn=>hex ⟨i,o,ho,cn⟩) hx
 intro fuel;induction fuel with
 |zero=>
  intro af k0 g a w hf hD;have la:Region.ready .any all af=[]:=by
   have h0:((W9 all.size).filter fun i=> !af.getD i true)=[]:=Xq (by omega);rcases hr:Region.ready .any all af with _|⟨j,r⟩
   ·rfl
   ·have hj:j∈Region.ready .any all af:=by rw[hr];simp
    obtain⟨h1,o,h2,_⟩:=mem_ready.1 hj;have:j∈((W9 all.size).filter fun i=> !af.getD i true):=by
     rw[Xu,Xm];exact⟨(X2.1 h2).1,by simp[h1]⟩
    rw[h0]at this;simp at this
  exact⟨la,lU hD la⟩
 |succ fuel ih=>
  intro af k0 g a w hf hD;refine⟨fun hr=>lU hD hr,fun j hj=>?_⟩;obtain⟨mX,o,ho,cG⟩:=mem_ready.1 hj;have mY:=er mX;have rP:j<all.size:=(X2.1 ho).1;have jA:j<af.size:=by rw[hD.eI];exact rP
  have cB:∀e∈o.after,Region.binds .any e=true->af[e.on]? =some true:=fun e he hb=>cF.1 (cG e he hb)
  have cv:∀k,((aX all.toList []).getD j 0).testBit k=true->af[k]? =some true:=mW hD.closed j o ho cB;have bZ:∀(i:Nat) oi,all[i]? =some oi->af[i]? =some true->((aX all.toList []).getD i 0).testBit j=false:=fun i oi aV bE=>by
   cases hb:((aX all.toList []).getD i 0).testBit j with
   |false=>rfl
   |true=>have:=mW hD.closed i oi aV (hD.closed i oi aV bE) j hb;rw[mY]at this;simp at this
  have jJ:∀t∈o.looksAt all,∀x,look (σ j).fr t=some x->∃u,a.tmps[t]? =some u/\aO g w (σ k0).A x u:=by
   intro t ht x hx;by_cases hex:∃(i:Nat) (oi:Oper),i<j/\all[i]? =some oi/\oi.dst=some t
   ·obtain⟨i,oi,kI,aV,cn⟩:=hex;rw[oQ j i oi t (by omega) kI aV cn]at hx;have hp:=b7 i j oi o aV ho kI;have tI:dE all oi o=true:=by simp only[dE,cn];simpa using ht
    simp only[bq,tI,XL,XM]at hp;have hb:((aX all.toList []).getD j 0).testBit i=true:=by simpa using hp.2
    exact hD.ga i oi t x aV (cv i hb) cn hx
   ·rw[oP j t (by omega) (fun i oi kI aV cn=>hex ⟨i,oi,kI,aV,cn⟩)]at hx;refine hD.gd t x (fun i oi aV bE cn=>?_) hx;rcases XV i j with h|h|h
    ·exact hex ⟨i,oi,h,aV,cn⟩
    ·subst h;rw[mY]at bE;simp at bE
    ·have hp:=b7 j i o oi ho aV h;have tI:dE all oi o=true:=by simp only[dE,cn];simpa using ht
     have hb:=bZ i oi aV bE;simp only[bq,tI,hb,XL,XM]at hp;simp at hp
  let cR:=(σ j).fr.filter fun p=>(o.looksAt all).contains p.1
  have ld:∀t,look cR t=if(o.looksAt all).contains t then look (σ j).fr t else none:=fun t=>e8 (fun t=>(o.looksAt all).contains t) (σ j).fr t
  have hS:∀(V:List (List CV)),iA g w ⟨cR,V,(σ k0).A⟩ a:=fun V t x hx=>by
   simp only[ld]at hx;split at hx
   ·rename_i hc;exact jJ t (by simpa using hc) x hx
   ·cases hx
  have gL:∀(V V':List (List CV)) (A A':List bu),∀x∈o.op.operands.toList,bF ⟨cR,V,A⟩ x=bF ⟨(σ j).fr,V',A'⟩ x:=fun V V' A A' x hx=>by
   cases x with
   |tmp t=>
    simp only[bF,ld];rw[if_pos];simp only[Oper.looksAt,Xr,decide_eq_true_eq,Xi,XC];exact .inl ⟨.tmp t,hx,rfl⟩
   |_=>rfl
  have gU:Rp n w0 g0 ⟨cR,(σ k0).V,(σ k0).A⟩ g a w:=⟨hD.inv,hD.fr,hD.size,hD.defers,hS _⟩;obtain⟨⟨uP,ft⟩,Du⟩:=lV j o ho;have oR:iv all ⟨cR,(σ k0).V,(σ k0).A⟩ o True True/\gw all ⟨cR,(σ k0).V,(σ k0).A⟩ o=gw all (σ j) o:=by
   unfold iv gw at*;cases nN:o.guard with
   |none=>simp
   |some jw=>
    obtain⟨q,want⟩:=jw;simp only[nN]at uP⊢;obtain⟨oq,h1,h2⟩:=cC uP;obtain⟨t,h3,h4⟩:=cC h2;have:look cR t=look (σ j).fr t:=by
     rw[ld,if_pos];simp only[Oper.looksAt,nN,Xr,decide_eq_true_eq,Xi];exact .inr (by simp[h1,h3])
    simp only[h1,bU,h3,W4,this]at h4⊢;exact⟨h4,trivial⟩
  have lC:Region.wanted o (yielded all a.tmps)=gw all (σ j) o:=by
   rw[<-oR.2];have h0:=fZ oR.1;have h1:=oR.1;unfold iv at h1;unfold gw;cases nN:o.guard with
   |none=>simp[Region.wanted,nN]
   |some jw=>
    obtain⟨q,want⟩:=jw;simp only[nN]at h1⊢;obtain⟨oq,h2,h3⟩:=cC h1;obtain⟨t,h4,h5⟩:=cC h3;obtain⟨x,h6,h7⟩:=cC h5;obtain⟨h8,h9⟩:=jI gU h2 h4 h6;simp only[h2,W4,h4,h6];split at h7
    ·rename_i b;simp[Region.wanted,nN,h8 b rfl]
    ·simp[Region.wanted,nN,h9 rfl]
    ·exact h7.elim
  have bN:∀i,(af.setIfInBounds j true)[i]? =if i=j then some true else af[i]? :=fun i=>by
   by_cases e:i=j
   ·subst e;simp[jA]
   ·rw[if_neg e,X4 (fun h=>e h.symm)]
  have c4:((W9 all.size).filter fun i=> !(af.setIfInBounds j true).getD i true).length<=fuel:=by
   have ax:((W9 all.size).filter fun i=> !(af.setIfInBounds j true).getD i true).length<((W9 all.size).filter fun i=> !af.getD i true).length:=by
    have gK:∀i,(!(af.setIfInBounds j true).getD i true)=true->(!af.getD i true)=true:=fun i h=>by
     by_cases e:i=j
     ·subst e;simp[jA]at h
     ·have:(af.setIfInBounds j true).getD i true=af.getD i true:=by
       simp only[X8,bN,if_neg e]
      rwa[this]at h
    exact filter_lt gK (Xm.2 rP) (by simp[mX]) (by simp[jA])
   omega
  have cM:∀(k1:Nat) (x:AV) (v:Value) (w':World) (g':Gh),look (σ (j+1)).fr=look ((σ j).put o.dst x [] []).fr->aO g' w' (σ k1).A x v->Inv g' w' (σ k1).V (σ k1).A->Ext g w (σ k0).A g' w' (σ k1).A->Fr w0 g0 w' g'->k1<=all.size->
    (∀i∈ws,i<all.size->((af.setIfInBounds j true)[i]? =some true↔i<k1))->DS all ws σ n w0 g0 (af.setIfInBounds j true) k1 g' (a.put o.dst v) w':=by
   intro k1 x v w' g' C6 yv hI hx hF hk FH;have iY:∀t u,o.dst≠some t->a.tmps[t]? =some u->(a.put o.dst v).tmps[t]? =some u:=fun t u dj hu=>by
    cases q9:o.dst with
    |none=>exact hu
    |some d=>
     simp only[Act.put];rw[X4 (fun e=>dj (by rw[q9,e]))];exact hu
   refine⟨hI,hF,?_,?_,by simp[hD.eI],fun i oi t y aV bE cn hy=>?_,fun t y iw hy=>?_,FH,hk,fun i oi aV bE e he hb=>?_⟩
   ·cases o.dst<;>simp[Act.put,hD.size]
   ·cases o.dst<;>simp[Act.put,hD.defers]
   ·rw[bN]at bE;by_cases e:i=j
    ·subst e;obtain rfl:o=oi:=by rw[ho]at aV;exact Option.some.inj aV
     rw[C6]at hy;simp only[St.put,cn,look,if_true]at hy;cases hy
     refine⟨v,?_,yv⟩;have:t<a.tmps.size:=by rw[hD.size];exact Ae i o t ho cn
     simp[Act.put,cn,this]
    ·rw[if_neg e]at bE;obtain⟨u,h1,h2⟩:=hD.ga i oi t y aV bE cn hy;exact⟨u,iY t u (fun h=>e (rj i j oi o t aV ho cn h)) h1,aO.ext hx h2⟩
   ·have dj:o.dst≠some t:=iw j o ho (by rw[bN,if_pos rfl]);obtain⟨u,h1,h2⟩:=hD.gd t y (fun i oi aV bE=>iw i oi aV (by
     rw[bN];by_cases e:i=j
     ·rw[if_pos e]
     ·rw[if_neg e];exact bE)) hy
    exact⟨u,iY t u dj h1,aO.ext hx h2⟩
   ·rw[bN]at bE⊢;have:af[e.on]? =some true:=by
     by_cases e':i=j
     ·subst e';obtain rfl:o=oi:=by rw[ho]at aV;exact Option.some.inj aV
      exact cB e he hb
     ·rw[if_neg e']at bE;exact hD.closed i oi aV bE e he hb
    by_cases e':e.on=j
    ·rw[if_pos e']
    ·rw[if_neg e'];exact this
  have il:j∉ws->∀i∈ws,i<all.size->((af.setIfInBounds j true)[i]? =some true↔i<k0):=fun ez i hi b8=>by
   rw[bN,if_neg (fun e=>ez (by rw[<-e];exact hi))];exact hD.ep i hi b8
  have kV:cO o.op=false->(σ j).V=(σ k0).V/\(σ j).A=(σ k0).A:=by
   intro fK;rcases XY j k0 with h|h
   ·have:=tH k0 j h hD.nL (fun i h1 h2 h3=>by
     have b8:i<all.size:=by have:=hD.nL;omega
     have bE:=(hD.ep i h3 b8).2 h2;have aV:all[i]? =some all[i]:=X1 b8;rcases XQ j i with h4|h4
     ·have hp:=b7 j i o _ ho aV h4;have hb:=bZ i _ aV bE;simp only[bq,hb,XL,XM]at hp;simp[h3,fK]at hp
     ·obtain rfl:i=j:=by omega
      rw[mY]at bE;simp at bE)
    exact⟨this.1.symm,this.2.symm⟩
   ·exact tH j k0 h (by omega) (fun i h1 h2 h3=>by
     have b8:i<all.size:=by omega
     have aV:all[i]? =some all[i]:=X1 b8;have hp:=b7 i j _ o aV ho h2;simp only[bq,XL,XM]at hp;have hb:((aX all.toList []).getD j 0).testBit i=true:=by
      rcases hp.2 with h4|h4
      ·simp[h3,fK]at h4
      ·exact h4
     have:=(hD.ep i h3 b8).1 (cv i hb);omega)
  unfold wpOp;simp only[ho];rcases ft with⟨h1,x,V,A,h2,h3⟩|⟨h1,h2⟩
  ·rw[if_pos (by rw[lC,h1])];refine .inl ?_;by_cases hs:cO o.op=true
   ·-- slots alone
    have ez:j∉ws:=fun h=>by have:=uT j o ho h;rw[hs]at this;simp at this
    have h4:bI P ⟨cR,(σ k0).V,(σ k0).A⟩ (ow j) o (fun y V' A'=>y=x/\V'=(σ k0).V/\A'=(σ k0).A):=nK (s:=σ j) (s':=⟨cR,(σ k0).V,(σ k0).A⟩) hs (gL _ _ _ _) h3 ⟨rfl,rfl,rfl⟩;obtain⟨y,V',A',⟨rfl,rfl,rfl⟩,h5⟩:=dk gU.inv gU.fr gU.slot h4;refine h5 _ _ fun v w' g' h6 h7 h8 h9=>ih _ k0 g' _ w' c4 (cM k0 y v w' g' (by rw[h2];rfl) h6 h7 h8 h9 hD.nL (il ez))
   ·have fK:cO o.op=false:=by simpa using hs
    obtain⟨kK,iZ⟩:=kV fK;have h4:bI P ⟨cR,(σ k0).V,(σ k0).A⟩ (ow j) o (fun y V' A'=>y=x/\V'=V/\A'=A):=by
     rw[<-kK,<-iZ];exact eo (fr:=(σ j).fr) (gL _ _ _ _) (h3 _ ⟨rfl,rfl,rfl⟩)
    obtain⟨y,V',A',⟨rfl,rfl,rfl⟩,h5⟩:=dk gU.inv gU.fr gU.slot h4;have tc:(σ (j+1)).V=V':=by rw[h2];rfl
    have jo:(σ (j+1)).A=A':=by rw[h2];rfl
    by_cases ez:j∈ws
    ·refine h5 _ _ fun v w' g' h6 h7 h8 h9=>ih _ (j+1) g' _ w' c4 (cM (j+1) y v w' g' (by rw[h2];rfl) (by rw[jo];exact h6) (by rw[tc,jo];exact h7) (by rw[jo];exact h8) h9 (by omega) (fun i hi b8=>?_))
     have aV:all[i]? =some all[i]:=X1 b8;rw[bN];by_cases e:i=j
     ·subst e;simp
     ·rw[if_neg e];constructor
      ·intro bE;rcases XQ j i with h|h
       ·have hp:=b7 j i o _ ho aV h;have hb:=bZ i _ aV bE;simp only[bq,hb,XL,XM]at hp;simp[hi,fK]at hp
       ·omega
      ·intro ax;have hp:=b7 i j _ o aV ho (by omega);simp only[bq,XL,XM]at hp;rcases hp.2 with h|h
       ·simp[hi,fK]at h
       ·exact cv i h
    ·rcases Du with Du|⟨p9,mI⟩
     ·exact absurd Du ez
     ·refine h5 _ _ fun v w' g' h6 h7 h8 h9=>ih _ k0 g' _ w' c4 (cM k0 y v w' g' (by rw[h2];rfl) ?_ ?_ ?_ h9 hD.nL (il ez))
      ·rw[<-iZ,<-mI,jo];exact h6
      ·rw[<-kK,<-iZ,<-p9,<-mI,tc,jo];exact h7
      ·have e1:(σ k0).A=A':=by rw[<-iZ,<-mI,jo]
       rw[e1]at h8⊢;exact h8
  ·rw[if_neg (by rw[lC,h1];simp)];have tc:(σ (j+1)).V=(σ j).V:=by rw[h2];rfl
   have jo:(σ (j+1)).A=(σ j).A:=by rw[h2];rfl
   by_cases ez:j∈ws
   ·have fK:=uT j o ho ez;obtain⟨kK,iZ⟩:=kV fK;refine ih _ (j+1) g _ w c4 (cM (j+1) (.c .undef) undef w g (by rw[h2];rfl) rfl ?_ ?_ hD.fr (by omega) (fun i hi b8=>?_))
    ·rw[tc,jo,kK,iZ];exact hD.inv
    ·rw[jo,iZ];exact .refl _ _ _
    ·have aV:all[i]? =some all[i]:=X1 b8;rw[bN];by_cases e:i=j
     ·subst e;simp
     ·rw[if_neg e];constructor
      ·intro bE;rcases XQ j i with h|h
       ·have hp:=b7 j i o _ ho aV h;have hb:=bZ i _ aV bE;simp only[bq,hb,XL,XM]at hp;simp[hi,fK]at hp
       ·omega
      ·intro ax;have hp:=b7 i j _ o aV ho (by omega);simp only[bq,XL,XM]at hp;rcases hp.2 with h|h
       ·simp[hi,fK]at h
       ·exact cv i h
   ·exact ih _ k0 g _ w c4 (cM k0 (.c .undef) undef w g (by rw[h2];rfl) rfl hD.inv (.refl _ _ _) hD.fr hD.nL (il ez))
theorem T.uV {id:Nat} {ops:Array Oper} (hm:P.follows .mixedOrders=true) (ow:Nat->Bool) (ws:List Nat) (hd:eC ops ws=true) (h:px P ops ow ws (fun s'=>Q .normal s') 0 ops.toList s):T P n (.region id ops true) Q s:=by
 intro eT w0 g0 g a w hR;obtain⟨σ,h0,hK,lV⟩:=py ops.toList 0 s h;obtain⟨hI,hx⟩:=hR.inv.heap (w':={w with drawn:=w.drawn+1}) rfl;refine wp_region_any hm (Dt (K:=fun s'=>Q .normal s') (w0:=w0) (g0:=g0) (n:=n) (σ:=σ) (ow:=ow) hd eT (fun j o ho=>?_) ?_ (fun s' g' a' w' h1 h2=>⟨s',g',h1,h2⟩) ops.size (X6 ops.size false) 0 g a _ ?_ ?_)
 ·have:=lV j o (by simpa using ho);simpa only[XT]using this
 ·simpa using hK
 ·exact XS (XF _ _) (by simp)
 ·refine⟨by rw[h0];exact hI,hR.fr.heap rfl rfl rfl rfl,hR.size,hR.defers,by simp,fun i o t x ho hl=>?_,fun t x _ gI=>?_,fun i _ b8=>?_,XR _,fun i o ho hl=>?_⟩
  ·have hi:=(X2.1 ho).1;simp[hi]at hl
  ·rw[h0]at gI⊢;obtain⟨u,h1,h2⟩:=hR.slot t x gI;exact⟨u,h1,aO.ext hx h2⟩
  ·simp[b8]
  ·have hi:=(X2.1 ho).1;simp[hi]at hl
end
abbrev AV.i (n:Int):AV:=.c (.d (.int .i64 n))
abbrev AV.b (x:Bool):AV:=.c (.d (.bool x))
abbrev AV.s (x:List UInt8):AV:=.c (.d (.str x))
abbrev AV.l (x:List (List DV)):AV:=.c (.d (.sl x))
abbrev DV.i (n:Int):DV:=.int .i64 n
theorem wrap64 {n:Int} (h:-9223372036854775808<=n) (h':n<=9223372036854775807):IntKind.i64.wrap n=n:=by
 have e:IntKind.i64.wrap n=if 9223372036854775808<=n % 18446744073709551616 then n % 18446744073709551616-18446744073709551616 else n % 18446744073709551616:=by simp[IntKind.wrap,IntKind.signed,IntKind.bits]
 rw[e];split<;>omega
section
variable {P:Program} {n:Nat} {Q Q':Exit->St->Prop} {s s':St} {y:Code}
theorem nO {α:Type} {o:Option α} {k k':α->Prop} (hk:∀v,k v->k' v) (h:bU o k):bU o k':=by
 cases o with
 |none=>exact h.elim
 |some v=>exact hk v h
theorem nP {all:Array Oper} {o:Oper} {y n y' n':Prop} (hy:y->y') (hn:n->n') (h:iv all s o y n):iv all s o y' n':=by
 unfold iv at h⊢;split
 ·rename_i e;rw[e]at h;exact hy h
 ·rename_i j want e;rw[e]at h;refine nO (fun oj=>nO fun t=>nO fun x=>?_) h;intro h;split at h
  ·exact⟨fun a=>hy (h.1 a),fun a=>hn (h.2 a)⟩
  ·exact hn h
  ·exact h.elim
theorem gm {o:Oper} {ow:Bool} {K K':AV->List (List CV)->List bu->Prop} (hk:∀x V A,K x V A->K' x V A) (h:bI P s ow o K):bI P s ow o K':=by
 obtain⟨x,V,A,h1,h2⟩:=gl h;exact h2 K' (hk x V A h1)
structure C7 (P:Program) (all:Array Oper) (ow:Nat->Bool) (K:St->Prop) (i:Nat) (ops:List Oper) (s:St):Prop where
 mk::
 run:wI P all ow K i ops s
structure tJ (P:Program) (all:Array Oper) (ow:Nat->Bool) (ws:List Nat) (K:St->Prop) (i:Nat) (ops:List Oper) (s:St):Prop where
 mk::
 run:px P all ow ws K i ops s
theorem ae {all:Array Oper} {ow:Nat->Bool} {K:St->Prop} {i:Nat} {o:Oper} {rest:List Oper} (h:iv all s o (bI P s (ow i) o fun x V A=>C7 P all ow K (i+1) rest (s.put o.dst x V A)) (C7 P all ow K (i+1) rest (s.put o.dst (.c .undef) s.V s.A))):C7 P all ow K i (o::rest) s:=
 ⟨nP (fun h=>gm (fun _ _ _ h=>h.run) h) (fun h=>h.run) h⟩
theorem ab {all:Array Oper} {ow:Nat->Bool} {K:St->Prop} {i:Nat} (h:K s):C7 P all ow K i [] s:=⟨h⟩
theorem aI {all:Array Oper} {ow:Nat->Bool} {ws:List Nat} {K:St->Prop} {i:Nat} {o:Oper} {rest:List Oper} (h:iv all s o (bI P s (ow i) o fun x V A=>(i∈ws\/(V=s.V/\A=s.A))/\tJ P all ow ws K (i+1) rest (s.put o.dst x V A)) (tJ P all ow ws K (i+1) rest (s.put o.dst (.c .undef) s.V s.A))):tJ P all ow ws K i (o::rest) s:=
 ⟨nP (fun h=>gm (fun _ _ _ h=>⟨h.1,h.2.run⟩) h) (fun h=>h.run) h⟩
theorem aC {all:Array Oper} {ow:Nat->Bool} {ws:List Nat} {K:St->Prop} {i:Nat} (h:K s):tJ P all ow ws K i [] s:=⟨h⟩
theorem T.rs {id:Nat} {l:List Oper} (ow:Nat->Bool) (h:∀K:St->Prop,(∀s',T P n y Q s'->K s')->C7 P l.toArray ow K 0 l s):T P n (.seq (.region id l.toArray false) y) Q s:=
 T.seq (T.region ow (h _ fun _ h=>h).run)
theorem T.rd {id:Nat} {l:List Oper} (hm:P.follows .mixedOrders=true) (ow:Nat->Bool) (ws:List Nat) (hd:eC l.toArray ws=true) (h:∀K:St->Prop,(∀s',T P n y Q s'->K s')->tJ P l.toArray ow ws K 0 l s):T P n (.seq (.region id l.toArray true) y) Q s:=
 T.seq (T.uV hm ow ws hd (h _ fun _ h=>h).run)
theorem T.fm {id:Nat} {l:List Oper} (ow:Nat->Bool) (h:∀K:St->Prop,(∀s',Q .normal s'->K s')->C7 P l.toArray ow K 0 l s):T P n (.region id l.toArray false) Q s:=
 T.region ow (h _ fun _ h=>h).run
theorem T.yA {id:Nat} {l:List Oper} (hm:P.follows .mixedOrders=true) (ow:Nat->Bool) (ws:List Nat) (hd:eC l.toArray ws=true) (h:∀K:St->Prop,(∀s',Q .normal s'->K s')->tJ P l.toArray ow ws K 0 l s):T P n (.region id l.toArray true) Q s:=
 T.uV hm ow ws hd (h _ fun _ h=>h).run
@[congr] theorem M3 {all:Array Oper} {ow:Nat->Bool} {K:St->Prop} {i i':Nat} {ops:List Oper} (hi:i=i') (h:s=s'):C7 P all ow K i ops s=C7 P all ow K i' ops s':=by rw[h,hi]
@[congr] theorem LB {all:Array Oper} {ow:Nat->Bool} {ws:List Nat} {K:St->Prop} {i i':Nat} {ops:List Oper} (hi:i=i') (h:s=s'):tJ P all ow ws K i ops s=tJ P all ow ws K i' ops s':=by rw[h,hi]
@[congr] theorem LC {o:Oper} {ow:Bool} {K:AV->List (List CV)->List bu->Prop} (h:s=s'):bI P s ow o K=bI P s' ow o K:=by rw[h]
@[congr] theorem NK {o:Op} {ow:Bool} {K:AV->List (List CV)->List bu->Prop} (h:s=s'):eS P s ow o K=eS P s' ow o K:=by rw[h]
@[congr] theorem NL {all:Array Oper} {o:Oper} {y n:Prop} (h:s=s'):iv all s o y n=iv all s' o y n:=by rw[h]
@[congr] theorem NM {α:Type} {o o':Option α} {k:α->Prop} (h:o=o'):bU o k=bU o' k:=by rw[h]
def kL:List (Nat×AV)->List (Nat×AV)->Prop
 |[],_=>True
 |(t,x)::r,fr=>look fr t=some x/\kL r fr
theorem kL.look:∀{l fr:List (Nat×AV)},kL l fr->∀t x,look l t=some x->look fr t=some x
 |[],_,_,t,x,h=>by simp[Av.look]at h
 |(t',x')::r,fr,hs,t,x,h=>by
  simp only[Av.look]at h;split at h
  ·rename_i e;subst e;simp at h;subst h;exact hs.1
  ·exact kL.look hs.2 t x h
def Sub (s s':St):Prop:=s.V=s'.V/\s.A=s'.A/\kL s.fr s'.fr
theorem T.sub {c:Code} (h:T P n c Q s) (hs:Sub s s'):T P n c Q s':=by
 obtain⟨h1,h2,h3⟩:=hs;refine T.forget s.fr (kL.look h3) ?_;rw[<-h1,<-h2];exact h
def Round {α:Type} (S:α->St) (m:α->Nat) (H:α->Prop) (k:Nat) (Q:Exit->St->Prop):Exit->St->Prop
 |.normal,s'=>∃a',m a'<k/\H a'/\Sub (S a') s'
 |e,s'=>Q e s'
theorem T.gy {α:Type} {c:Code} (S:α->St) (m:α->Nat) (H:α->Prop) (h:∀a,H a->T P n c (Round S m H (m a) Q) (S a)) (a:α) (ha:H a) (hs:Sub (S a) s):T P n (.loop c) Q s:=by
 refine T.loop (fun k s=>∃a,m a=k/\H a/\(S a).V=s.V/\(S a).A=s.A/\∀t x,look (S a).fr t=some x->look s.fr t=some x) ?_ (k:=m a) ⟨a,rfl,ha,hs.1,hs.2.1,kL.look hs.2.2⟩;rintro k s1 ⟨a',rfl,h2,h3,h4,h5⟩;refine T.forget (S a').fr h5 ?_;rw[<-h3,<-h4];refine T.mono (h a' h2) fun e s2 h6=>?_
 cases e with
 |normal=>
  obtain⟨a2,h7,h8,h9,cJ,eG⟩:=h6;exact⟨_,h7,a2,rfl,h8,h9,cJ,kL.look eG⟩
 |_=>exact h6
@[congr] theorem KK {s s':St} {f:FuncId} {xs xs':List AV} {K:AV->List (List CV)->List bu->Prop} (hs:s=s') (hx:xs=xs'):gJ P s f xs K=gJ P s' f xs' K:=by subst hs;subst hx;rfl
theorem aa {f:FuncId} {xs as:List AV} {r:AV} {K:AV->List (List CV)->List bu->Prop} (b8:ib s.A [] xs=some as) (hc:ah P f as [] r [] []) (hK:K (r.fS [] s.V.length s.A.length) s.V (bQ s.A (bA xs))):gJ P s f xs K:=by
 refine .inl ⟨[],as,[],r,[],[],Xh,b8,rfl,hc,?_⟩;simpa[ck,bK]using hK
theorem aB.pure {fn:Func} {r x:AV} {e:Exit} (he:e=.normal\/e=.ret) (hr:fu P s fn.results.toList=some [x]) (hx:x.qF s.A [] []=some r):aB P fn 0 r [] [] e s:=
 ⟨he,[],[],[x],[r],hr,Xh,Xh,by simp,by simp[ay,hx],rfl,rfl,rfl⟩
end
def SX {α:Type} (f:α->List DV) (z:List DV) (l:List α) (i:Nat):List (List DV):=(l.take i).map f++List.replicate (l.length-i) z
section
variable {α:Type} {f:α->List DV} {z:List DV} {l:List α} {i:Nat}
theorem bR (h:i<l.length):∃o,l[i]? =some o:=⟨l[i],W8 h⟩
end
theorem dQ {p:Prop} (h:p):p:=h
attribute [simp] bI eS iv bU bF iz mz rX mO z6 rowsOf look tq St.put gQ Fy b9 zY Jk rW rV EA AV.plain AV.cells CV.j5 nE iL kJ fM bQ ib AV.kT CV.kT qD AV.fS CV.fS bA iM kk oE cO fu uQ AV.qF CV.res se pos? wD wJ gR Sub kL kU
section
variable {P:Program} {n:Nat} {Q:Exit->St->Prop} {s:St} {y:Code}
theorem T.ct {c:Operand} {x z:Code} (hc:bF s c=some (.c (.d (.bool true)))) (h:T P n x Q s):T P n (.cond c x z) Q s:=T.cond hc (fun _=>h) (fun h=>absurd h (by decide))
theorem T.cf {c:Operand} {x z:Code} (hc:bF s c=some (.c (.d (.bool false)))) (h:T P n z Q s):T P n (.cond c x z) Q s:=T.cond hc (fun h=>absurd h (by decide)) (fun _=>h)
theorem T.r0 {id:Nat} {l:List Oper} (h:∀K:St->Prop,(∀s',T P n y Q s'->K s')->C7 P l.toArray (fun _=>false) K 0 l s):T P n (.seq (.region id l.toArray false) y) Q s:=T.rs (fun _=>false) h
theorem T.r1 {id:Nat} {l:List Oper} (h:∀K:St->Prop,(∀s',Q .normal s'->K s')->C7 P l.toArray (fun _=>false) K 0 l s):T P n (.region id l.toArray false) Q s:=T.fm (fun _=>false) h
end
end Go.Av
namespace Go.Av
open Go
section
variable {P:Program} {all:Array Oper} {ow:Nat->Bool} {K:St->Prop} {i:Nat} {ops:List Oper} {ws:List Nat} {d:Nat} {b:Bool} {fr:List (Nat×AV)} {V:List (List CV)} {A:List bu}
theorem C7.gen (h:∀q:Bool,b=q->C7 P all ow K i ops ⟨(d,.c (.d (.bool q)))::fr,V,A⟩):C7 P all ow K i ops ⟨(d,.c (.d (.bool b)))::fr,V,A⟩:=h b rfl
theorem tJ.gen (h:∀q:Bool,b=q->tJ P all ow ws K i ops ⟨(d,.c (.d (.bool q)))::fr,V,A⟩):tJ P all ow ws K i ops ⟨(d,.c (.d (.bool b)))::fr,V,A⟩:=h b rfl
end
theorem aB.data {P:Program} {s:St} {fn:Func} {r:AV} {e:Exit} (he:e=.normal\/e=.ret) (hr:fu P s fn.results.toList=some [r]) (hx:r.qF s.A [] []=some r):aB P fn 0 r [] [] e s:=aB.pure he hr hx
theorem EK {a b:Int} (h:¬a=b):(a==b)=false:=by simpa using h
abbrev dV (rows:List (List DV)):List (List CV):=rows.map fun r=>r.map CV.d
section
variable {P:Program} {s:St} {A:List bu} {f:FuncId} {xs as:List AV} {r:AV} {K:AV->List (List CV)->List bu->Prop}
theorem Hu {ids:List Nat}:∀(r:List DV),qD A ids (r.map CV.d)=some (r.map CV.d)
 |[]=>rfl
 |x::r=>by simp[Hu r]
theorem Hv {os ks:List Nat}:∀(r:List DV),se A os ks (r.map CV.d)=some (r.map CV.d)
 |[]=>rfl
 |x::r=>by simp[Hv r]
theorem vX {ids:List Nat} {V:List (List CV)}:∀(ls:List Nat) (rows:List (List DV)),ls.length=rows.length->(∀(j l:Nat) row,ls[j]? =some l->rows[j]? =some row->V[l]? =some (row.map CV.d))->ic A V ids ls=some (dV rows)
 |[],[],_,_=>rfl
 |l::ls,row::rows,hl,h=>by
  simp only[ic,h 0 l row rfl rfl,vX ls rows (by simpa using hl) (fun j l row h1 h2=>h (j+1) l row (by simpa using h1) (by simpa using h2)),Hu]
  rfl
 |[],_::_,hl,_=>by simp at hl
 |_::_,[],hl,_=>by simp at hl
theorem vY {os ks:List Nat} {V:List (List CV)}:∀(ls:List Nat) (rows:List (List DV)),ls.length=rows.length->(∀(j l:Nat) row,ls[j]? =some l->rows[j]? =some row->V[l]? =some (row.map CV.d))->fD A V os ks ls=some (dV rows)
 |[],[],_,_=>rfl
 |l::ls,row::rows,hl,h=>by
  simp only[fD,h 0 l row rfl rfl,vY ls rows (by simpa using hl) (fun j l row h1 h2=>h (j+1) l row (by simpa using h1) (by simpa using h2)),Hv]
  rfl
 |[],_::_,hl,_=>by simp at hl
 |_::_,[],hl,_=>by simp at hl
theorem sg {nA nV:Nat} {ids:List Nat}:∀(ls:List Nat) (rows:List (List DV)) (V:List (List CV)),ls.length=rows.length->(∀(j l:Nat) row,ls[j]? =some l->rows[j]? =some row->V[l]? =some (row.map CV.d))->ck nA nV ids V ls (dV rows)=V
 |[],[],V,_,_=>by simp[ck]
 |l::ls,row::rows,V,hl,h=>by
  have h0:=h 0 l row rfl rfl;have hm:(row.map CV.d).map (CV.fS ids nV nA)=row.map CV.d:=by simp[XD,Function.comp_def]
  have bN:V.set l (row.map CV.d)=V:=by
   obtain⟨h1,h2⟩:=W5.1 h0;rw[<-h2];simp
  simp only[dV,Xk,ck,hm,bN];exact sg ls rows V (by simpa using hl) (fun j l row h1 h2=>h (j+1) l row (by simpa using h1) (by simpa using h2))
 |[],_::_,_,hl,_=>by simp at hl
 |_::_,[],_,hl,_=>by simp at hl
theorem nQ {V:List (List CV)}:∀(ls:List Nat) (rows:List (List DV)),ls.length=rows.length->(∀(j l:Nat) row,ls[j]? =some l->rows[j]? =some row->V[l]? =some (row.map CV.d))->∃ds:List DV,bK V ls=ds.map CV.d
 |[],[],_,_=>⟨[],rfl⟩
 |l::ls,row::rows,hl,h=>by
  obtain⟨ds,hd⟩:=nQ ls rows (by simpa using hl) (fun j l row h1 h2=>h (j+1) l row (by simpa using h1) (by simpa using h2));refine⟨row++ds,?_⟩;have h0:=h 0 l row rfl rfl;simp only[bK,Xf]at hd⊢;rw[hd];simp[Xd,h0]
 |[],_::_,hl,_=>by simp at hl
 |_::_,[],hl,_=>by simp at hl
theorem sh:∀(ds:List DV) (A:List bu),bQ A (ds.map CV.d)=A
 |[],A=>rfl
 |d::ds,A=>by
  simp only[Xk,bQ,Xp,fM];exact sh ds A
theorem mC (A:List bu) (cs ds:List CV):bQ A (cs++ds)=bQ (bQ A cs) ds:=by simp[bQ]
theorem BE (ids:List Nat) (rows:List (List DV)) (oO:ids.Nodup) (hlen:ids.length=rows.length) (Bt:∀(j l:Nat) row,ids[j]? =some l->rows[j]? =some row->s.V[l]? =some (row.map CV.d)) (b8:ib s.A ids xs=some as) (hc:ah P f as (dV rows) r (dV rows) [])
  (hK:K (r.fS ids s.V.length s.A.length) s.V (bQ s.A (bA xs))):gJ P s f xs K:=by
 refine .inl ⟨ids,as,dV rows,r,dV rows,[],oO,b8,vX ids rows hlen Bt,hc,?_⟩;rw[sg ids rows s.V hlen Bt];obtain⟨ds,hd⟩:=nQ ids rows hlen Bt;rw[hd,mC,sh,Xl];exact hK
theorem aB.QW {fn:Func} {e:Exit} {rows:List (List DV)} {m:Nat} (hm:m=rows.length) (he:e=.normal\/e=.ret) (hr:fu P s fn.results.toList=some [r]) (hx:r.qF s.A (W9 rows.length) []=some r)
  (hV:∀(l:Nat) row,rows[l]? =some row->s.V[l]? =some (row.map CV.d)):aB P fn m r (dV rows) [] e s:=by
 subst hm;refine⟨he,[],[],[r],[r],hr,Xh,Xh,by simp,?_,rfl,?_,rfl⟩
 ·rw[Xl];simp only[ay,hx]
 rw[Xl];refine vY (W9 rows.length) rows (by simp) fun j l row h1 h2=>?_
 have hj:j<rows.length:=(W5.1 h2).1;simp[hj]at h1;subst h1;exact hV j row h2
end
def jm {α β:Type} (q:α->β->Bool):List α->List β->Bool
 |[],[]=>true
 |x::xs,y::ys=>q x y && jm q xs ys
 |_,_=>false
theorem si {α β:Type} {q:α->β->Bool}:∀{xs:List α} {ys:List β},jm q xs ys=true->xs.length=ys.length
 |[],[],_=>rfl
 |x::xs,y::ys,h=>by simp[jm]at h;simp[si h.2]
 |[],_::_,h=>by simp[jm]at h
 |_::_,[],h=>by simp[jm]at h
theorem Jy {α β:Type} {q:α->β->Bool} {xs:List α} {ys:List β} (h:xs.length≠ys.length):jm q xs ys=false:=by
 cases hq:jm q xs ys
 ·rfl
 ·exact absurd (si hq) h
def eB {α:Type} (q:α->Bool):List α->Int->Int
 |[],_=>-1
 |x::xs,i=>if q x=true then i else eB q xs (i+1)
theorem mc {α:Type} {q:α->Bool}:∀{xs:List α} {i:Int},0<=i->(decide (0<=eB q xs i)=xs.any q)
 |[],i,_=>by simp[eB]
 |x::xs,i,h=>by
  by_cases hq:q x=true
  ·simp[eB,hq,h]
  ·have hr:=mc (q:=q) (xs:=xs) (i:=i+1) (by omega);simp only[eB,hq,List.any_cons];simpa using hr
theorem pz {α:Type} (p:α->Bool):∀(l:List α),(!l.any fun x=> !p x)=l.all p
 |[]=>rfl
 |x::l=>by simp[<-pz p l,Bool.not_or]
theorem drop_cons {α:Type} {l:List α} {p:Nat} (h:p<l.length):l.drop p=l[p]::l.drop (p+1):=by rw[List.drop_eq_getElem_cons h]
@[simp] theorem ja {α:Type} (G X:List α) (k:Nat):(G++X)[G.length+k]? =X[k]? :=by
 rw[W7 (by omega)];congr 1;omega
@[simp] theorem gV {α:Type} (G X:List α):(G++X)[G.length]? =X[0]? :=by
 rw[W7 (by omega)];congr 1;omega
@[simp] theorem jb {α:Type} (G X:List α) (k:Nat) (v:α):(G++X).set (G.length+k) v=G++X.set k v:=by
 rw[XA _ _ (by omega)];congr 2;omega
@[simp] theorem gW {α:Type} (G X:List α) (v:α):(G++X).set G.length v=G++X.set 0 v:=by
 rw[XA _ _ (by omega)];congr 2;omega
theorem y7 {α β:Type} {q:α->β->Bool} {x:α} {y:β} {xs:List α} {ys:List β}:jm q (x::xs) (y::ys)=(q x y && jm q xs ys):=rfl
theorem BF {α β:Type} {q:α->β->Bool}:jm q [] ([]:List β)=true:=rfl
abbrev Ux (n:Nat):List AV:=(W9 n).map fun l=>.c (.ptr l 0)
section
variable {P:Program} {s:St} {A:List bu} {f:FuncId} {xs as:List AV} {r:AV} {K:AV->List (List CV)->List bu->Prop}
theorem me (l:Nat) (row:List DV) (ef:s.V[l]? =some (row.map CV.d)) (b8:ib s.A [l] xs=some as) (hc:ah P f as (dV [row]) r (dV [row]) [])
  (hK:K (r.fS [l] s.V.length s.A.length) s.V (bQ s.A (bA xs))):gJ P s f xs K:=by
 refine BE [l] [row] (by simp) rfl ?_ b8 hc hK;intro j l' row' h1 h2
 match j with
 |0=>simp at h1 h2;subst h1;subst h2;exact ef
 |j+1=>simp at h1
theorem aB.val {fn:Func} {e:Exit} (he:e=.normal\/e=.ret) (hr:(fu P s fn.results.toList).bind (ay s.A [] [])=some [r]):aB P fn 0 r [] [] e s:=by
 cases hx:fu P s fn.results.toList with
 |none=>rw[hx]at hr;simp at hr
 |some xs=>rw[hx]at hr;exact⟨he,[],[],xs,[r],hx,Xh,Xh,by simp,hr,rfl,rfl,rfl⟩
theorem aB.a8 {fn:Func} {e:Exit} {a b:AV} {ys:List AV} (he:e=.normal\/e=.ret) (hr:(fu P s fn.results.toList).bind (ay s.A [] [])=some (a::b::ys)):aB P fn 0 (.a8 (a::b::ys)) [] [] e s:=by
 cases hx:fu P s fn.results.toList with
 |none=>rw[hx]at hr;simp at hr
 |some xs=>rw[hx]at hr;exact⟨he,[],[],xs,_,hx,Xh,Xh,by simp,hr,rfl,rfl,rfl⟩
theorem kq (l:Nat) (row row':List DV) (ef:s.V[l]? =some (row.map CV.d)) (b8:ib s.A [l] xs=some as) (hc:ah P f as (dV [row]) r (dV [row']) [])
  (hK:K (r.fS [l] s.V.length s.A.length) (s.V.set l (row'.map CV.d)) (bQ s.A (bA xs))):gJ P s f xs K:=by
 refine .inl ⟨[l],as,dV [row],r,dV [row'],[],by simp,b8,vX [l] [row] rfl ?_,hc,?_⟩
 ·intro j l' row'' h1 h2
  match j with
  |0=>simp at h1 h2;subst h1;subst h2;exact ef
  |j+1=>simp at h1
 ·obtain⟨ds,hd⟩:=nQ (V:=s.V) [l] [row] rfl (by
   intro j l' row'' h1 h2
   match j with
   |0=>simp at h1 h2;subst h1;subst h2;exact ef
   |j+1=>simp at h1)
  rw[hd,mC,sh,Xl];have hm:(row'.map CV.d).map (CV.fS [l] s.V.length s.A.length)=row'.map CV.d:=by simp[XD,Function.comp_def]
  have hp:ck s.A.length s.V.length [l] s.V [l] (dV [row'])=s.V.set l (row'.map CV.d):=by
   simp only[dV,Xk,List.map_nil,ck,hm,Xl]
  rw[hp];exact hK
theorem aB.oS {fn:Func} {e:Exit} {row:List DV} (he:e=.normal\/e=.ret) (hr:fu P s fn.results.toList=some [r]) (hx:r.qF s.A [0] []=some r)
  (hV:s.V[0]? =some (row.map CV.d)):aB P fn 1 r (dV [row]) [] e s:=by
 refine aB.QW (rows:=[row]) rfl he hr hx ?_;intro l row' h
 match l with
 |0=>simp at h;subst h;exact hV
 |l+1=>simp at h
end
section
variable {P:Program} {n:Nat} {Q:Exit->St->Prop} {s:St} {x y:Code}
def Cut (S:St) (Q:Exit->St->Prop):Exit->St->Prop
 |.normal,s'=>Sub S s'
 |e,s'=>Q e s'
end
end Go.Av
namespace Go.Av
attribute [-simp] Go.Av.ja Go.Av.gV Go.Av.jb Go.Av.gW
open Go
inductive aG where
 |mk (kind:Int) (kids:List aG)
def aG.kind:aG->Int|.mk k _=>k
def aG.kids:aG->List aG|.mk _ l=>l
inductive al where
 |mk (kind:Int) (name:List UInt8) (num:Int) (ty fr:aG) (label:Int) (kids:List al)
def al.kind:al->Int|.mk k _ _ _ _ _ _=>k
def al.name:al->List UInt8|.mk _ s _ _ _ _ _=>s
def al.num:al->Int|.mk _ _ n _ _ _ _=>n
def al.ty:al->aG|.mk _ _ _ t _ _ _=>t
def al.fr:al->aG|.mk _ _ _ _ t _ _=>t
def al.label:al->Int|.mk _ _ _ _ _ l _=>l
def al.kids:al->List al|.mk _ _ _ _ _ _ l=>l
@[simp] theorem aG.b4 (k:Int) (l:List aG):(aG.mk k l).kind=k:=rfl
@[simp] theorem aG.bP (k:Int) (l:List aG):(aG.mk k l).kids=l:=rfl
section
variable (k:Int) (s:List UInt8) (n:Int) (t f:aG) (b:Int) (l:List al)
@[simp] theorem al.b4:(al.mk k s n t f b l).kind=k:=rfl
@[simp] theorem al.mf:(al.mk k s n t f b l).name=s:=rfl
@[simp] theorem al.rk:(al.mk k s n t f b l).num=n:=rfl
@[simp] theorem al.sj:(al.mk k s n t f b l).ty=t:=rfl
@[simp] theorem al.sk:(al.mk k s n t f b l).fr=f:=rfl
@[simp] theorem al.lD:(al.mk k s n t f b l).label=b:=rfl
@[simp] theorem al.bP:(al.mk k s n t f b l).kids=l:=rfl
end
mutual
def cx:aG->List DV
 |.mk k l=>[.i k,.sl (Jz l)]
def Jz:List aG->List (List DV)
 |[]=>[]
 |t::r=>cx t::Jz r
end
theorem BG:∀(l:List aG),Jz l=l.map cx
 |[]=>rfl
 |t::r=>by simp[Jz,BG r]
theorem aL (t:aG):cx t=[.i t.kind,.sl (t.kids.map cx)]:=by
 cases t;simp[cx,BG]
mutual
def ie:al->List DV
 |.mk k s n t f l kids=>[.i k,.str s,.i n,.i t.kind,.sl (t.kids.map cx),.i f.kind,.sl (f.kids.map cx),.i l,.sl (JA kids)]
def JA:List al->List (List DV)
 |[]=>[]
 |t::r=>ie t::JA r
end
theorem BH:∀(l:List al),JA l=l.map ie
 |[]=>rfl
 |t::r=>by simp[JA,BH r]
theorem au (e:al):ie e=[.i e.kind,.str e.name,.i e.num,.i e.ty.kind,.sl (e.ty.kids.map cx),.i e.fr.kind,.sl (e.fr.kids.map cx),.i e.label,.sl (e.kids.map ie)]:=by
 cases e;simp[ie,BH]
abbrev dF (t:aG):AV:=.agg [.d (.i t.kind),.d (.sl (t.kids.map cx))]
abbrev cL (e:al):AV:=.agg [.d (.i e.kind),.d (.str e.name),.d (.i e.num),.d (.i e.ty.kind),.d (.sl (e.ty.kids.map cx)),.d (.i e.fr.kind),.d (.sl (e.fr.kids.map cx)),.d (.i e.label),.d (.sl (e.kids.map ie))]
/- How many nodes lie below a node. -/
mutual
def fE:aG->Nat
 |.mk _ l=>cS l
def cS:List aG->Nat
 |[]=>0
 |t::r=>1+fE t+cS r
end
mutual
def e9:al->Nat
 |.mk _ s _ t f _ kids=>s.length+fE t+fE f+fa kids
def fa:List al->Nat
 |[]=>0
 |e::r=>1+e9 e+fa r
end
theorem eK (t:aG):fE t=cS t.kids:=by cases t;simp[fE]
theorem j7 (e:al):e9 e=e.name.length+fE e.ty+fE e.fr+fa e.kids:=by cases e;simp[e9]
theorem gg:∀(l:List aG),l.length<=cS l
 |[]=>by simp[cS]
 |t::r=>by have:=gg r;simp[cS];omega
theorem pA:∀(l:List al),l.length<=fa l
 |[]=>by simp[fa]
 |t::r=>by have:=pA r;simp[fa];omega
theorem gh:∀{l:List aG} {t:aG},t∈l->fE t<cS l
 |x::r,t,h=>by
  simp only[Xe]at h;simp only[cS];rcases h with rfl|h
  ·omega
  ·have:=gh h;omega
theorem wM:∀{l:List al} {e:al},e∈l->e9 e<fa l
 |x::r,t,h=>by
  simp only[Xe]at h;simp only[fa];rcases h with rfl|h
  ·omega
  ·have:=wM h;omega
def SY (l:List aG):Nat:=(l.map fE).sum
def SZ (l:List al):Nat:=(l.map e9).sum
theorem mg:∀(l:List Nat) (i:Nat),(l.take i).sum<=l.sum
 |[],i=>by simp
 |x::r,0=>by simp
 |x::r,i+1=>by have:=mg r i;simp;omega
/- No row is longer than any Go slice. -/
mutual
def QY:aG->Prop
 |.mk _ l=>l.length<=9223372036854775807/\NN l
def NN:List aG->Prop
 |[]=>True
 |t::r=>QY t/\NN r
end
mutual
def Uy:al->Prop
 |.mk _ s _ t f _ kids=>s.length<=9223372036854775807/\QY t/\QY f/\kids.length<=9223372036854775807/\NO kids
def NO:List al->Prop
 |[]=>True
 |e::r=>Uy e/\NO r
end
def VP (n:Nat) (left:Int):Int:=if(n:Int)<=left then left-n else-1
end Go.Av
namespace Go.Av
open Go
theorem aG.ind {P:aG->Prop} (h:∀t,(∀u∈t.kids,P u)->P t):∀t,P t
 |.mk k l=>h _ (fun u hu=>aG.ind h u)
termination_by t=>SizeOf.sizeOf t
decreasing_by simp at hu;have:=Xz hu;simp;omega
theorem al.ind {P:al->Prop} (h:∀e,(∀u∈e.kids,P u)->P e):∀e,P e
 |.mk k s n t f b l=>h _ (fun u hu=>al.ind h u)
termination_by e=>SizeOf.sizeOf e
decreasing_by simp at hu;have:=Xz hu;simp;omega
def nB (x lo hi:Int):Bool:=decide (lo<=x)&& decide (x<=hi)
def dT:List UInt8->Bool
 |[c]=>decide (97<=c.toNat)&& decide (c.toNat<=122)
 |_=>false
def ed (t:aG):Bool:=decide (t.kind=0)&& decide (t.kids=[])
def Dv (n:Int):Bool:=nB n 1 99||nB n (-99) (-1)
def cl (k:Int):Int:=
 if k=1\/k=2\/k=3\/k=4 then 0 else if k=5\/k=11\/k=12\/k=13\/k=14 then 1 else if k=6\/k=7\/k=8\/k=10 then 2 else if k=9 then 3 else-1
def cy (k:Int):Int:=if k=1\/k=2\/k=3 then 0 else if k=4\/k=5 then 2 else-1
def ak:Nat->aG->Bool
 |0,_=>false
 |d+1,t=>decide (cy t.kind=t.kids.length)&& t.kids.all (ak d)
theorem eg {d:Nat} {t:aG} (h:ak d t=true):∃e,d=e+1/\cy t.kind=t.kids.length/\t.kids.length<=2/\∀u∈t.kids,ak e u=true:=by
 cases d with
 |zero=>simp[ak]at h
 |succ e=>
  simp only[ak,XL,decide_eq_true_eq,Xg]at h;refine⟨e,rfl,h.1,?_,h.2⟩;have:=h.1;simp only[cy]at this;split at this
  ·omega
  ·split at this<;>omega
mutual
def aE:aG->aG->Bool
 |.mk k l,.mk k' l'=>decide (k=1)||decide (k'=1)||(decide (k=k')&& gz l l')
def gz:List aG->List aG->Bool
 |[],[]=>true
 |x::xs,y::ys=>aE x y && gz xs ys
 |_,_=>false
end
theorem sn:∀(l m:List aG),gz l m=jm aE l m
 |[],[]=>rfl
 |x::xs,y::ys=>by simp[gz,jm,sn xs ys]
 |[],_::_=>rfl
 |_::_,[]=>rfl
theorem nR (a b:aG):aE a b=(decide (a.kind=1)||decide (b.kind=1)||(decide (a.kind=b.kind)&& jm aE a.kids b.kids)):=by
 cases a;cases b;simp only[aE,sn];rfl
/- A node by itself, but for the number of its operands. -/
def dZ (k:Int):Bool:=decide (k=1)||decide (k=5)
def cb (k:Int):Bool:=decide (k=5)||decide (k=13)||decide (k=14)
def pB (e:al):Bool:=ak 4 e.fr && ak 4 e.ty && aE e.fr e.ty && Dv e.label
def fw (e:al):Bool:=
 (if dZ e.kind then dT e.name else decide (e.name=[]))&& nB e.num 0 (if e.kind=2 then 999 else 0)&&
 (if cb e.kind then ak 4 e.ty else ed e.ty)&&(if e.kind=14 then pB e else ed e.fr && decide (e.label=0))
def gA (e:al):Bool:=decide (cl e.kind=e.kids.length)&& fw e
def bg (nt:Int):Nat->al->Bool
 |0,_=>false
 |d+1,e=>decide (e.kind≠nt)&& gA e && e.kids.all (bg nt d)
def cT:Nat->al->Nat
 |0,_=>1
 |d+1,e=>1+(e.kids.map (cT d)).sum
/- A scan from a node on: whether it goes through, and how many nodes it has seen. -/
mutual
def kW (mn md nt:Int):Int->al->Int->Bool×Int
 |deep,.mk k s n t f b l,c=>if mn<c+1\/md<deep\/k=nt\/gA (.mk k s n t f b l)=false then(false,c+1)else lE mn md nt (deep+1) l (c+1)
def lE (mn md nt:Int):Int->List al->Int->Bool×Int
 |_,[],c=>(true,c)
 |deep,e::r,c=>if(kW mn md nt deep e c).1=true then lE mn md nt deep r (kW mn md nt deep e c).2 else(false,(kW mn md nt deep e c).2)
end
theorem tK (mn md nt deep:Int) (e:al) (c:Int):kW mn md nt deep e c=if mn<c+1\/md<deep\/e.kind=nt\/gA e=false then(false,c+1)else lE mn md nt (deep+1) e.kids (c+1):=by
 cases e;simp only[kW];rfl
theorem FI (mn md nt:Int):∀(e:al) (d:Nat) (c:Int),0<=c->c<=mn->
  (kW mn md nt (md+1-d) e c).1=(bg nt d e && decide (c+cT d e<=mn))/\(bg nt d e=true->c+cT d e<=mn->(kW mn md nt (md+1-d) e c).2=c+cT d e):=by
 intro e;induction e using al.ind with
 |h e ih=>
  intro d c h0 hc;rw[tK];cases d with
  |zero=>
   rw[if_pos (by right;left;omega)];simp[bg]
  |succ d=>
   have re:∀(x:Nat) (y:al),1<=cT x y:=fun x y=>by cases x<;>simp[cT]
   have c4:cT (d+1) e=1+(e.kids.map (cT d)).sum:=rfl;by_cases FJ:mn<c+1\/md<md+1-((d+1:Nat):Int)\/e.kind=nt\/gA e=false
   ·rw[if_pos FJ];have hf:(bg nt (d+1) e && decide (c+cT (d+1) e<=mn))=false:=by
     have:=re (d+1) e;rcases FJ with h|h|h|h
     ·simp;intro _;omega
     ·omega
     ·simp[bg,h]
     ·simp[bg,h]
    refine⟨hf.symm,fun h1 h2=>?_⟩;rw[h1]at hf;simp at hf;omega
   ·rw[if_neg FJ];have hk:e.kind≠nt:=fun h=>FJ (by simp[h])
    have hn:gA e=true:=by
     cases h:gA e
     ·exact absurd (by simp[h]) FJ
     ·rfl
    have jK:bg nt (d+1) e=e.kids.all (bg nt d):=by simp[bg,hk,hn]
    rw[jK,c4,show md+1-((d+1:Nat):Int)+1=md+1-(d:Int) by omega]
    have Hw:∀(l:List al),(∀u∈l,u∈e.kids)->∀c:Int,0<=c->c<=mn->(lE mn md nt (md+1-d) l c).1=(l.all (bg nt d)&& decide (c+(l.map (cT d)).sum<=mn))/\
      (l.all (bg nt d)=true->c+(l.map (cT d)).sum<=mn->(lE mn md nt (md+1-d) l c).2=c+(l.map (cT d)).sum):=by
     intro l;induction l with
     |nil=>intro _ c h0 hc;simp[lE];omega
     |cons x r ihl=>
      intro hm c h0 hc;obtain⟨h1,h2⟩:=ih x (hm x (by simp)) d c h0 hc;simp only[lE,XK,Xk,List.sum_cons];cases hx:(kW mn md nt (md+1-d) x c).1 with
      |false=>
       rw[hx]at h1;simp only[XN,if_false];cases hs:bg nt d x with
       |false=>simp
       |true=>
        rw[hs]at h1;simp at h1;refine⟨?_,fun _ h=>?_⟩
        ·symm;simp;intro _;omega
        ·omega
      |true=>
       rw[hx]at h1;have mB:=h1.symm;simp only[XL,decide_eq_true_eq]at mB;rw[h2 mB.1 mB.2];obtain⟨h3,h4⟩:=ihl (fun u hu=>hm u (by simp[hu])) (c+cT d x) (by omega) mB.2;simp only[if_true];rw[h3,mB.1];refine⟨?_,fun h5 h6=>?_⟩
       ·simp only[Bool.true_and]
        congr 1
        exact decide_eq_decide.2 (by omega)
       ·rw[h4 (by simpa using h5) (by omega)];omega
    obtain⟨h1,h2⟩:=Hw e.kids (fun _ h=>h) (c+1) (by omega) (by omega);rw[h1];refine⟨?_,fun h3 h4=>?_⟩
    ·congr 1
     exact decide_eq_decide.2 (by omega)
    ·rw[h2 h3 (by omega)];omega
theorem Hx (mn md nt:Int):∀(e:al) (deep c:Int),0<=c->(kW mn md nt deep e c).1=true->0<=(kW mn md nt deep e c).2/\(kW mn md nt deep e c).2<=mn:=by
 intro e;induction e using al.ind with
 |h e ih=>
  intro deep c h0;rw[tK];split
  ·simp
  ·rename_i FJ;have Hw:∀(l:List al),(∀u∈l,u∈e.kids)->∀c:Int,0<=c->c<=mn->(lE mn md nt (deep+1) l c).1=true->0<=(lE mn md nt (deep+1) l c).2/\(lE mn md nt (deep+1) l c).2<=mn:=by
    intro l;induction l with
    |nil=>intro _ c h0 hc _;exact⟨h0,hc⟩
    |cons x r ihl=>
     intro hm c h0 hc;simp only[lE];split
     ·rename_i hx;obtain⟨h1,h2⟩:=ih x (hm x (by simp)) (deep+1) c h0 hx;exact ihl (fun u hu=>hm u (by simp[hu])) _ h1 h2
     ·simp
   exact Hw e.kids (fun _ h=>h) (c+1) (by omega) (by omega)
theorem wN:∀(d:Nat) (e:al),cT d e<=1+e9 e
 |0,e=>by simp[cT]
 |d+1,e=>by
  have h:∀l:List al,(l.map (cT d)).sum<=fa l:=by
   intro l;induction l with
   |nil=>simp[fa]
   |cons x r ih=>have:=wN d x;simp[fa];omega
  have:=h e.kids;rw[j7];simp only[cT];omega
/- No casts, and no types but the unknown one. -/
mutual
def KL:al->Bool
 |.mk k _ _ t _ _ l=>decide (k≠14)&&(decide (k≠5)||decide (t.kind=1))&& KM l
def KM:List al->Bool
 |[]=>true
 |e::r=>KL e && KM r
end
def lF (e:al):Bool:=bg 13 40 e && decide (cT 40 e<=200)
def aS (e:al):Bool:=bg 14 12 e && decide (cT 12 e<=30)
structure dt where
 name:List UInt8
 ty:aG
def iC (b:dt):List DV:=[.str b.name,.i b.ty.kind,.sl (b.ty.kids.map cx)]
abbrev kM:aG:=.mk 1 []
abbrev bt:aG:=.mk 2 []
abbrev cm:aG:=.mk 3 []
abbrev aW:aG:=.mk 0 []
mutual
def bG:aG->aG->aG
 |.mk k l,.mk k' l'=>if k=1 then .mk k' l' else if k'=1 then .mk k l else .mk k (j8 l l')
def j8:List aG->List aG->List aG
 |x::xs,y::ys=>bG x y::j8 xs ys
 |_,_=>[]
end
theorem uW:∀(l m:List aG),j8 l m=Xx bG l m
 |[],_=>by simp[j8]
 |x::xs,[]=>by simp[j8]
 |x::xs,y::ys=>by simp[j8,uW xs ys]
theorem gM (a b:aG):bG a b=if a.kind=1 then b else if b.kind=1 then a else .mk a.kind (Xx bG a.kids b.kids):=by
 cases a;cases b;simp only[bG,uW];rfl
def cK:List dt->List UInt8->Option aG
 |[],_=>none
 |b::r,s=>match cK r s with
  |some t=>some t
  |none=>if b.name=s then some b.ty else none
def rl (ctx:List dt):Bool:=ctx.all (fun b=>dT b.name && ak 4 b.ty)&& decide (ctx.length<=12)
def ch (k:Int) (t:aG):Option (aG×aG):=
 if t.kind=1 then some (kM,kM)else if t.kind=k then match t.kids with
  |a::b::_=>some (a,b)
  |_=>none
 else none
def nS (k:Int) (a b:aG):Option aG:=if ak 4 (.mk k [a,b])=true then some (.mk k [a,b])else none
def bH (ctx:List dt) (k:Int) (name:List UInt8) (ty:aG) (ts:List aG):Option aG:=
 if k=1 then cK ctx name
 else if k=2 then some bt
 else if k=3\/k=4 then some cm
 else match ts with
  |[a]=>
   if k=5 then nS 4 ty a
   else if k=11 then(ch 5 a).map (·.1)
   else if k=12 then(ch 5 a).map (·.2)
   else if k=13 then if aE a ty=true then some ty else none
   else none
  |[a,b]=>
   if k=6 then match ch 4 a with
    |some (x,y)=>if aE b x=true then some y else none
    |none=>none
   else if k=7 then if aE a bt=true/\aE b bt=true then some bt else none
   else if k=8 then if aE a bt=true/\aE b bt=true then some cm else none
   else if k=10 then nS 5 a b
   else none
  |[a,b,c]=>if k=9 then if aE b c=true/\aE a cm=true then some (bG b c)else none else none
  |_=>none
mutual
def bO:List dt->al->Option aG
 |ctx,.mk k s n t f b l=>match c5 (if k=5 then ctx++[⟨s,t⟩]else ctx) l with
  |none=>none
  |some ts=>bH ctx k s t ts
def c5:List dt->List al->Option (List aG)
 |_,[]=>some []
 |ctx,e::r=>match bO ctx e with
  |none=>none
  |some t=>match c5 ctx r with
   |none=>none
   |some ts=>some (t::ts)
end
def cw (ctx:List dt) (e:al):List dt:=if e.kind=5 then ctx++[⟨e.name,e.ty⟩]else ctx
theorem mZ (ctx:List dt) (e:al):bO ctx e=match c5 (cw ctx e) e.kids with
  |none=>none
  |some ts=>bH ctx e.kind e.name e.ty ts:=by
 cases e;simp only[bO];rfl
theorem uX {a b:aG} (h:aE a b=true) (ha:a.kind≠1) (hb:b.kind≠1):a.kind=b.kind/\jm aE a.kids b.kids=true:=by
 rw[nR]at h;simpa[ha,hb]using h
theorem Ag {α β:Type} {q:α->β->Bool}:∀{xs:List α} {ys:List β} {i:Nat} {x:α} {y:β},jm q xs ys=true->xs[i]? =some x->ys[i]? =some y->q x y=true
 |[],_,_,_,_,_,h,_=>by simp at h
 |x::xs,[],_,_,_,h,_,_=>by simp[jm]at h
 |x::xs,y::ys,0,_,_,h,h1,h2=>by simp[jm]at h;simp at h1 h2;subst h1;subst h2;exact h.1
 |x::xs,y::ys,i+1,_,_,h,h1,h2=>by simp[jm]at h;simp at h1 h2;exact Ag h.2 h1 h2
theorem cc:∀{d:Nat} {t:aG},ak d t=true->ak (d+1) t=true
 |0,t,h=>by simp[ak]at h
 |d+1,t,h=>by
  simp only[ak,XL,Xg]at h⊢;exact⟨h.1,fun u hu=>by have:=cc (h.2 u hu);simpa[ak]using this⟩
theorem nT:∀(d:Nat) (a b:aG),ak d a=true->ak d b=true->aE a b=true->ak d (bG a b)=true
 |0,a,b,h,_,_=>by simp[ak]at h
 |d+1,a,b,ha,hb,hc=>by
  rw[gM];split
  ·exact hb
  ·split
   ·exact ha
   ·rename_i h1 h2;obtain⟨hk,hq⟩:=uX hc h1 h2;simp only[ak,XL,decide_eq_true_eq,Xg,aG.b4,aG.bP,List.length_zipWith]at ha hb⊢;have hl:=si hq;refine⟨by rw[ha.1];omega,fun u hu=>?_⟩;obtain⟨i,hi⟩:=Xc hu;rw[List.getElem?_zipWith]at hi;cases hx:a.kids[i]? with
    |none=>simp[hx]at hi
    |some x=>
     cases hy:b.kids[i]? with
     |none=>simp[hx,hy]at hi
     |some y=>
      simp[hx,hy]at hi;subst hi;exact nT d x y (ha.2 x (Xa hx)) (hb.2 y (Xa hy)) (Ag hq hx hy)
theorem eP {k:Int} {t a b:aG} (h:ch k t=some (a,b)) (ht:ak 4 t=true):ak 4 a=true/\ak 4 b=true:=by
 simp only[ch]at h;split at h
 ·simp at h;obtain⟨rfl,rfl⟩:=h;simp[ak,cy]
 ·split at h
  ·obtain⟨e,he,_,_,hs⟩:=eg ht;obtain rfl:e=3:=by omega
   split at h
   ·rename_i x y r hk;simp at h;obtain⟨rfl,rfl⟩:=h;exact⟨cc (hs _ (by simp[hk])),cc (hs _ (by simp[hk]))⟩
   ·simp at h
  ·simp at h
theorem pC:∀{ctx:List dt} {s:List UInt8} {t:aG},cK ctx s=some t->∃b∈ctx,b.ty=t/\b.name=s
 |[],_,_,h=>by simp[cK]at h
 |b::r,s,t,h=>by
  simp only[cK]at h;split at h
  ·rename_i u hu;simp at h;subst h;obtain⟨b',h1,h2⟩:=pC hu;exact⟨b',by simp[h1],h2⟩
  ·split at h
   ·rename_i hb;simp at h;exact⟨b,by simp,h,hb⟩
   ·simp at h
def iD (ctx:List dt):Prop:=∀b∈ctx,ak 4 b.ty=true
theorem Ah {ctx:List dt} {e:al} {ts:List aG} {t:aG} (hc:iD ctx) (he:cb e.kind=true->ak 4 e.ty=true) (bM:∀u∈ts,ak 4 u=true) (h:bH ctx e.kind e.name e.ty ts=some t):ak 4 t=true:=by
 have hI:ak 4 bt=true:=by decide
 have hB:ak 4 cm=true:=by decide
 simp only[bH]at h;split at h
 ·obtain⟨b,h1,h2,_⟩:=pC h;rw[<-h2];exact hc b h1
 split at h
 ·simp at h;subst h;exact hI
 split at h
 ·simp at h;subst h;exact hB
 split at h
 ·rename_i a;have ha:=bM a (by simp);split at h
  ·simp only[nS]at h;split at h
   ·rename_i hs;simp at h;subst h;exact hs
   ·simp at h
  split at h
  ·cases hm:ch 5 a with
   |none=>simp[hm]at h
   |some p=>obtain⟨x,y⟩:=p;simp[hm]at h;subst h;exact(eP hm ha).1
  split at h
  ·cases hm:ch 5 a with
   |none=>simp[hm]at h
   |some p=>obtain⟨x,y⟩:=p;simp[hm]at h;subst h;exact(eP hm ha).2
  split at h
  ·rename_i dG;split at h
   ·simp at h;subst h;exact he (by simp[cb,dG])
   ·simp at h
  ·simp at h
 ·rename_i a b;have ha:=bM a (by simp);have hb:=bM b (by simp);split at h
  ·split at h
   ·rename_i x y hm;split at h
    ·simp at h;subst h;exact(eP hm ha).2
    ·simp at h
   ·simp at h
  split at h
  ·split at h
   ·simp at h;subst h;exact hI
   ·simp at h
  split at h
  ·split at h
   ·simp at h;subst h;exact hB
   ·simp at h
  split at h
  ·simp only[nS]at h;split at h
   ·rename_i hs;simp at h;subst h;exact hs
   ·simp at h
  ·simp at h
 ·rename_i a b c;split at h
  ·split at h
   ·rename_i hq;simp at h;subst h;exact nT 4 b c (bM b (by simp)) (bM c (by simp)) hq.1
   ·simp at h
  ·simp at h
 ·simp at h
theorem fV {nt:Int} {d:Nat} {e:al} (h:bg nt d e=true):∃d',d=d'+1/\e.kind≠nt/\cl e.kind=e.kids.length/\fw e=true/\∀u∈e.kids,bg nt d' u=true:=by
 cases d with
 |zero=>simp[bg]at h
 |succ d=>
  simp only[bg,gA,XL,decide_eq_true_eq,Xg]at h;exact⟨d,rfl,h.1.1,h.1.2.1,h.1.2.2,h.2⟩
theorem gX {e:al} (h:fw e=true) (ht:cb e.kind=true):ak 4 e.ty=true:=by
 simp only[fw,XL]at h;have:=h.1.2;rwa[if_pos ht]at this
theorem so (k:Int):cl k<=3:=by
 simp only[cl];split
 ·omega
 ·split
  ·omega
  ·split
   ·omega
   ·split<;>omega
theorem wO:∀{ctx:List dt} {l:List al} {ts:List aG},c5 ctx l=some ts->ts.length=l.length
 |_,[],ts,h=>by simp[c5]at h;subst h;rfl
 |ctx,e::r,ts,h=>by
  simp only[c5]at h;split at h
  ·simp at h
  ·split at h
   ·simp at h
   ·rename_i us NQ;simp at h;subst h;simp[wO NQ]
theorem cN:∀(e:al) (d:Nat) (nt:Int) (ctx:List dt) (t:aG),bg nt d e=true->iD ctx->bO ctx e=some t->ak 4 t=true:=by
 intro e;induction e using al.ind with
 |h e ih=>
  intro d nt ctx t hs hc h;obtain⟨d',_,_,hlen,dP,jc⟩:=fV hs;rw[mZ]at h;have b8:iD (cw ctx e):=by
   simp only[cw];split
   ·rename_i h5;intro b hb;simp only[Xi,List.mem_singleton]at hb;rcases hb with hb|rfl
    ·exact hc b hb
    ·exact gX dP (by simp[cb,h5])
   ·exact hc
  split at h
  ·simp at h
  ·rename_i ts bM;refine Ah hc (gX dP) ?_ h;have hl:∀(l:List al) (ts:List aG),(∀u∈l,u∈e.kids)->c5 (cw ctx e) l=some ts->∀u∈ts,ak 4 u=true:=by
    intro l;induction l with
    |nil=>intro ts _ h;simp[c5]at h;subst h;simp
    |cons x r ihl=>
     intro ts hm h;simp only[c5]at h;split at h
     ·simp at h
     ·rename_i tx QZ;split at h
      ·simp at h
      ·rename_i us NQ;simp at h;subst h;have hx:=ih x (hm x (by simp)) d' nt (cw ctx e) tx (jc x (hm x (by simp))) b8 QZ;intro u hu;simp only[Xe]at hu;rcases hu with rfl|hu
       ·exact hx
       ·exact ihl us (fun v hv=>hm v (by simp[hv])) NQ u hu
   exact hl e.kids ts (fun _ h=>h) bM
end Go.Av
namespace Go.Av
attribute [-simp] Go.Av.bI Go.Av.eS Go.Av.iv Go.Av.bU Go.Av.bF Go.Av.iz Go.Av.mz Go.Av.rX Go.Av.mO Go.Av.z6 Go.Av.rowsOf Go.Av.look Go.Av.tq Go.Av.St.put Go.Av.gQ Go.Av.Fy Go.Av.b9 Go.Av.zY Go.Av.Jk Go.Av.rW Go.Av.rV Go.Av.EA Go.Av.AV.plain Go.Av.AV.cells Go.Av.CV.j5 Go.Av.nE Go.Av.iL Go.Av.kJ Go.Av.fM Go.Av.bQ Go.Av.ib Go.Av.AV.kT Go.Av.CV.kT Go.Av.qD Go.Av.AV.fS Go.Av.CV.fS Go.Av.bA Go.Av.iM Go.Av.kk Go.Av.oE Go.Av.cO Go.Av.fu Go.Av.uQ Go.Av.AV.qF Go.Av.CV.res Go.Av.se Go.Av.pos? Go.Av.wD Go.Av.wJ Go.Av.gR Go.Av.Sub Go.Av.kL Go.Av.kU Go.Av.ja Go.Av.gV Go.Av.jb Go.Av.gW Go.Av.aG.b4 Go.Av.aG.bP Go.Av.al.b4 Go.Av.al.mf Go.Av.al.rk Go.Av.al.sj Go.Av.al.sk Go.Av.al.lD Go.Av.al.bP
open Go
def cH (all:Array Oper) (ws fs:List Nat) (m:Nat) (ms:List Nat) (oi oj:Oper) (i j:Nat):Bool:=
 (oi.dst.isNone||oi.dst !=oj.dst)&&((!dE all oi oj && !dE all oj oi && !(ws.contains i && !cO oj.op && !(fs.contains j && decide (i<m)))&& !(ws.contains j && !cO oi.op && !(fs.contains i && decide (j<m))))||(ms.getD j 0).testBit i)
def iH (all:Array Oper) (ws fs:List Nat) (m:Nat):Bool:=
 let l:=all.toList.zipIdx
 let ms:=aX all.toList []
 (l.all fun(o,j)=>o.after.toList.all fun e=> !Region.binds .any e||decide (e.on<j))&&
 (l.all fun(oj,j)=>l.all fun(oi,i)=> !(decide (i<j))||cH all ws fs m ms oi oj i j)&&
 (l.all fun(o,j)=> !ws.contains j|| !cO o.op)&&(fs.all fun j=> !ws.contains j)&&(fs.all fun j=>ws.all fun i=>decide (i<m)||decide (j<i))
def rS (ex:List Nat) (rs:Nat->List CV) (V:List (List CV)):List (List CV):=ex.foldl (fun W i=>W.set i (rs i)) V
theorem pD (V:List (List CV)):∀(ex:List Nat),rS ex (fun i=>V.getD i []) V=V
 |[]=>rfl
 |i::ex=>by
  have h:V.set i (V.getD i [])=V:=by
   apply XJ;intro j;rw[List.getElem?_set];split
   ·rename_i e;subst e;split
    ·rename_i h;simp[Xd,h]
    ·rename_i h;simp[Nat.le_of_not_lt h]
   ·rfl
  show rS ex _ (V.set i (V.getD i []))=V;rw[h];exact pD V ex
def dI (P:Program) (s:St) (ow:Bool) (o:Oper) (ex:List Nat) (V0:List (List CV)) (A0:List bu) (x:AV):Prop:=
 ∀(rs:Nat->List CV) GV GA,bI P ⟨s.fr,rS ex rs V0++GV,A0++GA⟩ ow o fun y V' A'=>y=x/\V'=rS ex rs V0++GV/\A'=A0++GA
def oH (P:Program) (all:Array Oper) (ow:Nat->Bool) (ws fs:List Nat) (m:Nat) (ex:List Nat) (V0:List (List CV)) (A0:List bu) (K:St->Prop):Nat->List Oper->St->Prop
 |_,[],s=>K s
 |i,o::rest,s=>iv all s o (bI P s (ow i) o fun x V A=>(i∈ws\/(V=s.V/\A=s.A))/\(i∈ws->i<m->V.take V0.length=rS ex (fun i=>V.getD i []) V0/\A.take A0.length=A0)/\(i∈fs->dI P s (ow i) o ex V0 A0 x)/\
   oH P all ow ws fs m ex V0 A0 K (i+1) rest (s.put o.dst x V A)) (oH P all ow ws fs m ex V0 A0 K (i+1) rest (s.put o.dst (.c .undef) s.V s.A))
section
variable {P:Program} {n:Nat} {Q Q':Exit->St->Prop} {s s':St} {w0:World} {g0 g g':Gh} {a:Act} {w w':World} {V:List (List CV)} {A A':List bu}
def Hy (P:Program) (all:Array Oper) (ow:Bool) (fs:List Nat) (j:Nat) (ex:List Nat) (V0:List (List CV)) (A0:List bu) (o:Oper) (s s':St):Prop:=
 iv all s o True True/\((gw all s o=true/\∃x V A,s'=s.put o.dst x V A/\(∀K:AV->List (List CV)->List bu->Prop,K x V A->bI P s ow o K)/\(j∈fs->dI P s ow o ex V0 A0 x))\/(gw all s o=false/\s'=s.put o.dst (.c .undef) s.V s.A))
def KN (ex:List Nat) (V0:List (List CV)) (A0:List bu) (s:St):Prop:=s.V.take V0.length=rS ex (fun i=>s.V.getD i []) V0/\s.A.take A0.length=A0
theorem mh {all:Array Oper} {ow:Nat->Bool} {ws fs:List Nat} {m:Nat} {ex:List Nat} {V0:List (List CV)} {A0:List bu} {K:St->Prop}:∀(ops:List Oper) (i:Nat) (s:St),oH P all ow ws fs m ex V0 A0 K i ops s->
  ∃σ:Nat->St,σ 0=s/\K (σ ops.length)/\∀(j:Nat) o,ops[j]? =some o->Hy P all (ow (i+j)) fs (i+j) ex V0 A0 o (σ j) (σ (j+1))/\(i+j∈ws\/((σ (j+1)).V=(σ j).V/\(σ (j+1)).A=(σ j).A))/\
   (i+j<m->KN ex V0 A0 (σ (j+1))\/((σ (j+1)).V=(σ j).V/\(σ (j+1)).A=(σ j).A))
 |[],i,s,h=>⟨fun _=>s,rfl,h,fun j o h=>by simp at h⟩
 |o::rest,i,s,h=>by
  simp only[oH]at h;obtain⟨h0,hg⟩:=fZ h;rcases h0 with⟨h1,h2⟩|⟨h1,h2⟩
  ·obtain⟨x,V,A,⟨h3,NR,FK,h4⟩,h5⟩:=gl h2;obtain⟨σ,k1,k2,k3⟩:=mh rest (i+1) _ h4;refine⟨fun j=>match j with|0=>s|j+1=>σ j,rfl,k2,fun j o' ho=>?_⟩;cases j with
   |zero=>
    simp at ho;subst ho;refine⟨⟨hg,.inl ⟨h1,x,V,A,k1,h5,FK⟩⟩,?_,fun hm=>?_⟩
    ·rcases h3 with h3|⟨h3,s7⟩
     ·exact .inl h3
     ·exact .inr (by simp only[k1];exact⟨h3,s7⟩)
    ·rcases h3 with h3|⟨h3,s7⟩
     ·exact .inl (by simp only[k1];exact NR h3 hm)
     ·exact .inr (by simp only[k1];exact⟨h3,s7⟩)
   |succ j=>
    simp at ho;have:=k3 j o' ho;rwa[show i+1+j=i+(j+1) by omega]at this
  ·obtain⟨σ,k1,k2,k3⟩:=mh rest (i+1) _ h2;refine⟨fun j=>match j with|0=>s|j+1=>σ j,rfl,k2,fun j o' ho=>?_⟩;cases j with
   |zero=>
    simp at ho;subst ho;exact⟨⟨hg,.inr ⟨h1,k1⟩⟩,.inr (by simp only[k1];exact⟨rfl,rfl⟩),fun _=>.inr (by simp only[k1];exact⟨rfl,rfl⟩)⟩
   |succ j=>
    simp at ho;have:=k3 j o' ho;rwa[show i+1+j=i+(j+1) by omega]at this
structure yc (all:Array Oper) (ws:List Nat) (σ:Nat->St) (n:Nat) (w0:World) (g0:Gh) (af:Array Bool) (k0:Nat) (g:Gh) (a:Act) (w:World):Prop where
 inv:Inv g w (σ k0).V (σ k0).A
 fr:Fr w0 g0 w g
 size:a.tmps.size=n
 defers:a.defers=[]
 eI:af.size=all.size
 ga:∀(i:Nat) o t x,all[i]? =some o->af[i]? =some true->o.dst=some t->look (σ (i+1)).fr t=some x->∃u,a.tmps[t]? =some u/\aO g w (σ k0).A x u
 gd:∀t x,(∀(i:Nat) o,all[i]? =some o->af[i]? =some true->o.dst≠some t)->look (σ 0).fr t=some x->∃u,a.tmps[t]? =some u/\aO g w (σ k0).A x u
 ep:∀i∈ws,i<all.size->(af[i]? =some true↔i<k0)
 nL:k0<=all.size
 kw:k0=0\/∃i∈ws,k0=i+1
 closed:∀(i:Nat) o,all[i]? =some o->af[i]? =some true->∀e∈o.after,Region.binds .any e=true->af[e.on]? =some true
set_option maxHeartbeats 2000000 in
theorem BI {all:Array Oper} {ow:Nat->Bool} {ws fs:List Nat} {m:Nat} {ex:List Nat} {V0:List (List CV)} {A0:List bu} {σ:Nat->St} {K:St->Prop} {Q:Exit->Act->World->Prop} (hd:iH all ws fs m=true) (fc:da n all.toList=true)
  (lV:∀(j:Nat) o,all[j]? =some o->Hy P all (ow j) fs j ex V0 A0 o (σ j) (σ (j+1))/\(j∈ws\/((σ (j+1)).V=(σ j).V/\(σ (j+1)).A=(σ j).A))/\(j<m->KN ex V0 A0 (σ (j+1))\/((σ (j+1)).V=(σ j).V/\(σ (j+1)).A=(σ j).A))) (Hz:(σ 0).V=V0/\(σ 0).A=A0)
  (hK:K (σ all.size)) (hQ:∀s' g' a' w',K s'->Rp n w0 g0 s' g' a' w'->Q .normal a' w'):
  ∀(fuel:Nat) (af:Array Bool) (k0:Nat) (g:Gh) (a:Act) (w:World),((W9 all.size).filter fun i=> !af.getD i true).length<=fuel->yc all ws σ n w0 g0 af k0 g a w->wpAny P .any all Q fuel af a w:=by
 simp only[iH,XL,Xg]at hd;obtain⟨⟨⟨⟨gk,jk⟩,nM⟩,I9⟩,Ja⟩:=hd;have cV:∀(j:Nat) o,all[j]? =some o->(o,j)∈all.toList.zipIdx:=fun j o h=>by
  rw[XB];exact⟨j,by simp[XG,h]⟩
 have c7:∀(j:Nat) o,all[j]? =some o->∀e∈o.after,Region.binds .any e=true->e.on<j:=fun j o h e he hb=>by
  have:=gk _ (cV j o h) e (X3.2 he);simpa[hb]using this
 have fW:∀(i j:Nat) oi oj,all[i]? =some oi->all[j]? =some oj->i<j->cH all ws fs m (aX all.toList []) oi oj i j=true:=fun i j oi oj h1 h2 ax=>by
  have:=jk _ (cV j oj h2) _ (cV i oi h1);simpa[ax]using this
 have b7:∀(i j:Nat) oi oj,all[i]? =some oi->all[j]? =some oj->i<j->i∉fs->j∉fs->bq all ws (aX all.toList []) oi oj i j=true:=fun i j oi oj h1 h2 ax hi hj=>by
  have:=fW i j oi oj h1 h2 ax;simpa[cH,bq,hi,hj]using this
 have mi:∀i,i∈ws->i∉fs:=fun i hi hf=>by
  have:=I9 i hf;simp[hi]at this
 have Dw:∀k,k<=m->k<=all.size->KN ex V0 A0 (σ k):=by
  intro k;induction k with
  |zero=>
   intro _ _;refine⟨?_,by rw[Hz.2];simp⟩;rw[Hz.1,pD];simp
  |succ k ih=>
   intro h1 h2;have ho:all[k]? =some all[k]:=X1 (by omega);rcases(lV k _ ho).2.2 (by omega)with h3|⟨h3,h4⟩
   ·exact h3
   ·have:=ih (by omega) (by omega);exact⟨by rw[h3];exact this.1,by rw[h4];exact this.2⟩
 have uT:∀(j:Nat) o,all[j]? =some o->j∈ws->cO o.op=false:=fun j o h hj=>by
  have:=nM _ (cV j o h);simpa[hj]using this
 have fU:∀(i j:Nat) oi oj d,all[i]? =some oi->all[j]? =some oj->i<j->oi.dst=some d->oj.dst≠some d:=fun i j oi oj d h1 h2 ax h3 h4=>by
  have:=fW i j oi oj h1 h2 ax;simp[cH,h3,h4]at this
 have rj:∀(i j:Nat) oi oj d,all[i]? =some oi->all[j]? =some oj->oi.dst=some d->oj.dst=some d->i=j:=fun i j oi oj d h1 h2 h3 h4=>by
  rcases XV i j with h|h|h
  ·exact absurd h4 (fU i j oi oj d h1 h2 h h3)
  ·exact h
  ·exact absurd h3 (fU j i oj oi d h2 h1 h h4)
 have Ae:∀(j:Nat) o d,all[j]? =some o->o.dst=some d->d<n:=fun j o d h1 h2=>by
  have:=Xg.1 fc o (by rw[X3];exact X7 h1);simpa[h2]using this
 obtain⟨GO,_,BD⟩:=fe all.toList []
 have mW:∀{af:Array Bool},(∀(i:Nat) o,all[i]? =some o->af[i]? =some true->∀e∈o.after,Region.binds .any e=true->af[e.on]? =some true)->
   ∀(i:Nat) o,all[i]? =some o->(∀e∈o.after,Region.binds .any e=true->af[e.on]? =some true)->∀k,((aX all.toList []).getD i 0).testBit k=true->af[k]? =some true:=by
  intro af kS i;induction i using XU with
  |_ i ih=>
   intro o ho cG k hk;obtain⟨pre,h1,h2,h3⟩:=BD i o (by simpa using ho);simp only[XE,XT]at h1 h3;have h4:(aX all.toList []).getD i 0=mV pre o:=by simp[Xd,h3]
   rw[h4]at hk;obtain⟨e,he,hb,h5⟩:=fT hk;have s9:=cG e he hb;rcases h5 with rfl|h5
   ·exact s9
   ·have ax:=c7 i o ho e he hb;have h6:pre.getD e.on 0=(aX all.toList []).getD e.on 0:=by simp only[Xd,h2 e.on (by omega)]
    rw[h6]at h5;have e5:e.on<all.size:=by have:=(X2.1 ho).1;omega
    have uU:all[e.on]? =some all[e.on]:=X1 e5;exact ih e.on ax _ uU (kS e.on _ uU s9) k h5
 have mb:∀(j:Nat) o t,all[j]? =some o->o.dst≠some t->look (σ (j+1)).fr t=look (σ j).fr t:=fun j o t h1 h2=>by
  obtain⟨⟨_,h3⟩,_⟩:=lV j o h1;have kp:∀(x:AV) V A,look ((σ j).put o.dst x V A).fr t=look (σ j).fr t:=fun x V A=>by
   simp only[St.put];cases q9:o.dst with
   |none=>rfl
   |some d=>simp only[look];rw[if_neg (fun e=>h2 (by rw[q9,e]))]
  rcases h3 with⟨_,x,V,A,h4,_,_⟩|⟨_,h4⟩
  ·rw[h4];exact kp x V A
  ·rw[h4];exact kp _ _ _
 have oP:∀(j t:Nat),j<=all.size->(∀(i:Nat) o,i<j->all[i]? =some o->o.dst≠some t)->look (σ j).fr t=look (σ 0).fr t:=by
  intro j;induction j with
  |zero=>intro t _ _;rfl
  |succ j ih=>
   intro t hj iw;have ho:all[j]? =some all[j]:=X1 (by omega);rw[mb j _ t ho (iw j _ (by omega) ho)];exact ih t (by omega) (fun i o hi=>iw i o (by omega))
 have oQ:∀(j i:Nat) oi t,j<=all.size->i<j->all[i]? =some oi->oi.dst=some t->look (σ j).fr t=look (σ (i+1)).fr t:=by
  intro j;induction j with
  |zero=>intro i oi t _ h;omega
  |succ j ih=>
   intro i oi t hj kI aV cn;by_cases e:i=j
   ·subst e;rfl
   ·have ho:all[j]? =some all[j]:=X1 (by omega);rw[mb j _ t ho (fU i j oi _ t aV ho (by omega) cn)];exact ih i oi t (by omega) (by omega) aV cn
 have tH:∀(b a:Nat),a<=b->b<=all.size->(∀i,a<=i->i<b->i∉ws)->(σ b).V=(σ a).V/\(σ b).A=(σ a).A:=by
  intro b;induction b with
  |zero=>
   intro a h _ _;obtain rfl:a=0:=by omega
   exact⟨rfl,rfl⟩
  |succ b ih=>
   intro a PH hb iw;by_cases e:a=b+1
   ·subst e;exact⟨rfl,rfl⟩
   ·have ho:all[b]? =some all[b]:=X1 (by omega);obtain⟨h1,h2⟩:=ih a (by omega) (by omega) (fun i hi Fv=>iw i hi (by omega));rcases(lV b _ ho).2.1 with h3|⟨h3,h4⟩
    ·exact absurd h3 (iw b (by omega) (by omega))
    ·exact⟨h3.trans h1,h4.trans h2⟩
 have lU:∀{af:Array Bool} {k0:Nat} {g:Gh} {a:Act} {w:World},yc all ws σ n w0 g0 af k0 g a w->Region.ready .any all af=[]->Q .normal a w:=by
  intro af k0 g a w hD hr;have dh:∀i,i<all.size->af[i]? =some true:=by
   intro i;induction i using XU with
   |_ i ih=>
    intro hi;have ho:all[i]? =some all[i]:=X1 hi;have bE:i<af.size:=by rw[hD.eI];exact hi
    cases hl:af[i]with
    |true=>rw[X1 bE,hl]
    |false=>
     exfalso
     have:i∈Region.ready .any all af:=mem_ready.2 ⟨by simp[bE,hl],_,ho,fun e he hb=>cF.2 (ih e.on (c7 i _ ho e he hb) (by have:=c7 i _ ho e he hb;omega))⟩;rw[hr]at this;simp at this
  have kV:=tH all.size k0 hD.nL (XP _) (fun i h1 h2 h3=>by have:=(hD.ep i h3 h2).1 (dh i h2);omega);refine hQ _ g a w hK ⟨by rw[kV.1,kV.2];exact hD.inv,hD.fr,hD.size,hD.defers,fun t x hx=>?_⟩;rw[kV.2];by_cases hex:∃(i:Nat) (o:Oper),all[i]? =some o/\o.dst=some t
  ·obtain⟨i,o,ho,cn⟩:=hex;have hi:=(X2.1 ho).1;rw[oQ all.size i o t (XP _) hi ho cn]at hx;exact hD.ga i o t x ho (dh i hi) cn hx
  ·rw[oP all.size t (XP _) (fun i o _ ho cn=>hex ⟨i,o,ho,cn⟩)]at hx;exact hD.gd t x (fun i o ho _ cn=>hex ⟨i,o,ho,cn⟩) hx
 intro fuel;induction fuel with
 |zero=>
  intro af k0 g a w hf hD;have la:Region.ready .any all af=[]:=by
   have h0:((W9 all.size).filter fun i=> !af.getD i true)=[]:=Xq (by omega);rcases hr:Region.ready .any all af with _|⟨j,r⟩
   ·rfl
   ·have hj:j∈Region.ready .any all af:=by rw[hr];simp
    obtain⟨h1,o,h2,_⟩:=mem_ready.1 hj;have:j∈((W9 all.size).filter fun i=> !af.getD i true):=by
     rw[Xu,Xm];exact⟨(X2.1 h2).1,by simp[h1]⟩
    rw[h0]at this;simp at this
  exact⟨la,lU hD la⟩
 |succ fuel ih=>
  intro af k0 g a w hf hD;refine⟨fun hr=>lU hD hr,fun j hj=>?_⟩;obtain⟨mX,o,ho,cG⟩:=mem_ready.1 hj;have mY:=er mX;have rP:j<all.size:=(X2.1 ho).1;have jA:j<af.size:=by rw[hD.eI];exact rP
  have cB:∀e∈o.after,Region.binds .any e=true->af[e.on]? =some true:=fun e he hb=>cF.1 (cG e he hb)
  have cv:∀k,((aX all.toList []).getD j 0).testBit k=true->af[k]? =some true:=mW hD.closed j o ho cB;have bZ:∀(i:Nat) oi,all[i]? =some oi->af[i]? =some true->((aX all.toList []).getD i 0).testBit j=false:=fun i oi aV bE=>by
   cases hb:((aX all.toList []).getD i 0).testBit j with
   |false=>rfl
   |true=>have:=mW hD.closed i oi aV (hD.closed i oi aV bE) j hb;rw[mY]at this;simp at this
  have jJ:∀t∈o.looksAt all,∀x,look (σ j).fr t=some x->∃u,a.tmps[t]? =some u/\aO g w (σ k0).A x u:=by
   intro t ht x hx;by_cases hex:∃(i:Nat) (oi:Oper),i<j/\all[i]? =some oi/\oi.dst=some t
   ·obtain⟨i,oi,kI,aV,cn⟩:=hex;rw[oQ j i oi t (by omega) kI aV cn]at hx;have hp:=fW i j oi o aV ho kI;have tI:dE all oi o=true:=by simp only[dE,cn];simpa using ht
    simp only[cH,tI,XL,XM]at hp;have hb:((aX all.toList []).getD j 0).testBit i=true:=by simpa using hp.2
    exact hD.ga i oi t x aV (cv i hb) cn hx
   ·rw[oP j t (by omega) (fun i oi kI aV cn=>hex ⟨i,oi,kI,aV,cn⟩)]at hx;refine hD.gd t x (fun i oi aV bE cn=>?_) hx;rcases XV i j with h|h|h
    ·exact hex ⟨i,oi,h,aV,cn⟩
    ·subst h;rw[mY]at bE;simp at bE
    ·have hp:=fW j i o oi ho aV h;have tI:dE all oi o=true:=by simp only[dE,cn];simpa using ht
     have hb:=bZ i oi aV bE;simp only[cH,tI,hb,XL,XM]at hp;simp at hp
  let cR:=(σ j).fr.filter fun p=>(o.looksAt all).contains p.1
  have ld:∀t,look cR t=if(o.looksAt all).contains t then look (σ j).fr t else none:=fun t=>e8 (fun t=>(o.looksAt all).contains t) (σ j).fr t
  have hS:∀(V:List (List CV)),iA g w ⟨cR,V,(σ k0).A⟩ a:=fun V t x hx=>by
   simp only[ld]at hx;split at hx
   ·rename_i hc;exact jJ t (by simpa using hc) x hx
   ·cases hx
  have gL:∀(V V':List (List CV)) (A A':List bu),∀x∈o.op.operands.toList,bF ⟨cR,V,A⟩ x=bF ⟨(σ j).fr,V',A'⟩ x:=fun V V' A A' x hx=>by
   cases x with
   |tmp t=>
    simp only[bF,ld];rw[if_pos];simp only[Oper.looksAt,Xr,decide_eq_true_eq,Xi,XC];exact .inl ⟨.tmp t,hx,rfl⟩
   |_=>rfl
  have gU:Rp n w0 g0 ⟨cR,(σ k0).V,(σ k0).A⟩ g a w:=⟨hD.inv,hD.fr,hD.size,hD.defers,hS _⟩;obtain⟨⟨uP,ft⟩,Du,_⟩:=lV j o ho;have oR:iv all ⟨cR,(σ k0).V,(σ k0).A⟩ o True True/\gw all ⟨cR,(σ k0).V,(σ k0).A⟩ o=gw all (σ j) o:=by
   unfold iv gw at*;cases nN:o.guard with
   |none=>simp
   |some jw=>
    obtain⟨q,want⟩:=jw;simp only[nN]at uP⊢;obtain⟨oq,h1,h2⟩:=cC uP;obtain⟨t,h3,h4⟩:=cC h2;have:look cR t=look (σ j).fr t:=by
     rw[ld,if_pos];simp only[Oper.looksAt,nN,Xr,decide_eq_true_eq,Xi];exact .inr (by simp[h1,h3])
    simp only[h1,bU,h3,W4,this]at h4⊢;exact⟨h4,trivial⟩
  have lC:Region.wanted o (yielded all a.tmps)=gw all (σ j) o:=by
   rw[<-oR.2];have h0:=fZ oR.1;have h1:=oR.1;unfold iv at h1;unfold gw;cases nN:o.guard with
   |none=>simp[Region.wanted,nN]
   |some jw=>
    obtain⟨q,want⟩:=jw;simp only[nN]at h1⊢;obtain⟨oq,h2,h3⟩:=cC h1;obtain⟨t,h4,h5⟩:=cC h3;obtain⟨x,h6,h7⟩:=cC h5;obtain⟨h8,h9⟩:=jI gU h2 h4 h6;simp only[h2,W4,h4,h6];split at h7
    ·rename_i b;simp[Region.wanted,nN,h8 b rfl]
    ·simp[Region.wanted,nN,h9 rfl]
    ·exact h7.elim
  have bN:∀i,(af.setIfInBounds j true)[i]? =if i=j then some true else af[i]? :=fun i=>by
   by_cases e:i=j
   ·subst e;simp[jA]
   ·rw[if_neg e,X4 (fun h=>e h.symm)]
  have c4:((W9 all.size).filter fun i=> !(af.setIfInBounds j true).getD i true).length<=fuel:=by
   have ax:((W9 all.size).filter fun i=> !(af.setIfInBounds j true).getD i true).length<((W9 all.size).filter fun i=> !af.getD i true).length:=by
    have gK:∀i,(!(af.setIfInBounds j true).getD i true)=true->(!af.getD i true)=true:=fun i h=>by
     by_cases e:i=j
     ·subst e;simp[jA]at h
     ·have:(af.setIfInBounds j true).getD i true=af.getD i true:=by
       simp only[X8,bN,if_neg e]
      rwa[this]at h
    exact filter_lt gK (Xm.2 rP) (by simp[mX]) (by simp[jA])
   omega
  have cM:∀(k1:Nat) (x:AV) (v:Value) (w':World) (g':Gh),look (σ (j+1)).fr=look ((σ j).put o.dst x [] []).fr->aO g' w' (σ k1).A x v->Inv g' w' (σ k1).V (σ k1).A->Ext g w (σ k0).A g' w' (σ k1).A->Fr w0 g0 w' g'->k1<=all.size->(k1=0\/∃i∈ws,k1=i+1)->
    (∀i∈ws,i<all.size->((af.setIfInBounds j true)[i]? =some true↔i<k1))->yc all ws σ n w0 g0 (af.setIfInBounds j true) k1 g' (a.put o.dst v) w':=by
   intro k1 x v w' g' C6 yv hI hx hF hk LD FH;have iY:∀t u,o.dst≠some t->a.tmps[t]? =some u->(a.put o.dst v).tmps[t]? =some u:=fun t u dj hu=>by
    cases q9:o.dst with
    |none=>exact hu
    |some d=>
     simp only[Act.put];rw[X4 (fun e=>dj (by rw[q9,e]))];exact hu
   refine⟨hI,hF,?_,?_,by simp[hD.eI],fun i oi t y aV bE cn hy=>?_,fun t y iw hy=>?_,FH,hk,LD,fun i oi aV bE e he hb=>?_⟩
   ·cases o.dst<;>simp[Act.put,hD.size]
   ·cases o.dst<;>simp[Act.put,hD.defers]
   ·rw[bN]at bE;by_cases e:i=j
    ·subst e;obtain rfl:o=oi:=by rw[ho]at aV;exact Option.some.inj aV
     rw[C6]at hy;simp only[St.put,cn,look,if_true]at hy;cases hy
     refine⟨v,?_,yv⟩;have:t<a.tmps.size:=by rw[hD.size];exact Ae i o t ho cn
     simp[Act.put,cn,this]
    ·rw[if_neg e]at bE;obtain⟨u,h1,h2⟩:=hD.ga i oi t y aV bE cn hy;exact⟨u,iY t u (fun h=>e (rj i j oi o t aV ho cn h)) h1,aO.ext hx h2⟩
   ·have dj:o.dst≠some t:=iw j o ho (by rw[bN,if_pos rfl]);obtain⟨u,h1,h2⟩:=hD.gd t y (fun i oi aV bE=>iw i oi aV (by
     rw[bN];by_cases e:i=j
     ·rw[if_pos e]
     ·rw[if_neg e];exact bE)) hy
    exact⟨u,iY t u dj h1,aO.ext hx h2⟩
   ·rw[bN]at bE⊢;have:af[e.on]? =some true:=by
     by_cases e':i=j
     ·subst e';obtain rfl:o=oi:=by rw[ho]at aV;exact Option.some.inj aV
      exact cB e he hb
     ·rw[if_neg e']at bE;exact hD.closed i oi aV bE e he hb
    by_cases e':e.on=j
    ·rw[if_pos e']
    ·rw[if_neg e'];exact this
  have il:j∉ws->∀i∈ws,i<all.size->((af.setIfInBounds j true)[i]? =some true↔i<k0):=fun ez i hi b8=>by
   rw[bN,if_neg (fun e=>ez (by rw[<-e];exact hi))];exact hD.ep i hi b8
  have kV:cO o.op=false->j∉fs->(σ j).V=(σ k0).V/\(σ j).A=(σ k0).A:=by
   intro fK nU;rcases XY j k0 with h|h
   ·have:=tH k0 j h hD.nL (fun i h1 h2 h3=>by
     have b8:i<all.size:=by have:=hD.nL;omega
     have bE:=(hD.ep i h3 b8).2 h2;have aV:all[i]? =some all[i]:=X1 b8;rcases XQ j i with h4|h4
     ·have hp:=b7 j i o _ ho aV h4 nU (mi i h3);have hb:=bZ i _ aV bE;simp only[bq,hb,XL,XM]at hp;simp[h3,fK]at hp
     ·obtain rfl:i=j:=by omega
      rw[mY]at bE;simp at bE)
    exact⟨this.1.symm,this.2.symm⟩
   ·exact tH j k0 h (by omega) (fun i h1 h2 h3=>by
     have b8:i<all.size:=by omega
     have aV:all[i]? =some all[i]:=X1 b8;have hp:=b7 i j _ o aV ho h2 (mi i h3) nU;simp only[bq,XL,XM]at hp;have hb:((aX all.toList []).getD j 0).testBit i=true:=by
      rcases hp.2 with h4|h4
      ·simp[h3,fK]at h4
      ·exact h4
     have:=(hD.ep i h3 b8).1 (cv i hb);omega)
  unfold wpOp;simp only[ho];rcases ft with⟨h1,x,V,A,h2,h3,FK⟩|⟨h1,h2⟩
  ·rw[if_pos (by rw[lC,h1])];refine .inl ?_;by_cases hs:cO o.op=true
   ·-- slots alone
    have ez:j∉ws:=fun h=>by have:=uT j o ho h;rw[hs]at this;simp at this
    have h4:bI P ⟨cR,(σ k0).V,(σ k0).A⟩ (ow j) o (fun y V' A'=>y=x/\V'=(σ k0).V/\A'=(σ k0).A):=nK (s:=σ j) (s':=⟨cR,(σ k0).V,(σ k0).A⟩) hs (gL _ _ _ _) h3 ⟨rfl,rfl,rfl⟩;obtain⟨y,V',A',⟨rfl,rfl,rfl⟩,h5⟩:=dk gU.inv gU.fr gU.slot h4;refine h5 _ _ fun v w' g' h6 h7 h8 h9=>ih _ k0 g' _ w' c4 (cM k0 y v w' g' (by rw[h2];rfl) h6 h7 h8 h9 hD.nL hD.kw (il ez))
   ·have fK:cO o.op=false:=by simpa using hs
    by_cases nU:j∈fs
    ·have ez:j∉ws:=fun h=>mi j h nU
     have Dx:k0<=m:=by
      rcases hD.kw with h|⟨i,hi,hk⟩
      ·omega
      ·rcases XQ i m with h|h
       ·omega
       ·exfalso
        have b8:i<all.size:=by have:=hD.nL;omega
        have aV:all[i]? =some all[i]:=X1 b8;have bE:=(hD.ep i hi b8).2 (by omega);have KO:j<i:=by
         have:=Ja j nU i hi;simp at this;omega
        have hp:=fW j i o _ ho aV KO;have hb:=bZ i _ aV bE;have tf:¬i<m:=by omega
        simp only[cH,hb,XL,XM]at hp;simp[hi,fK,tf,nU,ez]at hp
     obtain⟨dM,Ai⟩:=Dw k0 Dx hD.nL;have h4:bI P ⟨cR,(σ k0).V,(σ k0).A⟩ (ow j) o (fun y V' A'=>y=x/\V'=(σ k0).V/\A'=(σ k0).A):=by
      have h5:=FK nU (fun i=>(σ k0).V.getD i []) ((σ k0).V.drop V0.length) ((σ k0).A.drop A0.length);have e1:rS ex (fun i=>(σ k0).V.getD i []) V0++(σ k0).V.drop V0.length=(σ k0).V:=by
       rw[<-dM];exact Xy _ _
      have e2:A0++(σ k0).A.drop A0.length=(σ k0).A:=by conv=>lhs;arg 1;rw[<-Ai]
                                                       exact Xy _ _
      rw[e1,e2]at h5;exact eo (fr:=(σ j).fr) (gL _ _ _ _) h5
     obtain⟨y,V',A',⟨rfl,rfl,rfl⟩,h5⟩:=dk gU.inv gU.fr gU.slot h4;exact h5 _ _ fun v w' g' h6 h7 h8 h9=>ih _ k0 g' _ w' c4 (cM k0 y v w' g' (by rw[h2];rfl) h6 h7 h8 h9 hD.nL hD.kw (il ez))
    obtain⟨kK,iZ⟩:=kV fK nU;have h4:bI P ⟨cR,(σ k0).V,(σ k0).A⟩ (ow j) o (fun y V' A'=>y=x/\V'=V/\A'=A):=by
     rw[<-kK,<-iZ];exact eo (fr:=(σ j).fr) (gL _ _ _ _) (h3 _ ⟨rfl,rfl,rfl⟩)
    obtain⟨y,V',A',⟨rfl,rfl,rfl⟩,h5⟩:=dk gU.inv gU.fr gU.slot h4;have tc:(σ (j+1)).V=V':=by rw[h2];rfl
    have jo:(σ (j+1)).A=A':=by rw[h2];rfl
    by_cases ez:j∈ws
    ·refine h5 _ _ fun v w' g' h6 h7 h8 h9=>ih _ (j+1) g' _ w' c4 (cM (j+1) y v w' g' (by rw[h2];rfl) (by rw[jo];exact h6) (by rw[tc,jo];exact h7) (by rw[jo];exact h8) h9 (by omega) (.inr ⟨j,ez,rfl⟩) (fun i hi b8=>?_))
     have aV:all[i]? =some all[i]:=X1 b8;rw[bN];by_cases e:i=j
     ·subst e;simp
     ·rw[if_neg e];constructor
      ·intro bE;rcases XQ j i with h|h
       ·have hp:=b7 j i o _ ho aV h (mi j ez) (mi i hi);have hb:=bZ i _ aV bE;simp only[bq,hb,XL,XM]at hp;simp[hi,fK]at hp
       ·omega
      ·intro ax;have hp:=b7 i j _ o aV ho (by omega) (mi i hi) (mi j ez);simp only[bq,XL,XM]at hp;rcases hp.2 with h|h
       ·simp[hi,fK]at h
       ·exact cv i h
    ·rcases Du with Du|⟨p9,mI⟩
     ·exact absurd Du ez
     ·refine h5 _ _ fun v w' g' h6 h7 h8 h9=>ih _ k0 g' _ w' c4 (cM k0 y v w' g' (by rw[h2];rfl) ?_ ?_ ?_ h9 hD.nL hD.kw (il ez))
      ·rw[<-iZ,<-mI,jo];exact h6
      ·rw[<-kK,<-iZ,<-p9,<-mI,tc,jo];exact h7
      ·have e1:(σ k0).A=A':=by rw[<-iZ,<-mI,jo]
       rw[e1]at h8⊢;exact h8
  ·rw[if_neg (by rw[lC,h1];simp)];have tc:(σ (j+1)).V=(σ j).V:=by rw[h2];rfl
   have jo:(σ (j+1)).A=(σ j).A:=by rw[h2];rfl
   by_cases ez:j∈ws
   ·have fK:=uT j o ho ez;obtain⟨kK,iZ⟩:=kV fK (mi j ez);refine ih _ (j+1) g _ w c4 (cM (j+1) (.c .undef) undef w g (by rw[h2];rfl) rfl ?_ ?_ hD.fr (by omega) (.inr ⟨j,ez,rfl⟩) (fun i hi b8=>?_))
    ·rw[tc,jo,kK,iZ];exact hD.inv
    ·rw[jo,iZ];exact .refl _ _ _
    ·have aV:all[i]? =some all[i]:=X1 b8;rw[bN];by_cases e:i=j
     ·subst e;simp
     ·rw[if_neg e];constructor
      ·intro bE;rcases XQ j i with h|h
       ·have hp:=b7 j i o _ ho aV h (mi j ez) (mi i hi);have hb:=bZ i _ aV bE;simp only[bq,hb,XL,XM]at hp;simp[hi,fK]at hp
       ·omega
      ·intro ax;have hp:=b7 i j _ o aV ho (by omega) (mi i hi) (mi j ez);simp only[bq,XL,XM]at hp;rcases hp.2 with h|h
       ·simp[hi,fK]at h
       ·exact cv i h
   ·exact ih _ k0 g _ w c4 (cM k0 (.c .undef) undef w g (by rw[h2];rfl) rfl hD.inv (.refl _ _ _) hD.fr hD.nL hD.kw (il ez))
theorem T.sr {id:Nat} {ops:Array Oper} (hm:P.follows .mixedOrders=true) (ow:Nat->Bool) (ws fs:List Nat) (m:Nat) (ex:List Nat) (hd:iH ops ws fs m=true) (h:oH P ops ow ws fs m ex s.V s.A (fun s'=>Q .normal s') 0 ops.toList s):T P n (.region id ops true) Q s:=by
 intro eT w0 g0 g a w hR;obtain⟨σ,h0,hK,lV⟩:=mh ops.toList 0 s h;obtain⟨hI,hx⟩:=hR.inv.heap (w':={w with drawn:=w.drawn+1}) rfl;refine wp_region_any hm (BI (ex:=ex) (K:=fun s'=>Q .normal s') (w0:=w0) (g0:=g0) (n:=n) (σ:=σ) (ow:=ow) hd eT (fun j o ho=>?_) ⟨by rw[h0],by rw[h0]⟩ ?_ (fun s' g' a' w' h1 h2=>⟨s',g',h1,h2⟩) ops.size (X6 ops.size false) 0 g a _ ?_ ?_)
 ·have:=lV j o (by simpa using ho);simpa only[XT]using this
 ·simpa using hK
 ·exact XS (XF _ _) (by simp)
 ·refine⟨by rw[h0];exact hI,hR.fr.heap rfl rfl rfl rfl,hR.size,hR.defers,by simp,fun i o t x ho hl=>?_,fun t x _ gI=>?_,fun i _ b8=>?_,XR _,.inl rfl,fun i o ho hl=>?_⟩
  ·have hi:=(X2.1 ho).1;simp[hi]at hl
  ·rw[h0]at gI⊢;obtain⟨u,h1,h2⟩:=hR.slot t x gI;exact⟨u,h1,aO.ext hx h2⟩
  ·simp[b8]
  ·have hi:=(X2.1 ho).1;simp[hi]at hl
end
end Go.Av
