/- A part. -/
import Derived.Test.YtloolmchekcmeaaGreatXH1
set_option linter.unusedVariables false
set_option linter.unusedSimpArgs false
open Option renaming map_eq_some_iff->S6,bind_some->S7
open List renaming getElem?_eq_some_iff->S8,getElem?_append_left->S9,getElem?_append_right->Ta,getElem?_eq_getElem->Tb,range->Tc,getElem?_map->Td,mem_of_getElem?->Te,getD->Tf,getElem?_of_mem->Tg,nodup_nil->Th,mem_cons->Ti,flatMap_cons->Tj,all_eq_true->Tk,mem_append->Tl,length_append->Tm,map_cons->Tn,append_nil->To,mem_range->Tp,getElem?_inj->Tq,getElem?_eq_none->Tt,foldl_cons->Tu,eq_nil_of_length_eq_zero->Tv,contains_eq_mem->Tw,nodup_cons->Tx,mem_map->Ty,mem_filter->Tz,mem_cons_of_mem->TA,length_eq_one_iff->TB,take_append_drop->TC,sizeOf_lt_of_mem->TE,set_append_right->TF,mem_iff_getElem?->TG,mem_filterMap->TH,map_map->TI,length_nil->TK,length_filter_le->TL,getElem?_zipIdx->TM,getElem?_drop->TN,getElem?_cons_succ->TO,ext_getElem?->TP,all_cons->TQ
open Bool renaming and_eq_true->TR,or_eq_true->TS,false_eq_true->TT,not_eq_true'->TU
open Nat renaming le_refl->TV,lt_or_ge->TW,zero_le->TY,le_trans->TZ,zero_add->T0,strongRecOn->T1,lt_trichotomy->T2,lt_of_lt_of_le->T3,testBit_or->T4,le_total->T5,add_sub_cancel_left->T6,add_assoc->T7
open Array renaming getElem?_eq_getElem->T8,getElem?_eq_some_iff->T9,mem_toList_iff->Ua,getElem?_setIfInBounds_ne->Ub,length_toList->Uc,replicate->Ud,mem_of_getElem?->Ue,getD_eq_getD_getElem?->Uf,empty_append->Ug
open Int renaming emod_eq_of_lt->Uh
namespace Go.Av
open Go
def pos?:List Nat->Nat->Option Nat
 |[],_=>none
 |x::r,l=>if l=x then some 0 else(pos? r l).map (·+1)
def sV (ids:List Nat):List Nat->Option (List Nat)
 |[]=>some []
 |l::r=>match pos? ids l,sV ids r with
  |some i,some is=>some (i::is)
  |_,_=>none
def CV.iI (A:List bp) (ids:List Nat):CV->Option CV
 |.d x=>some (.d x)
 |.nil=>some (.d (.sl []))
 |.own k n=>(lS A (.own k n)).map CV.d
 |.ptr l off=>(pos? ids l).map fun i=>.ptr i off
 |.np=>some .np
 |.ip row off=>some (.ip row off)
 |.op _ _ _ _=>none
 |.fn f cap=>(sV ids cap).map fun is=>.fn f is
 |.undef=>none
def kR (A:List bp) (ids:List Nat):List CV->Option (List CV)
 |[]=>some []
 |c::r=>match c.iI A ids,kR A ids r with
  |some d,some ds=>some (d::ds)
  |_,_=>none
def AV.iI (A:List bp) (ids:List Nat):AV->Option AV
 |.c x=>(x.iI A ids).map AV.c
 |.agg xs=>(kR A ids xs).map AV.agg
 |.bu _=>none
def fA (A:List bp) (ids:List Nat):List AV->Option (List AV)
 |[]=>some []
 |c::r=>match c.iI A ids,fA A ids r with
  |some d,some ds=>some (d::ds)
  |_,_=>none
def fb (A:List bp) (V:List (List CV)) (ids:List Nat):List Nat->Option (List (List CV))
 |[]=>some []
 |l::r=>match V[l]?,fb A V ids r with
  |some row,some rs=>match kR A ids row with
   |some row'=>some (row'::rs)
   |none=>none
  |_,_=>none
def back (ids:List Nat) (nV:Nat) (i:Nat):Nat:=match ids[i]? with
 |some l=>l
 |none=>nV+(i-ids.length)
def CV.ej (ids:List Nat) (nV nA:Nat):CV->CV
 |.ptr i off=>.ptr (back ids nV i) off
 |.own k n=>.own (nA+k) n
 |.op k n i off=>.op (nA+k) n i off
 |.fn f cap=>.fn f (cap.map (back ids nV))
 |c=>c
def AV.ej (ids:List Nat) (nV nA:Nat):AV->AV
 |.c x=>.c (x.ej ids nV nA)
 |.agg xs=>.agg (xs.map (CV.ej ids nV nA))
 |.bu xs=>.bu (xs.map fun x=>match x with
  |.c x=>.c (x.ej ids nV nA)
  |.agg xs=>.agg (xs.map (CV.ej ids nV nA))
  |x=>x)
def bQ (nA nV:Nat) (ids:List Nat):List (List CV)->List Nat->List (List CV)->List (List CV)
 |V,l::ls,row::rows=>bQ nA nV ids (V.set l (row.map (CV.ej ids nV nA))) ls rows
 |V,[],rows=>V++rows.map fun row=>row.map (CV.ej ids nV nA)
 |V,_::_,[]=>V
def bq (xs:List AV):List CV:=xs.flatMap AV.cells
def bw (V:List (List CV)) (ids:List Nat):List CV:=ids.flatMap fun l=>V.getD l []
def ah (P:Program) (f:FuncId) (as:List AV) (V:List (List CV)) (r:AV) (V':List (List CV)) (A':List bp):Prop:=
 (∀args w,(callFunc f args).run P w=.ok (.enter f args) w)/\V.length<=V'.length/\
 ∀(g:Gh) (w:World) (vs:Array Value),g.ar=[]->Inv g w V []->zg w g->vs.size=as.length->(∀(i:Nat) x u,as[i]? =some x->vs[i]? =some u->aU g w [] x u)->
  Calls P f vs w fun e w'=>∃v g',e=.returned v/\aU g' w' A' r v/\Inv g' w' V' A'/\Fr w g w' g'
def AH (P:Program) (s:St) (f:FuncId) (xs:List AV) (K:AV->List (List CV)->List bp->Prop):Prop:=
 ∃(ids:List Nat) (as:List AV) (Vc:List (List CV)) (r:AV) (Vc':List (List CV)) (Ac':List bp),ids.Nodup/\fA s.A ids xs=some as/\fb s.A s.V ids ids=some Vc/\ah P f as Vc r Vc' Ac'/\
  K (r.ej ids s.V.length s.A.length) (bQ s.A.length s.V.length ids s.V ids Vc') (bC s.A (bq xs++bw s.V ids)++Ac')
def xK:bp:=⟨0,0,[],false⟩
def nE {α:Type} (l:List α):List Nat->List α->List α
 |h::hs,v::vs=>nE (l.set h v) hs vs
 |_,_=>l
def CV.dp (hs:List Nat):CV->Option CV
 |.d x=>some (.d x)
 |.nil=>some (.d (.sl []))
 |.own k n=>(pos? hs k).map fun i=>.own i n
 |.np=>some .np
 |.ip row off=>some (.ip row off)
 |.fn f []=>some (.fn f [])
 |_=>none
def fS (hs:List Nat):List CV->Option (List CV)
 |[]=>some []
 |c::r=>match c.dp hs,fS hs r with
  |some d,some ds=>some (d::ds)
  |_,_=>none
def AV.dp (hs:List Nat):AV->Option AV
 |.c x=>(x.dp hs).map AV.c
 |.agg xs=>(fS hs xs).map AV.agg
 |.bu _=>none
def dS (hs:List Nat):List AV->Option (List AV)
 |[]=>some []
 |c::r=>match c.dp hs,dS hs r with
  |some d,some ds=>some (d::ds)
  |_,_=>none
def CV.cO (hs:List Nat) (nA:Nat):CV->CV
 |.own k n=>.own (back hs nA k) n
 |.op k n i off=>.op (back hs nA k) n i off
 |c=>c
def AV.cO (hs:List Nat) (nA:Nat):AV->AV
 |.c x=>.c (x.cO hs nA)
 |.agg xs=>.agg (xs.map (CV.cO hs nA))
 |.bu xs=>.bu (xs.map fun x=>match x with
  |.c x=>.c (x.cO hs nA)
  |.agg xs=>.agg (xs.map (CV.cO hs nA))
  |x=>x)
def eo (P:Program) (f:FuncId) (as:List AV) (V:List (List CV)) (A0:List bp) (r:AV) (V':List (List CV)) (A':List bp):Prop:=
 (∀args w,(callFunc f args).run P w=.ok (.enter f args) w)/\V.length<=V'.length/\
 ∀(g:Gh) (w:World) (vs:Array Value),Inv g w V A0->zg w g->vs.size=as.length->(∀(i:Nat) x u,as[i]? =some x->vs[i]? =some u->aU g w A0 x u)->
  Calls P f vs w fun e w'=>∃v g',e=.returned v/\aU g' w' A' r v/\Inv g' w' V' A'/\Fr w g w' g'
def AI (P:Program) (s:St) (f:FuncId) (xs:List AV) (K:AV->List (List CV)->List bp->Prop):Prop:=
 ∃(hs:List Nat) (as:List AV) (r:AV) (Ac':List bp),hs.Nodup/\(∀(i h:Nat),hs[i]? =some h->∃a a',s.A[h]? =some a/\a.wr=true/\Ac'[i]? =some a'/\a'.sz=a.sz)/\dS hs xs=some as/\
  eo P f as [] (hs.map fun h=>s.A.getD h xK) r [] Ac'/\K (r.cO hs s.A.length) s.V (nE s.A hs Ac'++Ac'.drop hs.length)
def fM (P:Program) (s:St) (f:FuncId) (xs:List AV) (K:AV->List (List CV)->List bp->Prop):Prop:=AH P s f xs K\/AI P s f xs K
section
variable {P:Program} {g g' g0:Gh} {w w' w0:World} {V V':List (List CV)} {A A':List bp} {s:St} {a:Act} {K:AV->List (List CV)->List bp->Prop}
theorem kh:∀{ids:List Nat} {l i:Nat},pos? ids l=some i->ids[i]? =some l
 |[],l,i,h=>by simp[pos?]at h
 |x::r,l,i,h=>by
  simp only[pos?]at h;split at h
  ·rename_i e;simp at h;subst h;simp[e]
  ·simp only[S6]at h;obtain⟨j,h1,rfl⟩:=h;simpa using kh h1
theorem vm:∀{ids cap is:List Nat},sV ids cap=some is->is.length=cap.length/\∀(j l i:Nat),cap[j]? =some l->is[j]? =some i->ids[i]? =some l
 |ids,[],is,h=>by simp[sV]at h;subst h;exact⟨rfl,fun j l i h=>by simp at h⟩
 |ids,c::r,is,h=>by
  simp only[sV]at h;split at h
  ·rename_i i is' h1 h2;simp at h;subst h;obtain⟨h3,h4⟩:=vm h2;refine⟨by simp[h3],fun j l i h5 h6=>?_⟩;cases j with
   |zero=>simp at h5 h6;subst h5;subst h6;exact kh h1
   |succ j=>simp at h5 h6;exact h4 j l i h5 h6
  ·simp at h
theorem vn:∀{cs:List CV} {vs:List Value} {g:Gh} {A:List bp},Inv g w V A->Fr w0 g0 w g->ig g w A cs vs->(∀k n,CV.own k n∈cs->(lS A (.own k n)).isSome=true)->
  ∃g',Inv g' w V (bC A cs)/\Ext g w A g' w (bC A cs)/\Fr w0 g0 w g'/\g'.ar=g.ar/\g'.ob=g.ob/\∀(j:Nat) c x u,cs[j]? =some c->vs[j]? =some u->lS A c=some x->bc g'.im w x u
 |[],vs,g,A,hI,hF,hr,hd=>⟨g,hI,.refl _ _ _,hF,rfl,rfl,fun j c x u h=>by simp at h⟩
 |c::r,vs,g,A,hI,hF,hr,hd=>by
  cases vs with
  |nil=>exact absurd hr.1 (by simp)
  |cons v vs=>
   have uL:∃g1,Inv g1 w V (er A c)/\Ext g w A g1 w (er A c)/\Fr w0 g0 w g1/\g1.ar=g.ar/\g1.ob=g.ob/\∀x,lS A c=some x->bc g1.im w x v:=by
    have Lh:=hr.2 0 c v rfl rfl;cases ht:lS A c with
    |some x=>
     obtain⟨g1,h1,h2,h3,h4,h5,h6⟩:=sM hI hF Lh ht;exact⟨g1,h1,h2,h3,h4,h5,fun y hy=>by simp at hy;subst hy;exact h6⟩
    |none=>
     have cN:er A c=A:=by
      cases c<;>try rfl
      rename_i k n;have:=hd k n (by simp);rw[ht]at this;simp at this
     rw[cN];exact⟨g,hI,.refl _ _ _,hF,rfl,rfl,fun y hy=>by simp at hy⟩
   obtain⟨g1,eK,cJ,ju,rN,qa,ij⟩:=uL;have xq:ig g1 w (er A c) r vs:=⟨by simpa using hr.1,fun j c' u h3 h4=>bj.ext cJ (hr.2 (j+1) c' u (by simpa using h3) (by simpa using h4))⟩;obtain⟨g2,xA,gA,yX,IJ,se,jR⟩:=vn eK ju xq (fun k n h=>by rw[qd];exact hd k n (by simp[h]));refine⟨g2,xA,cJ.trans gA,yX,IJ.trans rN,se.trans qa,fun j c' x u h3 h4 h5=>?_⟩;cases j with
   |zero=>simp at h3 h4;subst h3;subst h4;exact bc.eF gA.gr _ _ (ij x h5)
   |succ j=>simp at h3 h4;exact jR j c' x u h3 h4 (by rw[qd];exact h5)
theorem CV.AJ {ids:List Nat} {k n:Nat} {d:CV} (h:CV.iI A ids (.own k n)=some d):(lS A (.own k n)).isSome=true:=by
 simp only[CV.iI,S6]at h;obtain⟨x,hx,_⟩:=h;simp[hx]
theorem sW {ids:List Nat}:∀{cs ds:List CV},kR A ids cs=some ds->∀k n,CV.own k n∈cs->(lS A (.own k n)).isSome=true
 |[],ds,h,k,n,hm=>by simp at hm
 |c::r,ds,h,k,n,hm=>by
  simp only[kR]at h;split at h
  ·rename_i d ds' h1 h2;simp only[Ti]at hm;rcases hm with rfl|hm
   ·exact CV.AJ h1
   ·exact sW h2 k n hm
  ·simp at h
theorem o0 {ids:List Nat}:∀{cs ds:List CV},kR A ids cs=some ds->ds.length=cs.length/\∀(j:Nat) c d,cs[j]? =some c->ds[j]? =some d->c.iI A ids=some d
 |[],ds,h=>by simp[kR]at h;subst h;exact⟨rfl,fun j c d h=>by simp at h⟩
 |c::r,ds,h=>by
  simp only[kR]at h;split at h
  ·rename_i d ds' h1 h2;simp at h;subst h;obtain⟨h3,h4⟩:=o0 h2;refine⟨by simp[h3],fun j c' d' h5 h6=>?_⟩;cases j with
   |zero=>simp at h5 h6;subst h5;subst h6;exact h1
   |succ j=>simp at h5 h6;exact h4 j c' d' h5 h6
  ·simp at h
theorem xL {ids:List Nat}:∀{xs as:List AV},fA A ids xs=some as->as.length=xs.length/\∀(j:Nat) x y,xs[j]? =some x->as[j]? =some y->x.iI A ids=some y
 |[],as,h=>by simp[fA]at h;subst h;exact⟨rfl,fun j x y h=>by simp at h⟩
 |c::r,as,h=>by
  simp only[fA]at h;split at h
  ·rename_i d ds' h1 h2;simp at h;subst h;obtain⟨h3,h4⟩:=xL h2;refine⟨by simp[h3],fun j c' d' h5 h6=>?_⟩;cases j with
   |zero=>simp at h5 h6;subst h5;subst h6;exact h1
   |succ j=>simp at h5 h6;exact h4 j c' d' h5 h6
  ·simp at h
theorem xM {ids:List Nat}:∀{ls:List Nat} {Vc:List (List CV)},fb A V ids ls=some Vc->Vc.length=ls.length/\∀(i l:Nat) row',ls[i]? =some l->Vc[i]? =some row'->∃row,V[l]? =some row/\kR A ids row=some row'
 |[],Vc,h=>by simp[fb]at h;subst h;exact⟨rfl,fun i l row' h=>by simp at h⟩
 |l::r,Vc,h=>by
  simp only[fb]at h;split at h
  ·rename_i row rs h1 h2;split at h
   ·rename_i row' h3;simp at h;subst h;obtain⟨h4,h5⟩:=xM h2;refine⟨by simp[h4],fun i l' rw' h6 h7=>?_⟩;cases i with
    |zero=>simp at h6 h7;subst h6;subst h7;exact⟨row,h1,h3⟩
    |succ i=>simp at h6 h7;exact h5 i l' rw' h6 h7
   ·simp at h
  ·simp at h
theorem qi {ids:List Nat} {g1 gc:Gh} {c d:CV} {u:Value} (h:c.iI A ids=some d) (hr:bj g1 w A' c u) (hd:∀x,lS A c=some x->bc g1.im w x u) (Gm:∀(i l b:Nat),ids[i]? =some l->g1.ob[l]? =some b->gc.ob[i]? =some b) (rL:gc.im=g1.im):bj gc w [] d u:=by
 cases c with
 |d x=>simp[CV.iI]at h;subst h;simp only[bj]at hr⊢;rw[rL];exact hr
 |nil=>simp[CV.iI]at h;subst h;simp only[bj];rw[rL];exact hd _ rfl
 |own k n=>
  simp only[CV.iI,S6]at h;obtain⟨x,hx,rfl⟩:=h;simp only[bj];rw[rL];exact hd x hx
 |ptr l off=>
  simp only[CV.iI,S6]at h;obtain⟨i,hi,rfl⟩:=h;obtain⟨b,hb,e⟩:=hr;exact⟨b,Gm i l b (kh hi) hb,e⟩
 |np=>simp[CV.iI]at h;subst h;exact hr
 |ip row off=>
  simp[CV.iI]at h;subst h;obtain⟨b,o,e,h1,h2⟩:=hr;exact⟨b,o,e,by rw[rL];exact h1,by rw[rL];exact h2⟩
 |op k n i off=>simp[CV.iI]at h
 |fn f cap=>
  simp only[CV.iI,S6]at h;obtain⟨is,hi,rfl⟩:=h;obtain⟨bks,e,hl,hb⟩:=hr;obtain⟨h1,h2⟩:=vm hi;refine⟨bks,e,by omega,fun j i b h3 h4=>?_⟩;have hj:j<cap.length:=by have:=(S8.1 h3).1;omega
  have hc:cap[j]? =some cap[j]:=Tb hj;exact Gm i _ b (h2 j _ i hc h3) (hb j _ b hc h4)
 |undef=>simp[CV.iI]at h
theorem zq {ids:List Nat} {nV nA:Nat} {Ac' A2:List bp} {g2:Gh} {c:CV} {u:Value} (hr:bj g' w Ac' c u) (Gm:∀(i b:Nat),g'.ob[i]? =some b->g2.ob[back ids nV i]? =some b) (rL:g2.im=g'.im)
  (hA:∀(k:Nat) r,Ac'[k]? =some r->A2[nA+k]? =some r) (IS:∀(k:Nat) v,g'.ar[k]? =some v->g2.ar[nA+k]? =some v):bj g2 w A2 (c.ej ids nV nA) u:=by
 cases c with
 |d x=>simp only[CV.ej,bj]at hr⊢;rw[rL];exact hr
 |own k n=>
  obtain⟨ad,cap,e,r,h1,h2,h3⟩:=hr;exact⟨ad,cap,e,r,hA k r h1,h2,fun h=>IS k _ (h3 h)⟩
 |ptr l off=>
  obtain⟨b,hb,e⟩:=hr;exact⟨b,Gm l b hb,e⟩
 |ip row off=>
  obtain⟨b,o,e,h1,h2⟩:=hr;exact⟨b,o,e,by rw[rL];exact h1,by rw[rL];exact h2⟩
 |op k n i off=>
  obtain⟨b,e,hv,r,h1,h2,h3⟩:=hr;refine⟨b,e,hv,r,hA k r h1,h2,fun h=>?_⟩;obtain⟨cap,h4,h5⟩:=h3 h;exact⟨cap,IS k _ h4,h5⟩
 |fn f cap=>
  obtain⟨bks,e,hl,hb⟩:=hr;refine⟨bks,e,by simpa using hl,fun i l b h1 h2=>?_⟩;simp only[Td,S6]at h1;obtain⟨l',h3,rfl⟩:=h1;exact Gm l' b (hb i l' b h3 h2)
 |_=>exact hr
theorem qW {nA nV:Nat} {ids:List Nat}:∀{V:List (List CV)} {ls:List Nat} {rows:List (List CV)},ls.length<=rows.length->(bQ nA nV ids V ls rows).length=V.length+(rows.length-ls.length)
 |V,[],rows,_=>by simp[bQ]
 |V,l::ls,[],h=>by simp at h
 |V,l::ls,row::rows,h=>by
  simp only[bQ];rw[qW (by simpa using h)];simp
theorem sX {nA nV:Nat} {ids:List Nat}:∀{V:List (List CV)} {ls:List Nat} {rows:List (List CV)},ls.length<=rows.length->ls.Nodup->(∀l∈ls,l<V.length)->∀(l:Nat) row,(bQ nA nV ids V ls rows)[l]? =some row->
  (∃(i:Nat) (row':List CV),ls[i]? =some l/\rows[i]? =some row'/\row=row'.map (CV.ej ids nV nA))\/(l∉ls/\l<V.length/\V[l]? =some row)\/(V.length<=l/\∃row':List CV,rows[ls.length+(l-V.length)]? =some row'/\row=row'.map (CV.ej ids nV nA))
 |V,[],rows,_,_,_,l,row,h=>by
  simp only[bQ]at h;by_cases hl:l<V.length
  ·rw[S9 hl]at h;exact .inr (.inl ⟨by simp,hl,h⟩)
  ·rw[Ta (by omega),Td,S6]at h;obtain⟨row',h1,rfl⟩:=h;exact .inr (.inr ⟨by omega,row',by simpa using h1,rfl⟩)
 |V,l0::ls,[],h,_,_,_,_,_=>by simp at h
 |V,l0::ls,row0::rows,hlen,pY,aC,l,row,h=>by
  simp only[bQ]at h;rw[Tx]at pY;have EG:l0<V.length:=aC l0 (by simp);have hV:V[l0]? =some V[l0]:=Tb EG;rcases sX (by simpa using hlen) pY.2 (fun l hl=>by simpa using aC l (by simp[hl])) l row h with⟨i,row',h1,h2,h3⟩|⟨h1,h2,h3⟩|⟨h1,row',h2,h3⟩
  ·exact .inl ⟨i+1,row',by simpa using h1,by simpa using h2,h3⟩
  ·rw[cR hV]at h3;by_cases e:l=l0
   ·subst e;simp at h3;exact .inl ⟨0,row0,rfl,rfl,h3.symm⟩
   ·rw[if_neg e]at h3;exact .inr (.inl ⟨by simp[e,h1],by simpa using h2,h3⟩)
  ·simp at h1 h2;refine .inr (.inr ⟨h1,row',?_,h3⟩);rw[List.length_cons,show ls.length+1+(l-V.length)=(ls.length+(l-V.length))+1 by omega,TO];exact h2
set_option maxHeartbeats 1000000 in
theorem uM (hI:Inv g w s.V s.A) (hF:Fr w0 g0 w g) {f:FuncId} {xs:List AV} {vs:Array Value} (hl:vs.size=xs.length) (hr:∀(i:Nat) x u,xs[i]? =some x->vs[i]? =some u->aU g w s.A x u) (h:AH P s f xs K):
  (∀args w,(callFunc f args).run P w=.ok (.enter f args) w)/\∃x V' A',K x V' A'/\Calls P f vs w fun e w'=>∃v g',e=.returned v/\aU g' w' A' x v/\Inv g' w' V' A'/\Ext g w s.A g' w' A'/\Fr w0 g0 w' g':=by
 obtain⟨ids,as,Vc,r,Vc',Ac',pY,has,PW,⟨Dc,hlen,kj⟩,hK⟩:=h;refine⟨Dc,_,_,_,hK,?_⟩;obtain⟨Mx,Dd⟩:=xL has;obtain⟨Hp,IU⟩:=xM PW;have De:∀l∈ids,l<s.V.length:=fun l EF=>by
  obtain⟨i,hi⟩:=Tg EF;have Gn:=(S8.1 hi).1;obtain⟨row,h1,_⟩:=IU i l _ hi (Tb (show i<Vc.length by omega));exact(S8.1 h1).1
 have ma:∀(l:List AV) (us:List Value),us.length=l.length->(∀(i:Nat) x u,l[i]? =some x->us[i]? =some u->aU g w s.A x u)->(∀x∈l,∃y,x.iI s.A ids=some y)->
   ig g w s.A (bq l) (us.flatMap fun u=>u.cells.toList)/\∀k n,CV.own k n∈bq l->(lS s.A (.own k n)).isSome=true:=by
  intro l;induction l with
  |nil=>intro us h1 _ _;have:us=[]:=Tv (by simpa using h1);subst this;exact⟨⟨rfl,fun j c u h=>by simp[bq]at h⟩,fun k n h=>by simp[bq]at h⟩
  |cons x l ih=>
   intro us h1 h2 h3;cases us with
   |nil=>simp at h1
   |cons u us=>
    obtain⟨⟨h4,h5⟩,h6⟩:=ih us (by simpa using h1) (fun i x u h7 h8=>h2 (i+1) x u (by simpa using h7) (by simpa using h8)) (fun x hx=>h3 x (by simp[hx]));obtain⟨y,hy⟩:=h3 x (by simp);have My:=h2 0 x u rfl rfl;have pW:ig g w s.A x.cells u.cells.toList:=by
     refine(AV.eQ My ?_).1;cases x with
     |c c=>simp only[AV.iI,S6]at hy;obtain⟨d,hd,_⟩:=hy;cases c<;>first|rfl|simp[CV.iI]at hd
     |agg cs=>
      simp only[AV.iI,S6]at hy;obtain⟨ds,hd,_⟩:=hy;simp only[AV.plain,Tk,TU];intro c hc;obtain⟨j,hj⟩:=Tg hc;obtain⟨h9,bZ⟩:=o0 hd;have kf:j<ds.length:=by have:=(S8.1 hj).1;omega
      have:=bZ j c _ hj (Tb kf);cases c<;>first|rfl|simp[CV.iI]at this
     |bu ys=>simp[AV.iI]at hy
    refine⟨⟨by simp only[bq,Tj,Tm]at h4⊢;have:=pW.1;omega,fun j c v h7 h8=>?_⟩,fun k n h7=>?_⟩
    ·simp only[bq,Tj]at h7 h8;by_cases hj:j<x.cells.length
     ·rw[S9 hj]at h7;rw[S9 (by rw[pW.1];exact hj)]at h8;exact pW.2 j c v h7 h8
     ·rw[Ta (by omega)]at h7;rw[Ta (by rw[pW.1];omega),pW.1]at h8;exact h5 _ c v h7 h8
    ·simp only[bq,Tj,Tl]at h7;rcases h7 with h7|h7
     ·cases x with
      |c c=>
       simp[AV.cells]at h7;subst h7;simp only[AV.iI,S6]at hy;obtain⟨d,hd,_⟩:=hy;exact CV.AJ hd
      |agg cs=>
       simp only[AV.iI,S6]at hy;obtain⟨ds,hd,_⟩:=hy;exact sW hd k n h7
      |bu ys=>simp[AV.cells]at h7
     ·exact h6 k n h7
 obtain⟨EJ,PX⟩:=ma xs vs.toList (by simpa using hl) (fun i x u h1 h2=>hr i x u h1 (by simpa using h2)) (fun x hx=>by
  obtain⟨i,hi⟩:=Tg hx;have:i<as.length:=by have:=(S8.1 hi).1;omega
  exact⟨_,Dd i x _ hi (Tb this)⟩)
 have Ju:∀ls:List Nat,(∀l∈ls,l∈ids)->∃us:List Value,ig g w s.A (bw s.V ls) us/\(∀k n,CV.own k n∈bw s.V ls->(lS s.A (.own k n)).isSome=true)/\
   ∀(l:Nat) row b,l∈ls->s.V[l]? =some row->g.ob[l]? =some b->∃cs ty,w.heap[b]? =some (.cells cs ty (0,0))/\cs.size=row.length/\∃o,∀(j:Nat) c u,row[j]? =some c->cs[j]? =some u->(bw s.V ls)[o+j]? =some c/\us[o+j]? =some u:=by
  intro ls;induction ls with
  |nil=>intro _;exact⟨[],⟨rfl,fun j c u h=>by simp[bw]at h⟩,fun k n h=>by simp[bw]at h,fun l row b h=>by simp at h⟩
  |cons l0 ls ih=>
   intro gm;obtain⟨us,⟨h1,h2⟩,h3,h4⟩:=ih (fun l hl=>gm l (by simp[hl]));have EG:=De l0 (gm l0 (by simp));have AK:s.V[l0]? =some s.V[l0]:=Tb EG;have Df:g.ob[l0]? =some (g.ob[l0]'(by rw[hI.nD];exact EG)):=Tb _;obtain⟨_,cs0,ty0,PY,EK,E9⟩:=hI.obj l0 _ _ AK Df;have rT:s.V.getD l0 []=s.V[l0]:=by simp[Tf,AK]
   have kS:bw s.V (l0::ls)=s.V[l0]++bw s.V ls:=by simp only[bw,Tj,rT]
   refine⟨cs0.toList++us,?_,?_,?_⟩
   ·rw[kS];refine⟨by simp[h1,EK],fun j c u h5 h6=>?_⟩;by_cases hj:j<s.V[l0].length
    ·rw[S9 hj]at h5;rw[S9 (by simp;omega)]at h6;exact E9 j c u h5 (by simpa using h6)
    ·rw[Ta (by omega)]at h5;rw[Ta (by simp;omega)]at h6;exact h2 _ c u h5 (by simpa[EK]using h6)
   ·rw[kS];intro k n hm;rcases Tl.1 hm with hm|hm
    ·obtain⟨i,hi⟩:=Tg (gm l0 (by simp));have Gn:=(S8.1 hi).1;obtain⟨row,h5,h6⟩:=IU i l0 _ hi (Tb (show i<Vc.length by omega));rw[AK]at h5;cases h5;exact sW h6 k n hm
    ·exact h3 k n hm
   ·intro l row b Fa cV hb;rw[kS];by_cases e:l=l0
    ·subst e;rw[AK]at cV;cases cV;rw[Df]at hb;cases hb;refine⟨cs0,ty0,PY,EK,0,fun j c u h5 h6=>?_⟩;have hj:=(S8.1 h5).1;rw[T0,S9 hj,S9 (by simp;omega)];exact⟨h5,by simpa using h6⟩
    ·simp only[Ti,e,false_or]at Fa;obtain⟨cs,ty,h5,h6,o,h7⟩:=h4 l row b Fa cV hb;refine⟨cs,ty,h5,h6,s.V[l0].length+o,fun j c u h8 h9=>?_⟩;obtain⟨bZ,dC⟩:=h7 j c u h8 h9;rw[T7,Ta (by omega),Ta (by simp;omega)];simp only[T6,Uc,EK];exact⟨bZ,dC⟩
 obtain⟨us,Mz,PZ,P0⟩:=Ju ids (fun _ h=>h);have uN:ig g w s.A (bq xs++bw s.V ids) ((vs.toList.flatMap fun u=>u.cells.toList)++us):=by
  refine⟨by simp only[Tm];have:=EJ.1;have:=Mz.1;omega,fun j c u h1 h2=>?_⟩;by_cases hj:j<(bq xs).length
  ·rw[S9 hj]at h1;rw[S9 (by rw[EJ.1];exact hj)]at h2;exact EJ.2 j c u h1 h2
  ·rw[Ta (by omega)]at h1;rw[Ta (by rw[EJ.1];omega),EJ.1]at h2;exact Mz.2 _ c u h1 h2
 obtain⟨g1,eK,cJ,ju,rN,qa,ij⟩:=vn hI hF uN (fun k n hm=>by
  rcases Tl.1 hm with hm|hm
  ·exact PX k n hm
  ·exact PZ k n hm)
 let gc:Gh:={ob:=ids.map fun l=>g1.ob.getD l 0,ar:=[],im:=g1.im}
 have Dg:∀(i l b:Nat),ids[i]? =some l->g1.ob[l]? =some b->gc.ob[i]? =some b:=fun i l b h1 h2=>by
  simp[gc,h1,h2]
 have lI:∀(i b:Nat),gc.ob[i]? =some b->∃l,ids[i]? =some l/\g1.ob[l]? =some b:=fun i b h1=>by
  simp only[gc,Td,S6]at h1;obtain⟨l,h2,h3⟩:=h1;have uO:l<g1.ob.length:=by rw[eK.nD];exact De l (Te h2)
  exact⟨l,h2,by rw[<-h3];simp[Tf,uO]⟩
 have Dh:Inv gc w Vc []:=by
  refine⟨by simp[gc,Hp],rfl,fun i row' b h1 h2=>?_,fun k r v h1=>by simp at h1,fun i i' b h1 h2=>?_,fun k k' v v' b h1=>by simp[gc]at h1,fun l k v b _ h2=>by simp[gc]at h2,eK.fresh⟩
  ·obtain⟨l,h3,h4⟩:=lI i b h2;obtain⟨row,h5,h6⟩:=IU i l row' h3 h1;have hb:g.ob[l]? =some b:=by rw[<-qa];exact h4
   obtain⟨cs,ty,h7,h8,o,h9⟩:=P0 l row b (Te h3) h5 hb;obtain⟨bZ,dC⟩:=o0 h6;refine⟨(eK.obj l row b h5 h4).1,cs,ty,h7,by omega,fun j d u eR dt=>?_⟩;have hj:j<row.length:=by have:=(S8.1 eR).1;omega
   have hc:row[j]? =some row[j]:=Tb hj;obtain⟨eP,nQ⟩:=h9 j _ u hc dt;refine qi (dC j _ d hc eR) (bj.ext cJ (Mz.2 (o+j) _ u eP nQ)) (fun x hx=>?_) Dg rfl;refine ij ((bq xs).length+(o+j)) row[j] x u ?_ ?_ hx
   ·rw[Ta (by omega)];simpa using eP
   ·rw[Ta (by rw[EJ.1];omega),EJ.1];simpa using nQ
  ·obtain⟨l,h3,h4⟩:=lI i b h1;obtain⟨l',h5,h6⟩:=lI i' b h2;obtain rfl:=eK.jx l l' b h4 h6;have hi:=(S8.1 h3).1;exact(Tq hi pY).1 (h3.trans h5.symm)
 have Di:∀(i:Nat) x u,as[i]? =some x->vs[i]? =some u->aU gc w [] x u:=by
  intro i y u h1 h2;have hi:i<xs.length:=by have:=(S8.1 h1).1;omega
  have hx:xs[i]? =some xs[i]:=Tb hi;have cr:=Dd i _ y hx h1;have E9:=hr i _ u hx h2
  have Hq:∀(l:List AV) (us:List Value),ig g w s.A (bq l) (us.flatMap fun u=>u.cells.toList)->us.length=l.length->(∀(i:Nat) x u,l[i]? =some x->us[i]? =some u->x.cells.length=u.cells.size)->∀(i:Nat) x u,l[i]? =some x->us[i]? =some u->
    ∃o,∀(j:Nat) c v,x.cells[j]? =some c->u.cells[j]? =some v->(bq l)[o+j]? =some c/\(us.flatMap fun u=>u.cells.toList)[o+j]? =some v:=by
   intro l;induction l with
   |nil=>intro us _ _ _ i x u h;simp at h
   |cons x0 l ih=>
    intro us Lh xE fw i x u h3 h4;cases us with
    |nil=>simp at xE
    |cons u0 us=>
     have EK:=fw 0 x0 u0 rfl rfl;cases i with
     |zero=>
      simp at h3 h4;subst h3;subst h4;refine⟨0,fun j c v h5 h6=>?_⟩;have hj:=(S8.1 h5).1;simp only[bq,Tj,T0];rw[S9 hj,S9 (by simp;omega)];exact⟨h5,by simpa using h6⟩
     |succ i=>
      simp at h3 h4;obtain⟨o,ho⟩:=ih us ⟨by have:=Lh.1;simp only[bq,Tj,Tm,Uc]at this⊢;omega,fun j c v h5 h6=>Lh.2 (x0.cells.length+j) c v (by
        simp only[bq,Tj];rw[Ta (by omega)];simpa[bq]using h5) (by
        simp only[Tj];rw[Ta (by simp;omega)];simpa[EK]using h6)⟩ (by simpa using xE) (fun i x u h5 h6=>fw (i+1) x u (by simpa using h5) (by simpa using h6)) i x u h3 h4
      refine⟨x0.cells.length+o,fun j c v h5 h6=>?_⟩;obtain⟨h7,h8⟩:=ho j c v h5 h6;simp only[bq,Tj,T7];rw[Ta (by omega),Ta (by simp;omega)];simp only[T6,Uc];exact⟨h7,by rw[show x0.cells.length+(o+j)-u0.cells.size=o+j by omega];exact h8⟩
  have pW:∀(i:Nat) x u,xs[i]? =some x->vs.toList[i]? =some u->ig g w s.A x.cells u.cells.toList:=by
   intro i x u h3 h4;have Ay:i<as.length:=by have:=(S8.1 h3).1;omega
   have hy:=Dd i x _ h3 (Tb Ay);refine(AV.eQ (hr i x u h3 (by simpa using h4)) ?_).1;cases x with
   |c c=>simp only[AV.iI,S6]at hy;obtain⟨d,hd,_⟩:=hy;cases c<;>first|rfl|simp[CV.iI]at hd
   |agg cs=>
    simp only[AV.iI,S6]at hy;obtain⟨ds,hd,_⟩:=hy;simp only[AV.plain,Tk,TU];intro c hc;obtain⟨j,hj⟩:=Tg hc;obtain⟨h9,bZ⟩:=o0 hd;have kf:j<ds.length:=by have:=(S8.1 hj).1;omega
    have:=bZ j c _ hj (Tb kf);cases c<;>first|rfl|simp[CV.iI]at this
   |bu ys=>simp[AV.iI]at hy
  obtain⟨o,ho⟩:=Hq xs vs.toList EJ (by simpa using hl) (fun i x u h3 h4=>by have:=(pW i x u h3 h4).1;simp at this;omega) i _ u hx (by simpa using h2);have lF:∀(j:Nat) c d v,xs[i].cells[j]? =some c->u.cells[j]? =some v->c.iI s.A ids=some d->bj gc w [] d v:=fun j c d v h3 h4 h5=>by
   obtain⟨h6,h7⟩:=ho j c v h3 h4;have aC:=(S8.1 h6).1;refine qi h5 (bj.ext cJ (EJ.2 _ c v h6 h7)) (fun x hx=>ij (o+j) c x v ?_ ?_ hx) Dg rfl
   ·rw[S9 aC];exact h6
   ·rw[S9 (by rw[EJ.1];exact aC)];exact h7
  generalize OA:xs[i]=x at cr E9 lF;cases x with
  |c c=>
   simp only[AV.iI,S6]at cr;obtain⟨d,hd,rfl⟩:=cr;have uL:u.oneCell'=true:=bj.jA (by cases c<;>first|rfl|simp[CV.iI]at hd) E9;have sJ:u.cells= #[u]:=by cases u<;>first|rfl|simp[Value.oneCell']at uL
   exact lF 0 c d u rfl (by rw[sJ];rfl) hd
  |agg cs=>
   simp only[AV.iI,S6]at cr;obtain⟨ds,hd,rfl⟩:=cr;obtain⟨us',rfl,P1,_⟩:=E9;obtain⟨h9,bZ⟩:=o0 hd;refine⟨us',rfl,by omega,fun j d v h3 h4=>?_⟩;have hj:j<cs.length:=by have:=(S8.1 h3).1;omega
   have hc:cs[j]? =some cs[j]:=Tb hj;exact lF j _ d v hc (by simpa[Value.cells]using h4) (bZ j _ d hc h3)
  |bu ys=>simp[AV.iI]at cr
 refine(kj gc w vs rfl Dh (ju.now.less (fun b hb=>by obtain⟨i,hi⟩:=Tg hb;obtain⟨l,_,h⟩:=lI i b hi;exact Te h) (fun b hb=>by simp[Gh.gC,gc]at hb)) (by omega) Di).mono ?_;rintro e w' ⟨v,g',rfl,zr,sf,pX⟩;have IV:∀b,b∉gc.gC:=fun b h=>by simp[Gh.gC,gc]at h
 obtain⟨new,Fb,uP⟩:=pX.ob;have Hr:gc.ob.length=ids.length:=by simp[gc]
 let g2:Gh:={ob:=g1.ob++new,ar:=g1.ar++g'.ar,im:=g'.im}
 have Gp:g1.ob.length=s.V.length:=eK.nD;have qX:g1.ar.length=(bC s.A (bq xs++bw s.V ids)).length:=eK.j7;have qV:(bC s.A (bq xs++bw s.V ids)).length=s.A.length:=by rw[<-qX,rN,hI.j7]
 have MA:∀(i b:Nat),g'.ob[i]? =some b->g2.ob[back ids s.V.length i]? =some b:=by
  intro i b h1;rw[Fb]at h1;simp only[back];by_cases hi:i<ids.length
  ·have hid:ids[i]? =some ids[i]:=Tb hi;rw[S9 (by omega)]at h1;obtain⟨l,h2,h3⟩:=lI i b h1;simp only[h2,g2];rw[S9 (by have:=(S8.1 h3).1;exact this)];exact h3
  ·have hid:ids[i]? =none:=Tt (by omega);rw[Ta (by omega),Hr]at h1;simp only[hid,g2];rw[Ta (by omega),Gp];simpa using h1
 have MB:∀(k:Nat) r,Ac'[k]? =some r->(bC s.A (bq xs++bw s.V ids)++Ac')[s.A.length+k]? =some r:=fun k r h1=>by
  rw[Ta (by omega),qV];simpa using h1
 have MC:∀(k:Nat) v,g'.ar[k]? =some v->g2.ar[s.A.length+k]? =some v:=fun k v h1=>by
  simp only[g2];rw[Ta (by omega),qX,qV];simpa using h1
 have sK:iH g1.im w g'.im w':=by
  refine⟨fun b=>?_,fun b o ho=>?_⟩
  ·rcases TW b w.heap.size with hb|hb
   ·rw[pX.gG b hb (IV b)];exact TV _
   ·rw[eK.fresh b hb];exact TY _
  ·have hb:=eK.Bs ho;refine World.cell?_of_block (a:=⟨b,o,none⟩) (pX.oO b hb (fun hm=>?_) (IV b));obtain⟨i,hi⟩:=Tg hm;obtain⟨l,h2,h3⟩:=lI i b hi;have uO:=De l (Te h2);have:=(eK.obj l _ b (Tb uO) h3).1;omega
 have gA:Ext g1 w (bC s.A (bq xs++bw s.V ids)) g2 w' (bC s.A (bq xs++bw s.V ids)++Ac'):=by
  refine⟨fun l b hb=>?_,sK,fun k r hk=>⟨r,?_,rfl,TV _,fun _=>?_⟩⟩
  ·simp only[g2];rw[S9 (S8.1 hb).1];exact hb
  ·rw[S9 (S8.1 hk).1];exact hk
  ·simp only[g2];rw[S9 (by rw[qX];exact(S8.1 hk).1)]
 have mb:∀c u,bj g' w' Ac' c u->bj g2 w' (bC s.A (bq xs++bw s.V ids)++Ac') (c.ej ids s.V.length s.A.length) u:=fun c u h1=>zq h1 MA rfl MB MC
 have hold:∀b,b<w.heap.size->(∀(l:Nat),l∈ids->g1.ob[l]? ≠some b)->w'.heap[b]? =w.heap[b]? :=fun b hb cN=>pX.oO b hb (fun hm=>by
  obtain⟨i,hi⟩:=Tg hm;obtain⟨l,h2,h3⟩:=lI i b hi;exact cN l (Te h2) h3) (IV b)
 have hVc'l:ids.length<=Vc'.length:=by omega
 have Hs:=sf.nD;have OB:new.length=Vc'.length-ids.length:=by
  have:g'.ob.length=Vc'.length:=Hs;rw[Fb,Tm,Hr]at this;omega
 have sY:∀(l b:Nat),g2.ob[l]? =some b->(l<s.V.length/\g1.ob[l]? =some b/\b<w.heap.size)\/(s.V.length<=l/\g'.ob[ids.length+(l-s.V.length)]? =some b/\w.heap.size<=b):=by
  intro l b h1;simp only[g2]at h1;by_cases EF:l<s.V.length
  ·rw[S9 (by omega)]at h1;exact .inl ⟨EF,h1,eK.oU h1⟩
  ·rw[Ta (by omega),Gp]at h1;refine .inr ⟨by omega,?_,uP b (Te h1)⟩;rw[Fb,Ta (by omega),Hr];simpa using h1
 have hg'idx:∀(i l b:Nat),ids[i]? =some l->g1.ob[l]? =some b->g'.ob[i]? =some b:=fun i l b h1 h2=>by
  have h3:=Dg i l b h1 h2;rw[Fb,S9 (S8.1 h3).1];exact h3
 refine⟨v,g2,rfl,?_,?_,cJ.trans gA,?_⟩
 ·-- the result
  cases r with
  |c c=>exact mb c v zr
  |agg cs=>
   obtain⟨us',rfl,h1,h2⟩:=zr;refine⟨us',rfl,by simpa using h1,fun j c u h3 h4=>?_⟩;simp only[Td,S6]at h3;obtain⟨c',h5,rfl⟩:=h3;exact mb c' u (h2 j c' u h5 h4)
  |bu ys=>
   obtain⟨us',rfl,h1,h2⟩:=zr;refine⟨us',rfl,by simpa using h1,fun j y u h3 h4=>?_⟩;simp only[Td,S6]at h3;obtain⟨y',h5,rfl⟩:=h3;have h6:=h2 j y' u h5 h4;cases y' with
   |c c=>exact mb c u h6
   |agg cs=>
    obtain⟨us'',rfl,h7,h8⟩:=h6;refine⟨us'',rfl,by simpa using h7,fun j c u h9 bZ=>?_⟩;simp only[Td,S6]at h9;obtain⟨c',dC,rfl⟩:=h9;exact mb c' u (h8 j c' u dC bZ)
   |bu zs=>exact h6.elim
 ·-- the memory
  refine⟨?_,?_,fun l row b h1 h2=>?_,fun k r v' h1 h2=>?_,fun l l' b h1 h2=>?_,fun k k' v1 v2 b h1 h2 h3 h4=>?_,fun l k v' b h1 h2 h3=>?_,fun b hb=>sf.fresh b hb⟩
  ·rw[qW hVc'l];simp only[g2,Tm];omega
  ·simp only[g2,Tm,qX];rw[sf.j7]
  ·rcases sX hVc'l pY De l row h1 with⟨i,row',h3,h4,rfl⟩|⟨h3,h4,h5⟩|⟨h3,row',h4,rfl⟩
   ·have EF:=De l (Te h3);rcases sY l b h2 with⟨_,h5,_⟩|⟨h5,_⟩
    ·obtain⟨h6,cs,ty,h7,h8,h9⟩:=sf.obj i row' b h4 (hg'idx i l b h3 h5);refine⟨h6,cs,ty,h7,by simpa using h8,fun j c u bZ dC=>?_⟩;simp only[Td,S6]at bZ;obtain⟨c',eR,rfl⟩:=bZ;exact mb c' u (h9 j c' u eR dC)
    ·omega
   ·rcases sY l b h2 with⟨_,h6,h7⟩|⟨h6,_⟩
    ·refine eK.eH gA h5 h6 (hold b h7 (fun l' EF h8=>h3 (eK.jx l l' b h6 h8▸EF))) ?_;show g'.im b=0;rw[pX.gG b h7 (IV b)];exact(eK.obj l row b h5 h6).1
    ·omega
   ·rcases sY l b h2 with⟨h5,_⟩|⟨_,h5,_⟩
    ·omega
    ·obtain⟨h6,cs,ty,h7,h8,h9⟩:=sf.obj _ row' b h4 h5;refine⟨h6,cs,ty,h7,by simpa using h8,fun j c u bZ dC=>?_⟩;simp only[Td,S6]at bZ;obtain⟨c',eR,rfl⟩:=bZ;exact mb c' u (h9 j c' u eR dC)
  ·simp only[g2]at h2;by_cases hk:k<s.A.length
   ·rw[S9 (by omega)]at h1;rw[S9 (by omega)]at h2;exact eK.eI gA h1 h2 (fun b hb=>hold b (eK.kN h2 hb) (fun l _ h3=>eK.ic l k v' b h3 h2 hb)) (fun b hb=>pX.gG b (eK.kN h2 hb) (IV b))
   ·rw[Ta (by omega),qV]at h1;rw[Ta (by omega),qX,qV]at h2;exact sf.arr _ r v' h1 h2
  ·rcases sY l b h1 with⟨h3,h4,h5⟩|⟨h3,h4,h5⟩<;>rcases sY l' b h2 with⟨h6,h7,h8⟩|⟨h6,h7,h8⟩
   ·exact eK.jx l l' b h4 h7
   ·omega
   ·omega
   ·have:=sf.jx _ _ b h4 h7;omega
  ·have Gq:∀(k:Nat) v b,g2.ar[k]? =some v->v.ownBlock=some b->(k<s.A.length/\g1.ar[k]? =some v/\b<w.heap.size)\/(s.A.length<=k/\g'.ar[k-s.A.length]? =some v/\w.heap.size<=b):=fun k v b h5 h6=>by
    simp only[g2]at h5;by_cases hk:k<s.A.length
    ·rw[S9 (by omega)]at h5;exact .inl ⟨hk,h5,eK.kN h5 h6⟩
    ·rw[Ta (by omega),qX,qV]at h5;exact .inr ⟨by omega,h5,pX.L9 rfl _ v b h5 h6⟩
   rcases Gq k v1 b h1 h3 with⟨h5,h6,h7⟩|⟨h5,h6,h7⟩<;>rcases Gq k' v2 b h2 h4 with⟨h8,h9,bZ⟩|⟨h8,h9,bZ⟩
   ·exact eK.gF k k' v1 v2 b h6 h9 h3 h4
   ·omega
   ·omega
   ·have:=sf.gF _ _ v1 v2 b h6 h9 h3 h4;omega
  ·simp only[g2]at h2;by_cases hk:k<s.A.length
   ·rw[S9 (by omega)]at h2;rcases sY l b h1 with⟨_,h5,_⟩|⟨_,_,h6⟩
    ·exact eK.ic l k v' b h5 h2 h3
    ·have:=eK.kN h2 h3;omega
   ·rw[Ta (by omega),qX,qV]at h2;have h7:=pX.L9 rfl _ v' b h2 h3;rcases sY l b h1 with⟨_,_,h5⟩|⟨_,h5,_⟩
    ·omega
    ·exact sf.ic _ _ v' b h5 h2 h3
 ·-- what is left alone
  refine⟨pX.os.trans hF.os,pX.tape.trans hF.tape,pX.output.trans hF.output,TZ hF.size pX.size,fun b h1 h2 Ht=>?_,fun b h1 lT=>?_,?_,fun k v' b h1 h2=>?_,fun k v' h1=>?_,hF.wh⟩
  ·rw[hold b (T3 h1 hF.size) (fun l EF h3=>by rcases ju.Jh h3 with h4|h4<;>first|exact h2 h4|omega)];exact ju.oO b h1 h2 Ht
  ·show g'.im b=g0.im b;rw[pX.gG b (T3 h1 hF.size) (IV b)];exact ju.gG b h1 lT
  ·obtain⟨BB,e1,BC⟩:=ju.ob;exact⟨BB++new,by simp only[g2,e1,List.append_assoc],fun b hb=>by
    rcases Tl.1 hb with h|h
    ·exact BC b h
    ·exact TZ hF.size (uP b h)⟩
  ·simp only[g2]at h1;by_cases hk:k<s.A.length
   ·rw[S9 (by omega)]at h1;exact ju.ar k v' b h1 h2
   ·rw[Ta (by omega),qX,qV]at h1;exact .inl (TZ hF.size (pX.L9 rfl _ v' b h1 h2))
  ·obtain⟨v2,h3,h4⟩:=ju.uE k v' h1;exact⟨v2,by simp only[g2];rw[S9 (S8.1 h3).1];exact h3,h4⟩
theorem sZ {α:Type}:∀{l:List α} {hs:List Nat} {vs:List α},(nE l hs vs).length=l.length
 |l,[],vs=>by cases vs<;>rfl
 |l,h::hs,[]=>rfl
 |l,h::hs,v::vs=>by simp only[nE];rw[sZ];simp
theorem o5 {α:Type} {k:Nat}:∀{l:List α} {hs:List Nat} {vs:List α},k∉hs->(nE l hs vs)[k]? =l[k]?
 |l,[],vs,_=>by cases vs<;>rfl
 |l,h::hs,[],_=>rfl
 |l,h::hs,v::vs,hk=>by
  simp only[Ti,not_or]at hk;simp only[nE];rw[o5 hk.2,List.getElem?_set_ne (by omega)]
theorem wq {α:Type}:∀{l:List α} {hs:List Nat} {vs:List α} {i h:Nat},hs.Nodup->hs.length<=vs.length->hs[i]? =some h->h<l.length->(nE l hs vs)[h]? =vs[i]?
 |l,[],vs,i,h,_,_,hi,_=>by simp at hi
 |l,h0::hs,[],i,h,_,hl,_,_=>by simp at hl
 |l,h0::hs,v::vs,0,h,hn,_,hi,aC=>by
  simp at hi;subst hi;simp only[nE];rw[o5 (Tx.1 hn).1];simp[aC]
 |l,h0::hs,v::vs,i+1,h,hn,hl,hi,aC=>by
  simp only[nE];rw[wq (Tx.1 hn).2 (by simpa using hl) (by simpa using hi) (by simpa using aC)];simp
theorem xN {hs:List Nat}:∀{cs ds:List CV},fS hs cs=some ds->ds.length=cs.length/\∀(j:Nat) c d,cs[j]? =some c->ds[j]? =some d->c.dp hs=some d
 |[],ds,h=>by simp[fS]at h;subst h;exact⟨rfl,fun j c d h=>by simp at h⟩
 |c::r,ds,h=>by
  simp only[fS]at h;split at h
  ·rename_i d ds' h1 h2;simp at h;subst h;obtain⟨h3,h4⟩:=xN h2;refine⟨by simp[h3],fun j c' d' h5 h6=>?_⟩;cases j with
   |zero=>simp at h5 h6;subst h5;subst h6;exact h1
   |succ j=>simp at h5 h6;exact h4 j c' d' h5 h6
  ·simp at h
theorem vo {hs:List Nat}:∀{xs as:List AV},dS hs xs=some as->as.length=xs.length/\∀(j:Nat) x y,xs[j]? =some x->as[j]? =some y->x.dp hs=some y
 |[],as,h=>by simp[dS]at h;subst h;exact⟨rfl,fun j x y h=>by simp at h⟩
 |c::r,as,h=>by
  simp only[dS]at h;split at h
  ·rename_i d ds' h1 h2;simp at h;subst h;obtain⟨h3,h4⟩:=vo h2;refine⟨by simp[h3],fun j c' d' h5 h6=>?_⟩;cases j with
   |zero=>simp at h5 h6;subst h5;subst h6;exact h1
   |succ j=>simp at h5 h6;exact h4 j c' d' h5 h6
  ·simp at h
set_option maxHeartbeats 1000000 in
theorem uQ (hI:Inv g w s.V s.A) (hF:Fr w0 g0 w g) {f:FuncId} {xs:List AV} {vs:Array Value} (hl:vs.size=xs.length) (hr:∀(i:Nat) x u,xs[i]? =some x->vs[i]? =some u->aU g w s.A x u) (h:AI P s f xs K):
  (∀args w,(callFunc f args).run P w=.ok (.enter f args) w)/\∃x V' A',K x V' A'/\Calls P f vs w fun e w'=>∃v g',e=.returned v/\aU g' w' A' x v/\Inv g' w' V' A'/\Ext g w s.A g' w' A'/\Fr w0 g0 w' g':=by
 obtain⟨hs,as,r,Ac',pY,Jv,has,⟨Dc,_,kj⟩,hK⟩:=h;refine⟨Dc,_,_,_,hK,?_⟩;obtain⟨Mx,Dd⟩:=vo has;have MD:∀h∈hs,h<s.A.length:=fun h hm=>by
  obtain⟨i,hi⟩:=Tg hm;obtain⟨a,_,h1,_⟩:=Jv i h hi;exact(S8.1 h1).1
 have Hu:=hI.j7;have hlen:hs.length<=Ac'.length:=by
  rcases TW Ac'.length hs.length with h1|h1
  ·obtain⟨_,_,_,_,h2,_⟩:=Jv Ac'.length _ (Tb h1);simp at h2
  ·exact h1
 let gc:Gh:={ob:=[],ar:=hs.map fun h=>g.ar.getD h undef,im:=g.im}
 have BD:∀(i h:Nat) v,hs[i]? =some h->g.ar[h]? =some v->gc.ar[i]? =some v:=fun i h v h1 h2=>by simp[gc,h1,h2]
 have mc:∀(i:Nat) v,gc.ar[i]? =some v->∃h,hs[i]? =some h/\g.ar[h]? =some v:=fun i v h1=>by
  simp only[gc,Td,S6]at h1;obtain⟨h,h2,h3⟩:=h1;have uO:h<g.ar.length:=by rw[Hu];exact MD h (Te h2)
  exact⟨h,h2,by rw[<-h3];simp[Tf,uO]⟩
 have P2:∀(i:Nat) a,(hs.map fun h=>s.A.getD h xK)[i]? =some a->∃h,hs[i]? =some h/\s.A[h]? =some a:=fun i a h1=>by
  simp only[Td,S6]at h1;obtain⟨h,h2,h3⟩:=h1;have uO:=MD h (Te h2);exact⟨h,h2,by rw[<-h3];simp[Tf,uO]⟩
 have ME:∀(i h:Nat) a,hs[i]? =some h->s.A[h]? =some a->(hs.map fun h=>s.A.getD h xK)[i]? =some a:=fun i h a h1 h2=>by simp[h1,h2]
 have Dj:∀b,b∈gc.gC->∃(i h:Nat) (v:Value),hs[i]? =some h/\g.ar[h]? =some v/\v.ownBlock=some b:=fun b hb=>by
  obtain⟨i,v,h1,h2⟩:=Gh.eG hb;obtain⟨h,h3,h4⟩:=mc i v h1;exact⟨i,h,v,h3,h4,h2⟩
 have Gr:∀b,b∈gc.gC->g.im b=0:=fun b hb=>by
  obtain⟨i,h,v,h1,h2,h3⟩:=Dj b hb;obtain⟨a,_,h4,h5,_⟩:=Jv i h h1;have h6:=(hI.arr h a v h4 h2).2.1 b h3;rw[h5]at h6;simpa using h6
 have Dh:Inv gc w [] (hs.map fun h=>s.A.getD h xK):=by
  refine⟨rfl,by simp[gc],fun l row b h1=>by simp at h1,fun k r' v h1 h2=>?_,fun l l' b h1=>by simp[gc]at h1,fun k k' v v' b h1 h2 h3 h4=>?_,fun l k v b h1=>by simp[gc]at h1,hI.fresh⟩
  ·obtain⟨h,h3,h4⟩:=P2 k r' h1;obtain⟨h',h5,h6⟩:=mc k v h2;obtain rfl:h=h':=by rw[h3]at h5;exact Option.some.inj h5
   exact hI.arr h r' v h4 h6
  ·obtain⟨h,h5,h6⟩:=mc k v h1;obtain⟨h',h7,h8⟩:=mc k' v' h2;obtain rfl:=hI.gF h h' v v' b h6 h8 h3 h4;exact(Tq (S8.1 h5).1 pY).1 (h5.trans h7.symm)
 have lF:∀(c d:CV) (u:Value),c.dp hs=some d->bj g w s.A c u->bj gc w (hs.map fun h=>s.A.getD h xK) d u:=by
  intro c d u h1 h2;cases c with
  |d x=>simp only[CV.dp]at h1;cases h1;exact h2
  |nil=>simp only[CV.dp]at h1;cases h1;simp only[bj]at h2;subst h2;simp only[bj,bc];exact⟨none,0,rfl,TV _,.inl trivial⟩
  |own k n=>
   simp only[CV.dp,S6]at h1;obtain⟨i,hi,rfl⟩:=h1;obtain⟨a,cap,e,r',h3,h4,h5⟩:=h2;have IW:=kh hi;exact⟨a,cap,e,r',ME i k r' IW h3,h4,fun h6=>BD i k u IW (h5 h6)⟩
  |np=>simp only[CV.dp]at h1;cases h1;exact h2
  |ip row off=>simp only[CV.dp]at h1;cases h1;exact h2
  |fn f cap=>
   cases cap with
   |nil=>
    simp only[CV.dp]at h1;cases h1;obtain⟨bks,h3,h4,_⟩:=h2;exact⟨bks,h3,h4,fun i l b h5=>by simp at h5⟩
   |cons _ _=>simp[CV.dp]at h1
  |ptr _ _=>simp[CV.dp]at h1
  |op _ _ _ _=>simp[CV.dp]at h1
  |undef=>simp[CV.dp]at h1
 have Di:∀(i:Nat) x u,as[i]? =some x->vs[i]? =some u->aU gc w (hs.map fun h=>s.A.getD h xK) x u:=by
  intro i y u h1 h2;have hi:i<xs.length:=by have:=(S8.1 h1).1;omega
  have hx:xs[i]? =some xs[i]:=Tb hi;have cr:=Dd i _ y hx h1;have E9:=hr i _ u hx h2;generalize xs[i]=x at cr E9;cases x with
  |c c=>
   simp only[AV.dp,S6]at cr;obtain⟨d,hd,rfl⟩:=cr;exact lF c d u hd E9
  |agg cs=>
   simp only[AV.dp,S6]at cr;obtain⟨ds,hd,rfl⟩:=cr;obtain⟨us',rfl,P1,h3⟩:=E9;obtain⟨h9,bZ⟩:=xN hd;refine⟨us',rfl,by omega,fun j d v h4 h5=>?_⟩;have hj:j<cs.length:=by have:=(S8.1 h4).1;omega
   have hc:cs[j]? =some cs[j]:=Tb hj;exact lF _ d v (bZ j _ d hc h4) (h3 j _ v hc h5)
  |bu ys=>simp[AV.dp]at cr
 refine(kj gc w vs Dh (hF.now.less (fun b hb=>by simp[gc]at hb) (fun b hb=>by obtain⟨i,v,q1,q2⟩:=Gh.eG hb;obtain⟨h,_,q3⟩:=mc i v q1;exact Gh.jB q3 q2)) (by omega) Di).mono ?_;rintro e w' ⟨v,g',rfl,zr,sf,pX⟩;have Fc:g'.ob=[]:=Tv (by rw[sf.nD];rfl);have OC:=sf.j7
 let g2:Gh:={ob:=g.ob,ar:=nE g.ar hs g'.ar++g'.ar.drop hs.length,im:=g'.im}
 let A2:=nE s.A hs Ac'++Ac'.drop hs.length
 have P3:(nE g.ar hs g'.ar).length=s.A.length:=by rw[sZ,Hu]
 have MF:(nE s.A hs Ac').length=s.A.length:=sZ;have cr:∀(i h:Nat),hs[i]? =some h->g2.ar[h]? =g'.ar[i]? /\A2[h]? =Ac'[i]? :=fun i h h1=>by
  have h2:=MD h (Te h1);constructor
  ·simp only[g2];rw[S9 (by omega)];exact wq pY (by omega) h1 (by omega)
  ·simp only[A2];rw[S9 (by omega)];exact wq pY hlen h1 h2
 have lU:∀k,k<s.A.length->k∉hs->g2.ar[k]? =g.ar[k]? /\A2[k]? =s.A[k]? :=fun k h1 h2=>by
  constructor
  ·simp only[g2];rw[S9 (by omega),o5 h2]
  ·simp only[A2];rw[S9 (by omega),o5 h2]
 have uP:∀k,s.A.length<=k->g2.ar[k]? =g'.ar[hs.length+(k-s.A.length)]? /\A2[k]? =Ac'[hs.length+(k-s.A.length)]? :=fun k h1=>by
  constructor
  ·simp only[g2];rw[Ta (by omega),P3,TN]
  ·simp only[A2];rw[Ta (by omega),MF,TN]
 have EY:∀k,g2.ar[back hs s.A.length k]? =g'.ar[k]? /\A2[back hs s.A.length k]? =Ac'[k]? :=fun k=>by
  by_cases hk:k<hs.length
  ·have e:hs[k]? =some hs[k]:=Tb hk;have e2:back hs s.A.length k=hs[k]:=by simp only[back,e]
   rw[e2];exact cr k _ e
  ·have e:hs[k]? =none:=Tt (by omega);have e2:back hs s.A.length k=s.A.length+(k-hs.length):=by simp only[back,e]
   rw[e2];have:=uP (s.A.length+(k-hs.length)) (by omega);rwa[show hs.length+(s.A.length+(k-hs.length)-s.A.length)=k by omega]at this
 have xO:∀k,(∃i:Nat,g2.ar[k]? =g'.ar[i]? /\A2[k]? =Ac'[i]? /\((hs[i]? =some k)\/(hs.length<=i/\k=s.A.length+(i-hs.length))))\/(k<s.A.length/\k∉hs/\g2.ar[k]? =g.ar[k]? /\A2[k]? =s.A[k]?):=fun k=>by
  by_cases h1:k<s.A.length
  ·by_cases h2:k∈hs
   ·obtain⟨i,hi⟩:=Tg h2;exact .inl ⟨i,(cr i k hi).1,(cr i k hi).2,.inl hi⟩
   ·exact .inr ⟨h1,h2,lU k h1 h2⟩
  ·exact .inl ⟨hs.length+(k-s.A.length),(uP k (by omega)).1,(uP k (by omega)).2,.inr ⟨by omega,by omega⟩⟩
 have Jw:∀(k k' i:Nat),((hs[i]? =some k)\/(hs.length<=i/\k=s.A.length+(i-hs.length)))->((hs[i]? =some k')\/(hs.length<=i/\k'=s.A.length+(i-hs.length)))->k=k':=fun k k' i h1 h2=>by
  rcases h1 with h1|⟨h1,h3⟩<;>rcases h2 with h2|⟨h2,h4⟩
  ·rw[h1]at h2;exact Option.some.inj h2
  ·have:=(S8.1 h1).1;omega
  ·have:=(S8.1 h2).1;omega
  ·omega
 have MG:∀b,b∉gc.ob:=fun b h=>by simp[gc]at h
 have xP:∀b,b<w.heap.size->b∉gc.gC->w'.heap[b]? =w.heap[b]? :=fun b h1 h2=>pX.oO b h1 (MG b) h2
 have rL:∀b,b<w.heap.size->b∉gc.gC->g'.im b=g.im b:=fun b h1 h2=>pX.gG b h1 h2
 have Df:∀(l b:Nat),g.ob[l]? =some b->b<w.heap.size/\b∉gc.gC:=fun l b h1=>⟨hI.oU h1,fun h2=>by
  obtain⟨i,h,v',h3,h4,h5⟩:=Dj b h2;exact hI.ic l h v' b h1 h4 h5⟩
 have Fe:∀(k b:Nat) (v:Value),k∉hs->g.ar[k]? =some v->v.ownBlock=some b->b<w.heap.size/\b∉gc.gC:=fun k b v h0 h1 lT=>⟨hI.kN h1 lT,fun h2=>by
  obtain⟨i,h,v',h3,h4,h5⟩:=Dj b h2;obtain rfl:=hI.gF k h v v' b h1 h4 lT h5;exact h0 (Te h3)⟩
 have AL:∀(i b:Nat) (v:Value),g'.ar[i]? =some v->v.ownBlock=some b->w.heap.size<=b\/b∈gc.gC:=fun i b v h1 h2=>pX.ar i v b h1 h2
 have sK:iH g.im w g'.im w':=by
  refine⟨fun b=>?_,fun b o ho=>?_⟩
  ·rcases TW b w.heap.size with hb|hb
   ·by_cases h1:b∈gc.gC
    ·rw[Gr b h1];exact TY _
    ·rw[rL b hb h1];exact TV _
   ·rw[hI.fresh b hb];exact TY _
  ·have hb:=hI.Bs ho;refine World.cell?_of_block (a:=⟨b,o,none⟩) (xP b hb (fun h1=>?_));have:=Gr b h1;omega
 have gA:Ext g w s.A g2 w' A2:=by
  refine⟨fun l b hb=>hb,sK,fun k r' hk=>?_⟩;have BE:=(S8.1 hk).1;by_cases h2:k∈hs
  ·obtain⟨i,hi⟩:=Tg h2;obtain⟨a,a',h3,h4,h5,h6⟩:=Jv i k hi;obtain rfl:r'=a:=by rw[hk]at h3;exact Option.some.inj h3
   have hv:g.ar[k]? =some (g.ar[k]'(by omega)):=Tb (by omega);obtain⟨v',h7,h8,h9⟩:=pX.uE i _ (BD i k _ hi hv);obtain⟨_,_,xs1,qa,_⟩:=hI.arr k r' _ hk hv;obtain⟨_,_,xs2,se,_⟩:=sf.arr i a' v' h5 h7;rw[oT qa,oT se]at h8 h9;refine⟨a',(cr i k hi).2.trans h5,h6,h8,fun bZ=>?_⟩;rw[(cr i k hi).1,h7,h9 bZ,hv]
  ·obtain⟨h3,h4⟩:=lU k BE h2;exact⟨r',h4.trans hk,rfl,TV _,fun _=>h3⟩
 have mb:∀c u,bj g' w' Ac' c u->bj g2 w' A2 (c.cO hs s.A.length) u:=fun c u h1=>by
  cases c with
  |d x=>exact h1
  |nil=>exact h1
  |own k n=>
   obtain⟨a,cap,e,r',h3,h4,h5⟩:=h1;exact⟨a,cap,e,r',(EY k).2.trans h3,h4,fun h6=>(EY k).1.trans (h5 h6)⟩
  |ptr l off=>obtain⟨b,h3,_⟩:=h1;rw[Fc]at h3;simp at h3
  |np=>exact h1
  |ip row off=>exact h1
  |op k n i off=>
   obtain⟨b,e,h2,r',h3,h4,h5⟩:=h1;exact⟨b,e,h2,r',(EY k).2.trans h3,h4,fun h6=>by obtain⟨cap,h7,h8⟩:=h5 h6;exact⟨cap,(EY k).1.trans h7,h8⟩⟩
  |fn f cap=>
   obtain⟨bks,h3,h4,h5⟩:=h1;refine⟨bks,h3,h4,fun i l b h6 h7=>?_⟩;have:=h5 i l b h6 h7;rw[Fc]at this;simp at this
  |undef=>exact h1
 refine⟨v,g2,rfl,?_,?_,gA,?_⟩
 ·-- the result
  cases r with
  |c c=>exact mb c v zr
  |agg cs=>
   obtain⟨us',rfl,h1,h2⟩:=zr;refine⟨us',rfl,by simpa using h1,fun j c u h3 h4=>?_⟩;simp only[Td,S6]at h3;obtain⟨c',h5,rfl⟩:=h3;exact mb c' u (h2 j c' u h5 h4)
  |bu ys=>
   obtain⟨us',rfl,h1,h2⟩:=zr;refine⟨us',rfl,by simpa using h1,fun j y u h3 h4=>?_⟩;simp only[Td,S6]at h3;obtain⟨y',h5,rfl⟩:=h3;have h6:=h2 j y' u h5 h4;cases y' with
   |c c=>exact mb c u h6
   |agg cs=>
    obtain⟨us'',rfl,h7,h8⟩:=h6;refine⟨us'',rfl,by simpa using h7,fun j c u h9 bZ=>?_⟩;simp only[Td,S6]at h9;obtain⟨c',dC,rfl⟩:=h9;exact mb c' u (h8 j c' u dC bZ)
   |bu zs=>exact h6.elim
 ·-- the memory
  refine⟨hI.nD,?_,fun l row b h1 h2=>?_,fun k r' v' h1 h2=>?_,hI.jx,fun k k' v1 v2 b h1 h2 h3 h4=>?_,fun l k v' b h1 h2 h3=>?_,fun b hb=>sf.fresh b hb⟩
  ·show(nE g.ar hs g'.ar++g'.ar.drop hs.length).length=(nE s.A hs Ac'++Ac'.drop hs.length).length;simp only[Tm,List.length_drop];omega
  ·obtain⟨h3,h4⟩:=Df l b h2;exact hI.eH gA h1 h2 (xP b h3 h4) ((rL b h3 h4).trans (hI.obj l row b h1 h2).1)
  ·rcases xO k with⟨i,h3,h4,_⟩|⟨h3,h4,h5,h6⟩
   ·exact sf.arr i r' v' (h4.symm.trans h1) (h3.symm.trans h2)
   ·refine hI.eI gA (h6.symm.trans h1) (h5.symm.trans h2) (fun b hb=>?_) (fun b hb=>?_)
    ·obtain⟨h7,h8⟩:=Fe k b v' h4 (h5.symm.trans h2) hb;exact xP b h7 h8
    ·obtain⟨h7,h8⟩:=Fe k b v' h4 (h5.symm.trans h2) hb;exact rL b h7 h8
  ·rcases xO k with⟨i,h5,_,h6⟩|⟨h5,h6,h7,_⟩<;>rcases xO k' with⟨i',h8,_,h9⟩|⟨h8,h9,bZ,_⟩
   ·obtain rfl:=sf.gF i i' v1 v2 b (h5.symm.trans h1) (h8.symm.trans h2) h3 h4;exact Jw k k' i h6 h9
   ·obtain⟨dC,eR⟩:=Fe k' b v2 h9 (bZ.symm.trans h2) h4;rcases AL i b v1 (h5.symm.trans h1) h3 with dt|dt
    ·omega
    ·exact absurd dt eR
   ·obtain⟨dC,eR⟩:=Fe k b v1 h6 (h7.symm.trans h1) h3;rcases AL i' b v2 (h8.symm.trans h2) h4 with dt|dt
    ·omega
    ·exact absurd dt eR
   ·exact hI.gF k k' v1 v2 b (h7.symm.trans h1) (bZ.symm.trans h2) h3 h4
  ·obtain⟨h4,h5⟩:=Df l b h1;rcases xO k with⟨i,h6,_,_⟩|⟨_,_,h6,_⟩
   ·rcases AL i b v' (h6.symm.trans h2) h3 with h7|h7
    ·omega
    ·exact h5 h7
   ·exact hI.ic l k v' b h1 (h6.symm.trans h2) h3
 ·-- what is left alone
  have gm:∀b,b<w0.heap.size->b∉g0.gC->b∉gc.gC:=fun b h1 h2 h3=>by
   obtain⟨i,h,v',h4,h5,h6⟩:=Dj b h3;rcases hF.ar h v' b h5 h6 with h7|h7
   ·omega
   ·exact h2 h7
  refine⟨pX.os.trans hF.os,pX.tape.trans hF.tape,pX.output.trans hF.output,TZ hF.size pX.size,fun b h1 h2 Ht=>?_,fun b h1 lT=>?_,hF.ob,fun k v' b h1 h2=>?_,fun k v' h1=>?_,hF.wh⟩
  ·rw[xP b (T3 h1 hF.size) (gm b h1 Ht)];exact hF.oO b h1 h2 Ht
  ·show g'.im b=g0.im b;rw[rL b (T3 h1 hF.size) (gm b h1 lT)];exact hF.gG b h1 lT
  ·rcases xO k with⟨i,h3,_,_⟩|⟨_,_,h3,_⟩
   ·rcases AL i b v' (h3.symm.trans h1) h2 with h4|h4
    ·exact .inl (TZ hF.size h4)
    ·obtain⟨i',h,v2,h5,h6,h7⟩:=Dj b h4;exact hF.ar h v2 b h6 h7
   ·exact hF.ar k v' b (h3.symm.trans h1) h2
  ·obtain⟨v1,h2,h3,h4⟩:=hF.uE k v' h1;have BE:k<s.A.length:=by rw[<-Hu];exact(S8.1 h2).1
   by_cases h5:k∈hs
   ·obtain⟨i,hi⟩:=Tg h5;obtain⟨v2,h6,h7,h8⟩:=pX.uE i v1 (BD i k v1 hi h2);refine⟨v2,(cr i k hi).1.trans h6,by omega,fun h9=>?_⟩;rw[h8 (by omega)];exact h4 (by omega)
   ·exact⟨v1,(lU k BE h5).1.trans h2,h3,h4⟩
theorem wx (hI:Inv g w s.V s.A) (hF:Fr w0 g0 w g) {f:FuncId} {xs:List AV} {vs:Array Value} (hl:vs.size=xs.length) (hr:∀(i:Nat) x u,xs[i]? =some x->vs[i]? =some u->aU g w s.A x u) (h:fM P s f xs K):
  (∀args w,(callFunc f args).run P w=.ok (.enter f args) w)/\∃x V' A',K x V' A'/\Calls P f vs w fun e w'=>∃v g',e=.returned v/\aU g' w' A' x v/\Inv g' w' V' A'/\Ext g w s.A g' w' A'/\Fr w0 g0 w' g':=
 h.elim (uM hI hF hl hr) (uQ hI hF hl hr)
end
def bJ (P:Program) (s:St) (ow:Bool) (o:Oper) (K:AV->List (List CV)->List bp->Prop):Prop:=
 match o.op with
 |.call {callee:=.value f,args,.. }=>bE (bA s f) fun fv=>match fv with
  |.c (.fn fid cap)=>bE (fz s args.toList) fun xs=>fM P s fid (xs++cap.map fun l=>.c (.ptr l 0)) K
  |_=>False
 |op=>dF P s ow op K
def St.put (s:St) (dst:Option Tmp) (x:AV) (V:List (List CV)) (A:List bp):St:=
 ⟨match dst with|some d=>(d,x)::s.fr|none=>s.fr,V,A⟩
def fT (all:Array Oper) (s:St) (o:Oper) (yes no:Prop):Prop:=
 match o.guard with
 |none=>yes
 |some (j,want)=>bE (all[j]?) fun oj=>bE oj.dst fun t=>bE (look s.fr t) fun x=>match x with
  |.c (.d (.bool b))=>(b=want->yes)/\(b=(!want)->no)
  |.c .undef=>no
  |_=>False
def s3 (P:Program) (all:Array Oper) (ow:Nat->Bool) (K:St->Prop):Nat->List Oper->St->Prop
 |_,[],s=>K s
 |i,o::rest,s=>fT all s o (bJ P s (ow i) o fun x V A=>s3 P all ow K (i+1) rest (s.put o.dst x V A)) (s3 P all ow K (i+1) rest (s.put o.dst (.c .undef) s.V s.A))
def fh (n:Nat) (ops:List Oper):Bool:=ops.all fun o=>match o.dst with
 |some d=>decide (d<n)
 |none=>true
def codeOk (n:Nat):Code->Bool
 |.region _ ops _=>fh n ops.toList
 |.seq a b=>codeOk n a && codeOk n b
 |.cond _ a b=>codeOk n a && codeOk n b
 |.block _ c=>codeOk n c
 |.loop c=>codeOk n c
 |.scope c=>codeOk n c
 |_=>true
def T (P:Program) (n:Nat) (c:Code) (Q:Exit->St->Prop) (s:St):Prop:=
 codeOk n c=true->∀w0 g0 g a w,Rp n w0 g0 s g a w->c.wp P (fun e a' w'=>∃s' g',Q e s'/\Rp n w0 g0 s' g' a' w') a w
section
variable {P:Program} {n:Nat} {Q Q':Exit->St->Prop} {s s':St} {w0:World} {g0 g g':Gh} {a:Act} {w w':World}
theorem eu (hI:Inv g w s.V s.A) (hF:Fr w0 g0 w g) (hS:gD g w s a) {ow:Bool} {o:Oper} {K:AV->List (List CV)->List bp->Prop} (h:bJ P s ow o K):
  ∃x V' A',K x V' A'/\∀(next:Act->World->Prop) (Q:Exit->Act->World->Prop),(∀v w' g',aU g' w' A' x v->Inv g' w' V' A'->Ext g w s.A g' w' A'->Fr w0 g0 w' g'->next (a.put o.dst v) w')->o.wp P a w next Q:=by
 have plain:dF P s ow o.op K->∃x V' A',K x V' A'/\∀(next:Act->World->Prop) (Q:Exit->Act->World->Prop),(∀v w' g',aU g' w' A' x v->Inv g' w' V' A'->Ext g w s.A g' w' A'->Fr w0 g0 w' g'->next (a.put o.dst v) w')->o.wp P a w next Q:=by
  intro h;obtain⟨x,V',A',nx,v,w',g',h1,h2,h3,h4,h5,h6,h7⟩:=BA hI hF hS h;refine⟨x,V',A',h1,fun next Q hn=>?_⟩;unfold Oper.wp;rw[h2];rcases h3 with rfl|⟨rfl,rfl⟩
  ·exact hn v w' g' h4 h5 h6 h7
  ·exact hn _ w' g' h4 h5 h6 h7
 unfold bJ at h;split at h
 ·rename_i f args argTypes heq;refine af h fun fv h1 h2=>?_
  have MH:=aE hS h1;split at h2
  ·rename_i fid cap;refine af h2 fun xs h3 h4=>?_
   obtain⟨h5,h6⟩:=jC hS h3;have P4:xs.length=args.size:=by rw[h5,Uc]
   obtain⟨bks,h7,h8,h9⟩:bj g w s.A (.fn fid cap) (a.eval f):=MH;have ma:args.map a.eval++(bks.map fun b=>Value.pointer (some ⟨b,0,none⟩)).toArray=((args.toList.map a.eval)++bks.map fun b=>Value.pointer (some ⟨b,0,none⟩)).toArray:=by
    apply Array.ext';simp
   obtain⟨Dc,x,V',A',hK,hc⟩:=wx (vs:=((args.toList.map a.eval)++bks.map fun b=>Value.pointer (some ⟨b,0,none⟩)).toArray) hI hF (by simp[h5,h8]) (fun i x u bZ dC=>by
    simp only[List.getElem?_toArray]at dC;by_cases hi:i<xs.length
    ·rw[S9 hi]at bZ;rw[S9 (by simp;omega)]at dC;exact h6 i x u bZ dC
    ·rw[Ta (by omega)]at bZ;rw[Ta (by simp;omega)]at dC;simp only[Td,S6]at bZ dC;obtain⟨l,eR,rfl⟩:=bZ;obtain⟨b,dt,rfl⟩:=dC;exact⟨b,h9 _ l b eR (by rw[<-dt];congr 1;simp[h5]),rfl⟩) h4
   refine⟨x,V',A',hK,fun next Q hn=>?_⟩;have eB:(execOp a.eval o).run P w=.ok (.enter fid ((args.toList.map a.eval)++bks.map fun b=>Value.pointer (some ⟨b,0,none⟩)).toArray) w:=by
    simp only[execOp,heq,resolve,h7,Deferred.ofValue,Sem.run_bind,Sem.run_pure,Result.andThen_ok,invoke,Ug];rw[Dc,ma]
   unfold Oper.wp;rw[eB];show Calls P fid _ w _;refine hc.mono ?_;rintro e w' ⟨v,g',rfl,eP,nQ,oP,xJ⟩;exact hn v w' g' eP nQ oP xJ
  ·exact h2.elim
 ·exact plain h
theorem Rp.put (h:Rp n w0 g0 s g a w) {dst:Option Tmp} (hd:∀d,dst=some d->d<n) {x:AV} {v:Value} {V':List (List CV)} {A':List bp} (hr:aU g' w' A' x v) (hI:Inv g' w' V' A') (hx:Ext g w s.A g' w' A') (hF:Fr w0 g0 w' g'):
  Rp n w0 g0 (s.put dst x V' A') g' (a.put dst v) w':=by
 refine⟨hI,hF,?_,?_,fun t y hy=>?_⟩
 ·cases dst<;>simp[Act.put,h.size]
 ·cases dst<;>simp[Act.put,h.defers]
 ·cases dst with
  |none=>
   obtain⟨u,h1,h2⟩:=h.slot t y hy;exact⟨u,h1,aU.ext hx h2⟩
  |some d=>
   have BF:=hd d rfl;simp only[St.put,look]at hy;by_cases e:t=d
   ·subst e;simp at hy;subst hy;refine⟨v,?_,hr⟩;have:t<a.tmps.size:=by rw[h.size];exact BF
    simp[Act.put,this]
   ·rw[if_neg e]at hy;obtain⟨u,h1,h2⟩:=h.slot t y hy;refine⟨u,?_,aU.ext hx h2⟩;simp only[Act.put];rw[Ub (fun e'=>e e'.symm)];exact h1
theorem je (h:Rp n w0 g0 s g a w) {all:Array Oper} {j t:Nat} {oj:Oper} {x:AV} (h1:all[j]? =some oj) (h2:oj.dst=some t) (h3:look s.fr t=some x):(∀b,x=.c (.d (.bool b))->yielded all a.tmps j=some b)/\(x=.c .undef->yielded all a.tmps j=none):=by
 obtain⟨u,h4,h5⟩:=h.slot t x h3;refine⟨fun b hb=>?_,fun hb=>?_⟩
 ·subst hb;simp only[aU,c7,bj,bc]at h5;subst h5;simp[yielded,h1,h2,h4]
 ·subst hb;simp only[aU,c7,bj]at h5;subst h5;simp[yielded,h1,h2,h4,undef]
theorem mR (h:Rp n w0 g0 s g a w) {all:Array Oper} {o:Oper} {yes no:Prop} (hg:fT all s o yes no):(Region.wanted o (yielded all a.tmps)=true/\yes)\/(Region.wanted o (yielded all a.tmps)=false/\no):=by
 unfold fT at hg;split at hg
 ·rename_i s4;exact .inl ⟨by simp[Region.wanted,s4],hg⟩
 ·rename_i j want s4;refine af hg fun oj h1 h2=>af h2 fun t h3 h4=>af h4 fun x h5 h6=>?_
  obtain⟨h7,h8⟩:=je h h1 h3 h5;split at h6
  ·rename_i b;have h9:=h7 b rfl;by_cases e:b=want
   ·exact .inl ⟨by simp[Region.wanted,s4,h9,e],h6.1 e⟩
   ·exact .inr ⟨by simp[Region.wanted,s4,h9,e],h6.2 (by cases b<;>cases want<;>simp_all)⟩
  ·exact .inr ⟨by simp[Region.wanted,s4,h8 rfl],h6⟩
  ·exact h6.elim
theorem og {all:Array Oper} {ow:Nat->Bool} {K:St->Prop} {Q:Exit->Act->World->Prop}:∀(ops:List Oper) (i:Nat) (s:St) (g:Gh) (a:Act) (w:World),fh n ops=true->Rp n w0 g0 s g a w->s3 P all ow K i ops s->
  (∀s' g' a' w',K s'->Rp n w0 g0 s' g' a' w'->Q .normal a' w')->wpList P all Q ops a w
 |[],i,s,g,a,w,_,hR,h,hQ=>hQ s g a w h hR
 |o::rest,i,s,g,a,w,hd,hR,h,hQ=>by
  simp only[fh,TQ,TR]at hd;have gn:∀d,o.dst=some d->d<n:=fun d e=>by have:=hd.1;rw[e]at this;simpa using this
  simp only[s3]at h;unfold wpList;rcases mR hR h with⟨h1,h2⟩|⟨h1,h2⟩
  ·rw[if_pos h1];obtain⟨x,V',A',h3,h4⟩:=eu hR.inv hR.fr hR.slot h2;exact .inl (h4 _ _ fun v w' g' h5 h6 h7 h8=>og rest (i+1) _ g' _ w' hd.2 (hR.put gn h5 h6 h7 h8) h3 hQ)
  ·rw[if_neg (by rw[h1];simp)];exact og rest (i+1) _ g _ w hd.2 (hR.put gn (x:=.c .undef) (v:=undef) rfl hR.inv (.refl _ _ _) hR.fr) h2 hQ
theorem T.region {id:Nat} {ops:Array Oper} (ow:Nat->Bool) (h:s3 P ops ow (fun s'=>Q .normal s') 0 ops.toList s):T P n (.region id ops false) Q s:=by
 intro eC w0 g0 g a w hR;exact wp_region_list (og ops.toList 0 s g a w eC hR h fun s' g' a' w' h1 h2=>⟨s',g',h1,h2⟩)
theorem T.mono {c:Code} (h:T P n c Q s) (hq:∀e s',Q e s'->Q' e s'):T P n c Q' s:=
 fun eC w0 g0 g a w hR=>Go.wp_mono (h eC w0 g0 g a w hR) fun _ _ _ ⟨s',g',h1,h2⟩=>⟨s',g',hq _ _ h1,h2⟩
def s5 (P:Program) (n:Nat) (c:Code) (Q:Exit->St->Prop):Exit->St->Prop
 |.normal,s=>T P n c Q s
 |e,s=>Q e s
theorem T.seq {x y:Code} (h:T P n x (s5 P n y Q) s):T P n (.seq x y) Q s:=by
 intro eC w0 g0 g a w hR;simp only[codeOk,TR]at eC;refine wp_seq (Go.wp_mono (h eC.1 w0 g0 g a w hR) ?_);rintro e a' w' ⟨s',g',h1,h2⟩;cases e with
 |normal=>exact h1 eC.2 w0 g0 g' a' w' h2
 |_=>exact⟨s',g',h1,h2⟩
theorem T.skip (h:Q .normal s):T P n .skip Q s:=fun _ _ _ g _ _ hR=>wp_skip ⟨s,g,h,hR⟩
theorem T.exit {id:Nat} (h:Q (.exit id) s):T P n (.exit id) Q s:=fun _ _ _ g _ _ hR=>wp_exit ⟨s,g,h,hR⟩
theorem T.ret (h:Q .ret s):T P n .ret Q s:=fun _ _ _ g _ _ hR=>wp_ret ⟨s,g,h,hR⟩
theorem T.cond {c:Operand} {x y:Code} {b:Bool} (hc:bA s c=some (.c (.d (.bool b)))) (ht:b=true->T P n x Q s) (hf:b=false->T P n y Q s):T P n (.cond c x y) Q s:=by
 intro eC w0 g0 g a w hR;simp only[codeOk,TR]at eC;have hv:=aE hR.slot hc;simp only[aU,c7,bj,bc]at hv;exact wp_cond_split hv (fun e=>ht e eC.1 w0 g0 g a w hR) (fun e=>hf e eC.2 w0 g0 g a w hR)
def eZ (id:Nat) (Q:Exit->St->Prop):Exit->St->Prop
 |.exit id',s=>if id'=id then Q .normal s else Q (.exit id') s
 |e,s=>Q e s
theorem T.block {id:Nat} {c:Code} (h:T P n c (eZ id Q) s):T P n (.block id c) Q s:=by
 intro eC w0 g0 g a w hR;refine wp_block (Go.wp_mono (h eC w0 g0 g a w hR) ?_);rintro e a' w' ⟨s',g',h1,h2⟩;cases e with
 |exit id'=>
  simp only[eZ]at h1;simp only[Exit.inBlock];split
  ·rename_i e;rw[if_pos e]at h1;exact⟨s',g',h1,h2⟩
  ·rename_i e;rw[if_neg e]at h1;exact⟨s',g',h1,h2⟩
 |_=>exact⟨s',g',h1,h2⟩
def Iter (P:Program) (n:Nat) (c:Code) (Q:Exit->St->Prop):Nat->St->Prop
 |0,_=>False
 |k+1,s=>T P n c (fun e s'=>match e with|.normal=>Iter P n c Q k s'|e=>Q e s') s
theorem Iter.succ {c:Code}:∀{k:Nat} {s:St},Iter P n c Q k s->Iter P n c Q (k+1) s
 |0,_,h=>h.elim
 |k+1,s,h=>T.mono h fun e s' h1=>by cases e<;>first|exact Iter.succ h1|exact h1
theorem Iter.le {c:Code} {k k':Nat} (hk:k<=k') {s:St} (h:Iter P n c Q k s):Iter P n c Q k' s:=by
 induction hk with
 |refl=>exact h
 |step _ ih=>exact ih.succ
theorem T.km {c:Code} {k:Nat} (h:Iter P n c Q k s):T P n (.loop c) Q s:=by
 intro eC w0 g0 g a w hR;refine wp_loop_rounds k ?_;have key:∀k s g a w,Iter P n c Q k s->Rp n w0 g0 s g a w->Code.rounds P c (fun e a' w'=>∃s' g',Q e s'/\Rp n w0 g0 s' g' a' w') k a w:=by
  intro k;induction k with
  |zero=>intro s g a w h _;exact h.elim
  |succ k ih=>
   intro s g a w h hR;rw[rounds_succ];refine Go.wp_mono (h eC w0 g0 g a w hR) ?_;rintro e a' w' ⟨s',g',h1,h2⟩;cases e with
   |normal=>exact ih s' g' a' w' h1 h2
   |_=>exact⟨s',g',h1,h2⟩
 exact key k s g a w h hR
theorem T.loop {c:Code} (I:Nat->St->Prop) (h:∀k s,I k s->T P n c (fun e s'=>match e with|.normal=>∃k',k'<k/\I k' s'|e=>Q e s') s) {k:Nat} (h0:I k s):T P n (.loop c) Q s:=by
 have key:∀k s,I k s->Iter P n c Q (k+1) s:=by
  intro k;induction k using T1 with
  |_ k ih=>
   intro s hs;refine T.mono (h k s hs) fun e s' h1=>?_
   cases e with
   |normal=>obtain⟨k',hk,h2⟩:=h1;exact(ih k' hk s' h2).le hk
   |_=>exact h1
 exact T.km (key k s h0)
theorem T.forget {c:Code} (cS:List (Nat×AV)) (gm:∀t x,look cS t=some x->look s.fr t=some x) (h:T P n c Q ⟨cS,s.V,s.A⟩):T P n c Q s:=
 fun eC w0 g0 g a w hR=>h eC w0 g0 g a w ⟨hR.inv,hR.fr,hR.size,hR.defers,fun t x hx=>hR.slot t x (gm t x hx)⟩
theorem T.zt {c:Code} (t:Nat) (sz:Nat) (e:TypeId) (ht:look s.fr t=some (.c .nil)) (h:T P n c Q ⟨(t,.c (.own s.A.length 0))::s.fr,s.V,s.A++[⟨sz,e,[],true⟩]⟩):T P n c Q s:=by
 intro eC w0 g0 g a w hR;obtain⟨g1,Gl,qa,rN,eK,cJ,ju⟩:=hR.inv.p9 hR.fr {sz:=sz,eO:=e,rows:=[],wr:=true} (.slice none 0 0) [] (by simp) (World.ownsRow_nil w 0 e sz) (fun j x u h=>by simp at h) (fun b h=>by simp[Value.ownBlock]at h);refine h eC w0 g0 g1 a w ⟨eK,ju,hR.size,hR.defers,fun t' x hx=>?_⟩;simp only[look]at hx;by_cases e':t'=t
 ·subst e';simp at hx;subst hx;obtain⟨u,h1,h2⟩:=hR.slot t' _ ht;refine⟨u,h1,?_⟩;simp only[aU,c7,bj]at h2;subst h2;exact⟨none,0,rfl,_,by simp;rfl,TY _,fun _=>by rw[rN,Ta (by rw[hR.inv.j7];exact TV _),hR.inv.j7];simp⟩
 ·rw[if_neg e']at hx;obtain⟨u,h1,h2⟩:=hR.slot t' x hx;exact⟨u,h1,aU.ext cJ h2⟩
theorem T.e6 {c:Code} (l j:Nat) (sz:Nat) (e:TypeId) {row:List CV} (hl:s.V[l]? =some row) (hj:row[j]? =some .nil) (h:T P n c Q ⟨s.fr,s.V.set l (row.set j (.own s.A.length 0)),s.A++[⟨sz,e,[],true⟩]⟩):T P n c Q s:=by
 intro eC w0 g0 g a w hR;obtain⟨g1,Gl,qa,rN,eK,cJ,ju⟩:=hR.inv.p9 hR.fr {sz:=sz,eO:=e,rows:=[],wr:=true} (.slice none 0 0) [] (by simp) (World.ownsRow_nil w 0 e sz) (fun j x u h=>by simp at h) (fun b h=>by simp[Value.ownBlock]at h);refine h eC w0 g0 g1 a w ⟨?_,ju,hR.size,hR.defers,fun t' x hx=>?_⟩
 ·refine⟨by simpa using eK.nD,eK.j7,fun l' row' b h1 h2=>?_,eK.arr,eK.jx,eK.gF,eK.ic,eK.fresh⟩;have lT:(s.V.set l (row.set j (.own s.A.length 0)))[l']? =some row':=h1;rw[cR hl]at lT;by_cases e':l'=l
  ·subst e';simp at lT;subst lT;obtain⟨h3,cs,ty,h4,h5,h6⟩:=eK.obj l' row b hl h2;refine⟨h3,cs,ty,h4,by simpa using h5,fun i c u h7 h8=>?_⟩;rw[cR hj]at h7;by_cases e'':i=j
   ·subst e'';simp at h7;subst h7;have h9:=h6 i _ u hj h8;simp only[bj]at h9;subst h9;exact⟨none,0,rfl,_,by simp;rfl,TY _,fun _=>by rw[rN,Ta (by rw[hR.inv.j7];exact TV _),hR.inv.j7];simp⟩
   ·rw[if_neg e'']at h7;exact h6 i c u h7 h8
  ·rw[if_neg e']at lT;exact eK.obj l' row' b lT h2
 ·obtain⟨u,h1,h2⟩:=hR.slot t' x hx;exact⟨u,h1,aU.ext cJ h2⟩
end
def qY (P:Program) (s:St):ResultVar->Option AV
 |.tmp t=>look s.fr t
 |.cell t ty=>match td P ty,look s.fr t with
  |some d,some (.c p)=>match eX s p d.sz with
   |some cs=>Bw d.ag cs
   |none=>none
  |_,_=>none
def eD (P:Program) (s:St):List ResultVar->Option (List AV)
 |[]=>some []
 |r::rs=>match qY P s r,eD P s rs with
  |some x,some xs=>some (x::xs)
  |_,_=>none
def one (xs:List AV):AV:=match xs with
 |[x]=>x
 |xs=>.bu xs
def CV.res (A:List bp) (os ks:List Nat):CV->Option CV
 |.own k n=>match pos? ks k with
  |some i=>(lS A (.own k n)).map fun _=>.own i n
  |none=>(lS A (.own k n)).map CV.d
 |c=>c.iI A os
def me (A:List bp) (os ks:List Nat):List CV->Option (List CV)
 |[]=>some []
 |c::r=>match c.res A os ks,me A os ks r with
  |some d,some ds=>some (d::ds)
  |_,_=>none
def AV.nF (A:List bp) (os ks:List Nat):AV->Option AV
 |.c x=>(x.res A os ks).map AV.c
 |.agg xs=>(me A os ks xs).map AV.agg
 |.bu _=>none
def aI (A:List bp) (os ks:List Nat):List AV->Option (List AV)
 |[]=>some []
 |c::r=>match c.nF A os ks,aI A os ks r with
  |some d,some ds=>some (d::ds)
  |_,_=>none
def ev (A:List bp) (V:List (List CV)) (os ks:List Nat):List Nat->Option (List (List CV))
 |[]=>some []
 |l::r=>match V[l]?,ev A V os ks r with
  |some row,some rs=>match me A os ks row with
   |some row'=>some (row'::rs)
   |none=>none
  |_,_=>none
def c5 (A:List bp):List Nat->Option (List bp)
 |[]=>some []
 |k::r=>match A[k]?,c5 A r with
  |some x,some xs=>some (x::xs)
  |_,_=>none
def aG (P:Program) (fn:Func) (m:Nat) (r:AV) (V':List (List CV)) (A':List bp) (e:Exit) (s:St):Prop:=
 (e=.normal\/e=.ret)/\∃(ext ks:List Nat) (xs ys:List AV),eD P s fn.results.toList=some xs/\ks.Nodup/\ext.Nodup/\(∀l∈ext,m<=l)/\aI s.A (Tc m++ext) ks xs=some ys/\r=one ys/\
  ev s.A s.V (Tc m++ext) ks (Tc m++ext)=some V'/\c5 s.A ks=some A'
def mf (A:List bp) (L:List Nat):List bp:=L.foldl (fun A k=>match A[k]? with|some r=>A.set k {r with wr:=false}|none=>A) A
section
variable {P:Program} {n:Nat} {Q Q':Exit->St->Prop} {s s':St} {w0:World} {g0 g g':Gh} {a:Act} {w w':World} {V:List (List CV)} {A A':List bp}
theorem qj:∀(L:List Nat) (g:Gh) (A:List bp),Inv g w V A->Fr w0 g0 w g->
  ∃g',Inv g' w V (mf A L)/\Ext g w A g' w (mf A L)/\Fr w0 g0 w g'/\g'.ar=g.ar/\g'.ob=g.ob/\(∀k,k∉L->(mf A L)[k]? =A[k]?)/\∀k∈L,∀r v,A[k]? =some r->g.ar[k]? =some v->bc g'.im w (.sl r.rows) v
 |[],g,A,hI,hF=>⟨g,hI,.refl _ _ _,hF,rfl,rfl,fun _ _=>rfl,fun k h=>by simp at h⟩
 |k0::L,g,A,hI,hF=>by
  cases hk:A[k0]? with
  |none=>
   obtain⟨g',h1,h2,h3,h4,h5,h6,h7⟩:=qj L g A hI hF;have he:mf A (k0::L)=mf A L:=by simp only[mf,Tu,hk]
   rw[he];exact⟨g',h1,h2,h3,h4,h5,fun k h=>h6 k (fun h'=>h (by simp[h'])),fun k h r v h8 h9=>by
    simp only[Ti]at h;rcases h with rfl|h
    ·rw[hk]at h8;cases h8
    ·exact h7 k h r v h8 h9⟩
  |some r0=>
   have BE:k0<g.ar.length:=by rw[hI.j7];exact(S8.1 hk).1
   have zh:g.ar[k0]? =some g.ar[k0]:=Tb BE;obtain⟨g1,i1,i2,i3,i4,i5,i6⟩:=hI.seal hF hk zh;obtain⟨g',h1,h2,h3,h4,h5,h6,h7⟩:=qj L g1 _ i1 i3;have he:mf A (k0::L)=mf (A.set k0 {r0 with wr:=false}) L:=by simp only[mf,Tu,hk]
   rw[he];refine⟨g',h1,i2.trans h2,h3,h4.trans i4,h5.trans i5,fun k h=>?_,fun k h r v h8 h9=>?_⟩
   ·simp only[Ti,not_or]at h;rw[h6 k h.2,cR hk,if_neg h.1]
   ·by_cases e:k=k0
    ·subst e;rw[hk]at h8;cases h8;rw[zh]at h9;cases h9;exact bc.eF h2.gr _ _ i6
    ·simp only[Ti,e,false_or]at h;exact h7 k h r v (by rw[cR hk,if_neg e];exact h8) (by rw[i4];exact h9)
theorem bj.MI {c:CV} {u:Value} (h:bj g w [] c u):bj {g with ar:=g'.ar} w A' c u:=by
 cases c with
 |own k n=>obtain⟨_,_,_,r,h1,_⟩:=h;simp at h1
 |op k n i off=>obtain⟨_,_,_,r,h1,_⟩:=h;simp at h1
 |_=>exact h
theorem xQ:∀{ks:List Nat} {xs:List bp},c5 A ks=some xs->xs.length=ks.length/\∀(i k:Nat) x,ks[i]? =some k->xs[i]? =some x->A[k]? =some x
 |[],xs,h=>by simp[c5]at h;subst h;exact⟨rfl,fun i k x h=>by simp at h⟩
 |k::r,xs,h=>by
  simp only[c5]at h;split at h
  ·rename_i x xs' h1 h2;simp at h;subst h;obtain⟨h3,h4⟩:=xQ h2;refine⟨by simp[h3],fun i k' x' h5 h6=>?_⟩;cases i with
   |zero=>simp at h5 h6;subst h5;subst h6;exact h1
   |succ i=>simp at h5 h6;exact h4 i k' x' h5 h6
  ·simp at h
theorem wy {os ks:List Nat}:∀{cs ds:List CV},me A os ks cs=some ds->ds.length=cs.length/\∀(j:Nat) c d,cs[j]? =some c->ds[j]? =some d->c.res A os ks=some d
 |[],ds,h=>by simp[me]at h;subst h;exact⟨rfl,fun j c d h=>by simp at h⟩
 |c::r,ds,h=>by
  simp only[me]at h;split at h
  ·rename_i d ds' h1 h2;simp at h;subst h;obtain⟨h3,h4⟩:=wy h2;refine⟨by simp[h3],fun j c' d' h5 h6=>?_⟩;cases j with
   |zero=>simp at h5 h6;subst h5;subst h6;exact h1
   |succ j=>simp at h5 h6;exact h4 j c' d' h5 h6
  ·simp at h
theorem xR {os ks:List Nat}:∀{cs ds:List AV},aI A os ks cs=some ds->ds.length=cs.length/\∀(j:Nat) c d,cs[j]? =some c->ds[j]? =some d->c.nF A os ks=some d
 |[],ds,h=>by simp[aI]at h;subst h;exact⟨rfl,fun j c d h=>by simp at h⟩
 |c::r,ds,h=>by
  simp only[aI]at h;split at h
  ·rename_i d ds' h1 h2;simp at h;subst h;obtain⟨h3,h4⟩:=xR h2;refine⟨by simp[h3],fun j c' d' h5 h6=>?_⟩;cases j with
   |zero=>simp at h5 h6;subst h5;subst h6;exact h1
   |succ j=>simp at h5 h6;exact h4 j c' d' h5 h6
  ·simp at h
theorem xS {os ks:List Nat}:∀{ls:List Nat} {Vc:List (List CV)},ev A V os ks ls=some Vc->Vc.length=ls.length/\∀(i l:Nat) row',ls[i]? =some l->Vc[i]? =some row'->∃row,V[l]? =some row/\me A os ks row=some row'
 |[],Vc,h=>by simp[ev]at h;subst h;exact⟨rfl,fun i l row' h=>by simp at h⟩
 |l::r,Vc,h=>by
  simp only[ev]at h;split at h
  ·rename_i row rs h1 h2;split at h
   ·rename_i row' h3;simp at h;subst h;obtain⟨h4,h5⟩:=xS h2;refine⟨by simp[h4],fun i l' rw' h6 h7=>?_⟩;cases i with
    |zero=>simp at h6 h7;subst h6;subst h7;exact⟨row,h1,h3⟩
    |succ i=>simp at h6 h7;exact h5 i l' rw' h6 h7
   ·simp at h
  ·simp at h
def mg (tmps:Array Value):ResultVar->Sem Value
 |.tmp t=>pure (tmps.getD t undef)
 |.cell p t=>do loadVar t (<-asAddr (tmps.getD p undef))
theorem s6 (fn:Func) (tmps:Array Value):results fn tmps=(do let vs<-fn.results.mapM (mg tmps);pure (if h:vs.size=1 then vs[0]else .tuple vs)):=by
 unfold results
 congr 1
theorem oh (hI:Inv g w s.V s.A) (hS:gD g w s a):∀{rs:List ResultVar} {xs:List AV},eD P s rs=some xs->
  ∃us:List Value,us.length=xs.length/\(∀(i:Nat) x u,xs[i]? =some x->us[i]? =some u->aU g w s.A x u)/\
   (rs.mapM (mg a.tmps)).run P w=.ok us w
 |[],xs,h=>by simp[eD]at h;subst h;exact⟨[],rfl,fun i x u h=>by simp at h,rfl⟩
 |r::rs,xs,h=>by
  simp only[eD]at h;split at h
  ·rename_i x xs' h1 h2;simp at h;subst h;obtain⟨us,h3,h4,h5⟩:=oh hI hS h2;have uL:∃u,aU g w s.A x u/\(mg a.tmps r).run P w=.ok u w:=by
    cases r with
    |tmp t=>
     obtain⟨u,h6,h7⟩:=hS t x h1;exact⟨u,h7,by simp[mg,h6]⟩
    |cell p ty=>
     simp only[qY]at h1;split at h1
     ·rename_i d c hd hp;split at h1
      ·rename_i cs sJ;obtain⟨u,h6,h7⟩:=hS p _ hp;obtain⟨b,off,vs,rfl,hl,hr,hc⟩:=nP hI h7 sJ;obtain⟨k1,k2⟩:=jQ (P:=P) hd hc (hr.1.trans hl);have rT:a.tmps.getD p undef=.pointer (some ⟨b,off,none⟩):=by simp[h6]
       cases C5:d.ag with
       |true=>
        simp[Bw,C5]at h1;subst h1;exact⟨.agg vs.toArray,⟨vs,rfl,hr.1,fun i c u h8 h9=>hr.2 i c u h8 h9⟩,by simp only[mg,rT];exact k1 C5⟩
       |false=>
        simp only[Bw,C5,TT,if_false]at h1;split at h1
        ·rename_i c';simp at h1;subst h1;obtain⟨u,rfl⟩:∃u,vs=[u]:=by
          have:=hr.1;simp at this;exact TB.1 this
         exact⟨u,hr.2 0 c' u rfl rfl,by simp only[mg,rT];exact k2 C5 u rfl⟩
        ·simp at h1
      ·simp at h1
     ·simp at h1
   obtain⟨u,h6,h7⟩:=uL;refine⟨u::us,by simp[h3],fun i x' u' h8 h9=>?_,?_⟩
   ·cases i with
    |zero=>simp at h8 h9;subst h8;subst h9;exact h6
    |succ i=>simp at h8 h9;exact h4 i x' u' h8 h9
   ·simp only[List.mapM_cons,Sem.run_bind,h7,Result.andThen_ok,h5,Sem.run_pure]
  ·simp at h
theorem enters {f:FuncId} {fn:Func} {c:Code} (hf:P.funcs[f]? =some fn) (il:(fn.name== "runtime.NumGoroutine")=false) (hb:fn.body=some c) (args:Array Value) (w:World):(callFunc f args).run P w=.ok (.enter f args) w:=by
 have h:¬fn.name= "runtime.NumGoroutine" :=by simpa using il
 simp[callFunc,hf,h,hb]
def iJ (as:List AV):List (Nat×AV):=(as.zipIdx 0).map fun(x,i)=>(i,x)
theorem om:∀(as:List AV) (k t:Nat) (x:AV),look ((as.zipIdx k).map fun(x,i)=>(i,x)) t=some x->k<=t/\as[t-k]? =some x
 |[],k,t,x,h=>by simp[look]at h
 |y::as,k,t,x,h=>by
  simp only[List.zipIdx_cons,Tn,look]at h;split at h
  ·rename_i e;subst e;simp at h;subst h;simp
  ·rename_i e;obtain⟨h1,h2⟩:=om as (k+1) t x h;refine⟨by omega,?_⟩;rw[show t-k=(t-(k+1))+1 by omega,TO];exact h2
def o6 (P:Program) (fn:Func) (m a:Nat) (r:AV) (V':List (List CV)) (A':List bp) (e:Exit) (s:St):Prop:=
 (e=.normal\/e=.ret)/\∃(ext ks:List Nat) (xs ys:List AV),(∃ke,ks=Tc a++ke)/\eD P s fn.results.toList=some xs/\ks.Nodup/\ext.Nodup/\(∀l∈ext,m<=l)/\aI s.A (Tc m++ext) ks xs=some ys/\r=one ys/\
  ev s.A s.V (Tc m++ext) ks (Tc m++ext)=some V'/\c5 s.A ks=some A'
set_option maxHeartbeats 1000000 in
theorem eo.bW {f:FuncId} {fn:Func} {c:Code} {as:List AV} {V V':List (List CV)} {A0:List bp} {r:AV} {A':List bp} (hf:P.funcs[f]? =some fn) (il:(fn.name== "runtime.NumGoroutine")=false) (hb:fn.body=some c) (eC:codeOk fn.ntmps c=true) (hn:as.length<=fn.ntmps)
  (Hp:V.length<=V'.length) (h:T P fn.ntmps c (o6 P fn V.length A0.length r V' A') ⟨iJ as,V,A0⟩):eo P f as V A0 r V' A':=by
 refine⟨enters hf il hb,Hp,fun g w vs hI P5 Bv Mh=>?_⟩;refine calls_of_wp hf hb ?_;have hR:Rp fn.ntmps w g ⟨iJ as,V,A0⟩ g {tmps:=vs++Ud (fn.ntmps-vs.size) undef,defers:=[]} w:=by
  refine⟨hI,Fr.refl P5,by simp;omega,rfl,fun t x hx=>?_⟩;obtain⟨_,hx⟩:=om as 0 t x hx;rw[Nat.sub_zero]at hx;have ht:t<vs.size:=by have:=(S8.1 hx).1;omega
  exact⟨vs[t],by rw[Array.getElem?_append_left ht];simp[ht],Mh t x _ hx (by simp[ht])⟩
 refine Go.wp_mono (h eC w g g _ w hR) ?_;rintro e a' w' ⟨s',g',⟨hex,ext,ks,xs,ys,⟨ke,P6⟩,Jx,MJ,qk,Ff,kn,rfl,P7,P8⟩,sh⟩;obtain⟨us,xE,IK,eB⟩:=oh sh.inv sh.slot Jx
 let v:Value:=if h:us.toArray.size=1 then us.toArray[0]else .tuple us.toArray
 have s7:(results fn a'.tmps).run P w'=.ok v w':=by
  rw[s6,Sem.run_bind,Array.mapM_eq_mapM_toList];have hm:(List.toArray<$>fn.results.toList.mapM (mg a'.tmps)).run P w'=.ok us.toArray w':=by
   simp[eB]
  rw[hm]
  rfl
 let os:=Tc V.length++ext
 obtain⟨g1,eK,cJ,ju,rN,qa,vp,Jy⟩:=qj ((Tc s'.A.length).filter fun k=>(pos? ks k).isNone) g' s'.A sh.inv sh.fr;obtain⟨MF,MK⟩:=xQ P8;obtain⟨ML,IU⟩:=xS P7;have MM:∀(i k:Nat),ks[i]? =some k->k<s'.A.length:=fun i k hi=>by
  have Gn:=(S8.1 hi).1;have:=MK i k _ hi (Tb (show i<A'.length by omega));exact(S8.1 this).1
 have Jz:∀l∈os,l<s'.V.length:=fun l hl=>by
  obtain⟨i,hi⟩:=Tg hl;have Gn:=(S8.1 hi).1;have P9:i<(Tc V.length++ext).length:=Gn;obtain⟨row,h1,_⟩:=IU i l _ hi (Tb (show i<V'.length by omega));exact(S8.1 h1).1
 have JA:os.Nodup:=by
  simp only[os];refine List.nodup_append.2 ⟨List.nodup_range,qk,fun a ha b eJ=>?_⟩;have h1:=Ff b eJ;simp at ha;omega
 let gf:Gh:={ob:=os.map fun l=>g1.ob.getD l 0,ar:=ks.map fun k=>g1.ar.getD k undef,im:=g1.im}
 have Dg:∀(i l b:Nat),os[i]? =some l->g1.ob[l]? =some b->gf.ob[i]? =some b:=fun i l b h1 h2=>by simp[gf,h1,h2]
 have lI:∀(i b:Nat),gf.ob[i]? =some b->∃l,os[i]? =some l/\g1.ob[l]? =some b:=fun i b h1=>by
  simp only[gf,Td,S6]at h1;obtain⟨l,h2,h3⟩:=h1;have uO:l<g1.ob.length:=by rw[eK.nD];exact Jz l (Te h2)
  exact⟨l,h2,by rw[<-h3];simp[Tf,uO]⟩
 have BD:∀(i k:Nat) v,ks[i]? =some k->g1.ar[k]? =some v->gf.ar[i]? =some v:=fun i k v h1 h2=>by simp[gf,h1,h2]
 have mc:∀(i:Nat) v,gf.ar[i]? =some v->∃k,ks[i]? =some k/\g1.ar[k]? =some v:=fun i v h1=>by
  simp only[gf,Td,S6]at h1;obtain⟨k,h2,h3⟩:=h1;have BE:k<g1.ar.length:=by rw[rN,sh.inv.j7];exact MM i k h2
  exact⟨k,h2,by rw[<-h3];simp[Tf,BE]⟩
 have Fg:∀{l:List Nat} {k:Nat},(pos? l k).isNone=true↔k∉l:=by
  intro l;induction l with
  |nil=>intro k;simp[pos?]
  |cons x l ih=>
   intro k;simp only[pos?];by_cases e:k=x
   ·subst e;simp
   ·simp only[e,if_false,Option.isNone_map,ih,Ti,false_or]
 have Qa:∀(i k:Nat) x,ks[i]? =some k->A'[i]? =some x->(mf s'.A ((Tc s'.A.length).filter fun k=>(pos? ks k).isNone))[k]? =some x:=fun i k x h1 h2=>by
  rw[vp k (by simp only[Tz,not_and,Fg];intro _ h;exact h (Te h1))];exact MK i k x h1 h2
 have lF:∀(c d:CV) (u:Value),c.res s'.A os ks=some d->bj g' w' s'.A c u->bj gf w' A' d u:=by
  intro c d u h1 h2;have plain:c.iI s'.A os=some d->(∀k n,c≠.own k n)->bj gf w' A' d u:=by
   intro h3 h4;have h5:=qi (A:=s'.A) (A':=mf s'.A ((Tc s'.A.length).filter fun k=>(pos? ks k).isNone)) (ids:=os) (g1:=g1) (gc:={gf with ar:=[]}) (w:=w') h3 (bj.ext cJ h2) (fun x hx=>by
    cases c with
    |d y=>simp[lS]at hx;subst hx;exact bc.eF cJ.gr _ _ h2
    |nil=>simp[lS]at hx;subst hx;simp only[bj]at h2;subst h2;simp only[bc];exact⟨none,0,rfl,TV _,.inl trivial⟩
    |own k n=>exact absurd rfl (h4 k n)
    |_=>simp[lS]at hx) Dg rfl
   exact bj.MI (g:={gf with ar:=[]}) (g':=gf) h5
  cases c with
  |own k n=>
   simp only[CV.res]at h1;obtain⟨ad,cap,e,r,hk,Hi,hv⟩:=h2;split at h1
   ·rename_i i hi;simp only[S6]at h1;obtain⟨x,hx,rfl⟩:=h1;simp only[lS,hk]at hx;split at hx
    ·rename_i cN;have IW:=kh hi;have Gn:=(S8.1 IW).1;have hA'i:A'[i]? =some (A'[i]'(by omega)):=Tb (by omega);have h3:=MK i k _ IW hA'i;rw[hk]at h3;have h4:r=A'[i]'(by omega):=Option.some.inj h3;refine⟨ad,cap,e,r,by rw[hA'i,h4],Hi,fun _=>BD i k u IW (by rw[rN];exact hv cN)⟩
    ·simp at hx
   ·rename_i hi;simp only[S6]at h1;obtain⟨x,hx,rfl⟩:=h1;simp only[lS,hk]at hx;split at hx
    ·rename_i cN;simp at hx;subst hx;exact Jy k (by simp[hi];exact(S8.1 hk).1) r u hk (hv cN)
    ·simp at hx
  |d y=>exact plain h1 (by intro k n h;cases h)
  |nil=>exact plain h1 (by intro k n h;cases h)
  |ptr l off=>exact plain h1 (by intro k n h;cases h)
  |np=>exact plain h1 (by intro k n h;cases h)
  |ip row off=>exact plain h1 (by intro k n h;cases h)
  |op k n i off=>exact plain h1 (by intro k n h;cases h)
  |fn f cap=>exact plain h1 (by intro k n h;cases h)
  |undef=>exact plain h1 (by intro k n h;cases h)
 have zp:∀(x y:AV) (u:Value),x.nF s'.A os ks=some y->aU g' w' s'.A x u->c7 gf w' A' y u:=by
  intro x y u h1 h2;cases x with
  |c c=>
   simp only[AV.nF,S6]at h1;obtain⟨d,hd,rfl⟩:=h1;exact lF c d u hd h2
  |agg cs=>
   simp only[AV.nF,S6]at h1;obtain⟨ds,hd,rfl⟩:=h1;obtain⟨us',rfl,h3,h4⟩:=h2;obtain⟨h5,h6⟩:=wy hd;refine⟨us',rfl,by omega,fun j d u h7 h8=>?_⟩;have hj:j<cs.length:=by have:=(S8.1 h7).1;omega
   have hc:cs[j]? =some cs[j]:=Tb hj;exact lF _ d u (h6 j _ d hc h7) (h4 j _ u hc h8)
  |bu zs=>simp[AV.nF]at h1
 obtain⟨RB,Qb⟩:=xR kn;have JB:aU gf w' A' (one ys) v:=by
  have dc:∀(i:Nat) y u,ys[i]? =some y->us[i]? =some u->c7 gf w' A' y u:=fun i y u h1 h2=>by
   have hi:i<xs.length:=by have:=(S8.1 h1).1;omega
   have hx:xs[i]? =some xs[i]:=Tb hi;exact zp _ y u (Qb i _ y hx h1) (IK i _ u hx h2)
  by_cases h1:us.length=1
  ·obtain⟨u,rfl⟩:=TB.1 h1;obtain⟨y,rfl⟩:=TB.1 (show ys.length=1 by omega);have h2:=dc 0 y u rfl rfl;have hv:v=u:=by simp[v]
   rw[hv];cases y with
   |bu zs=>exact h2.elim
   |c c=>exact h2
   |agg cs=>exact h2
  ·have hv:v=.tuple us.toArray:=by simp[v,h1]
   have ho:one ys=.bu ys:=by
    match ys,(show ys.length≠1 by omega)with
    |[],_=>rfl
    |_::_::_,_=>rfl
   rw[hv,ho];exact⟨us,rfl,by omega,dc⟩
 have OD:g.ob.length=V.length:=hI.nD;have JC:∃new,gf.ob=g.ob++new/\∀b∈new,w.heap.size<=b:=by
  obtain⟨new,e,uP⟩:=ju.ob;refine⟨ext.map fun l=>g1.ob.getD l 0,?_,fun b eJ=>?_⟩
  ·simp only[gf,os,List.map_append]
   congr 1
   apply TP;intro i;by_cases hi:i<V.length
   ·simp[hi,e,Tf,S9 (show i<g.ob.length by omega),Tb (show i<g.ob.length by omega)]
   ·simp[Tt (show g.ob.length<=i by omega),Tt (show(Tc V.length).length<=i by simp;omega)]
  ·simp only[Ty]at eJ;obtain⟨l,hl,rfl⟩:=eJ;have uO:l<g1.ob.length:=by rw[eK.nD];exact Jz l (by simp[os,hl])
   have Fa:=Ff l hl;have eE:g1.ob.getD l 0∈new:=by
    have h1:g1.ob[l]? =some (g1.ob.getD l 0):=by simp[Tf,uO]
    generalize g1.ob.getD l 0=q at h1⊢;rw[e,Ta (by omega)]at h1;exact Te h1
   exact uP _ eE
 have JD:Inv gf w' V' A':=by
  refine⟨by simp[gf,ML,os],by simp[gf,MF],fun i row' b h1 h2=>?_,fun i x v' h1 h2=>?_,fun i i' b h1 h2=>?_,fun i i' v1 v2 b h1 h2 h3 h4=>?_,fun i j v' b h1 h2=>?_,eK.fresh⟩
  ·obtain⟨l,h3,h4⟩:=lI i b h2;obtain⟨row,h5,h6⟩:=IU i l row' h3 h1;obtain⟨h7,h8⟩:=wy h6;have eJ:g'.ob[l]? =some b:=by rw[<-qa];exact h4
   obtain⟨_,cs,ty,bZ,dC,eR⟩:=sh.inv.obj l row b h5 eJ;refine⟨(eK.obj l row b h5 h4).1,cs,ty,bZ,by omega,fun j d u dt eP=>?_⟩;have hj:j<row.length:=by have:=(S8.1 dt).1;omega
   have hc:row[j]? =some row[j]:=Tb hj;exact lF _ d u (h8 j _ d hc dt) (eR j _ u hc eP)
  ·obtain⟨k,h3,h4⟩:=mc i v' h2;exact eK.arr k x v' (Qa i k x h3 h1) h4
  ·obtain⟨l,h3,h4⟩:=lI i b h1;obtain⟨l',h5,h6⟩:=lI i' b h2;obtain rfl:=eK.jx l l' b h4 h6;exact(Tq (S8.1 h3).1 JA).1 (h3.trans h5.symm)
  ·obtain⟨k,h5,h6⟩:=mc i v1 h1;obtain⟨k',h7,h8⟩:=mc i' v2 h2;obtain rfl:=eK.gF k k' v1 v2 b h6 h8 h3 h4;exact(Tq (S8.1 h5).1 MJ).1 (h5.trans h7.symm)
  ·obtain⟨l,h3,h4⟩:=lI i b h1;obtain⟨k,h5,h6⟩:=mc j v' h2;exact eK.ic l k v' b h4 h6
 have Dk:a'.defers=[]/\∃v,(results fn a'.tmps).run P w'=.ok v w'/\∃v1 g',Ending.returned v=.returned v1/\aU g' w' A' (one ys) v1/\Inv g' w' V' A'/\Fr w g w' g':=
  ⟨sh.defers,v,s7,v,gf,rfl,JB,JD,⟨ju.os,ju.tape,ju.output,ju.size,ju.oO,ju.gG,JC,fun i v' b h1 h2=>by
   obtain⟨k,h3,h4⟩:=mc i v' h1;exact ju.ar k v' b h4 h2,fun k v' h1=>by
   obtain⟨v2,h2,h3⟩:=ju.uE k v' h1;have hk:k<A0.length:=by rw[<-hI.j7];exact(S8.1 h1).1
   exact⟨v2,BD k k v2 (by rw[P6,S9 (by simpa using hk)];simp[hk]) h2,h3⟩,ju.wh⟩⟩
 rcases hex with rfl|rfl<;>exact Dk
theorem ah.bW {f:FuncId} {fn:Func} {c:Code} {as:List AV} {V V':List (List CV)} {r:AV} {A':List bp} (hf:P.funcs[f]? =some fn) (il:(fn.name== "runtime.NumGoroutine")=false) (hb:fn.body=some c) (eC:codeOk fn.ntmps c=true) (hn:as.length<=fn.ntmps)
  (Hp:V.length<=V'.length) (h:T P fn.ntmps c (aG P fn V.length r V' A') ⟨iJ as,V,[]⟩):ah P f as V r V' A':=by
 obtain⟨h1,h2,h3⟩:=eo.bW (A0:=[]) hf il hb eC hn Hp (T.mono h fun e s' hd=>by
  obtain⟨hex,ext,ks,xs,ys,h⟩:=hd;exact⟨hex,ext,ks,xs,ys,⟨ks,by simp⟩,h⟩)
 exact⟨h1,h2,fun g w vs _ hI=>h3 g w vs hI⟩
theorem ah.ob {f:FuncId} {fn:Func} {N:Nat} {c:Code} {as:List AV} {V V':List (List CV)} {r:AV} {A':List bp} (hf:P.funcs[f]? =some fn) (hN:fn.ntmps=N) (hb:fn.body=some c) (h:T P N c (aG P fn V.length r V' A') ⟨iJ as,V,[]⟩) (il:(fn.name== "runtime.NumGoroutine")=false:=by kernel_rfl) (eC:codeOk N c=true:=by kernel_rfl) (hn:as.length<=N:=by simp) (Hp:V.length<=V'.length:=by simp):ah P f as V r V' A':=by
 subst hN;exact ah.bW hf il hb eC hn Hp h
end
def cG:Op->Bool
 |.move _|.assign _|.pick _ _ _|.fieldAddr _ _ _|.unOp _ _ _|.binOp _ _ _ _ _|.extract _ _=>true
 |_=>false
def gw (all:Array Oper) (s:St) (o:Oper):Bool:=
 match o.guard with
 |none=>true
 |some (j,want)=>match(all[j]?).bind (·.dst)with
  |some t=>match look s.fr t with
   |some (.c (.d (.bool b)))=>b==want
   |_=>false
  |none=>false
def OE (P:Program) (all:Array Oper) (ow:Bool) (o:Oper) (s s':St):Prop:=
 fT all s o True True/\((gw all s o=true/\∃x V A,s'=s.put o.dst x V A/\∀K:AV->List (List CV)->List bp->Prop,K x V A->bJ P s ow o K)\/(gw all s o=false/\s'=s.put o.dst (.c .undef) s.V s.A))
def mh (P:Program) (all:Array Oper) (ow:Nat->Bool) (ws:List Nat) (K:St->Prop):Nat->List Oper->St->Prop
 |_,[],s=>K s
 |i,o::rest,s=>fT all s o (bJ P s (ow i) o fun x V A=>(i∈ws\/(V=s.V/\A=s.A))/\mh P all ow ws K (i+1) rest (s.put o.dst x V A)) (mh P all ow ws K (i+1) rest (s.put o.dst (.c .undef) s.V s.A))
def nR (acc:List Nat) (o:Oper):Nat:=o.after.toList.foldl (fun m e=>if Region.binds .any e then m|||2 ^ e.on|||acc.getD e.on 0 else m) 0
def bD:List Oper->List Nat->List Nat
 |[],acc=>acc
 |o::r,acc=>bD r (acc++[nR acc o])
def eh (all:Array Oper) (x y:Oper):Bool:=match x.dst with
 |some d=>(y.looksAt all).contains d
 |none=>false
def bM (all:Array Oper) (ws ms:List Nat) (oi oj:Oper) (i j:Nat):Bool:=
 (oi.dst.isNone||oi.dst !=oj.dst)&&((!eh all oi oj && !eh all oj oi && !(ws.contains i && !cG oj.op)&& !(ws.contains j && !cG oi.op))||(ms.getD j 0).testBit i)
def fi (all:Array Oper) (ws:List Nat):Bool:=
 let l:=all.toList.zipIdx
 let ms:=bD all.toList []
 (l.all fun(o,j)=>o.after.toList.all fun e=> !Region.binds .any e||decide (e.on<j))&&
 (l.all fun(oj,j)=>l.all fun(oi,i)=> !(decide (i<j))||bM all ws ms oi oj i j)&&
 (l.all fun(o,j)=> !ws.contains j|| !cG o.op)
section
variable {P:Program} {n:Nat} {Q Q':Exit->St->Prop} {s s':St} {w0:World} {g0 g g':Gh} {a:Act} {w w':World} {V:List (List CV)} {A A':List bp}
theorem gp {all:Array Oper} {o:Oper} {y n:Prop} (h:fT all s o y n):(gw all s o=true/\y\/gw all s o=false/\n)/\fT all s o True True:=by
 unfold fT at h;unfold gw fT;split at h
 ·rename_i hg;simp[hg,h]
 ·rename_i j want hg;refine af h fun oj h1 h2=>af h2 fun t h3 h4=>af h4 fun x h5 h6=>?_
  simp only[hg,h1,S7,h3,h5,bE];split at h6
  ·rename_i b;simp only[beq_iff_eq,beq_eq_false_iff_ne,implies_true,and_self,and_true];by_cases e:b=want
   ·exact .inl ⟨e,h6.1 e⟩
   ·exact .inr ⟨e,h6.2 (by cases b<;>cases want<;>simp_all)⟩
  ·simp[h6]
  ·exact h6.elim
theorem Fh {ow:Bool} {op:Op} {K:AV->List (List CV)->List bp->Prop} (h:dF P s ow op K):∃x V A,K x V A/\∀K':AV->List (List CV)->List bp->Prop,K' x V A->dF P s ow op K':=by
 cases op with
 |move x=>exact af h fun v h1 h2=>⟨_,_,_,h2,fun K' h=>by simpa only[dF,bE,h1]using h⟩
 |assign x=>exact af h fun v h1 h2=>⟨_,_,_,h2,fun K' h=>by simpa only[dF,bE,h1]using h⟩
 |pick c x y=>
  refine af h fun v h1 h2=>?_
  split at h2
  ·rename_i t;cases t with
   |true=>simp only[if_true]at h2;exact af h2 fun v h3 h4=>⟨_,_,_,h4,fun K' h=>by simpa only[dF,bE,h1,if_true,h3]using h⟩
   |false=>simp only[TT,if_false]at h2;exact af h2 fun v h3 h4=>⟨_,_,_,h4,fun K' h=>by simpa only[dF,bE,h1,TT,if_false,h3]using h⟩
  ·exact h2.elim
 |alloc e=>exact af h fun d h1 h2=>af h2 fun z h3 h4=>⟨_,_,_,h4,fun K' h=>by simpa only[dF,bE,h1,h3]using h⟩
 |box e x=>exact af h fun v h1 h2=>⟨_,_,_,h2.2,fun K' h=>by simp only[dF,bE,h1];exact⟨h2.1,h⟩⟩
 |build t parts=>exact af h fun d h1 h2=>af h2 fun z h3 h4=>af h4 fun ps h5 h6=>af h6 fun cs h7 h8=>⟨_,_,_,h8.2.2,fun K' h=>by simp only[dF,bE,h1,h3,h5,h7];exact⟨h8.1,h8.2.1,h⟩⟩
 |buildSlice t len parts=>
  refine af h fun d h1 h2=>af h2 fun e h3 h4=>af h4 fun de h5 h6=>af h6 fun rows h7 h8=>af h8 fun ds h9 bZ=>?_
  obtain⟨k1,k2,k3,k4,k5⟩:=bZ;cases ow with
  |true=>simp only[if_true]at k5;exact⟨_,_,_,k5,fun K' h=>by simp only[dF,bE,h1,h3,h5,h7,h9];exact⟨k1,k2,k3,k4,by simpa only[if_true]using h⟩⟩
  |false=>simp only[TT,if_false]at k5;exact⟨_,_,_,k5,fun K' h=>by simp only[dF,bE,h1,h3,h5,h7,h9];exact⟨k1,k2,k3,k4,by simpa only[TT,if_false]using h⟩⟩
 |load t x=>
  refine af h fun d h1 h2=>af h2 fun p h3 h4=>?_
  split at h4
  ·exact af h4 fun cs h5 h6=>af h6 fun v h7 h8=>⟨_,_,_,h8,fun K' h=>by simpa only[dF,bE,h1,h3,h5,h7]using h⟩
  ·exact h4.elim
 |store t x y=>
  refine af h fun d h1 h2=>af h2 fun p h3 h4=>af h4 fun v h5 h6=>?_
  obtain⟨h7,h8,h9⟩:=h6;split at h9
  ·exact af h9 fun row bZ dC=>⟨_,_,_,dC.2,fun K' h=>by simp only[dF,bE,h1,h3,h5,bZ];exact⟨h7,h8,dC.1,h⟩⟩
  ·refine af h9 fun r bZ dC=>?_
   obtain⟨eR,dt,eP⟩:=dC;exact af eP fun row nQ oP=>af oP fun ds xJ oQ=>⟨_,_,_,oQ.2.2,fun K' h=>by simp only[dF,bE,h1,h3,h5,bZ,nQ,xJ];exact⟨h7,h8,eR,dt,oQ.1,oQ.2.1,h⟩⟩
  ·exact h9.elim
 |nilCheck x=>
  refine af h fun v h1 h2=>?_
  split at h2
  ·exact⟨_,_,_,h2,fun K' h=>by simpa only[dF,bE,h1]using h⟩
  ·exact⟨_,_,_,h2,fun K' h=>by simpa only[dF,bE,h1]using h⟩
  ·exact⟨_,_,_,h2,fun K' h=>by simpa only[dF,bE,h1]using h⟩
  ·exact⟨_,_,_,h2,fun K' h=>by simpa only[dF,bE,h1]using h⟩
  ·exact h2.elim
 |binOp op t x y t'=>
  refine af h fun u h1 h2=>af h2 fun v h3 h4=>?_
  split at h4
  ·rename_i r hr;exact⟨_,_,_,h4,fun K' h=>by simpa only[dF,bE,h1,h3,hr]using h⟩
  ·rename_i hr;split at h4
   ·rename_i r Bu;exact⟨_,_,_,h4,fun K' h=>by simpa only[dF,bE,h1,h3,hr,Bu]using h⟩
   ·rename_i Bu;exact af h4 fun r h5 h6=>af h6 fun d h7 h8=>⟨_,_,_,h8.2,fun K' h=>by simp only[dF,bE,h1,h3,hr,Bu,h5,h7];exact⟨h8.1,h⟩⟩
 |unOp op t x=>exact af h fun u h1 h2=>af h2 fun r h3 h4=>⟨_,_,_,h4,fun K' h=>by simpa only[dF,bE,h1,h3]using h⟩
 |convert src dst x=>
  refine af h fun u h1 h2=>af h2 fun ds h3 h4=>af h4 fun dd h5 h6=>?_
  split at h6
  ·exact af h6 fun k h7 h8=>⟨_,_,_,h8,fun K' h=>by simpa only[dF,bE,h1,h3,h5,h7]using h⟩
  ·exact⟨_,_,_,h6.2.2,fun K' h=>by simp only[dF,bE,h1,h3,h5];exact⟨h6.1,h6.2.1,h⟩⟩
  ·obtain⟨h7,h8⟩:=h6;exact af h8 fun e h9 bZ=>af bZ fun de dC eR=>af eR.2 fun b dt eP=>⟨_,_,_,eP,fun K' h=>by simp only[dF,bE,h1,h3,h5,h9,dC,dt];exact⟨h7,eR.1,h⟩⟩
  ·exact h6.elim
 |makeFunc fn first captured=>
  cases fn with
  |func f=>
   obtain⟨h1,h2⟩:=h;exact af h2 fun cs h3 h4=>af h4 fun ls h5 h6=>⟨_,_,_,h6,fun K' h=>by simp only[dF,bE,h3,h5];exact⟨h1,h⟩⟩
  |_=>exact h.elim
 |makeSlice t l c=>
  refine af h fun d h1 h2=>af h2 fun e h3 h4=>af h4 fun de h5 h6=>af h6 fun z h7 h8=>af h8 fun dz h9 bZ=>af bZ fun vl dC eR=>af eR fun vc dt eP=>?_
  split at eP
  ·obtain⟨k1,k2,k3,k4,k5,k6,k7⟩:=eP;exact⟨_,_,_,k7,fun K' h=>by simp only[dF,bE,h1,h3,h5,h7,h9,dC,dt];exact⟨k1,k2,k3,k4,k5,k6,h⟩⟩
  ·exact eP.elim
 |slice t x lo hi mx=>
  obtain⟨rfl,h⟩:=h;refine af h fun d h1 h2=>af h2 fun v h3 h4=>af h4 fun l h5 h6=>af h6 fun hh h7 h8=>?_
  split at h8
  ·obtain⟨h9,bZ⟩:=h8;exact af bZ fun i dC eR=>af eR fun j dt eP=>⟨_,_,_,eP.2.2.2,fun K' h=>by simp only[dF,bE,h1,h3,h5,h7,dC,dt];exact⟨trivial,h9,eP.1,eP.2.1,eP.2.2.1,h⟩⟩
  ·refine af h8 fun rows h9 bZ=>af bZ fun e dC eR=>af eR fun de dt eP=>af eP fun i nQ oP=>af oP fun j xJ oQ=>?_
   refine⟨_,_,_,oQ.2.2.2.2,fun K' h=>?_⟩;simp only[dF,bE,h1,h3,h5,h7,h9,dC,dt,nQ,xJ];exact⟨trivial,oQ.1,oQ.2.1,oQ.2.2.1,oQ.2.2.2.1,h⟩
 |fieldAddr t x f=>
  refine af h fun d h1 h2=>af h2 fun fo h3 h4=>?_
  obtain⟨off,sz⟩:=fo;obtain⟨h5,h6⟩:=h4;refine af h6 fun v h7 h8=>?_
  split at h8
  ·exact⟨_,_,_,h8,fun K' h=>by simp only[dF,bE,h1,h3,h7];exact⟨h5,h⟩⟩
  ·exact⟨_,_,_,h8,fun K' h=>by simp only[dF,bE,h1,h3,h7];exact⟨h5,h⟩⟩
  ·exact⟨_,_,_,h8,fun K' h=>by simp only[dF,bE,h1,h3,h7];exact⟨h5,h⟩⟩
  ·exact h8.elim
 |indexAddr t x ix=>
  refine af h fun d h1 h2=>af h2 fun v h3 h4=>af h4 fun i h5 h6=>?_
  split at h6
  ·obtain⟨h0,h6⟩:=h6;split at h6
   ·exact af h6 fun e h7 h8=>af h8 fun de h9 bZ=>af bZ fun row dC eR=>⟨_,_,_,eR.2,fun K' h=>by simp only[dF,bE,h1,h3,h5,h7,h9,dC];exact⟨h0,eR.1,h⟩⟩
   ·exact af h6 fun e h7 h8=>af h8 fun de h9 bZ=>af bZ fun r dC eR=>⟨_,_,_,eR.2.2.2,fun K' h=>by simp only[dF,bE,h1,h3,h5,h7,h9,dC];exact⟨h0,eR.1,eR.2.1,eR.2.2.1,h⟩⟩
   ·refine af h6 fun le h7 h8=>?_
    obtain⟨len,e⟩:=le;exact af h8 fun de h9 bZ=>⟨_,_,_,bZ.2,fun K' h=>by simp only[dF,bE,h1,h3,h5,h7,h9];exact⟨h0,bZ.1,h⟩⟩
   ·exact h6.elim
  ·exact h6.elim
 |index t x ix=>
  refine af h fun d h1 h2=>af h2 fun v h3 h4=>af h4 fun i h5 h6=>?_
  split at h6
  ·obtain⟨h7,h0,h8⟩:=h6;exact af h8 fun c h9 bZ=>⟨_,_,_,bZ,fun K' h=>by simp only[dF,bE,h1,h3,h5,h9];exact⟨h7,h0,h⟩⟩
  ·refine af h6 fun le h7 h8=>af h8 fun de h9 bZ=>?_
   obtain⟨dC,eR,h0,dt,eP⟩:=bZ;exact af eP fun c nQ oP=>⟨_,_,_,oP,fun K' h=>by simp only[dF,bE,h1,h3,h5,h7,h9,nQ];exact⟨dC,eR,h0,dt,h⟩⟩
  ·exact h6.elim
 |extract x i=>
  refine af h fun v h1 h2=>?_
  split at h2
  ·refine af h2 fun u h3 h4=>?_
   split at h4
   ·exact h4.elim
   ·refine⟨_,_,_,h4,fun K' h=>?_⟩;simp only[dF,bE,h1,h3];exact h
  ·exact h2.elim
 |call c=>
  obtain⟨callee,args,argTypes⟩:=c;cases callee with
  |builtin b=>
   cases b with
   |len=>
    refine af h fun x h1 h2=>af h2 fun v h3 h4=>af h4 fun t h5 h6=>af h6 fun d h7 h8=>af h8 fun n h9 bZ=>?_
    exact⟨_,_,_,bZ.2.2,fun K' h=>by simp only[dF,bE,h1,h3,h5,h7,h9];exact⟨bZ.1,bZ.2.1,h⟩⟩
   |append=>
    refine af h fun x h1 h2=>af h2 fun y h3 h4=>af h4 fun t h5 h6=>?_
    obtain⟨h7,h8⟩:=h6;refine af h8 fun d h9 bZ=>af bZ fun e dC eR=>af eR fun de dt eP=>?_
    obtain⟨nQ,oP,xJ⟩:=eP;refine af xJ fun v oQ Ho=>af Ho fun u EI Jt=>af Jt fun nr E5 Mw=>?_
    obtain⟨E6,E7⟩:=Mw;split at E7
    ·refine af E7 fun r E8 IP=>?_
     obtain⟨k1,k2,k3,k4,k5,k6⟩:=IP;cases ow with
     |true=>simp only[if_true]at k6;exact⟨_,_,_,k6,fun K' h=>by simp only[dF];simp only[bE]at oP;simp only[bE,h1,h3,h5,h9,dC,dt,oQ,EI,E5,E8];exact⟨h7,nQ,oP,E6,k1,k2,k3,k4,k5,by simpa only[if_true]using h⟩⟩
     |false=>simp only[TT,if_false]at k6;exact⟨_,_,_,k6,fun K' h=>by simp only[dF];simp only[bE]at oP;simp only[bE,h1,h3,h5,h9,dC,dt,oQ,EI,E5,E8];exact⟨h7,nQ,oP,E6,k1,k2,k3,k4,k5,by simpa only[TT,if_false]using h⟩⟩
    ·obtain⟨k1,k2,k6⟩:=E7;cases ow with
     |true=>simp only[if_true]at k6;exact⟨_,_,_,k6,fun K' h=>by simp only[dF];simp only[bE]at oP;simp only[bE,h1,h3,h5,h9,dC,dt,oQ,EI,E5];exact⟨h7,nQ,oP,E6,k1,k2,by simpa only[if_true]using h⟩⟩
     |false=>simp only[TT,if_false]at k6;exact⟨_,_,_,k6,fun K' h=>by simp only[dF];simp only[bE]at oP;simp only[bE,h1,h3,h5,h9,dC,dt,oQ,EI,E5];exact⟨h7,nQ,oP,E6,k1,k2,by simpa only[TT,if_false]using h⟩⟩
    ·exact E7.elim
   |max=>
    refine af h fun x h1 h2=>af h2 fun y h3 h4=>?_
    obtain⟨h5,h6⟩:=h4;refine af h6 fun v h7 h8=>af h8 fun u h9 bZ=>?_
    split at bZ
    ·exact⟨_,_,_,bZ,fun K' h=>by simp only[dF,bE,h1,h3,h7,h9];exact⟨h5,h⟩⟩
    ·exact bZ.elim
   |min=>
    refine af h fun x h1 h2=>af h2 fun y h3 h4=>?_
    obtain⟨h5,h6⟩:=h4;refine af h6 fun v h7 h8=>af h8 fun u h9 bZ=>?_
    split at bZ
    ·exact⟨_,_,_,bZ,fun K' h=>by simp only[dF,bE,h1,h3,h7,h9];exact⟨h5,h⟩⟩
    ·exact bZ.elim
   |_=>exact h.elim
  |_=>exact h.elim
 |_=>exact h.elim
theorem jD {ow:Bool} {o:Oper} {K:AV->List (List CV)->List bp->Prop} (h:∀f args ts,o.op≠.call ⟨.value f,args,ts⟩):bJ P s ow o K=dF P s ow o.op K:=by
 obtain⟨dst,op,ty,pos,after,guard⟩:=o;cases op<;>try rfl
 rename_i c;obtain⟨callee,args,ts⟩:=c;cases callee<;>first|rfl|exact absurd rfl (h _ _ _)
theorem gL {ow:Bool} {o:Oper} {K:AV->List (List CV)->List bp->Prop} (h:bJ P s ow o K):∃x V A,K x V A/\∀K':AV->List (List CV)->List bp->Prop,K' x V A->bJ P s ow o K':=by
 by_cases jf:∃f args ts,o.op=.call ⟨.value f,args,ts⟩
 ·obtain⟨f,args,ts,heq⟩:=jf;simp only[bJ,heq]at h⊢;refine af h fun fv h1 h2=>?_
  split at h2
  ·rename_i fid cap;refine af h2 fun xs h3 h4=>?_
   rcases h4 with⟨ids,as,Vc,r,Vc',Ac',k1,k2,k3,k4,k5⟩|⟨hs,as,r,Ac',k1,k2,k3,k4,k5⟩
   ·refine⟨_,_,_,k5,fun K' h=>?_⟩;simp only[bE,h1,h3];exact .inl ⟨ids,as,Vc,r,Vc',Ac',k1,k2,k3,k4,h⟩
   ·refine⟨_,_,_,k5,fun K' h=>?_⟩;simp only[bE,h1,h3];exact .inr ⟨hs,as,r,Ac',k1,k2,k3,k4,h⟩
  ·exact h2.elim
 ·have cN:∀f args ts,o.op≠.call ⟨.value f,args,ts⟩:=fun f args ts e=>jf ⟨f,args,ts,e⟩
  rw[jD cN]at h;obtain⟨x,V,A,h1,h2⟩:=Fh h;exact⟨x,V,A,h1,fun K' h3=>by rw[jD cN];exact h2 K' h3⟩
theorem mi {all:Array Oper} {ow:Nat->Bool} {ws:List Nat} {K:St->Prop}:∀(ops:List Oper) (i:Nat) (s:St),mh P all ow ws K i ops s->
  ∃σ:Nat->St,σ 0=s/\K (σ ops.length)/\∀(j:Nat) o,ops[j]? =some o->OE P all (ow (i+j)) o (σ j) (σ (j+1))/\(i+j∈ws\/((σ (j+1)).V=(σ j).V/\(σ (j+1)).A=(σ j).A))
 |[],i,s,h=>⟨fun _=>s,rfl,h,fun j o h=>by simp at h⟩
 |o::rest,i,s,h=>by
  simp only[mh]at h;obtain⟨h0,hg⟩:=gp h;rcases h0 with⟨h1,h2⟩|⟨h1,h2⟩
  ·obtain⟨x,V,A,⟨h3,h4⟩,h5⟩:=gL h2;obtain⟨σ,k1,k2,k3⟩:=mi rest (i+1) _ h4;refine⟨fun j=>match j with|0=>s|j+1=>σ j,rfl,k2,fun j o' ho=>?_⟩;cases j with
   |zero=>
    simp at ho;subst ho;refine⟨⟨hg,.inl ⟨h1,x,V,A,k1,h5⟩⟩,?_⟩;rcases h3 with h3|⟨h3,sd⟩
    ·exact .inl h3
    ·exact .inr (by simp only[k1];exact⟨h3,sd⟩)
   |succ j=>
    simp at ho;have:=k3 j o' ho;rwa[show i+1+j=i+(j+1) by omega]at this
  ·obtain⟨σ,k1,k2,k3⟩:=mi rest (i+1) _ h2;refine⟨fun j=>match j with|0=>s|j+1=>σ j,rfl,k2,fun j o' ho=>?_⟩;cases j with
   |zero=>
    simp at ho;subst ho;exact⟨⟨hg,.inr ⟨h1,k1⟩⟩,.inr (by simp only[k1];exact⟨rfl,rfl⟩)⟩
   |succ j=>
    simp at ho;have:=k3 j o' ho;rwa[show i+1+j=i+(j+1) by omega]at this
end
section
variable {P:Program} {n:Nat} {Q Q':Exit->St->Prop} {s s':St} {w0:World} {g0 g g':Gh} {a:Act} {w w':World} {V:List (List CV)} {A A':List bp}
theorem uR {fr cS:List (Nat×AV)} {p:CV} {k:Nat}:eX ⟨cS,V,A⟩ p k=eX ⟨fr,V,A⟩ p k:=by
 cases p<;>rfl
theorem o7:∀{parts:List (Nat×Operand)},(∀p∈parts,bA s' p.2=bA s p.2)->fL s' parts=fL s parts
 |[],_=>rfl
 |(i,x)::r,h=>by
  have e:=o7 (parts:=r) (fun p hp=>h p (TA _ hp));simp only[fL,h (i,x) (by simp),e]
theorem qZ {sz:Nat}:∀{parts:List (Nat×Operand)} {k:Nat},(∀p∈parts,bA s' p.2=bA s p.2)->ie s' sz k parts=ie s sz k parts
 |[],_,_=>rfl
 |(i,x)::r,k,h=>by
  have e:=qZ (sz:=sz) (parts:=r) (k:=k+1) (fun p hp=>h p (TA _ hp));simp only[ie,h (i,x) (by simp),e]
theorem jE:∀{os:List Operand},(∀p∈os,bA s' p=bA s p)->fz s' os=fz s os
 |[],_=>rfl
 |x::r,h=>by
  have e:=jE (os:=r) (fun p hp=>h p (TA _ hp));simp only[fz,h x (by simp),e]
theorem BG {fr cS:List (Nat×AV)} {ow:Bool} {op:Op} {K:AV->List (List CV)->List bp->Prop} (he:∀x∈op.operands.toList,bA ⟨cS,V,A⟩ x=bA ⟨fr,V,A⟩ x) (h:dF P ⟨fr,V,A⟩ ow op K):dF P ⟨cS,V,A⟩ ow op K:=by
 cases op with
 |move x=>simpa only[dF,he x (by simp[Op.operands])]using h
 |assign x=>simpa only[dF,he x (by simp[Op.operands])]using h
 |pick c x y=>simpa only[dF,he c (by simp[Op.operands]),he x (by simp[Op.operands]),he y (by simp[Op.operands])]using h
 |alloc e=>exact h
 |box e x=>simpa only[dF,he x (by simp[Op.operands])]using h
 |build t parts=>simpa only[dF,o7 (s':=⟨cS,V,A⟩) (s:=⟨fr,V,A⟩) (parts:=parts.toList) (fun p hp=>he p.2 (by simp only[Op.operands,Ty];exact⟨p,hp,rfl⟩))]using h
 |buildSlice t len parts=>
  simp only[dF]at h⊢;have:∀sz,ie ⟨cS,V,A⟩ sz 0 parts.toList=ie ⟨fr,V,A⟩ sz 0 parts.toList:=fun sz=>qZ (fun p hp=>he p.2 (by simp only[Op.operands,Ty];exact⟨p,hp,rfl⟩))
  simpa only[this]using h
 |load t x=>
  simp only[dF,he x (by simp[Op.operands])]at h⊢;simpa only[uR (fr:=fr) (cS:=cS)]using h
 |store t x y=>simpa only[dF,he x (by simp[Op.operands]),he y (by simp[Op.operands])]using h
 |nilCheck x=>simpa only[dF,he x (by simp[Op.operands])]using h
 |binOp op t x y t'=>simpa only[dF,he x (by simp[Op.operands]),he y (by simp[Op.operands])]using h
 |unOp op t x=>simpa only[dF,he x (by simp[Op.operands])]using h
 |convert src dst x=>simpa only[dF,he x (by simp[Op.operands])]using h
 |makeFunc fn first captured=>
  cases fn with
  |func f=>simpa only[dF,jE (s':=⟨cS,V,A⟩) (s:=⟨fr,V,A⟩) (os:=captured.toList) (fun p hp=>he p (by simp[Op.operands];exact .inr (by simpa using hp)))]using h
  |_=>exact h
 |makeSlice t l c=>simpa only[dF,he l (by simp[Op.operands]),he c (by simp[Op.operands])]using h
 |slice t x lo hi mx=>
  have CY:jP ⟨cS,V,A⟩ lo=jP ⟨fr,V,A⟩ lo:=by
   cases lo with
   |none=>rfl
   |some l=>simp only[jP,he l (by simp[Op.operands])]
  have Ms:jP ⟨cS,V,A⟩ hi=jP ⟨fr,V,A⟩ hi:=by
   cases hi with
   |none=>rfl
   |some l=>simp only[jP,he l (by simp[Op.operands])]
  simpa only[dF,he x (by simp[Op.operands]),CY,Ms]using h
 |fieldAddr t x f=>simpa only[dF,he x (by simp[Op.operands])]using h
 |indexAddr t x ix=>simpa only[dF,he x (by simp[Op.operands]),he ix (by simp[Op.operands])]using h
 |index t x ix=>simpa only[dF,he x (by simp[Op.operands]),he ix (by simp[Op.operands])]using h
 |extract x i=>simpa only[dF,he x (by simp[Op.operands])]using h
 |call c=>
  obtain⟨callee,args,argTypes⟩:=c;cases callee with
  |builtin b=>
   have hx:∀(i:Nat) x,args[i]? =some x->bA ⟨cS,V,A⟩ x=bA ⟨fr,V,A⟩ x:=fun i x hi=>he x (by
    simp only[Op.operands,Call.operands,Ug,Ua];exact Ue hi)
   cases b with
   |len=>exact af h fun x h1 h2=>by simp only[dF,bE,h1,hx 0 x h1];exact h2
   |append=>exact af h fun x h1 h2=>af h2 fun y h3 h4=>by simp only[dF,bE,h1,h3,hx 0 x h1,hx 1 y h3];exact h4
   |max=>exact af h fun x h1 h2=>af h2 fun y h3 h4=>by simp only[dF,bE,h1,h3,hx 0 x h1,hx 1 y h3];exact h4
   |min=>exact af h fun x h1 h2=>af h2 fun y h3 h4=>by simp only[dF,bE,h1,h3,hx 0 x h1,hx 1 y h3];exact h4
   |_=>exact h
  |_=>exact h
 |_=>exact h
theorem fU {fr cS:List (Nat×AV)} {ow:Bool} {o:Oper} {K:AV->List (List CV)->List bp->Prop} (he:∀x∈o.op.operands.toList,bA ⟨cS,V,A⟩ x=bA ⟨fr,V,A⟩ x) (h:bJ P ⟨fr,V,A⟩ ow o K):bJ P ⟨cS,V,A⟩ ow o K:=by
 by_cases jf:∃f args ts,o.op=.call ⟨.value f,args,ts⟩
 ·obtain⟨f,args,ts,heq⟩:=jf;simp only[bJ,heq]at h he⊢;have h1:bA ⟨cS,V,A⟩ f=bA ⟨fr,V,A⟩ f:=he f (by simp[Op.operands,Call.operands]);have h2:fz ⟨cS,V,A⟩ args.toList=fz ⟨fr,V,A⟩ args.toList:=jE fun p hp=>he p (by simp[Op.operands,Call.operands];exact .inr (by simpa using hp))
  rw[h1,h2];exact h
 ·have cN:∀f args ts,o.op≠.call ⟨.value f,args,ts⟩:=fun f args ts e=>jf ⟨f,args,ts,e⟩
  rw[jD cN]at h⊢;exact BG he h
theorem si {ow:Bool} {o:Oper} (hs:cG o.op=true) (he:∀x∈o.op.operands.toList,bA s' x=bA s x) {x:AV} {V0:List (List CV)} {A0:List bp} (h:∀K:AV->List (List CV)->List bp->Prop,K x V0 A0->bJ P s ow o K)
  {K:AV->List (List CV)->List bp->Prop} (hK:K x s'.V s'.A):bJ P s' ow o K:=by
 have cN:∀f args ts,o.op≠.call ⟨.value f,args,ts⟩:=fun f args ts e=>by rw[e]at hs;simp[cG]at hs
 have h0:=h (fun v _ _=>v=x) rfl;rw[jD cN]at h0⊢;obtain⟨dst,op,ty,pos,after,guard⟩:=o;simp only at h0 he hs⊢;cases op with
 |move y=>exact af h0 fun v h1 h2=>by subst h2;simp only[dF,bE,he y (by simp[Op.operands]),h1];exact hK
 |assign y=>exact af h0 fun v h1 h2=>by subst h2;simp only[dF,bE,he y (by simp[Op.operands]),h1];exact hK
 |pick c y z=>
  refine af h0 fun v h1 h2=>?_
  split at h2
  ·rename_i t;cases t with
   |true=>simp only[if_true]at h2;exact af h2 fun v h3 h4=>by subst h4;simp only[dF,bE,he c (by simp[Op.operands]),h1,if_true,he y (by simp[Op.operands]),h3];exact hK
   |false=>simp only[TT,if_false]at h2;exact af h2 fun v h3 h4=>by subst h4;simp only[dF,bE,he c (by simp[Op.operands]),h1,TT,if_false,he z (by simp[Op.operands]),h3];exact hK
  ·exact h2.elim
 |fieldAddr t y f=>
  refine af h0 fun d h1 h2=>af h2 fun fo h3 h4=>?_
  obtain⟨off,sz⟩:=fo;obtain⟨h5,h6⟩:=h4;refine af h6 fun v h7 h8=>?_
  split at h8
  ·subst h8;simp only[dF,bE,h1,h3,he y (by simp[Op.operands]),h7];exact⟨h5,hK⟩
  ·subst h8;simp only[dF,bE,h1,h3,he y (by simp[Op.operands]),h7];exact⟨h5,hK⟩
  ·subst h8;simp only[dF,bE,h1,h3,he y (by simp[Op.operands]),h7];exact⟨h5,hK⟩
  ·exact h8.elim
 |unOp op t y=>exact af h0 fun u h1 h2=>af h2 fun r h3 h4=>by subst h4;simp only[dF,bE,he y (by simp[Op.operands]),h1,h3];exact hK
 |binOp op t y z t'=>
  refine af h0 fun u h1 h2=>af h2 fun v h3 h4=>?_
  split at h4
  ·rename_i r hr;subst h4;simp only[dF,bE,he y (by simp[Op.operands]),he z (by simp[Op.operands]),h1,h3,hr];exact hK
  ·rename_i hr;split at h4
   ·rename_i r Bu;subst h4;simp only[dF,bE,he y (by simp[Op.operands]),he z (by simp[Op.operands]),h1,h3,hr,Bu];exact hK
   rename_i Bu;exact af h4 fun r h5 h6=>af h6 fun d h7 h8=>by
    obtain⟨h8,h9⟩:=h8;subst h9;simp only[dF,bE,he y (by simp[Op.operands]),he z (by simp[Op.operands]),h1,h3,hr,Bu,h5,h7];exact⟨h8,hK⟩
 |extract y i=>
  refine af h0 fun v h1 h2=>?_
  split at h2
  ·refine af h2 fun u h3 h4=>?_
   split at h4
   ·exact h4.elim
   ·subst h4;simp only[dF,bE,he y (by simp[Op.operands]),h1,h3];exact hK
  ·exact h2.elim
 |_=>simp[cG]at hs
theorem gM {acc:List Nat} {o:Oper} {k:Nat} (h:(nR acc o).testBit k=true):∃e∈o.after,Region.binds .any e=true/\(k=e.on\/(acc.getD e.on 0).testBit k=true):=by
 have key:∀(l:List Edge) (m:Nat),(l.foldl (fun m e=>if Region.binds .any e then m|||2 ^ e.on|||acc.getD e.on 0 else m) m).testBit k=true->m.testBit k=true\/∃e∈l,Region.binds .any e=true/\(k=e.on\/(acc.getD e.on 0).testBit k=true):=by
  intro l;induction l with
  |nil=>intro m h;exact .inl h
  |cons e l ih=>
   intro m h;simp only[Tu]at h;rcases ih _ h with h1|⟨e',h1,h2⟩
   ·split at h1
    ·rename_i hb;rw[T4,T4,TS,TS]at h1;rcases h1 with(h1|h1)|h1
     ·exact .inl h1
     ·rw[Nat.testBit_two_pow]at h1;exact .inr ⟨e,by simp,hb,.inl (by simpa using(by simpa using h1:e.on=k).symm)⟩
     ·exact .inr ⟨e,by simp,hb,.inr h1⟩
    ·exact .inl h1
   ·exact .inr ⟨e',by simp[h1],h2⟩
 rcases key _ 0 h with h1|⟨e,h1,h2⟩
 ·simp at h1
 ·exact⟨e,Ua.1 h1,h2⟩
theorem fN:∀(l:List Oper) (acc:List Nat),(bD l acc).length=acc.length+l.length/\(∀i,i<acc.length->(bD l acc)[i]? =acc[i]?)/\
  ∀(i:Nat) o,l[i]? =some o->∃pre:List Nat,pre.length=acc.length+i/\(∀j,j<pre.length->pre[j]? =(bD l acc)[j]?)/\(bD l acc)[acc.length+i]? =some (nR pre o)
 |[],acc=>⟨by simp[bD],fun _ _=>rfl,fun i o h=>by simp at h⟩
 |o::r,acc=>by
  obtain⟨h1,h2,h3⟩:=fN r (acc++[nR acc o]);simp only[bD];refine⟨by rw[h1];simp;omega,fun i hi=>?_,fun i o' ho=>?_⟩
  ·rw[h2 i (by simp;omega),S9 hi]
  ·cases i with
   |zero=>
    simp at ho;subst ho;refine⟨acc,by simp,fun j hj=>?_,?_⟩
    ·rw[h2 j (by simp;omega),S9 hj]
    ·rw[Nat.add_zero,h2 _ (by simp)];simp
   |succ i=>
    simp at ho;obtain⟨pre,h4,h5,h6⟩:=h3 i o' ho;simp at h4;exact⟨pre,by omega,h5,by rw[<-h6];congr 1;simp;omega⟩
theorem fV (f:Nat->Bool):∀(fr:List (Nat×AV)) (t:Nat),look (fr.filter fun p=>f p.1) t=if f t then look fr t else none
 |[],t=>by simp[look]
 |(d,x)::r,t=>by
  by_cases hd:f d=true
  ·rw[List.filter_cons_of_pos (by exact hd)];simp only[look];rw[fV f r t];by_cases e:t=d
   ·subst e;simp[hd]
   ·simp[e]
  ·rw[List.filter_cons_of_neg (by exact hd),fV f r t];simp only[look];by_cases e:t=d
   ·subst e;simp[hd]
   ·simp[e]
structure DS (all:Array Oper) (ws:List Nat) (σ:Nat->St) (n:Nat) (w0:World) (g0:Gh) (ai:Array Bool) (k0:Nat) (g:Gh) (a:Act) (w:World):Prop where
 inv:Inv g w (σ k0).V (σ k0).A
 fr:Fr w0 g0 w g
 size:a.tmps.size=n
 defers:a.defers=[]
 fc:ai.size=all.size
 iq:∀(i:Nat) o t x,all[i]? =some o->ai[i]? =some true->o.dst=some t->look (σ (i+1)).fr t=some x->∃u,a.tmps[t]? =some u/\aU g w (σ k0).A x u
 ir:∀t x,(∀(i:Nat) o,all[i]? =some o->ai[i]? =some true->o.dst≠some t)->look (σ 0).fr t=some x->∃u,a.tmps[t]? =some u/\aU g w (σ k0).A x u
 fe:∀i∈ws,i<all.size->(ai[i]? =some true↔i<k0)
 pZ:k0<=all.size
 closed:∀(i:Nat) o,all[i]? =some o->ai[i]? =some true->∀e∈o.after,Region.binds .any e=true->ai[e.on]? =some true
theorem filter_le {α:Type} {p q:α->Bool} (h:∀i,p i=true->q i=true):∀(l:List α),(l.filter p).length<=(l.filter q).length
 |[]=>by simp
 |x::l=>by
  have ih:=filter_le h l;cases hp:p x with
  |true=>simp[hp,h x hp];exact ih
  |false=>cases hq:q x<;>simp[hp,hq]<;>omega
theorem filter_lt {α:Type} {p q:α->Bool} (h:∀i,p i=true->q i=true) {j:α}:∀{l:List α},j∈l->q j=true->p j=false->(l.filter p).length<(l.filter q).length
 |[],hj,_,_=>by simp at hj
 |x::l,hj,hq,hp=>by
  rcases Ti.1 hj with rfl|C4
  ·have:=filter_le h l;simp[hp,hq];omega
  ·have ih:=filter_lt h C4 hq hp;cases fj:p x with
   |true=>simp[fj,h x fj];exact ih
   |false=>cases Mv:q x<;>simp[fj,Mv]<;>omega
theorem dH {ai:Array Bool} {i:Nat}:ai.getD i false=true↔ai[i]? =some true:=by
 rcases TW i ai.size with h|h
 ·simp[h]
 ·simp[h]
theorem fW {ai:Array Bool} {i:Nat} (h:ai.getD i true=false):ai[i]? =some false:=by
 rcases TW i ai.size with h1|h1
 ·simp[h1]at h⊢;exact h
 ·simp[h1]at h
set_option maxHeartbeats 2000000 in
theorem zu {all:Array Oper} {ow:Nat->Bool} {ws:List Nat} {σ:Nat->St} {K:St->Prop} {Q:Exit->Act->World->Prop} (hd:fi all ws=true) (gn:fh n all.toList=true)
  (nG:∀(j:Nat) o,all[j]? =some o->OE P all (ow j) o (σ j) (σ (j+1))/\(j∈ws\/((σ (j+1)).V=(σ j).V/\(σ (j+1)).A=(σ j).A)))
  (hK:K (σ all.size)) (hQ:∀s' g' a' w',K s'->Rp n w0 g0 s' g' a' w'->Q .normal a' w'):
  ∀(fuel:Nat) (ai:Array Bool) (k0:Nat) (g:Gh) (a:Act) (w:World),((Tc all.size).filter fun i=> !ai.getD i true).length<=fuel->DS all ws σ n w0 g0 ai k0 g a w->wpAny P .any all Q fuel ai a w:=by
 simp only[fi,TR,Tk]at hd;obtain⟨⟨ij,jR⟩,sj⟩:=hd;have eE:∀(j:Nat) o,all[j]? =some o->(o,j)∈all.toList.zipIdx:=fun j o h=>by
  rw[TG];exact⟨j,by simp[TM,h]⟩
 have dQ:∀(j:Nat) o,all[j]? =some o->∀e∈o.after,Region.binds .any e=true->e.on<j:=fun j o h e he hb=>by
  have:=ij _ (eE j o h) e (Ua.2 he);simpa[hb]using this
 have cH:∀(i j:Nat) oi oj,all[i]? =some oi->all[j]? =some oj->i<j->bM all ws (bD all.toList []) oi oj i j=true:=fun i j oi oj h1 h2 aC=>by
  have:=jR _ (eE j oj h2) _ (eE i oi h1);simpa[aC]using this
 have y3:∀(j:Nat) o,all[j]? =some o->j∈ws->cG o.op=false:=fun j o h hj=>by
  have:=sj _ (eE j o h);simpa[hj]using this
 have ko:∀(i j:Nat) oi oj d,all[i]? =some oi->all[j]? =some oj->i<j->oi.dst=some d->oj.dst≠some d:=fun i j oi oj d h1 h2 aC h3 h4=>by
  have:=cH i j oi oj h1 h2 aC;simp[bM,h3,h4]at this
 have wz:∀(i j:Nat) oi oj d,all[i]? =some oi->all[j]? =some oj->oi.dst=some d->oj.dst=some d->i=j:=fun i j oi oj d h1 h2 h3 h4=>by
  rcases T2 i j with h|h|h
  ·exact absurd h4 (ko i j oi oj d h1 h2 h h3)
  ·exact h
  ·exact absurd h3 (ko j i oj oi d h2 h1 h h4)
 have BF:∀(j:Nat) o d,all[j]? =some o->o.dst=some d->d<n:=fun j o d h1 h2=>by
  have:=Tk.1 gn o (by rw[Ua];exact Ue h1);simpa[h2]using this
 obtain⟨Fa,_,Dl⟩:=fN all.toList []
 have s8:∀{ai:Array Bool},(∀(i:Nat) o,all[i]? =some o->ai[i]? =some true->∀e∈o.after,Region.binds .any e=true->ai[e.on]? =some true)->
   ∀(i:Nat) o,all[i]? =some o->(∀e∈o.after,Region.binds .any e=true->ai[e.on]? =some true)->∀k,((bD all.toList []).getD i 0).testBit k=true->ai[k]? =some true:=by
  intro ai sQ i;induction i using T1 with
  |_ i ih=>
   intro o ho dI k hk;obtain⟨pre,h1,h2,h3⟩:=Dl i o (by simpa using ho);simp only[TK,T0]at h1 h3;have h4:(bD all.toList []).getD i 0=nR pre o:=by simp[Tf,h3]
   rw[h4]at hk;obtain⟨e,he,hb,h5⟩:=gM hk;have xU:=dI e he hb;rcases h5 with rfl|h5
   ·exact xU
   ·have aC:=dQ i o ho e he hb;have h6:pre.getD e.on 0=(bD all.toList []).getD e.on 0:=by simp only[Tf,h2 e.on (by omega)]
    rw[h6]at h5;have fw:e.on<all.size:=by have:=(T9.1 ho).1;omega
    have xV:all[e.on]? =some all[e.on]:=T8 fw;exact ih e.on aC _ xV (sQ e.on _ xV xU) k h5
 have mj:∀(j:Nat) o t,all[j]? =some o->o.dst≠some t->look (σ (j+1)).fr t=look (σ j).fr t:=fun j o t h1 h2=>by
  obtain⟨⟨_,h3⟩,_⟩:=nG j o h1;have ml:∀(x:AV) V A,look ((σ j).put o.dst x V A).fr t=look (σ j).fr t:=fun x V A=>by
   simp only[St.put];cases uJ:o.dst with
   |none=>rfl
   |some d=>simp only[look];rw[if_neg (fun e=>h2 (by rw[uJ,e]))]
  rcases h3 with⟨_,x,V,A,h4,_⟩|⟨_,h4⟩
  ·rw[h4];exact ml x V A
  ·rw[h4];exact ml _ _ _
 have s9:∀(j t:Nat),j<=all.size->(∀(i:Nat) o,i<j->all[i]? =some o->o.dst≠some t)->look (σ j).fr t=look (σ 0).fr t:=by
  intro j;induction j with
  |zero=>intro t _ _;rfl
  |succ j ih=>
   intro t hj fx;have ho:all[j]? =some all[j]:=T8 (by omega);rw[mj j _ t ho (fx j _ (by omega) ho)];exact ih t (by omega) (fun i o hi=>fx i o (by omega))
 have tc:∀(j i:Nat) oi t,j<=all.size->i<j->all[i]? =some oi->oi.dst=some t->look (σ j).fr t=look (σ (i+1)).fr t:=by
  intro j;induction j with
  |zero=>intro i oi t _ h;omega
  |succ j ih=>
   intro i oi t hj nS bG c8;by_cases e:i=j
   ·subst e;rfl
   ·have ho:all[j]? =some all[j]:=T8 (by omega);rw[mj j _ t ho (ko i j oi _ t bG ho (by omega) c8)];exact ih i oi t (by omega) (by omega) bG c8
 have xW:∀(b a:Nat),a<=b->b<=all.size->(∀i,a<=i->i<b->i∉ws)->(σ b).V=(σ a).V/\(σ b).A=(σ a).A:=by
  intro b;induction b with
  |zero=>
   intro a h _ _;obtain rfl:a=0:=by omega
   exact⟨rfl,rfl⟩
  |succ b ih=>
   intro a MN hb fx;by_cases e:a=b+1
   ·subst e;exact⟨rfl,rfl⟩
   ·have ho:all[b]? =some all[b]:=T8 (by omega);obtain⟨h1,h2⟩:=ih a (by omega) (by omega) (fun i hi Ay=>fx i hi (by omega));rcases(nG b _ ho).2 with h3|⟨h3,h4⟩
    ·exact absurd h3 (fx b (by omega) (by omega))
    ·exact⟨h3.trans h1,h4.trans h2⟩
 have qk:∀{ai:Array Bool} {k0:Nat} {g:Gh} {a:Act} {w:World},DS all ws σ n w0 g0 ai k0 g a w->Region.ready .any all ai=[]->Q .normal a w:=by
  intro ai k0 g a w hD hr;have dc:∀i,i<all.size->ai[i]? =some true:=by
   intro i;induction i using T1 with
   |_ i ih=>
    intro hi;have ho:all[i]? =some all[i]:=T8 hi;have cg:i<ai.size:=by rw[hD.fc];exact hi
    cases hl:ai[i]with
    |true=>rw[T8 cg,hl]
    |false=>
     exfalso
     have:i∈Region.ready .any all ai:=mem_ready.2 ⟨by simp[cg,hl],_,ho,fun e he hb=>dH.2 (ih e.on (dQ i _ ho e he hb) (by have:=dQ i _ ho e he hb;omega))⟩;rw[hr]at this;simp at this
  have mS:=xW all.size k0 hD.pZ (TV _) (fun i h1 h2 h3=>by have:=(hD.fe i h3 h2).1 (dc i h2);omega);refine hQ _ g a w hK ⟨by rw[mS.1,mS.2];exact hD.inv,hD.fr,hD.size,hD.defers,fun t x hx=>?_⟩;rw[mS.2];by_cases hex:∃(i:Nat) (o:Oper),all[i]? =some o/\o.dst=some t
  ·obtain⟨i,o,ho,c8⟩:=hex;have hi:=(T9.1 ho).1;rw[tc all.size i o t (TV _) hi ho c8]at hx;exact hD.iq i o t x ho (dc i hi) c8 hx
  ·rw[s9 all.size t (TV _) (fun i o _ ho c8=>hex ⟨i,o,ho,c8⟩)]at hx;exact hD.ir t x (fun i o ho _ c8=>hex ⟨i,o,ho,c8⟩) hx
 intro fuel;induction fuel with
 |zero=>
  intro ai k0 g a w hf hD;have ql:Region.ready .any all ai=[]:=by
   have h0:((Tc all.size).filter fun i=> !ai.getD i true)=[]:=Tv (by omega);rcases hr:Region.ready .any all ai with _|⟨j,r⟩
   ·rfl
   ·have hj:j∈Region.ready .any all ai:=by rw[hr];simp
    obtain⟨h1,o,h2,_⟩:=mem_ready.1 hj;have:j∈((Tc all.size).filter fun i=> !ai.getD i true):=by
     rw[Tz,Tp];exact⟨(T9.1 h2).1,by simp[h1]⟩
    rw[h0]at this;simp at this
  exact⟨ql,qk hD ql⟩
 |succ fuel ih=>
  intro ai k0 g a w hf hD;refine⟨fun hr=>qk hD hr,fun j hj=>?_⟩;obtain⟨p7,o,ho,dI⟩:=mem_ready.1 hj;have sk:=fW p7;have zn:j<all.size:=(T9.1 ho).1;have kf:j<ai.size:=by rw[hD.fc];exact zn
  have du:∀e∈o.after,Region.binds .any e=true->ai[e.on]? =some true:=fun e he hb=>dH.1 (dI e he hb)
  have df:∀k,((bD all.toList []).getD j 0).testBit k=true->ai[k]? =some true:=s8 hD.closed j o ho du;have cT:∀(i:Nat) oi,all[i]? =some oi->ai[i]? =some true->((bD all.toList []).getD i 0).testBit j=false:=fun i oi bG cg=>by
   cases hb:((bD all.toList []).getD i 0).testBit j with
   |false=>rfl
   |true=>have:=s8 hD.closed i oi bG (hD.closed i oi bG cg) j hb;rw[sk]at this;simp at this
  have oo:∀t∈o.looksAt all,∀x,look (σ j).fr t=some x->∃u,a.tmps[t]? =some u/\aU g w (σ k0).A x u:=by
   intro t ht x hx;by_cases hex:∃(i:Nat) (oi:Oper),i<j/\all[i]? =some oi/\oi.dst=some t
   ·obtain⟨i,oi,nS,bG,c8⟩:=hex;rw[tc j i oi t (by omega) nS bG c8]at hx;have hp:=cH i j oi o bG ho nS;have zw:eh all oi o=true:=by simp only[eh,c8];simpa using ht
    simp only[bM,zw,TR,TS]at hp;have hb:((bD all.toList []).getD j 0).testBit i=true:=by simpa using hp.2
    exact hD.iq i oi t x bG (df i hb) c8 hx
   ·rw[s9 j t (by omega) (fun i oi nS bG c8=>hex ⟨i,oi,nS,bG,c8⟩)]at hx;refine hD.ir t x (fun i oi bG cg c8=>?_) hx;rcases T2 i j with h|h|h
    ·exact hex ⟨i,oi,h,bG,c8⟩
    ·subst h;rw[sk]at cg;simp at cg
    ·have hp:=cH j i o oi ho bG h;have zw:eh all oi o=true:=by simp only[eh,c8];simpa using ht
     have hb:=cT i oi bG cg;simp only[bM,zw,hb,TR,TS]at hp;simp at hp
  let cS:=(σ j).fr.filter fun p=>(o.looksAt all).contains p.1
  have rU:∀t,look cS t=if(o.looksAt all).contains t then look (σ j).fr t else none:=fun t=>fV (fun t=>(o.looksAt all).contains t) (σ j).fr t
  have hS:∀(V:List (List CV)),gD g w ⟨cS,V,(σ k0).A⟩ a:=fun V t x hx=>by
   simp only[rU]at hx;split at hx
   ·rename_i hc;exact oo t (by simpa using hc) x hx
   ·cases hx
  have jf:∀(V V':List (List CV)) (A A':List bp),∀x∈o.op.operands.toList,bA ⟨cS,V,A⟩ x=bA ⟨(σ j).fr,V',A'⟩ x:=fun V V' A A' x hx=>by
   cases x with
   |tmp t=>
    simp only[bA,rU];rw[if_pos];simp only[Oper.looksAt,Tw,decide_eq_true_eq,Tl,TH];exact .inl ⟨.tmp t,hx,rfl⟩
   |_=>rfl
  have kT:Rp n w0 g0 ⟨cS,(σ k0).V,(σ k0).A⟩ g a w:=⟨hD.inv,hD.fr,hD.size,hD.defers,hS _⟩;obtain⟨⟨s4,pV⟩,Dm⟩:=nG j o ho;have o8:fT all ⟨cS,(σ k0).V,(σ k0).A⟩ o True True/\gw all ⟨cS,(σ k0).V,(σ k0).A⟩ o=gw all (σ j) o:=by
   unfold fT gw at*;cases ot:o.guard with
   |none=>simp
   |some jw=>
    obtain⟨q,want⟩:=jw;simp only[ot]at s4⊢;obtain⟨oq,h1,h2⟩:=cq s4;obtain⟨t,h3,h4⟩:=cq h2;have:look cS t=look (σ j).fr t:=by
     rw[rU,if_pos];simp only[Oper.looksAt,ot,Tw,decide_eq_true_eq,Tl];exact .inr (by simp[h1,h3])
    simp only[h1,bE,h3,S7,this]at h4⊢;exact⟨h4,trivial⟩
  have q0:Region.wanted o (yielded all a.tmps)=gw all (σ j) o:=by
   rw[<-o8.2];have h0:=gp o8.1;have h1:=o8.1;unfold fT at h1;unfold gw;cases ot:o.guard with
   |none=>simp[Region.wanted,ot]
   |some jw=>
    obtain⟨q,want⟩:=jw;simp only[ot]at h1⊢;obtain⟨oq,h2,h3⟩:=cq h1;obtain⟨t,h4,h5⟩:=cq h3;obtain⟨x,h6,h7⟩:=cq h5;obtain⟨h8,h9⟩:=je kT h2 h4 h6;simp only[h2,S7,h4,h6];split at h7
    ·rename_i b;simp[Region.wanted,ot,h8 b rfl]
    ·simp[Region.wanted,ot,h9 rfl]
    ·exact h7.elim
  have cb:∀i,(ai.setIfInBounds j true)[i]? =if i=j then some true else ai[i]? :=fun i=>by
   by_cases e:i=j
   ·subst e;simp[kf]
   ·rw[if_neg e,Ub (fun h=>e h.symm)]
  have dN:((Tc all.size).filter fun i=> !(ai.setIfInBounds j true).getD i true).length<=fuel:=by
   have aC:((Tc all.size).filter fun i=> !(ai.setIfInBounds j true).getD i true).length<((Tc all.size).filter fun i=> !ai.getD i true).length:=by
    have gm:∀i,(!(ai.setIfInBounds j true).getD i true)=true->(!ai.getD i true)=true:=fun i h=>by
     by_cases e:i=j
     ·subst e;simp[kf]at h
     ·have:(ai.setIfInBounds j true).getD i true=ai.getD i true:=by
       simp only[Uf,cb,if_neg e]
      rwa[this]at h
    exact filter_lt gm (Tp.2 zn) (by simp[p7]) (by simp[kf])
   omega
  have dB:∀(k1:Nat) (x:AV) (v:Value) (w':World) (g':Gh),look (σ (j+1)).fr=look ((σ j).put o.dst x [] []).fr->aU g' w' (σ k1).A x v->Inv g' w' (σ k1).V (σ k1).A->Ext g w (σ k0).A g' w' (σ k1).A->Fr w0 g0 w' g'->k1<=all.size->
    (∀i∈ws,i<all.size->((ai.setIfInBounds j true)[i]? =some true↔i<k1))->DS all ws σ n w0 g0 (ai.setIfInBounds j true) k1 g' (a.put o.dst v) w':=by
   intro k1 x v w' g' EL zr hI hx hF hk Hv;have mo:∀t u,o.dst≠some t->a.tmps[t]? =some u->(a.put o.dst v).tmps[t]? =some u:=fun t u cN hu=>by
    cases uJ:o.dst with
    |none=>exact hu
    |some d=>
     simp only[Act.put];rw[Ub (fun e=>cN (by rw[uJ,e]))];exact hu
   refine⟨hI,hF,?_,?_,by simp[hD.fc],fun i oi t y bG cg c8 hy=>?_,fun t y fx hy=>?_,Hv,hk,fun i oi bG cg e he hb=>?_⟩
   ·cases o.dst<;>simp[Act.put,hD.size]
   ·cases o.dst<;>simp[Act.put,hD.defers]
   ·rw[cb]at cg;by_cases e:i=j
    ·subst e;obtain rfl:o=oi:=by rw[ho]at bG;exact Option.some.inj bG
     rw[EL]at hy;simp only[St.put,c8,look,if_true]at hy;cases hy
     refine⟨v,?_,zr⟩;have:t<a.tmps.size:=by rw[hD.size];exact BF i o t ho c8
     simp[Act.put,c8,this]
    ·rw[if_neg e]at cg;obtain⟨u,h1,h2⟩:=hD.iq i oi t y bG cg c8 hy;exact⟨u,mo t u (fun h=>e (wz i j oi o t bG ho c8 h)) h1,aU.ext hx h2⟩
   ·have cN:o.dst≠some t:=fx j o ho (by rw[cb,if_pos rfl]);obtain⟨u,h1,h2⟩:=hD.ir t y (fun i oi bG cg=>fx i oi bG (by
     rw[cb];by_cases e:i=j
     ·rw[if_pos e]
     ·rw[if_neg e];exact cg)) hy
    exact⟨u,mo t u cN h1,aU.ext hx h2⟩
   ·rw[cb]at cg⊢;have:ai[e.on]? =some true:=by
     by_cases e':i=j
     ·subst e';obtain rfl:o=oi:=by rw[ho]at bG;exact Option.some.inj bG
      exact du e he hb
     ·rw[if_neg e']at cg;exact hD.closed i oi bG cg e he hb
    by_cases e':e.on=j
    ·rw[if_pos e']
    ·rw[if_neg e'];exact this
  have kU:j∉ws->∀i∈ws,i<all.size->((ai.setIfInBounds j true)[i]? =some true↔i<k0):=fun fF i hi cr=>by
   rw[cb,if_neg (fun e=>fF (by rw[<-e];exact hi))];exact hD.fe i hi cr
  have mS:cG o.op=false->(σ j).V=(σ k0).V/\(σ j).A=(σ k0).A:=by
   intro iD;rcases T5 j k0 with h|h
   ·have:=xW k0 j h hD.pZ (fun i h1 h2 h3=>by
     have cr:i<all.size:=by have:=hD.pZ;omega
     have cg:=(hD.fe i h3 cr).2 h2;have bG:all[i]? =some all[i]:=T8 cr;rcases TW j i with h4|h4
     ·have hp:=cH j i o _ ho bG h4;have hb:=cT i _ bG cg;simp only[bM,hb,TR,TS]at hp;simp[h3,iD]at hp
     ·obtain rfl:i=j:=by omega
      rw[sk]at cg;simp at cg)
    exact⟨this.1.symm,this.2.symm⟩
   ·exact xW j k0 h (by omega) (fun i h1 h2 h3=>by
     have cr:i<all.size:=by omega
     have bG:all[i]? =some all[i]:=T8 cr;have hp:=cH i j _ o bG ho h2;simp only[bM,TR,TS]at hp;have hb:((bD all.toList []).getD j 0).testBit i=true:=by
      rcases hp.2 with h4|h4
      ·simp[h3,iD]at h4
      ·exact h4
     have:=(hD.fe i h3 cr).1 (df i hb);omega)
  unfold wpOp;simp only[ho];rcases pV with⟨h1,x,V,A,h2,h3⟩|⟨h1,h2⟩
  ·rw[if_pos (by rw[q0,h1])];refine .inl ?_;by_cases hs:cG o.op=true
   ·-- slots alone
    have fF:j∉ws:=fun h=>by have:=y3 j o ho h;rw[hs]at this;simp at this
    have h4:bJ P ⟨cS,(σ k0).V,(σ k0).A⟩ (ow j) o (fun y V' A'=>y=x/\V'=(σ k0).V/\A'=(σ k0).A):=si (s:=σ j) (s':=⟨cS,(σ k0).V,(σ k0).A⟩) hs (jf _ _ _ _) h3 ⟨rfl,rfl,rfl⟩;obtain⟨y,V',A',⟨rfl,rfl,rfl⟩,h5⟩:=eu kT.inv kT.fr kT.slot h4;refine h5 _ _ fun v w' g' h6 h7 h8 h9=>ih _ k0 g' _ w' dN (dB k0 y v w' g' (by rw[h2];rfl) h6 h7 h8 h9 hD.pZ (kU fF))
   ·have iD:cG o.op=false:=by simpa using hs
    obtain⟨lH,jv⟩:=mS iD;have h4:bJ P ⟨cS,(σ k0).V,(σ k0).A⟩ (ow j) o (fun y V' A'=>y=x/\V'=V/\A'=A):=by
     rw[<-lH,<-jv];exact fU (fr:=(σ j).fr) (jf _ _ _ _) (h3 _ ⟨rfl,rfl,rfl⟩)
    obtain⟨y,V',A',⟨rfl,rfl,rfl⟩,h5⟩:=eu kT.inv kT.fr kT.slot h4;have xX:(σ (j+1)).V=V':=by rw[h2];rfl
    have lV:(σ (j+1)).A=A':=by rw[h2];rfl
    by_cases fF:j∈ws
    ·refine h5 _ _ fun v w' g' h6 h7 h8 h9=>ih _ (j+1) g' _ w' dN (dB (j+1) y v w' g' (by rw[h2];rfl) (by rw[lV];exact h6) (by rw[xX,lV];exact h7) (by rw[lV];exact h8) h9 (by omega) (fun i hi cr=>?_))
     have bG:all[i]? =some all[i]:=T8 cr;rw[cb];by_cases e:i=j
     ·subst e;simp
     ·rw[if_neg e];constructor
      ·intro cg;rcases TW j i with h|h
       ·have hp:=cH j i o _ ho bG h;have hb:=cT i _ bG cg;simp only[bM,hb,TR,TS]at hp;simp[hi,iD]at hp
       ·omega
      ·intro aC;have hp:=cH i j _ o bG ho (by omega);simp only[bM,TR,TS]at hp;rcases hp.2 with h|h
       ·simp[hi,iD]at h
       ·exact df i h
    ·rcases Dm with Dm|⟨qa,se⟩
     ·exact absurd Dm fF
     ·refine h5 _ _ fun v w' g' h6 h7 h8 h9=>ih _ k0 g' _ w' dN (dB k0 y v w' g' (by rw[h2];rfl) ?_ ?_ ?_ h9 hD.pZ (kU fF))
      ·rw[<-jv,<-se,lV];exact h6
      ·rw[<-lH,<-jv,<-qa,<-se,xX,lV];exact h7
      ·have e1:(σ k0).A=A':=by rw[<-jv,<-se,lV]
       rw[e1]at h8⊢;exact h8
  ·rw[if_neg (by rw[q0,h1];simp)];have xX:(σ (j+1)).V=(σ j).V:=by rw[h2];rfl
   have lV:(σ (j+1)).A=(σ j).A:=by rw[h2];rfl
   by_cases fF:j∈ws
   ·have iD:=y3 j o ho fF;obtain⟨lH,jv⟩:=mS iD;refine ih _ (j+1) g _ w dN (dB (j+1) (.c .undef) undef w g (by rw[h2];rfl) rfl ?_ ?_ hD.fr (by omega) (fun i hi cr=>?_))
    ·rw[xX,lV,lH,jv];exact hD.inv
    ·rw[lV,jv];exact .refl _ _ _
    ·have bG:all[i]? =some all[i]:=T8 cr;rw[cb];by_cases e:i=j
     ·subst e;simp
     ·rw[if_neg e];constructor
      ·intro cg;rcases TW j i with h|h
       ·have hp:=cH j i o _ ho bG h;have hb:=cT i _ bG cg;simp only[bM,hb,TR,TS]at hp;simp[hi,iD]at hp
       ·omega
      ·intro aC;have hp:=cH i j _ o bG ho (by omega);simp only[bM,TR,TS]at hp;rcases hp.2 with h|h
       ·simp[hi,iD]at h
       ·exact df i h
   ·exact ih _ k0 g _ w dN (dB k0 (.c .undef) undef w g (by rw[h2];rfl) rfl hD.inv (.refl _ _ _) hD.fr hD.pZ (kU fF))
theorem T.q7 {id:Nat} {ops:Array Oper} (hm:P.follows .mixedOrders=true) (ow:Nat->Bool) (ws:List Nat) (hd:fi ops ws=true) (h:mh P ops ow ws (fun s'=>Q .normal s') 0 ops.toList s):T P n (.region id ops true) Q s:=by
 intro eC w0 g0 g a w hR;obtain⟨σ,h0,hK,nG⟩:=mi ops.toList 0 s h;obtain⟨hI,hx⟩:=hR.inv.heap (w':={w with drawn:=w.drawn+1}) rfl;refine wp_region_any hm (zu (K:=fun s'=>Q .normal s') (w0:=w0) (g0:=g0) (n:=n) (σ:=σ) (ow:=ow) hd eC (fun j o ho=>?_) ?_ (fun s' g' a' w' h1 h2=>⟨s',g',h1,h2⟩) ops.size (Ud ops.size false) 0 g a _ ?_ ?_)
 ·have:=nG j o (by simpa using ho);simpa only[T0]using this
 ·simpa using hK
 ·exact TZ (TL _ _) (by simp)
 ·refine⟨by rw[h0];exact hI,hR.fr.heap rfl rfl rfl rfl,hR.size,hR.defers,by simp,fun i o t x ho hl=>?_,fun t x _ jc=>?_,fun i _ cr=>?_,TY _,fun i o ho hl=>?_⟩
  ·have hi:=(T9.1 ho).1;simp[hi]at hl
  ·rw[h0]at jc⊢;obtain⟨u,h1,h2⟩:=hR.slot t x jc;exact⟨u,h1,aU.ext hx h2⟩
  ·simp[cr]
  ·have hi:=(T9.1 ho).1;simp[hi]at hl
end
abbrev AV.i (n:Int):AV:=.c (.d (.int .i64 n))
abbrev AV.b (x:Bool):AV:=.c (.d (.bool x))
abbrev AV.s (x:List UInt8):AV:=.c (.d (.str x))
abbrev AV.l (x:List (List DV)):AV:=.c (.d (.sl x))
abbrev DV.i (n:Int):DV:=.int .i64 n
theorem wrap64 {n:Int} (h:-9223372036854775808<=n) (h':n<=9223372036854775807):IntKind.i64.wrap n=n:=by
 have e:IntKind.i64.wrap n=if 9223372036854775808<=n % 18446744073709551616 then n % 18446744073709551616-18446744073709551616 else n % 18446744073709551616:=by simp[IntKind.wrap,IntKind.signed,IntKind.bits]
 rw[e];split<;>omega
section
variable {P:Program} {n:Nat} {Q Q':Exit->St->Prop} {s s':St} {y:Code}
theorem o9 {α:Type} {o:Option α} {k k':α->Prop} (hk:∀v,k v->k' v) (h:bE o k):bE o k':=by
 cases o with
 |none=>exact h.elim
 |some v=>exact hk v h
theorem mU {all:Array Oper} {o:Oper} {y n y' n':Prop} (hy:y->y') (hn:n->n') (h:fT all s o y n):fT all s o y' n':=by
 unfold fT at h⊢;split
 ·rename_i e;rw[e]at h;exact hy h
 ·rename_i j want e;rw[e]at h;refine o9 (fun oj=>o9 fun t=>o9 fun x=>?_) h;intro h;split at h
  ·exact⟨fun a=>hy (h.1 a),fun a=>hn (h.2 a)⟩
  ·exact hn h
  ·exact h.elim
theorem mV {o:Oper} {ow:Bool} {K K':AV->List (List CV)->List bp->Prop} (hk:∀x V A,K x V A->K' x V A) (h:bJ P s ow o K):bJ P s ow o K':=by
 obtain⟨x,V,A,h1,h2⟩:=gL h;exact h2 K' (hk x V A h1)
structure y4 (P:Program) (all:Array Oper) (ow:Nat->Bool) (K:St->Prop) (i:Nat) (ops:List Oper) (s:St):Prop where
 mk::
 run:s3 P all ow K i ops s
structure qm (P:Program) (all:Array Oper) (ow:Nat->Bool) (ws:List Nat) (K:St->Prop) (i:Nat) (ops:List Oper) (s:St):Prop where
 mk::
 run:mh P all ow ws K i ops s
theorem ae {all:Array Oper} {ow:Nat->Bool} {K:St->Prop} {i:Nat} {o:Oper} {rest:List Oper} (h:fT all s o (bJ P s (ow i) o fun x V A=>y4 P all ow K (i+1) rest (s.put o.dst x V A)) (y4 P all ow K (i+1) rest (s.put o.dst (.c .undef) s.V s.A))):y4 P all ow K i (o::rest) s:=
 ⟨mU (fun h=>mV (fun _ _ _ h=>h.run) h) (fun h=>h.run) h⟩
theorem ab {all:Array Oper} {ow:Nat->Bool} {K:St->Prop} {i:Nat} (h:K s):y4 P all ow K i [] s:=⟨h⟩
theorem aA {all:Array Oper} {ow:Nat->Bool} {ws:List Nat} {K:St->Prop} {i:Nat} {o:Oper} {rest:List Oper} (h:fT all s o (bJ P s (ow i) o fun x V A=>(i∈ws\/(V=s.V/\A=s.A))/\qm P all ow ws K (i+1) rest (s.put o.dst x V A)) (qm P all ow ws K (i+1) rest (s.put o.dst (.c .undef) s.V s.A))):qm P all ow ws K i (o::rest) s:=
 ⟨mU (fun h=>mV (fun _ _ _ h=>⟨h.1,h.2.run⟩) h) (fun h=>h.run) h⟩
theorem aq {all:Array Oper} {ow:Nat->Bool} {ws:List Nat} {K:St->Prop} {i:Nat} (h:K s):qm P all ow ws K i [] s:=⟨h⟩
theorem T.rs {id:Nat} {l:List Oper} (ow:Nat->Bool) (h:∀K:St->Prop,(∀s',T P n y Q s'->K s')->y4 P l.toArray ow K 0 l s):T P n (.seq (.region id l.toArray false) y) Q s:=
 T.seq (T.region ow (h _ fun _ h=>h).run)
theorem T.rd {id:Nat} {l:List Oper} (hm:P.follows .mixedOrders=true) (ow:Nat->Bool) (ws:List Nat) (hd:fi l.toArray ws=true) (h:∀K:St->Prop,(∀s',T P n y Q s'->K s')->qm P l.toArray ow ws K 0 l s):T P n (.seq (.region id l.toArray true) y) Q s:=
 T.seq (T.q7 hm ow ws hd (h _ fun _ h=>h).run)
theorem T.ef {id:Nat} {l:List Oper} (ow:Nat->Bool) (h:∀K:St->Prop,(∀s',Q .normal s'->K s')->y4 P l.toArray ow K 0 l s):T P n (.region id l.toArray false) Q s:=
 T.region ow (h _ fun _ h=>h).run
theorem T.mW {id:Nat} {l:List Oper} (hm:P.follows .mixedOrders=true) (ow:Nat->Bool) (ws:List Nat) (hd:fi l.toArray ws=true) (h:∀K:St->Prop,(∀s',Q .normal s'->K s')->qm P l.toArray ow ws K 0 l s):T P n (.region id l.toArray true) Q s:=
 T.q7 hm ow ws hd (h _ fun _ h=>h).run
@[congr] theorem IX {all:Array Oper} {ow:Nat->Bool} {K:St->Prop} {i i':Nat} {ops:List Oper} (hi:i=i') (h:s=s'):y4 P all ow K i ops s=y4 P all ow K i' ops s':=by rw[h,hi]
@[congr] theorem Hw {all:Array Oper} {ow:Nat->Bool} {ws:List Nat} {K:St->Prop} {i i':Nat} {ops:List Oper} (hi:i=i') (h:s=s'):qm P all ow ws K i ops s=qm P all ow ws K i' ops s':=by rw[h,hi]
@[congr] theorem Hx {o:Oper} {ow:Bool} {K:AV->List (List CV)->List bp->Prop} (h:s=s'):bJ P s ow o K=bJ P s' ow o K:=by rw[h]
@[congr] theorem JE {o:Op} {ow:Bool} {K:AV->List (List CV)->List bp->Prop} (h:s=s'):dF P s ow o K=dF P s' ow o K:=by rw[h]
@[congr] theorem JF {all:Array Oper} {o:Oper} {y n:Prop} (h:s=s'):fT all s o y n=fT all s' o y n:=by rw[h]
@[congr] theorem JG {α:Type} {o o':Option α} {k:α->Prop} (h:o=o'):bE o k=bE o' k:=by rw[h]
def iu:List (Nat×AV)->List (Nat×AV)->Prop
 |[],_=>True
 |(t,x)::r,fr=>look fr t=some x/\iu r fr
theorem iu.look:∀{l fr:List (Nat×AV)},iu l fr->∀t x,look l t=some x->look fr t=some x
 |[],_,_,t,x,h=>by simp[Av.look]at h
 |(t',x')::r,fr,hs,t,x,h=>by
  simp only[Av.look]at h;split at h
  ·rename_i e;subst e;simp at h;subst h;exact hs.1
  ·exact iu.look hs.2 t x h
def Sub (s s':St):Prop:=s.V=s'.V/\s.A=s'.A/\iu s.fr s'.fr
theorem T.sub {c:Code} (h:T P n c Q s) (hs:Sub s s'):T P n c Q s':=by
 obtain⟨h1,h2,h3⟩:=hs;refine T.forget s.fr (iu.look h3) ?_;rw[<-h1,<-h2];exact h
def Round {α:Type} (S:α->St) (m:α->Nat) (H:α->Prop) (k:Nat) (Q:Exit->St->Prop):Exit->St->Prop
 |.normal,s'=>∃a',m a'<k/\H a'/\Sub (S a') s'
 |e,s'=>Q e s'
theorem T.gq {α:Type} {c:Code} (S:α->St) (m:α->Nat) (H:α->Prop) (h:∀a,H a->T P n c (Round S m H (m a) Q) (S a)) (a:α) (ha:H a) (hs:Sub (S a) s):T P n (.loop c) Q s:=by
 refine T.loop (fun k s=>∃a,m a=k/\H a/\(S a).V=s.V/\(S a).A=s.A/\∀t x,look (S a).fr t=some x->look s.fr t=some x) ?_ (k:=m a) ⟨a,rfl,ha,hs.1,hs.2.1,iu.look hs.2.2⟩;rintro k s1 ⟨a',rfl,h2,h3,h4,h5⟩;refine T.forget (S a').fr h5 ?_;rw[<-h3,<-h4];refine T.mono (h a' h2) fun e s2 h6=>?_
 cases e with
 |normal=>
  obtain⟨a2,h7,h8,h9,bZ,dC⟩:=h6;exact⟨_,h7,a2,rfl,h8,h9,bZ,iu.look dC⟩
 |_=>exact h6
@[congr] theorem Gs {s s':St} {f:FuncId} {xs xs':List AV} {K:AV->List (List CV)->List bp->Prop} (hs:s=s') (hx:xs=xs'):fM P s f xs K=fM P s' f xs' K:=by subst hs;subst hx;rfl
theorem aa {f:FuncId} {xs as:List AV} {r:AV} {K:AV->List (List CV)->List bp->Prop} (cr:fA s.A [] xs=some as) (hc:ah P f as [] r [] []) (hK:K (r.ej [] s.V.length s.A.length) s.V (bC s.A (bq xs))):fM P s f xs K:=by
 refine .inl ⟨[],as,[],r,[],[],Th,cr,rfl,hc,?_⟩;simpa[bQ,bw]using hK
theorem aG.pure {fn:Func} {r x:AV} {e:Exit} (he:e=.normal\/e=.ret) (hr:eD P s fn.results.toList=some [x]) (hx:x.nF s.A [] []=some r):aG P fn 0 r [] [] e s:=
 ⟨he,[],[],[x],[r],hr,Th,Th,by simp,by simp[aI,hx],rfl,rfl,rfl⟩
end
def OF {α:Type} (f:α->List DV) (z:List DV) (l:List α) (i:Nat):List (List DV):=(l.take i).map f++List.replicate (l.length-i) z
section
variable {α:Type} {f:α->List DV} {z:List DV} {l:List α} {i:Nat}
theorem bV (h:i<l.length):∃o,l[i]? =some o:=⟨l[i],Tb h⟩
end
theorem di {p:Prop} (h:p):p:=h
attribute [simp] bJ dF fT bE bA fz jP oX j8 wk rowsOf look qb St.put eX Bw bH wi E0 oW oV AB AV.plain AV.cells CV.hM lS fK iC er bC fA AV.iI CV.iI kR AV.ej CV.ej bq fL ie lG cG eD qY AV.nF CV.res me pos? sV s5 eZ Sub iu iJ
section
variable {P:Program} {n:Nat} {Q:Exit->St->Prop} {s:St} {y:Code}
theorem T.ct {c:Operand} {x z:Code} (hc:bA s c=some (.c (.d (.bool true)))) (h:T P n x Q s):T P n (.cond c x z) Q s:=T.cond hc (fun _=>h) (fun h=>absurd h (by decide))
theorem T.cf {c:Operand} {x z:Code} (hc:bA s c=some (.c (.d (.bool false)))) (h:T P n z Q s):T P n (.cond c x z) Q s:=T.cond hc (fun h=>absurd h (by decide)) (fun _=>h)
theorem T.r0 {id:Nat} {l:List Oper} (h:∀K:St->Prop,(∀s',T P n y Q s'->K s')->y4 P l.toArray (fun _=>false) K 0 l s):T P n (.seq (.region id l.toArray false) y) Q s:=T.rs (fun _=>false) h
theorem T.r1 {id:Nat} {l:List Oper} (h:∀K:St->Prop,(∀s',Q .normal s'->K s')->y4 P l.toArray (fun _=>false) K 0 l s):T P n (.region id l.toArray false) Q s:=T.ef (fun _=>false) h
end
end Go.Av
namespace Go.Av
open Go
section
variable {P:Program} {all:Array Oper} {ow:Nat->Bool} {K:St->Prop} {i:Nat} {ops:List Oper} {ws:List Nat} {d:Nat} {b:Bool} {fr:List (Nat×AV)} {V:List (List CV)} {A:List bp}
theorem y4.gen (h:∀q:Bool,b=q->y4 P all ow K i ops ⟨(d,.c (.d (.bool q)))::fr,V,A⟩):y4 P all ow K i ops ⟨(d,.c (.d (.bool b)))::fr,V,A⟩:=h b rfl
theorem qm.gen (h:∀q:Bool,b=q->qm P all ow ws K i ops ⟨(d,.c (.d (.bool q)))::fr,V,A⟩):qm P all ow ws K i ops ⟨(d,.c (.d (.bool b)))::fr,V,A⟩:=h b rfl
end
theorem aG.data {P:Program} {s:St} {fn:Func} {r:AV} {e:Exit} (he:e=.normal\/e=.ret) (hr:eD P s fn.results.toList=some [r]) (hx:r.nF s.A [] []=some r):aG P fn 0 r [] [] e s:=aG.pure he hr hx
theorem AM {a b:Int} (h:¬a=b):(a==b)=false:=by simpa using h
abbrev dV (rows:List (List DV)):List (List CV):=rows.map fun r=>r.map CV.d
section
variable {P:Program} {s:St} {A:List bp} {f:FuncId} {xs as:List AV} {r:AV} {K:AV->List (List CV)->List bp->Prop}
theorem Dn {ids:List Nat}:∀(r:List DV),kR A ids (r.map CV.d)=some (r.map CV.d)
 |[]=>rfl
 |x::r=>by simp[Dn r]
theorem Dp {os ks:List Nat}:∀(r:List DV),me A os ks (r.map CV.d)=some (r.map CV.d)
 |[]=>rfl
 |x::r=>by simp[Dp r]
theorem sn {ids:List Nat} {V:List (List CV)}:∀(ls:List Nat) (rows:List (List DV)),ls.length=rows.length->(∀(j l:Nat) row,ls[j]? =some l->rows[j]? =some row->V[l]? =some (row.map CV.d))->fb A V ids ls=some (dV rows)
 |[],[],_,_=>rfl
 |l::ls,row::rows,hl,h=>by
  simp only[fb,h 0 l row rfl rfl,sn ls rows (by simpa using hl) (fun j l row h1 h2=>h (j+1) l row (by simpa using h1) (by simpa using h2)),Dn]
  rfl
 |[],_::_,hl,_=>by simp at hl
 |_::_,[],hl,_=>by simp at hl
theorem so {os ks:List Nat} {V:List (List CV)}:∀(ls:List Nat) (rows:List (List DV)),ls.length=rows.length->(∀(j l:Nat) row,ls[j]? =some l->rows[j]? =some row->V[l]? =some (row.map CV.d))->ev A V os ks ls=some (dV rows)
 |[],[],_,_=>rfl
 |l::ls,row::rows,hl,h=>by
  simp only[ev,h 0 l row rfl rfl,so ls rows (by simpa using hl) (fun j l row h1 h2=>h (j+1) l row (by simpa using h1) (by simpa using h2)),Dp]
  rfl
 |[],_::_,hl,_=>by simp at hl
 |_::_,[],hl,_=>by simp at hl
theorem pc {nA nV:Nat} {ids:List Nat}:∀(ls:List Nat) (rows:List (List DV)) (V:List (List CV)),ls.length=rows.length->(∀(j l:Nat) row,ls[j]? =some l->rows[j]? =some row->V[l]? =some (row.map CV.d))->bQ nA nV ids V ls (dV rows)=V
 |[],[],V,_,_=>by simp[bQ]
 |l::ls,row::rows,V,hl,h=>by
  have h0:=h 0 l row rfl rfl;have hm:(row.map CV.d).map (CV.ej ids nV nA)=row.map CV.d:=by simp[TI,Function.comp_def]
  have cb:V.set l (row.map CV.d)=V:=by
   obtain⟨h1,h2⟩:=S8.1 h0;rw[<-h2];simp
  simp only[dV,Tn,bQ,hm,cb];exact pc ls rows V (by simpa using hl) (fun j l row h1 h2=>h (j+1) l row (by simpa using h1) (by simpa using h2))
 |[],_::_,_,hl,_=>by simp at hl
 |_::_,[],_,hl,_=>by simp at hl
theorem kV {V:List (List CV)}:∀(ls:List Nat) (rows:List (List DV)),ls.length=rows.length->(∀(j l:Nat) row,ls[j]? =some l->rows[j]? =some row->V[l]? =some (row.map CV.d))->∃ds:List DV,bw V ls=ds.map CV.d
 |[],[],_,_=>⟨[],rfl⟩
 |l::ls,row::rows,hl,h=>by
  obtain⟨ds,hd⟩:=kV ls rows (by simpa using hl) (fun j l row h1 h2=>h (j+1) l row (by simpa using h1) (by simpa using h2));refine⟨row++ds,?_⟩;have h0:=h 0 l row rfl rfl;simp only[bw,Tj]at hd⊢;rw[hd];simp[Tf,h0]
 |[],_::_,hl,_=>by simp at hl
 |_::_,[],hl,_=>by simp at hl
theorem pd:∀(ds:List DV) (A:List bp),bC A (ds.map CV.d)=A
 |[],A=>rfl
 |d::ds,A=>by
  simp only[Tn,bC,Tu,er];exact pd ds A
theorem jT (A:List bp) (cs ds:List CV):bC A (cs++ds)=bC (bC A cs) ds:=by simp[bC]
theorem xY (ids:List Nat) (rows:List (List DV)) (pY:ids.Nodup) (hlen:ids.length=rows.length) (xH:∀(j l:Nat) row,ids[j]? =some l->rows[j]? =some row->s.V[l]? =some (row.map CV.d)) (cr:fA s.A ids xs=some as) (hc:ah P f as (dV rows) r (dV rows) [])
  (hK:K (r.ej ids s.V.length s.A.length) s.V (bC s.A (bq xs))):fM P s f xs K:=by
 refine .inl ⟨ids,as,dV rows,r,dV rows,[],pY,cr,sn ids rows hlen xH,hc,?_⟩;rw[pc ids rows s.V hlen xH];obtain⟨ds,hd⟩:=kV ids rows hlen xH;rw[hd,jT,pd,To];exact hK
theorem aG.MO {fn:Func} {e:Exit} {rows:List (List DV)} {m:Nat} (hm:m=rows.length) (he:e=.normal\/e=.ret) (hr:eD P s fn.results.toList=some [r]) (hx:r.nF s.A (Tc rows.length) []=some r)
  (hV:∀(l:Nat) row,rows[l]? =some row->s.V[l]? =some (row.map CV.d)):aG P fn m r (dV rows) [] e s:=by
 subst hm;refine⟨he,[],[],[r],[r],hr,Th,Th,by simp,?_,rfl,?_,rfl⟩
 ·rw[To];simp only[aI,hx]
 rw[To];refine so (Tc rows.length) rows (by simp) fun j l row h1 h2=>?_
 have hj:j<rows.length:=(S8.1 h2).1;simp[hj]at h1;subst h1;exact hV j row h2
end
def jg {α β:Type} (q:α->β->Bool):List α->List β->Bool
 |[],[]=>true
 |x::xs,y::ys=>q x y && jg q xs ys
 |_,_=>false
theorem xZ {α β:Type} {q:α->β->Bool}:∀{xs:List α} {ys:List β},jg q xs ys=true->xs.length=ys.length
 |[],[],_=>rfl
 |x::xs,y::ys,h=>by simp[jg]at h;simp[xZ h.2]
 |[],_::_,h=>by simp[jg]at h
 |_::_,[],h=>by simp[jg]at h
theorem Fi {α β:Type} {q:α->β->Bool} {xs:List α} {ys:List β} (h:xs.length≠ys.length):jg q xs ys=false:=by
 cases hq:jg q xs ys
 ·rfl
 ·exact absurd (xZ hq) h
def hP {α:Type} (q:α->Bool):List α->Int->Int
 |[],_=>-1
 |x::xs,i=>if q x=true then i else hP q xs (i+1)
theorem q8 {α:Type} {q:α->Bool}:∀{xs:List α} {i:Int},0<=i->(decide (0<=hP q xs i)=xs.any q)
 |[],i,_=>by simp[hP]
 |x::xs,i,h=>by
  by_cases hq:q x=true
  ·simp[hP,hq,h]
  ·have hr:=q8 (q:=q) (xs:=xs) (i:=i+1) (by omega);simp only[hP,hq,List.any_cons];simpa using hr
theorem q9 {α:Type} (p:α->Bool):∀(l:List α),(!l.any fun x=> !p x)=l.all p
 |[]=>rfl
 |x::l=>by simp[<-q9 p l,Bool.not_or]
theorem drop_cons {α:Type} {l:List α} {p:Nat} (h:p<l.length):l.drop p=l[p]::l.drop (p+1):=by rw[List.drop_eq_getElem_cons h]
@[simp] theorem fX {α:Type} (G X:List α) (k:Nat):(G++X)[G.length+k]? =X[k]? :=by
 rw[Ta (by omega)];congr 1;omega
@[simp] theorem e7 {α:Type} (G X:List α):(G++X)[G.length]? =X[0]? :=by
 rw[Ta (by omega)];congr 1;omega
@[simp] theorem fY {α:Type} (G X:List α) (k:Nat) (v:α):(G++X).set (G.length+k) v=G++X.set k v:=by
 rw[TF _ _ (by omega)];congr 2;omega
@[simp] theorem e8 {α:Type} (G X:List α) (v:α):(G++X).set G.length v=G++X.set 0 v:=by
 rw[TF _ _ (by omega)];congr 2;omega
theorem vq {α β:Type} {q:α->β->Bool} {x:α} {y:β} {xs:List α} {ys:List β}:jg q (x::xs) (y::ys)=(q x y && jg q xs ys):=rfl
theorem x5 {α β:Type} {q:α->β->Bool}:jg q [] ([]:List β)=true:=rfl
abbrev Qc (n:Nat):List AV:=(Tc n).map fun l=>.c (.ptr l 0)
section
variable {P:Program} {s:St} {A:List bp} {f:FuncId} {xs as:List AV} {r:AV} {K:AV->List (List CV)->List bp->Prop}
theorem jF (l:Nat) (row:List DV) (cV:s.V[l]? =some (row.map CV.d)) (cr:fA s.A [l] xs=some as) (hc:ah P f as (dV [row]) r (dV [row]) [])
  (hK:K (r.ej [l] s.V.length s.A.length) s.V (bC s.A (bq xs))):fM P s f xs K:=by
 refine xY [l] [row] (by simp) rfl ?_ cr hc hK;intro j l' row' h1 h2
 match j with
 |0=>simp at h1 h2;subst h1;subst h2;exact cV
 |j+1=>simp at h1
theorem aG.val {fn:Func} {e:Exit} (he:e=.normal\/e=.ret) (hr:(eD P s fn.results.toList).bind (aI s.A [] [])=some [r]):aG P fn 0 r [] [] e s:=by
 cases hx:eD P s fn.results.toList with
 |none=>rw[hx]at hr;simp at hr
 |some xs=>rw[hx]at hr;exact⟨he,[],[],xs,[r],hx,Th,Th,by simp,hr,rfl,rfl,rfl⟩
theorem aG.bu {fn:Func} {e:Exit} {a b:AV} {ys:List AV} (he:e=.normal\/e=.ret) (hr:(eD P s fn.results.toList).bind (aI s.A [] [])=some (a::b::ys)):aG P fn 0 (.bu (a::b::ys)) [] [] e s:=by
 cases hx:eD P s fn.results.toList with
 |none=>rw[hx]at hr;simp at hr
 |some xs=>rw[hx]at hr;exact⟨he,[],[],xs,_,hx,Th,Th,by simp,hr,rfl,rfl,rfl⟩
theorem iv (l:Nat) (row row':List DV) (cV:s.V[l]? =some (row.map CV.d)) (cr:fA s.A [l] xs=some as) (hc:ah P f as (dV [row]) r (dV [row']) [])
  (hK:K (r.ej [l] s.V.length s.A.length) (s.V.set l (row'.map CV.d)) (bC s.A (bq xs))):fM P s f xs K:=by
 refine .inl ⟨[l],as,dV [row],r,dV [row'],[],by simp,cr,sn [l] [row] rfl ?_,hc,?_⟩
 ·intro j l' row'' h1 h2
  match j with
  |0=>simp at h1 h2;subst h1;subst h2;exact cV
  |j+1=>simp at h1
 ·obtain⟨ds,hd⟩:=kV (V:=s.V) [l] [row] rfl (by
   intro j l' row'' h1 h2
   match j with
   |0=>simp at h1 h2;subst h1;subst h2;exact cV
   |j+1=>simp at h1)
  rw[hd,jT,pd,To];have hm:(row'.map CV.d).map (CV.ej [l] s.V.length s.A.length)=row'.map CV.d:=by simp[TI,Function.comp_def]
  have hp:bQ s.A.length s.V.length [l] s.V [l] (dV [row'])=s.V.set l (row'.map CV.d):=by
   simp only[dV,Tn,List.map_nil,bQ,hm,To]
  rw[hp];exact hK
theorem aG.nH {fn:Func} {e:Exit} {row:List DV} (he:e=.normal\/e=.ret) (hr:eD P s fn.results.toList=some [r]) (hx:r.nF s.A [0] []=some r)
  (hV:s.V[0]? =some (row.map CV.d)):aG P fn 1 r (dV [row]) [] e s:=by
 refine aG.MO (rows:=[row]) rfl he hr hx ?_;intro l row' h
 match l with
 |0=>simp at h;subst h;exact hV
 |l+1=>simp at h
end
section
variable {P:Program} {n:Nat} {Q:Exit->St->Prop} {s:St} {x y:Code}
def Cut (S:St) (Q:Exit->St->Prop):Exit->St->Prop
 |.normal,s'=>Sub S s'
 |e,s'=>Q e s'
end
end Go.Av
namespace Go.Av
attribute [-simp] Go.Av.fX Go.Av.e7 Go.Av.fY Go.Av.e8
open Go
inductive aH where
 |mk (kind:Int) (kids:List aH)
def aH.kind:aH->Int|.mk k _=>k
def aH.kids:aH->List aH|.mk _ l=>l
inductive an where
 |mk (kind:Int) (name:List UInt8) (num:Int) (ty fr:aH) (label:Int) (kids:List an)
def an.kind:an->Int|.mk k _ _ _ _ _ _=>k
def an.name:an->List UInt8|.mk _ s _ _ _ _ _=>s
def an.num:an->Int|.mk _ _ n _ _ _ _=>n
def an.ty:an->aH|.mk _ _ _ t _ _ _=>t
def an.fr:an->aH|.mk _ _ _ _ t _ _=>t
def an.label:an->Int|.mk _ _ _ _ _ l _=>l
def an.kids:an->List an|.mk _ _ _ _ _ _ l=>l
@[simp] theorem aH.bT (k:Int) (l:List aH):(aH.mk k l).kind=k:=rfl
@[simp] theorem aH.bU (k:Int) (l:List aH):(aH.mk k l).kids=l:=rfl
section
variable (k:Int) (s:List UInt8) (n:Int) (t f:aH) (b:Int) (l:List an)
@[simp] theorem an.bT:(an.mk k s n t f b l).kind=k:=rfl
@[simp] theorem an.jG:(an.mk k s n t f b l).name=s:=rfl
@[simp] theorem an.ou:(an.mk k s n t f b l).num=n:=rfl
@[simp] theorem an.re:(an.mk k s n t f b l).ty=t:=rfl
@[simp] theorem an.rf:(an.mk k s n t f b l).fr=f:=rfl
@[simp] theorem an.jh:(an.mk k s n t f b l).label=b:=rfl
@[simp] theorem an.bU:(an.mk k s n t f b l).kids=l:=rfl
end
mutual
def cD:aH->List DV
 |.mk k l=>[.i k,.sl (Fj l)]
def Fj:List aH->List (List DV)
 |[]=>[]
 |t::r=>cD t::Fj r
end
theorem x6:∀(l:List aH),Fj l=l.map cD
 |[]=>rfl
 |t::r=>by simp[Fj,x6 r]
theorem aX (t:aH):cD t=[.i t.kind,.sl (t.kids.map cD)]:=by
 cases t;simp[cD,x6]
mutual
def fZ:an->List DV
 |.mk k s n t f l kids=>[.i k,.str s,.i n,.i t.kind,.sl (t.kids.map cD),.i f.kind,.sl (f.kids.map cD),.i l,.sl (Fk kids)]
def Fk:List an->List (List DV)
 |[]=>[]
 |t::r=>fZ t::Fk r
end
theorem x7:∀(l:List an),Fk l=l.map fZ
 |[]=>rfl
 |t::r=>by simp[Fk,x7 r]
theorem ax (e:an):fZ e=[.i e.kind,.str e.name,.i e.num,.i e.ty.kind,.sl (e.ty.kids.map cD),.i e.fr.kind,.sl (e.fr.kids.map cD),.i e.label,.sl (e.kids.map fZ)]:=by
 cases e;simp[fZ,x7]
abbrev ep (t:aH):AV:=.agg [.d (.i t.kind),.d (.sl (t.kids.map cD))]
abbrev cw (e:an):AV:=.agg [.d (.i e.kind),.d (.str e.name),.d (.i e.num),.d (.i e.ty.kind),.d (.sl (e.ty.kids.map cD)),.d (.i e.fr.kind),.d (.sl (e.fr.kids.map cD)),.d (.i e.label),.d (.sl (e.kids.map fZ))]
/- How many nodes lie below a node. -/
mutual
def iK:aH->Nat
 |.mk _ l=>cF l
def cF:List aH->Nat
 |[]=>0
 |t::r=>1+iK t+cF r
end
mutual
def fO:an->Nat
 |.mk _ s _ t f _ kids=>s.length+iK t+iK f+eS kids
def eS:List an->Nat
 |[]=>0
 |e::r=>1+fO e+eS r
end
theorem hU (t:aH):iK t=cF t.kids:=by cases t;simp[iK]
theorem kX (e:an):fO e=e.name.length+iK e.ty+iK e.fr+eS e.kids:=by cases e;simp[fO]
theorem iw:∀(l:List aH),l.length<=cF l
 |[]=>by simp[cF]
 |t::r=>by have:=iw r;simp[cF];omega
theorem pg:∀(l:List an),l.length<=eS l
 |[]=>by simp[eS]
 |t::r=>by have:=pg r;simp[eS];omega
theorem iy:∀{l:List aH} {t:aH},t∈l->iK t<cF l
 |x::r,t,h=>by
  simp only[Ti]at h;simp only[cF];rcases h with rfl|h
  ·omega
  ·have:=iy h;omega
theorem tf:∀{l:List an} {e:an},e∈l->fO e<eS l
 |x::r,t,h=>by
  simp only[Ti]at h;simp only[eS];rcases h with rfl|h
  ·omega
  ·have:=tf h;omega
def OG (l:List aH):Nat:=(l.map iK).sum
def OH (l:List an):Nat:=(l.map fO).sum
/- No row is longer than any Go slice. -/
mutual
def MP:aH->Prop
 |.mk _ l=>l.length<=9223372036854775807/\JH l
def JH:List aH->Prop
 |[]=>True
 |t::r=>MP t/\JH r
end
mutual
def Qd:an->Prop
 |.mk _ s _ t f _ kids=>s.length<=9223372036854775807/\MP t/\MP f/\kids.length<=9223372036854775807/\JI kids
def JI:List an->Prop
 |[]=>True
 |e::r=>Qd e/\JI r
end
def RC (n:Nat) (left:Int):Int:=if(n:Int)<=left then left-n else-1
end Go.Av
namespace Go.Av
open Go
theorem aH.ind {P:aH->Prop} (h:∀t,(∀u∈t.kids,P u)->P t):∀t,P t
 |.mk k l=>h _ (fun u hu=>aH.ind h u)
termination_by t=>SizeOf.sizeOf t
decreasing_by simp at hu;have:=TE hu;simp;omega
theorem an.ind {P:an->Prop} (h:∀e,(∀u∈e.kids,P u)->P e):∀e,P e
 |.mk k s n t f b l=>h _ (fun u hu=>an.ind h u)
termination_by e=>SizeOf.sizeOf e
decreasing_by simp at hu;have:=TE hu;simp;omega
def kK (x lo hi:Int):Bool:=decide (lo<=x)&& decide (x<=hi)
def dL:List UInt8->Bool
 |[c]=>decide (97<=c.toNat)&& decide (c.toNat<=122)
 |_=>false
def c6 (t:aH):Bool:=decide (t.kind=0)&& decide (t.kids=[])
def zx (n:Int):Bool:=kK n 1 99||kK n (-99) (-1)
def cv (k:Int):Int:=
 if k=1\/k=2\/k=3\/k=4 then 0 else if k=5\/k=11\/k=12\/k=13\/k=14 then 1 else if k=6\/k=7\/k=8\/k=10 then 2 else if k=9 then 3 else-1
def cx (k:Int):Int:=if k=1\/k=2\/k=3 then 0 else if k=4\/k=5 then 2 else-1
def ay:Nat->aH->Bool
 |0,_=>false
 |d+1,t=>decide (cx t.kind=t.kids.length)&& t.kids.all (ay d)
theorem dR {d:Nat} {t:aH} (h:ay d t=true):∃e,d=e+1/\cx t.kind=t.kids.length/\t.kids.length<=2/\∀u∈t.kids,ay e u=true:=by
 cases d with
 |zero=>simp[ay]at h
 |succ e=>
  simp only[ay,TR,decide_eq_true_eq,Tk]at h;refine⟨e,rfl,h.1,?_,h.2⟩;have:=h.1;simp only[cx]at this;split at this
  ·omega
  ·split at this<;>omega
mutual
def bN:aH->aH->Bool
 |.mk k l,.mk k' l'=>decide (k=1)||decide (k'=1)||(decide (k=k')&& mX l l')
def mX:List aH->List aH->Bool
 |[],[]=>true
 |x::xs,y::ys=>bN x y && mX xs ys
 |_,_=>false
end
theorem pj:∀(l m:List aH),mX l m=jg bN l m
 |[],[]=>rfl
 |x::xs,y::ys=>by simp[mX,jg,pj xs ys]
 |[],_::_=>rfl
 |_::_,[]=>rfl
theorem tg (a b:aH):bN a b=(decide (a.kind=1)||decide (b.kind=1)||(decide (a.kind=b.kind)&& jg bN a.kids b.kids)):=by
 cases a;cases b;simp only[bN,pj];rfl
/- A node by itself, but for the number of its operands. -/
def cB (k:Int):Bool:=decide (k=1)||decide (k=5)
def cZ (k:Int):Bool:=decide (k=5)||decide (k=13)||decide (k=14)
def mq (e:an):Bool:=ay 4 e.fr && ay 4 e.ty && bN e.fr e.ty && zx e.label
def eb (e:an):Bool:=
 (if cB e.kind then dL e.name else decide (e.name=[]))&& kK e.num 0 (if e.kind=2 then 999 else 0)&&
 (if cZ e.kind then ay 4 e.ty else c6 e.ty)&&(if e.kind=14 then mq e else c6 e.fr && decide (e.label=0))
def eL (e:an):Bool:=decide (cv e.kind=e.kids.length)&& eb e
def bm (nt:Int):Nat->an->Bool
 |0,_=>false
 |d+1,e=>decide (e.kind≠nt)&& eL e && e.kids.all (bm nt d)
def b5:Nat->an->Nat
 |0,_=>1
 |d+1,e=>1+(e.kids.map (b5 d)).sum
/- A scan from a node on: whether it goes through, and how many nodes it has seen. -/
mutual
def iL (mn md nt:Int):Int->an->Int->Bool×Int
 |deep,.mk k s n t f b l,c=>if mn<c+1\/md<deep\/k=nt\/eL (.mk k s n t f b l)=false then(false,c+1)else ji mn md nt (deep+1) l (c+1)
def ji (mn md nt:Int):Int->List an->Int->Bool×Int
 |_,[],c=>(true,c)
 |deep,e::r,c=>if(iL mn md nt deep e c).1=true then ji mn md nt deep r (iL mn md nt deep e c).2 else(false,(iL mn md nt deep e c).2)
end
theorem qn (mn md nt deep:Int) (e:an) (c:Int):iL mn md nt deep e c=if mn<c+1\/md<deep\/e.kind=nt\/eL e=false then(false,c+1)else ji mn md nt (deep+1) e.kids (c+1):=by
 cases e;simp only[iL];rfl
theorem BH (mn md nt:Int):∀(e:an) (d:Nat) (c:Int),0<=c->c<=mn->
  (iL mn md nt (md+1-d) e c).1=(bm nt d e && decide (c+b5 d e<=mn))/\(bm nt d e=true->c+b5 d e<=mn->(iL mn md nt (md+1-d) e c).2=c+b5 d e):=by
 intro e;induction e using an.ind with
 |h e ih=>
  intro d c h0 hc;rw[qn];cases d with
  |zero=>
   rw[if_pos (by right;left;omega)];simp[bm]
  |succ d=>
   have uK:∀(x:Nat) (y:an),1<=b5 x y:=fun x y=>by cases x<;>simp[b5]
   have dN:b5 (d+1) e=1+(e.kids.map (b5 d)).sum:=rfl;by_cases BI:mn<c+1\/md<md+1-((d+1:Nat):Int)\/e.kind=nt\/eL e=false
   ·rw[if_pos BI];have hf:(bm nt (d+1) e && decide (c+b5 (d+1) e<=mn))=false:=by
     have:=uK (d+1) e;rcases BI with h|h|h|h
     ·simp;intro _;omega
     ·omega
     ·simp[bm,h]
     ·simp[bm,h]
    refine⟨hf.symm,fun h1 h2=>?_⟩;rw[h1]at hf;simp at hf;omega
   ·rw[if_neg BI];have hk:e.kind≠nt:=fun h=>BI (by simp[h])
    have hn:eL e=true:=by
     cases h:eL e
     ·exact absurd (by simp[h]) BI
     ·rfl
    have BJ:bm nt (d+1) e=e.kids.all (bm nt d):=by simp[bm,hk,hn]
    rw[BJ,dN,show md+1-((d+1:Nat):Int)+1=md+1-(d:Int) by omega]
    have Dq:∀(l:List an),(∀u∈l,u∈e.kids)->∀c:Int,0<=c->c<=mn->(ji mn md nt (md+1-d) l c).1=(l.all (bm nt d)&& decide (c+(l.map (b5 d)).sum<=mn))/\
      (l.all (bm nt d)=true->c+(l.map (b5 d)).sum<=mn->(ji mn md nt (md+1-d) l c).2=c+(l.map (b5 d)).sum):=by
     intro l;induction l with
     |nil=>intro _ c h0 hc;simp[ji];omega
     |cons x r ihl=>
      intro hm c h0 hc;obtain⟨h1,h2⟩:=ih x (hm x (by simp)) d c h0 hc;simp only[ji,TQ,Tn,List.sum_cons];cases hx:(iL mn md nt (md+1-d) x c).1 with
      |false=>
       rw[hx]at h1;simp only[TT,if_false];cases hs:bm nt d x with
       |false=>simp
       |true=>
        rw[hs]at h1;simp at h1;refine⟨?_,fun _ h=>?_⟩
        ·symm;simp;intro _;omega
        ·omega
      |true=>
       rw[hx]at h1;have lT:=h1.symm;simp only[TR,decide_eq_true_eq]at lT;rw[h2 lT.1 lT.2];obtain⟨h3,h4⟩:=ihl (fun u hu=>hm u (by simp[hu])) (c+b5 d x) (by omega) lT.2;simp only[if_true];rw[h3,lT.1];refine⟨?_,fun h5 h6=>?_⟩
       ·simp only[Bool.true_and]
        congr 1
        exact decide_eq_decide.2 (by omega)
       ·rw[h4 (by simpa using h5) (by omega)];omega
    obtain⟨h1,h2⟩:=Dq e.kids (fun _ h=>h) (c+1) (by omega) (by omega);rw[h1];refine⟨?_,fun h3 h4=>?_⟩
    ·congr 1
     exact decide_eq_decide.2 (by omega)
    ·rw[h2 h3 (by omega)];omega
theorem Dr (mn md nt:Int):∀(e:an) (deep c:Int),0<=c->(iL mn md nt deep e c).1=true->0<=(iL mn md nt deep e c).2/\(iL mn md nt deep e c).2<=mn:=by
 intro e;induction e using an.ind with
 |h e ih=>
  intro deep c h0;rw[qn];split
  ·simp
  ·rename_i BI;have Dq:∀(l:List an),(∀u∈l,u∈e.kids)->∀c:Int,0<=c->c<=mn->(ji mn md nt (deep+1) l c).1=true->0<=(ji mn md nt (deep+1) l c).2/\(ji mn md nt (deep+1) l c).2<=mn:=by
    intro l;induction l with
    |nil=>intro _ c h0 hc _;exact⟨h0,hc⟩
    |cons x r ihl=>
     intro hm c h0 hc;simp only[ji];split
     ·rename_i hx;obtain⟨h1,h2⟩:=ih x (hm x (by simp)) (deep+1) c h0 hx;exact ihl (fun u hu=>hm u (by simp[hu])) _ h1 h2
     ·simp
   exact Dq e.kids (fun _ h=>h) (c+1) (by omega) (by omega)
theorem th:∀(d:Nat) (e:an),b5 d e<=1+fO e
 |0,e=>by simp[b5]
 |d+1,e=>by
  have h:∀l:List an,(l.map (b5 d)).sum<=eS l:=by
   intro l;induction l with
   |nil=>simp[eS]
   |cons x r ih=>have:=th d x;simp[eS];omega
  have:=h e.kids;rw[kX];simp only[b5];omega
/- No casts, and no types but the unknown one. -/
mutual
def Gt:an->Bool
 |.mk k _ _ t _ _ l=>decide (k≠14)&&(decide (k≠5)||decide (t.kind=1))&& Gu l
def Gu:List an->Bool
 |[]=>true
 |e::r=>Gt e && Gu r
end
def jj (e:an):Bool:=bm 13 40 e && decide (b5 40 e<=200)
def aR (e:an):Bool:=bm 14 12 e && decide (b5 12 e<=30)
structure gj where
 name:List UInt8
 ty:aH
def mr (b:gj):List DV:=[.str b.name,.i b.ty.kind,.sl (b.ty.kids.map cD)]
abbrev iN:aH:=.mk 1 []
abbrev dD:aH:=.mk 2 []
abbrev eT:aH:=.mk 3 []
abbrev cy:aH:=.mk 0 []
mutual
def jU:aH->aH->aH
 |.mk k l,.mk k' l'=>if k=1 then .mk k' l' else if k'=1 then .mk k l else .mk k (sr l l')
def sr:List aH->List aH->List aH
 |x::xs,y::ys=>jU x y::sr xs ys
 |_,_=>[]
end
def ff:List gj->List UInt8->Option aH
 |[],_=>none
 |b::r,s=>match ff r s with
  |some t=>some t
  |none=>if b.name=s then some b.ty else none
def MQ (ctx:List gj):Bool:=ctx.all (fun b=>dL b.name && ay 4 b.ty)&& decide (ctx.length<=12)
def kY (k:Int) (t:aH):Option (aH×aH):=
 if t.kind=1 then some (iN,iN)else if t.kind=k then match t.kids with
  |a::b::_=>some (a,b)
  |_=>none
 else none
def JJ (k:Int) (a b:aH):Option aH:=if ay 4 (.mk k [a,b])=true then some (.mk k [a,b])else none
def Hy (ctx:List gj) (k:Int) (name:List UInt8) (ty:aH) (ts:List aH):Option aH:=
 if k=1 then ff ctx name
 else if k=2 then some dD
 else if k=3\/k=4 then some eT
 else match ts with
  |[a]=>
   if k=5 then JJ 4 ty a
   else if k=11 then(kY 5 a).map (·.1)
   else if k=12 then(kY 5 a).map (·.2)
   else if k=13 then if bN a ty=true then some ty else none
   else none
  |[a,b]=>
   if k=6 then match kY 4 a with
    |some (x,y)=>if bN b x=true then some y else none
    |none=>none
   else if k=7 then if bN a dD=true/\bN b dD=true then some dD else none
   else if k=8 then if bN a dD=true/\bN b dD=true then some eT else none
   else if k=10 then JJ 5 a b
   else none
  |[a,b,c]=>if k=9 then if bN b c=true/\bN a eT=true then some (jU b c)else none else none
  |_=>none
mutual
def ti:List gj->an->Option aH
 |ctx,.mk k s n t f b l=>match Ds (if k=5 then ctx++[⟨s,t⟩]else ctx) l with
  |none=>none
  |some ts=>Hy ctx k s t ts
def Ds:List gj->List an->Option (List aH)
 |_,[]=>some []
 |ctx,e::r=>match ti ctx e with
  |none=>none
  |some t=>match Ds ctx r with
   |none=>none
   |some ts=>some (t::ts)
end
def Li (ctx:List gj) (e:an):List gj:=if e.kind=5 then ctx++[⟨e.name,e.ty⟩]else ctx
theorem b6:∀{d:Nat} {t:aH},ay d t=true->ay (d+1) t=true
 |0,t,h=>by simp[ay]at h
 |d+1,t,h=>by
  simp only[ay,TR,Tk]at h⊢;exact⟨h.1,fun u hu=>by have:=b6 (h.2 u hu);simpa[ay]using this⟩
theorem x8:∀{ctx:List gj} {s:List UInt8} {t:aH},ff ctx s=some t->∃b∈ctx,b.ty=t/\b.name=s
 |[],_,_,h=>by simp[ff]at h
 |b::r,s,t,h=>by
  simp only[ff]at h;split at h
  ·rename_i u hu;simp at h;subst h;obtain⟨b',h1,h2⟩:=x8 hu;exact⟨b',by simp[h1],h2⟩
  ·split at h
   ·rename_i hb;simp at h;exact⟨b,by simp,h,hb⟩
   ·simp at h
def OI (ctx:List gj):Prop:=∀b∈ctx,ay 4 b.ty=true
theorem iO {nt:Int} {d:Nat} {e:an} (h:bm nt d e=true):∃d',d=d'+1/\e.kind≠nt/\cv e.kind=e.kids.length/\eb e=true/\∀u∈e.kids,bm nt d' u=true:=by
 cases d with
 |zero=>simp[bm]at h
 |succ d=>
  simp only[bm,eL,TR,decide_eq_true_eq,Tk]at h;exact⟨d,rfl,h.1.1,h.1.2.1,h.1.2.2,h.2⟩
theorem x9 (k:Int):cv k<=3:=by
 simp only[cv];split
 ·omega
 ·split
  ·omega
  ·split
   ·omega
   ·split<;>omega
end Go.Av
namespace Go.Av
attribute [-simp] Go.Av.bJ Go.Av.dF Go.Av.fT Go.Av.bE Go.Av.bA Go.Av.fz Go.Av.jP Go.Av.oX Go.Av.j8 Go.Av.wk Go.Av.rowsOf Go.Av.look Go.Av.qb Go.Av.St.put Go.Av.eX Go.Av.Bw Go.Av.bH Go.Av.wi Go.Av.E0 Go.Av.oW Go.Av.oV Go.Av.AB Go.Av.AV.plain Go.Av.AV.cells Go.Av.CV.hM Go.Av.lS Go.Av.fK Go.Av.iC Go.Av.er Go.Av.bC Go.Av.fA Go.Av.AV.iI Go.Av.CV.iI Go.Av.kR Go.Av.AV.ej Go.Av.CV.ej Go.Av.bq Go.Av.fL Go.Av.ie Go.Av.lG Go.Av.cG Go.Av.eD Go.Av.qY Go.Av.AV.nF Go.Av.CV.res Go.Av.me Go.Av.pos? Go.Av.sV Go.Av.s5 Go.Av.eZ Go.Av.Sub Go.Av.iu Go.Av.iJ Go.Av.fX Go.Av.e7 Go.Av.fY Go.Av.e8 Go.Av.aH.bT Go.Av.aH.bU Go.Av.an.bT Go.Av.an.jG Go.Av.an.ou Go.Av.an.re Go.Av.an.rf Go.Av.an.jh Go.Av.an.bU
open Go
def dK (all:Array Oper) (ws fs:List Nat) (m:Nat) (ms:List Nat) (oi oj:Oper) (i j:Nat):Bool:=
 (oi.dst.isNone||oi.dst !=oj.dst)&&((!eh all oi oj && !eh all oj oi && !(ws.contains i && !cG oj.op && !(fs.contains j && decide (i<m)))&& !(ws.contains j && !cG oi.op && !(fs.contains i && decide (j<m))))||(ms.getD j 0).testBit i)
def kZ (all:Array Oper) (ws fs:List Nat) (m:Nat):Bool:=
 let l:=all.toList.zipIdx
 let ms:=bD all.toList []
 (l.all fun(o,j)=>o.after.toList.all fun e=> !Region.binds .any e||decide (e.on<j))&&
 (l.all fun(oj,j)=>l.all fun(oi,i)=> !(decide (i<j))||dK all ws fs m ms oi oj i j)&&
 (l.all fun(o,j)=> !ws.contains j|| !cG o.op)&&(fs.all fun j=> !ws.contains j)&&(fs.all fun j=>ws.all fun i=>decide (i<m)||decide (j<i))
def rh (ex:List Nat) (rs:Nat->List CV) (V:List (List CV)):List (List CV):=ex.foldl (fun W i=>W.set i (rs i)) V
theorem tj (V:List (List CV)):∀(ex:List Nat),rh ex (fun i=>V.getD i []) V=V
 |[]=>rfl
 |i::ex=>by
  have h:V.set i (V.getD i [])=V:=by
   apply TP;intro j;rw[List.getElem?_set];split
   ·rename_i e;subst e;split
    ·rename_i h;simp[Tf,h]
    ·rename_i h;simp[Nat.le_of_not_lt h]
   ·rfl
  show rh ex _ (V.set i (V.getD i []))=V;rw[h];exact tj V ex
def cW (P:Program) (s:St) (ow:Bool) (o:Oper) (ex:List Nat) (V0:List (List CV)) (A0:List bp) (x:AV):Prop:=
 ∀(rs:Nat->List CV) GV GA,bJ P ⟨s.fr,rh ex rs V0++GV,A0++GA⟩ ow o fun y V' A'=>y=x/\V'=rh ex rs V0++GV/\A'=A0++GA
def lJ (P:Program) (all:Array Oper) (ow:Nat->Bool) (ws fs:List Nat) (m:Nat) (ex:List Nat) (V0:List (List CV)) (A0:List bp) (K:St->Prop):Nat->List Oper->St->Prop
 |_,[],s=>K s
 |i,o::rest,s=>fT all s o (bJ P s (ow i) o fun x V A=>(i∈ws\/(V=s.V/\A=s.A))/\(i∈ws->i<m->V.take V0.length=rh ex (fun i=>V.getD i []) V0/\A.take A0.length=A0)/\(i∈fs->cW P s (ow i) o ex V0 A0 x)/\
   lJ P all ow ws fs m ex V0 A0 K (i+1) rest (s.put o.dst x V A)) (lJ P all ow ws fs m ex V0 A0 K (i+1) rest (s.put o.dst (.c .undef) s.V s.A))
section
variable {P:Program} {n:Nat} {Q Q':Exit->St->Prop} {s s':St} {w0:World} {g0 g g':Gh} {a:Act} {w w':World} {V:List (List CV)} {A A':List bp}
def Dt (P:Program) (all:Array Oper) (ow:Bool) (fs:List Nat) (j:Nat) (ex:List Nat) (V0:List (List CV)) (A0:List bp) (o:Oper) (s s':St):Prop:=
 fT all s o True True/\((gw all s o=true/\∃x V A,s'=s.put o.dst x V A/\(∀K:AV->List (List CV)->List bp->Prop,K x V A->bJ P s ow o K)/\(j∈fs->cW P s ow o ex V0 A0 x))\/(gw all s o=false/\s'=s.put o.dst (.c .undef) s.V s.A))
def Hz (ex:List Nat) (V0:List (List CV)) (A0:List bp) (s:St):Prop:=s.V.take V0.length=rh ex (fun i=>s.V.getD i []) V0/\s.A.take A0.length=A0
theorem jH {all:Array Oper} {ow:Nat->Bool} {ws fs:List Nat} {m:Nat} {ex:List Nat} {V0:List (List CV)} {A0:List bp} {K:St->Prop}:∀(ops:List Oper) (i:Nat) (s:St),lJ P all ow ws fs m ex V0 A0 K i ops s->
  ∃σ:Nat->St,σ 0=s/\K (σ ops.length)/\∀(j:Nat) o,ops[j]? =some o->Dt P all (ow (i+j)) fs (i+j) ex V0 A0 o (σ j) (σ (j+1))/\(i+j∈ws\/((σ (j+1)).V=(σ j).V/\(σ (j+1)).A=(σ j).A))/\
   (i+j<m->Hz ex V0 A0 (σ (j+1))\/((σ (j+1)).V=(σ j).V/\(σ (j+1)).A=(σ j).A))
 |[],i,s,h=>⟨fun _=>s,rfl,h,fun j o h=>by simp at h⟩
 |o::rest,i,s,h=>by
  simp only[lJ]at h;obtain⟨h0,hg⟩:=gp h;rcases h0 with⟨h1,h2⟩|⟨h1,h2⟩
  ·obtain⟨x,V,A,⟨h3,Qe,JK,h4⟩,h5⟩:=gL h2;obtain⟨σ,k1,k2,k3⟩:=jH rest (i+1) _ h4;refine⟨fun j=>match j with|0=>s|j+1=>σ j,rfl,k2,fun j o' ho=>?_⟩;cases j with
   |zero=>
    simp at ho;subst ho;refine⟨⟨hg,.inl ⟨h1,x,V,A,k1,h5,JK⟩⟩,?_,fun hm=>?_⟩
    ·rcases h3 with h3|⟨h3,sd⟩
     ·exact .inl h3
     ·exact .inr (by simp only[k1];exact⟨h3,sd⟩)
    ·rcases h3 with h3|⟨h3,sd⟩
     ·exact .inl (by simp only[k1];exact Qe h3 hm)
     ·exact .inr (by simp only[k1];exact⟨h3,sd⟩)
   |succ j=>
    simp at ho;have:=k3 j o' ho;rwa[show i+1+j=i+(j+1) by omega]at this
  ·obtain⟨σ,k1,k2,k3⟩:=jH rest (i+1) _ h2;refine⟨fun j=>match j with|0=>s|j+1=>σ j,rfl,k2,fun j o' ho=>?_⟩;cases j with
   |zero=>
    simp at ho;subst ho;exact⟨⟨hg,.inr ⟨h1,k1⟩⟩,.inr (by simp only[k1];exact⟨rfl,rfl⟩),fun _=>.inr (by simp only[k1];exact⟨rfl,rfl⟩)⟩
   |succ j=>
    simp at ho;have:=k3 j o' ho;rwa[show i+1+j=i+(j+1) by omega]at this
structure CI (all:Array Oper) (ws:List Nat) (σ:Nat->St) (n:Nat) (w0:World) (g0:Gh) (ai:Array Bool) (k0:Nat) (g:Gh) (a:Act) (w:World):Prop where
 inv:Inv g w (σ k0).V (σ k0).A
 fr:Fr w0 g0 w g
 size:a.tmps.size=n
 defers:a.defers=[]
 fc:ai.size=all.size
 iq:∀(i:Nat) o t x,all[i]? =some o->ai[i]? =some true->o.dst=some t->look (σ (i+1)).fr t=some x->∃u,a.tmps[t]? =some u/\aU g w (σ k0).A x u
 ir:∀t x,(∀(i:Nat) o,all[i]? =some o->ai[i]? =some true->o.dst≠some t)->look (σ 0).fr t=some x->∃u,a.tmps[t]? =some u/\aU g w (σ k0).A x u
 fe:∀i∈ws,i<all.size->(ai[i]? =some true↔i<k0)
 pZ:k0<=all.size
 kw:k0=0\/∃i∈ws,k0=i+1
 closed:∀(i:Nat) o,all[i]? =some o->ai[i]? =some true->∀e∈o.after,Region.binds .any e=true->ai[e.on]? =some true
set_option maxHeartbeats 2000000 in
theorem ya {all:Array Oper} {ow:Nat->Bool} {ws fs:List Nat} {m:Nat} {ex:List Nat} {V0:List (List CV)} {A0:List bp} {σ:Nat->St} {K:St->Prop} {Q:Exit->Act->World->Prop} (hd:kZ all ws fs m=true) (gn:fh n all.toList=true)
  (nG:∀(j:Nat) o,all[j]? =some o->Dt P all (ow j) fs j ex V0 A0 o (σ j) (σ (j+1))/\(j∈ws\/((σ (j+1)).V=(σ j).V/\(σ (j+1)).A=(σ j).A))/\(j<m->Hz ex V0 A0 (σ (j+1))\/((σ (j+1)).V=(σ j).V/\(σ (j+1)).A=(σ j).A))) (Gv:(σ 0).V=V0/\(σ 0).A=A0)
  (hK:K (σ all.size)) (hQ:∀s' g' a' w',K s'->Rp n w0 g0 s' g' a' w'->Q .normal a' w'):
  ∀(fuel:Nat) (ai:Array Bool) (k0:Nat) (g:Gh) (a:Act) (w:World),((Tc all.size).filter fun i=> !ai.getD i true).length<=fuel->CI all ws σ n w0 g0 ai k0 g a w->wpAny P .any all Q fuel ai a w:=by
 simp only[kZ,TR,Tk]at hd;obtain⟨⟨⟨⟨ij,jR⟩,sj⟩,Lj⟩,Lk⟩:=hd;have eE:∀(j:Nat) o,all[j]? =some o->(o,j)∈all.toList.zipIdx:=fun j o h=>by
  rw[TG];exact⟨j,by simp[TM,h]⟩
 have dQ:∀(j:Nat) o,all[j]? =some o->∀e∈o.after,Region.binds .any e=true->e.on<j:=fun j o h e he hb=>by
  have:=ij _ (eE j o h) e (Ua.2 he);simpa[hb]using this
 have jV:∀(i j:Nat) oi oj,all[i]? =some oi->all[j]? =some oj->i<j->dK all ws fs m (bD all.toList []) oi oj i j=true:=fun i j oi oj h1 h2 aC=>by
  have:=jR _ (eE j oj h2) _ (eE i oi h1);simpa[aC]using this
 have cH:∀(i j:Nat) oi oj,all[i]? =some oi->all[j]? =some oj->i<j->i∉fs->j∉fs->bM all ws (bD all.toList []) oi oj i j=true:=fun i j oi oj h1 h2 aC hi hj=>by
  have:=jV i j oi oj h1 h2 aC;simpa[dK,bM,hi,hj]using this
 have rV:∀i,i∈ws->i∉fs:=fun i hi hf=>by
  have:=Lj i hf;simp[hi]at this
 have HA:∀k,k<=m->k<=all.size->Hz ex V0 A0 (σ k):=by
  intro k;induction k with
  |zero=>
   intro _ _;refine⟨?_,by rw[Gv.2];simp⟩;rw[Gv.1,tj];simp
  |succ k ih=>
   intro h1 h2;have ho:all[k]? =some all[k]:=T8 (by omega);rcases(nG k _ ho).2.2 (by omega)with h3|⟨h3,h4⟩
   ·exact h3
   ·have:=ih (by omega) (by omega);exact⟨by rw[h3];exact this.1,by rw[h4];exact this.2⟩
 have y3:∀(j:Nat) o,all[j]? =some o->j∈ws->cG o.op=false:=fun j o h hj=>by
  have:=sj _ (eE j o h);simpa[hj]using this
 have ko:∀(i j:Nat) oi oj d,all[i]? =some oi->all[j]? =some oj->i<j->oi.dst=some d->oj.dst≠some d:=fun i j oi oj d h1 h2 aC h3 h4=>by
  have:=jV i j oi oj h1 h2 aC;simp[dK,h3,h4]at this
 have wz:∀(i j:Nat) oi oj d,all[i]? =some oi->all[j]? =some oj->oi.dst=some d->oj.dst=some d->i=j:=fun i j oi oj d h1 h2 h3 h4=>by
  rcases T2 i j with h|h|h
  ·exact absurd h4 (ko i j oi oj d h1 h2 h h3)
  ·exact h
  ·exact absurd h3 (ko j i oj oi d h2 h1 h h4)
 have BF:∀(j:Nat) o d,all[j]? =some o->o.dst=some d->d<n:=fun j o d h1 h2=>by
  have:=Tk.1 gn o (by rw[Ua];exact Ue h1);simpa[h2]using this
 obtain⟨Fa,_,Dl⟩:=fN all.toList []
 have s8:∀{ai:Array Bool},(∀(i:Nat) o,all[i]? =some o->ai[i]? =some true->∀e∈o.after,Region.binds .any e=true->ai[e.on]? =some true)->
   ∀(i:Nat) o,all[i]? =some o->(∀e∈o.after,Region.binds .any e=true->ai[e.on]? =some true)->∀k,((bD all.toList []).getD i 0).testBit k=true->ai[k]? =some true:=by
  intro ai sQ i;induction i using T1 with
  |_ i ih=>
   intro o ho dI k hk;obtain⟨pre,h1,h2,h3⟩:=Dl i o (by simpa using ho);simp only[TK,T0]at h1 h3;have h4:(bD all.toList []).getD i 0=nR pre o:=by simp[Tf,h3]
   rw[h4]at hk;obtain⟨e,he,hb,h5⟩:=gM hk;have xU:=dI e he hb;rcases h5 with rfl|h5
   ·exact xU
   ·have aC:=dQ i o ho e he hb;have h6:pre.getD e.on 0=(bD all.toList []).getD e.on 0:=by simp only[Tf,h2 e.on (by omega)]
    rw[h6]at h5;have fw:e.on<all.size:=by have:=(T9.1 ho).1;omega
    have xV:all[e.on]? =some all[e.on]:=T8 fw;exact ih e.on aC _ xV (sQ e.on _ xV xU) k h5
 have mj:∀(j:Nat) o t,all[j]? =some o->o.dst≠some t->look (σ (j+1)).fr t=look (σ j).fr t:=fun j o t h1 h2=>by
  obtain⟨⟨_,h3⟩,_⟩:=nG j o h1;have ml:∀(x:AV) V A,look ((σ j).put o.dst x V A).fr t=look (σ j).fr t:=fun x V A=>by
   simp only[St.put];cases uJ:o.dst with
   |none=>rfl
   |some d=>simp only[look];rw[if_neg (fun e=>h2 (by rw[uJ,e]))]
  rcases h3 with⟨_,x,V,A,h4,_,_⟩|⟨_,h4⟩
  ·rw[h4];exact ml x V A
  ·rw[h4];exact ml _ _ _
 have s9:∀(j t:Nat),j<=all.size->(∀(i:Nat) o,i<j->all[i]? =some o->o.dst≠some t)->look (σ j).fr t=look (σ 0).fr t:=by
  intro j;induction j with
  |zero=>intro t _ _;rfl
  |succ j ih=>
   intro t hj fx;have ho:all[j]? =some all[j]:=T8 (by omega);rw[mj j _ t ho (fx j _ (by omega) ho)];exact ih t (by omega) (fun i o hi=>fx i o (by omega))
 have tc:∀(j i:Nat) oi t,j<=all.size->i<j->all[i]? =some oi->oi.dst=some t->look (σ j).fr t=look (σ (i+1)).fr t:=by
  intro j;induction j with
  |zero=>intro i oi t _ h;omega
  |succ j ih=>
   intro i oi t hj nS bG c8;by_cases e:i=j
   ·subst e;rfl
   ·have ho:all[j]? =some all[j]:=T8 (by omega);rw[mj j _ t ho (ko i j oi _ t bG ho (by omega) c8)];exact ih i oi t (by omega) (by omega) bG c8
 have xW:∀(b a:Nat),a<=b->b<=all.size->(∀i,a<=i->i<b->i∉ws)->(σ b).V=(σ a).V/\(σ b).A=(σ a).A:=by
  intro b;induction b with
  |zero=>
   intro a h _ _;obtain rfl:a=0:=by omega
   exact⟨rfl,rfl⟩
  |succ b ih=>
   intro a MN hb fx;by_cases e:a=b+1
   ·subst e;exact⟨rfl,rfl⟩
   ·have ho:all[b]? =some all[b]:=T8 (by omega);obtain⟨h1,h2⟩:=ih a (by omega) (by omega) (fun i hi Ay=>fx i hi (by omega));rcases(nG b _ ho).2.1 with h3|⟨h3,h4⟩
    ·exact absurd h3 (fx b (by omega) (by omega))
    ·exact⟨h3.trans h1,h4.trans h2⟩
 have qk:∀{ai:Array Bool} {k0:Nat} {g:Gh} {a:Act} {w:World},CI all ws σ n w0 g0 ai k0 g a w->Region.ready .any all ai=[]->Q .normal a w:=by
  intro ai k0 g a w hD hr;have dc:∀i,i<all.size->ai[i]? =some true:=by
   intro i;induction i using T1 with
   |_ i ih=>
    intro hi;have ho:all[i]? =some all[i]:=T8 hi;have cg:i<ai.size:=by rw[hD.fc];exact hi
    cases hl:ai[i]with
    |true=>rw[T8 cg,hl]
    |false=>
     exfalso
     have:i∈Region.ready .any all ai:=mem_ready.2 ⟨by simp[cg,hl],_,ho,fun e he hb=>dH.2 (ih e.on (dQ i _ ho e he hb) (by have:=dQ i _ ho e he hb;omega))⟩;rw[hr]at this;simp at this
  have mS:=xW all.size k0 hD.pZ (TV _) (fun i h1 h2 h3=>by have:=(hD.fe i h3 h2).1 (dc i h2);omega);refine hQ _ g a w hK ⟨by rw[mS.1,mS.2];exact hD.inv,hD.fr,hD.size,hD.defers,fun t x hx=>?_⟩;rw[mS.2];by_cases hex:∃(i:Nat) (o:Oper),all[i]? =some o/\o.dst=some t
  ·obtain⟨i,o,ho,c8⟩:=hex;have hi:=(T9.1 ho).1;rw[tc all.size i o t (TV _) hi ho c8]at hx;exact hD.iq i o t x ho (dc i hi) c8 hx
  ·rw[s9 all.size t (TV _) (fun i o _ ho c8=>hex ⟨i,o,ho,c8⟩)]at hx;exact hD.ir t x (fun i o ho _ c8=>hex ⟨i,o,ho,c8⟩) hx
 intro fuel;induction fuel with
 |zero=>
  intro ai k0 g a w hf hD;have ql:Region.ready .any all ai=[]:=by
   have h0:((Tc all.size).filter fun i=> !ai.getD i true)=[]:=Tv (by omega);rcases hr:Region.ready .any all ai with _|⟨j,r⟩
   ·rfl
   ·have hj:j∈Region.ready .any all ai:=by rw[hr];simp
    obtain⟨h1,o,h2,_⟩:=mem_ready.1 hj;have:j∈((Tc all.size).filter fun i=> !ai.getD i true):=by
     rw[Tz,Tp];exact⟨(T9.1 h2).1,by simp[h1]⟩
    rw[h0]at this;simp at this
  exact⟨ql,qk hD ql⟩
 |succ fuel ih=>
  intro ai k0 g a w hf hD;refine⟨fun hr=>qk hD hr,fun j hj=>?_⟩;obtain⟨p7,o,ho,dI⟩:=mem_ready.1 hj;have sk:=fW p7;have zn:j<all.size:=(T9.1 ho).1;have kf:j<ai.size:=by rw[hD.fc];exact zn
  have du:∀e∈o.after,Region.binds .any e=true->ai[e.on]? =some true:=fun e he hb=>dH.1 (dI e he hb)
  have df:∀k,((bD all.toList []).getD j 0).testBit k=true->ai[k]? =some true:=s8 hD.closed j o ho du;have cT:∀(i:Nat) oi,all[i]? =some oi->ai[i]? =some true->((bD all.toList []).getD i 0).testBit j=false:=fun i oi bG cg=>by
   cases hb:((bD all.toList []).getD i 0).testBit j with
   |false=>rfl
   |true=>have:=s8 hD.closed i oi bG (hD.closed i oi bG cg) j hb;rw[sk]at this;simp at this
  have oo:∀t∈o.looksAt all,∀x,look (σ j).fr t=some x->∃u,a.tmps[t]? =some u/\aU g w (σ k0).A x u:=by
   intro t ht x hx;by_cases hex:∃(i:Nat) (oi:Oper),i<j/\all[i]? =some oi/\oi.dst=some t
   ·obtain⟨i,oi,nS,bG,c8⟩:=hex;rw[tc j i oi t (by omega) nS bG c8]at hx;have hp:=jV i j oi o bG ho nS;have zw:eh all oi o=true:=by simp only[eh,c8];simpa using ht
    simp only[dK,zw,TR,TS]at hp;have hb:((bD all.toList []).getD j 0).testBit i=true:=by simpa using hp.2
    exact hD.iq i oi t x bG (df i hb) c8 hx
   ·rw[s9 j t (by omega) (fun i oi nS bG c8=>hex ⟨i,oi,nS,bG,c8⟩)]at hx;refine hD.ir t x (fun i oi bG cg c8=>?_) hx;rcases T2 i j with h|h|h
    ·exact hex ⟨i,oi,h,bG,c8⟩
    ·subst h;rw[sk]at cg;simp at cg
    ·have hp:=jV j i o oi ho bG h;have zw:eh all oi o=true:=by simp only[eh,c8];simpa using ht
     have hb:=cT i oi bG cg;simp only[dK,zw,hb,TR,TS]at hp;simp at hp
  let cS:=(σ j).fr.filter fun p=>(o.looksAt all).contains p.1
  have rU:∀t,look cS t=if(o.looksAt all).contains t then look (σ j).fr t else none:=fun t=>fV (fun t=>(o.looksAt all).contains t) (σ j).fr t
  have hS:∀(V:List (List CV)),gD g w ⟨cS,V,(σ k0).A⟩ a:=fun V t x hx=>by
   simp only[rU]at hx;split at hx
   ·rename_i hc;exact oo t (by simpa using hc) x hx
   ·cases hx
  have jf:∀(V V':List (List CV)) (A A':List bp),∀x∈o.op.operands.toList,bA ⟨cS,V,A⟩ x=bA ⟨(σ j).fr,V',A'⟩ x:=fun V V' A A' x hx=>by
   cases x with
   |tmp t=>
    simp only[bA,rU];rw[if_pos];simp only[Oper.looksAt,Tw,decide_eq_true_eq,Tl,TH];exact .inl ⟨.tmp t,hx,rfl⟩
   |_=>rfl
  have kT:Rp n w0 g0 ⟨cS,(σ k0).V,(σ k0).A⟩ g a w:=⟨hD.inv,hD.fr,hD.size,hD.defers,hS _⟩;obtain⟨⟨s4,pV⟩,Dm,_⟩:=nG j o ho;have o8:fT all ⟨cS,(σ k0).V,(σ k0).A⟩ o True True/\gw all ⟨cS,(σ k0).V,(σ k0).A⟩ o=gw all (σ j) o:=by
   unfold fT gw at*;cases ot:o.guard with
   |none=>simp
   |some jw=>
    obtain⟨q,want⟩:=jw;simp only[ot]at s4⊢;obtain⟨oq,h1,h2⟩:=cq s4;obtain⟨t,h3,h4⟩:=cq h2;have:look cS t=look (σ j).fr t:=by
     rw[rU,if_pos];simp only[Oper.looksAt,ot,Tw,decide_eq_true_eq,Tl];exact .inr (by simp[h1,h3])
    simp only[h1,bE,h3,S7,this]at h4⊢;exact⟨h4,trivial⟩
  have q0:Region.wanted o (yielded all a.tmps)=gw all (σ j) o:=by
   rw[<-o8.2];have h0:=gp o8.1;have h1:=o8.1;unfold fT at h1;unfold gw;cases ot:o.guard with
   |none=>simp[Region.wanted,ot]
   |some jw=>
    obtain⟨q,want⟩:=jw;simp only[ot]at h1⊢;obtain⟨oq,h2,h3⟩:=cq h1;obtain⟨t,h4,h5⟩:=cq h3;obtain⟨x,h6,h7⟩:=cq h5;obtain⟨h8,h9⟩:=je kT h2 h4 h6;simp only[h2,S7,h4,h6];split at h7
    ·rename_i b;simp[Region.wanted,ot,h8 b rfl]
    ·simp[Region.wanted,ot,h9 rfl]
    ·exact h7.elim
  have cb:∀i,(ai.setIfInBounds j true)[i]? =if i=j then some true else ai[i]? :=fun i=>by
   by_cases e:i=j
   ·subst e;simp[kf]
   ·rw[if_neg e,Ub (fun h=>e h.symm)]
  have dN:((Tc all.size).filter fun i=> !(ai.setIfInBounds j true).getD i true).length<=fuel:=by
   have aC:((Tc all.size).filter fun i=> !(ai.setIfInBounds j true).getD i true).length<((Tc all.size).filter fun i=> !ai.getD i true).length:=by
    have gm:∀i,(!(ai.setIfInBounds j true).getD i true)=true->(!ai.getD i true)=true:=fun i h=>by
     by_cases e:i=j
     ·subst e;simp[kf]at h
     ·have:(ai.setIfInBounds j true).getD i true=ai.getD i true:=by
       simp only[Uf,cb,if_neg e]
      rwa[this]at h
    exact filter_lt gm (Tp.2 zn) (by simp[p7]) (by simp[kf])
   omega
  have dB:∀(k1:Nat) (x:AV) (v:Value) (w':World) (g':Gh),look (σ (j+1)).fr=look ((σ j).put o.dst x [] []).fr->aU g' w' (σ k1).A x v->Inv g' w' (σ k1).V (σ k1).A->Ext g w (σ k0).A g' w' (σ k1).A->Fr w0 g0 w' g'->k1<=all.size->(k1=0\/∃i∈ws,k1=i+1)->
    (∀i∈ws,i<all.size->((ai.setIfInBounds j true)[i]? =some true↔i<k1))->CI all ws σ n w0 g0 (ai.setIfInBounds j true) k1 g' (a.put o.dst v) w':=by
   intro k1 x v w' g' EL zr hI hx hF hk MR Hv;have mo:∀t u,o.dst≠some t->a.tmps[t]? =some u->(a.put o.dst v).tmps[t]? =some u:=fun t u cN hu=>by
    cases uJ:o.dst with
    |none=>exact hu
    |some d=>
     simp only[Act.put];rw[Ub (fun e=>cN (by rw[uJ,e]))];exact hu
   refine⟨hI,hF,?_,?_,by simp[hD.fc],fun i oi t y bG cg c8 hy=>?_,fun t y fx hy=>?_,Hv,hk,MR,fun i oi bG cg e he hb=>?_⟩
   ·cases o.dst<;>simp[Act.put,hD.size]
   ·cases o.dst<;>simp[Act.put,hD.defers]
   ·rw[cb]at cg;by_cases e:i=j
    ·subst e;obtain rfl:o=oi:=by rw[ho]at bG;exact Option.some.inj bG
     rw[EL]at hy;simp only[St.put,c8,look,if_true]at hy;cases hy
     refine⟨v,?_,zr⟩;have:t<a.tmps.size:=by rw[hD.size];exact BF i o t ho c8
     simp[Act.put,c8,this]
    ·rw[if_neg e]at cg;obtain⟨u,h1,h2⟩:=hD.iq i oi t y bG cg c8 hy;exact⟨u,mo t u (fun h=>e (wz i j oi o t bG ho c8 h)) h1,aU.ext hx h2⟩
   ·have cN:o.dst≠some t:=fx j o ho (by rw[cb,if_pos rfl]);obtain⟨u,h1,h2⟩:=hD.ir t y (fun i oi bG cg=>fx i oi bG (by
     rw[cb];by_cases e:i=j
     ·rw[if_pos e]
     ·rw[if_neg e];exact cg)) hy
    exact⟨u,mo t u cN h1,aU.ext hx h2⟩
   ·rw[cb]at cg⊢;have:ai[e.on]? =some true:=by
     by_cases e':i=j
     ·subst e';obtain rfl:o=oi:=by rw[ho]at bG;exact Option.some.inj bG
      exact du e he hb
     ·rw[if_neg e']at cg;exact hD.closed i oi bG cg e he hb
    by_cases e':e.on=j
    ·rw[if_pos e']
    ·rw[if_neg e'];exact this
  have kU:j∉ws->∀i∈ws,i<all.size->((ai.setIfInBounds j true)[i]? =some true↔i<k0):=fun fF i hi cr=>by
   rw[cb,if_neg (fun e=>fF (by rw[<-e];exact hi))];exact hD.fe i hi cr
  have mS:cG o.op=false->j∉fs->(σ j).V=(σ k0).V/\(σ j).A=(σ k0).A:=by
   intro iD yb;rcases T5 j k0 with h|h
   ·have:=xW k0 j h hD.pZ (fun i h1 h2 h3=>by
     have cr:i<all.size:=by have:=hD.pZ;omega
     have cg:=(hD.fe i h3 cr).2 h2;have bG:all[i]? =some all[i]:=T8 cr;rcases TW j i with h4|h4
     ·have hp:=cH j i o _ ho bG h4 yb (rV i h3);have hb:=cT i _ bG cg;simp only[bM,hb,TR,TS]at hp;simp[h3,iD]at hp
     ·obtain rfl:i=j:=by omega
      rw[sk]at cg;simp at cg)
    exact⟨this.1.symm,this.2.symm⟩
   ·exact xW j k0 h (by omega) (fun i h1 h2 h3=>by
     have cr:i<all.size:=by omega
     have bG:all[i]? =some all[i]:=T8 cr;have hp:=cH i j _ o bG ho h2 (rV i h3) yb;simp only[bM,TR,TS]at hp;have hb:((bD all.toList []).getD j 0).testBit i=true:=by
      rcases hp.2 with h4|h4
      ·simp[h3,iD]at h4
      ·exact h4
     have:=(hD.fe i h3 cr).1 (df i hb);omega)
  unfold wpOp;simp only[ho];rcases pV with⟨h1,x,V,A,h2,h3,JK⟩|⟨h1,h2⟩
  ·rw[if_pos (by rw[q0,h1])];refine .inl ?_;by_cases hs:cG o.op=true
   ·-- slots alone
    have fF:j∉ws:=fun h=>by have:=y3 j o ho h;rw[hs]at this;simp at this
    have h4:bJ P ⟨cS,(σ k0).V,(σ k0).A⟩ (ow j) o (fun y V' A'=>y=x/\V'=(σ k0).V/\A'=(σ k0).A):=si (s:=σ j) (s':=⟨cS,(σ k0).V,(σ k0).A⟩) hs (jf _ _ _ _) h3 ⟨rfl,rfl,rfl⟩;obtain⟨y,V',A',⟨rfl,rfl,rfl⟩,h5⟩:=eu kT.inv kT.fr kT.slot h4;refine h5 _ _ fun v w' g' h6 h7 h8 h9=>ih _ k0 g' _ w' dN (dB k0 y v w' g' (by rw[h2];rfl) h6 h7 h8 h9 hD.pZ hD.kw (kU fF))
   ·have iD:cG o.op=false:=by simpa using hs
    by_cases yb:j∈fs
    ·have fF:j∉ws:=fun h=>rV j h yb
     have HB:k0<=m:=by
      rcases hD.kw with h|⟨i,hi,hk⟩
      ·omega
      ·rcases TW i m with h|h
       ·omega
       ·exfalso
        have cr:i<all.size:=by have:=hD.pZ;omega
        have bG:all[i]? =some all[i]:=T8 cr;have cg:=(hD.fe i hi cr).2 (by omega);have Ll:j<i:=by
         have:=Lk j yb i hi;simp at this;omega
        have hp:=jV j i o _ ho bG Ll;have hb:=cT i _ bG cg;have qo:¬i<m:=by omega
        simp only[dK,hb,TR,TS]at hp;simp[hi,iD,qo,yb,fF]at hp
     obtain⟨cY,JL⟩:=HA k0 HB hD.pZ;have h4:bJ P ⟨cS,(σ k0).V,(σ k0).A⟩ (ow j) o (fun y V' A'=>y=x/\V'=(σ k0).V/\A'=(σ k0).A):=by
      have h5:=JK yb (fun i=>(σ k0).V.getD i []) ((σ k0).V.drop V0.length) ((σ k0).A.drop A0.length);have e1:rh ex (fun i=>(σ k0).V.getD i []) V0++(σ k0).V.drop V0.length=(σ k0).V:=by
       rw[<-cY];exact TC _ _
      have e2:A0++(σ k0).A.drop A0.length=(σ k0).A:=by conv=>lhs;arg 1;rw[<-JL]
                                                       exact TC _ _
      rw[e1,e2]at h5;exact fU (fr:=(σ j).fr) (jf _ _ _ _) h5
     obtain⟨y,V',A',⟨rfl,rfl,rfl⟩,h5⟩:=eu kT.inv kT.fr kT.slot h4;exact h5 _ _ fun v w' g' h6 h7 h8 h9=>ih _ k0 g' _ w' dN (dB k0 y v w' g' (by rw[h2];rfl) h6 h7 h8 h9 hD.pZ hD.kw (kU fF))
    obtain⟨lH,jv⟩:=mS iD yb;have h4:bJ P ⟨cS,(σ k0).V,(σ k0).A⟩ (ow j) o (fun y V' A'=>y=x/\V'=V/\A'=A):=by
     rw[<-lH,<-jv];exact fU (fr:=(σ j).fr) (jf _ _ _ _) (h3 _ ⟨rfl,rfl,rfl⟩)
    obtain⟨y,V',A',⟨rfl,rfl,rfl⟩,h5⟩:=eu kT.inv kT.fr kT.slot h4;have xX:(σ (j+1)).V=V':=by rw[h2];rfl
    have lV:(σ (j+1)).A=A':=by rw[h2];rfl
    by_cases fF:j∈ws
    ·refine h5 _ _ fun v w' g' h6 h7 h8 h9=>ih _ (j+1) g' _ w' dN (dB (j+1) y v w' g' (by rw[h2];rfl) (by rw[lV];exact h6) (by rw[xX,lV];exact h7) (by rw[lV];exact h8) h9 (by omega) (.inr ⟨j,fF,rfl⟩) (fun i hi cr=>?_))
     have bG:all[i]? =some all[i]:=T8 cr;rw[cb];by_cases e:i=j
     ·subst e;simp
     ·rw[if_neg e];constructor
      ·intro cg;rcases TW j i with h|h
       ·have hp:=cH j i o _ ho bG h (rV j fF) (rV i hi);have hb:=cT i _ bG cg;simp only[bM,hb,TR,TS]at hp;simp[hi,iD]at hp
       ·omega
      ·intro aC;have hp:=cH i j _ o bG ho (by omega) (rV i hi) (rV j fF);simp only[bM,TR,TS]at hp;rcases hp.2 with h|h
       ·simp[hi,iD]at h
       ·exact df i h
    ·rcases Dm with Dm|⟨qa,se⟩
     ·exact absurd Dm fF
     ·refine h5 _ _ fun v w' g' h6 h7 h8 h9=>ih _ k0 g' _ w' dN (dB k0 y v w' g' (by rw[h2];rfl) ?_ ?_ ?_ h9 hD.pZ hD.kw (kU fF))
      ·rw[<-jv,<-se,lV];exact h6
      ·rw[<-lH,<-jv,<-qa,<-se,xX,lV];exact h7
      ·have e1:(σ k0).A=A':=by rw[<-jv,<-se,lV]
       rw[e1]at h8⊢;exact h8
  ·rw[if_neg (by rw[q0,h1];simp)];have xX:(σ (j+1)).V=(σ j).V:=by rw[h2];rfl
   have lV:(σ (j+1)).A=(σ j).A:=by rw[h2];rfl
   by_cases fF:j∈ws
   ·have iD:=y3 j o ho fF;obtain⟨lH,jv⟩:=mS iD (rV j fF);refine ih _ (j+1) g _ w dN (dB (j+1) (.c .undef) undef w g (by rw[h2];rfl) rfl ?_ ?_ hD.fr (by omega) (.inr ⟨j,fF,rfl⟩) (fun i hi cr=>?_))
    ·rw[xX,lV,lH,jv];exact hD.inv
    ·rw[lV,jv];exact .refl _ _ _
    ·have bG:all[i]? =some all[i]:=T8 cr;rw[cb];by_cases e:i=j
     ·subst e;simp
     ·rw[if_neg e];constructor
      ·intro cg;rcases TW j i with h|h
       ·have hp:=cH j i o _ ho bG h (rV j fF) (rV i hi);have hb:=cT i _ bG cg;simp only[bM,hb,TR,TS]at hp;simp[hi,iD]at hp
       ·omega
      ·intro aC;have hp:=cH i j _ o bG ho (by omega) (rV i hi) (rV j fF);simp only[bM,TR,TS]at hp;rcases hp.2 with h|h
       ·simp[hi,iD]at h
       ·exact df i h
   ·exact ih _ k0 g _ w dN (dB k0 (.c .undef) undef w g (by rw[h2];rfl) rfl hD.inv (.refl _ _ _) hD.fr hD.pZ hD.kw (kU fF))
theorem T.pk {id:Nat} {ops:Array Oper} (hm:P.follows .mixedOrders=true) (ow:Nat->Bool) (ws fs:List Nat) (m:Nat) (ex:List Nat) (hd:kZ ops ws fs m=true) (h:lJ P ops ow ws fs m ex s.V s.A (fun s'=>Q .normal s') 0 ops.toList s):T P n (.region id ops true) Q s:=by
 intro eC w0 g0 g a w hR;obtain⟨σ,h0,hK,nG⟩:=jH ops.toList 0 s h;obtain⟨hI,hx⟩:=hR.inv.heap (w':={w with drawn:=w.drawn+1}) rfl;refine wp_region_any hm (ya (ex:=ex) (K:=fun s'=>Q .normal s') (w0:=w0) (g0:=g0) (n:=n) (σ:=σ) (ow:=ow) hd eC (fun j o ho=>?_) ⟨by rw[h0],by rw[h0]⟩ ?_ (fun s' g' a' w' h1 h2=>⟨s',g',h1,h2⟩) ops.size (Ud ops.size false) 0 g a _ ?_ ?_)
 ·have:=nG j o (by simpa using ho);simpa only[T0]using this
 ·simpa using hK
 ·exact TZ (TL _ _) (by simp)
 ·refine⟨by rw[h0];exact hI,hR.fr.heap rfl rfl rfl rfl,hR.size,hR.defers,by simp,fun i o t x ho hl=>?_,fun t x _ jc=>?_,fun i _ cr=>?_,TY _,.inl rfl,fun i o ho hl=>?_⟩
  ·have hi:=(T9.1 ho).1;simp[hi]at hl
  ·rw[h0]at jc⊢;obtain⟨u,h1,h2⟩:=hR.slot t x jc;exact⟨u,h1,aU.ext hx h2⟩
  ·simp[cr]
  ·have hi:=(T9.1 ho).1;simp[hi]at hl
end
end Go.Av
namespace Go.Av
attribute [-simp] Go.Av.aH.bT Go.Av.aH.bU Go.Av.an.bT Go.Av.an.jG Go.Av.an.ou Go.Av.an.re Go.Av.an.rf Go.Av.an.jh Go.Av.an.bU
open Go
section
variable {P:Program} {n:Nat} {Q:Exit->St->Prop} {s s':St} {y:Code}
structure pq (P:Program) (all:Array Oper) (ow:Nat->Bool) (ws fs:List Nat) (m:Nat) (ex:List Nat) (V0:List (List CV)) (A0:List bp) (K:St->Prop) (i:Nat) (ops:List Oper) (s:St):Prop where
 mk::
 run:lJ P all ow ws fs m ex V0 A0 K i ops s
theorem aQ {all:Array Oper} {ow:Nat->Bool} {ws fs:List Nat} {m:Nat} {ex:List Nat} {V0:List (List CV)} {A0:List bp} {K:St->Prop} {i:Nat} {o:Oper} {rest:List Oper}
  (h:fT all s o (bJ P s (ow i) o fun x V A=>(i∈ws\/(V=s.V/\A=s.A))/\(i∈ws->i<m->V.take V0.length=rh ex (fun i=>V.getD i []) V0/\A.take A0.length=A0)/\(i∈fs->cW P s (ow i) o ex V0 A0 x)/\pq P all ow ws fs m ex V0 A0 K (i+1) rest (s.put o.dst x V A)) (pq P all ow ws fs m ex V0 A0 K (i+1) rest (s.put o.dst (.c .undef) s.V s.A))):pq P all ow ws fs m ex V0 A0 K i (o::rest) s:=
 ⟨mU (fun h=>mV (fun _ _ _ h=>⟨h.1,h.2.1,h.2.2.1,h.2.2.2.run⟩) h) (fun h=>h.run) h⟩
theorem aJ {all:Array Oper} {ow:Nat->Bool} {ws fs:List Nat} {m:Nat} {ex:List Nat} {V0:List (List CV)} {A0:List bp} {K:St->Prop} {i:Nat} (h:K s):pq P all ow ws fs m ex V0 A0 K i [] s:=⟨h⟩
theorem T.nI {id:Nat} {l:List Oper} (hm:P.follows .mixedOrders=true) (ow:Nat->Bool) (ws fs:List Nat) (m:Nat) (ex:List Nat) (hd:kZ l.toArray ws fs m=true) (h:∀K:St->Prop,(∀s',T P n y Q s'->K s')->pq P l.toArray ow ws fs m ex s.V s.A K 0 l s):T P n (.seq (.region id l.toArray true) y) Q s:=
 T.seq (T.pk hm ow ws fs m ex hd (h _ fun _ h=>h).run)
theorem T.BK {id:Nat} {l:List Oper} (hm:P.follows .mixedOrders=true) (ow:Nat->Bool) (ws fs:List Nat) (m:Nat) (ex:List Nat) (hd:kZ l.toArray ws fs m=true) (h:∀K:St->Prop,(∀s',Q .normal s'->K s')->pq P l.toArray ow ws fs m ex s.V s.A K 0 l s):T P n (.region id l.toArray true) Q s:=
 T.pk hm ow ws fs m ex hd (h _ fun _ h=>h).run
@[congr] theorem HC {all:Array Oper} {ow:Nat->Bool} {ws fs:List Nat} {m:Nat} {ex:List Nat} {V0:List (List CV)} {A0:List bp} {K:St->Prop} {i i':Nat} {ops:List Oper} (hi:i=i') (h:s=s'):pq P all ow ws fs m ex V0 A0 K i ops s=pq P all ow ws fs m ex V0 A0 K i' ops s':=by rw[h,hi]
theorem pq.gen {all:Array Oper} {ow:Nat->Bool} {ws fs:List Nat} {m:Nat} {ex:List Nat} {V0:List (List CV)} {A0:List bp} {K:St->Prop} {i:Nat} {ops:List Oper} {d:Nat} {b:Bool} {fr:List (Nat×AV)} {V:List (List CV)} {A:List bp}
  (h:∀q:Bool,b=q->pq P all ow ws fs m ex V0 A0 K i ops ⟨(d,.c (.d (.bool q)))::fr,V,A⟩):pq P all ow ws fs m ex V0 A0 K i ops ⟨(d,.c (.d (.bool b)))::fr,V,A⟩:=h b rfl
end
section
variable {P:Program} {s:St} {r:AV}
theorem aG.BB (l:Nat) {fn:Func} {e:Exit} {row:List DV} (he:e=.normal\/e=.ret) (hr:(eD P s fn.results.toList).bind (aI s.A [l] [])=some [r]) (hV:s.V[l]? =some (row.map CV.d)):aG P fn 0 r (dV [row]) [] e s:=by
 cases hx:eD P s fn.results.toList with
 |none=>rw[hx]at hr;simp at hr
 |some xs=>
  rw[hx]at hr;refine⟨he,[l],[],xs,[r],hx,Th,by simp,by simp,hr,rfl,?_,rfl⟩;refine so [l] [row] rfl ?_;intro j l' row' h1 h2
  match j with
  |0=>simp at h1 h2;subst h1;subst h2;exact hV
  |j+1=>simp at h1
end
attribute [simp] cW rh
end Go.Av
namespace Go.Av
open Go
def rB (b:List Int):List (List DV):=b.map fun n=>[.int .u8 n]
def okB (b:List Int):Prop:=(∀n∈b,0<=n/\n<=255)/\b.length<=2000
abbrev rd (b:List Int) (p:Nat):List DV:=[.sl (rB b),.i p]
theorem fk (b:List Int):(rB b).length=b.length:=by simp[rB]
theorem JM {b:List Int} {i:Nat} (h:i<b.length):(rB b)[i]? =some [.int .u8 b[i]]:=by simp[rB,h]
theorem wA {b:List Int} {i:Nat} (h:i<(rB b).length):(rB b)[i]=[.int .u8 (b[i]'(by simpa[rB]using h))]:=by simp[rB]
theorem AN {a n:Int} (ha:0<=a) (hn:0<n):0<=a.tmod n/\a.tmod n<n:=by
 rw[Int.tmod_eq_emod_of_nonneg ha];exact⟨Int.emod_nonneg _ (by omega),Int.emod_lt_of_pos _ hn⟩
theorem tdiv_le {a n:Int} (ha:0<=a) (hn:0<n):0<=a.tdiv n/\a.tdiv n<=a:=by
 rw[Int.tdiv_eq_ediv_of_nonneg ha];exact⟨Int.ediv_nonneg ha (by omega),Int.ediv_le_self _ ha⟩
theorem BL {x y:Int} (hx:0<=x) (jc:x<4611686018427387904) (hy:0<=y) (Lm:y<4611686018427387904):0<=xz .xor .i64 x y/\xz .xor .i64 x y<4611686018427387904:=by
 have h1:(BitVec.ofInt 64 x).toNat=x.toNat:=by
  rw[BitVec.toNat_ofInt,Uh hx (by omega)]
 have h2:(BitVec.ofInt 64 y).toNat=y.toNat:=by
  rw[BitVec.toNat_ofInt,Uh hy (by omega)]
 have h3:(BitVec.ofInt 64 x ^^^ BitVec.ofInt 64 y).toNat=x.toNat ^^^ y.toNat:=by rw[BitVec.toNat_xor,h1,h2]
 have h4:x.toNat ^^^ y.toNat<2 ^ 62:=Nat.xor_lt_two_pow (by omega) (by omega);have h5:xz .xor .i64 x y=IntKind.i64.wrap ((x.toNat ^^^ y.toNat:Nat):Int):=by
  show IntKind.i64.wrap ((BitVec.ofInt 64 x ^^^ BitVec.ofInt 64 y).toNat:Int)=_;rw[h3]
 rw[h5,wrap64 (by omega) (by omega)];omega
end Go.Av
