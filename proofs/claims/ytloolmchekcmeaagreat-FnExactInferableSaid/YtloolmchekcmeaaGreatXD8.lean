/- A part. -/
import Derived.Test.YtloolmchekcmeaaGreatXD7
import Derived.ProofKit
import Derived.Carry
set_option linter.unusedVariables false
set_option linter.unusedSimpArgs false
open List renaming getElem?_eq_getElem->aaA,all_eq_true->aaB,getElem?_eq_some_iff->aaC,getElem?_of_mem->aaD,getElem?_append_right->aaE,getElem?_append_left->aaF,contains_iff_mem->aaG
open Option renaming map_eq_some_iff->aaH
open Bool renaming and_eq_true->aaI
open Nat renaming lt_succ_self->aaJ
namespace Go.Av
attribute [-simp] Go.Av.bA Go.Av.eC Go.Av.ib Go.Av.bM Go.Av.bw Go.Av.gR Go.Av.lU Go.Av.rF Go.Av.mb Go.Av.zl Go.Av.rowsOf Go.Av.look Go.Av.sP Go.Av.St.put Go.Av.gm Go.Av.EP Go.Av.bV Go.Av.zj Go.Av.IS Go.Av.rE Go.Av.rD Go.Av.DH Go.Av.AV.plain Go.Av.AV.cells Go.Av.CV.js Go.Av.mN Go.Av.hP Go.Av.jX Go.Av.fu Go.Av.bO Go.Av.ja Go.Av.AV.j4 Go.Av.CV.j4 Go.Av.qg Go.Av.AV.gn Go.Av.CV.gn Go.Av.bB Go.Av.ia Go.Av.jF Go.Av.nP Go.Av.cy Go.Av.fy Go.Av.uf Go.Av.AV.qi Go.Av.CV.res Go.Av.rN Go.Av.pos? Go.Av.vW Go.Av.CB Go.Av.lC Go.Av.Sub Go.Av.kk Go.Av.kU Go.Av.il Go.Av.gp Go.Av.iq Go.Av.gq Go.Av.aF.cb Go.Av.aF.bD Go.Av.ak.cb Go.Av.ak.gu Go.Av.ak.ng Go.Av.ak.jI Go.Av.ak.jJ Go.Av.ak.iR Go.Av.ak.bD Go.Av.c8 Go.Av.qW Go.Av.iw Go.Av.gI Go.Av.cZ Go.Av.j5 Go.Av.df Go.Av.bX Go.Av.back Go.Av.gW Go.Av.one Go.Av.c9 Go.Av.xO Go.Av.ef Go.Av.AV.dw Go.Av.CV.dw Go.Av.fR Go.Av.AV.cJ Go.Av.CV.cJ Go.Av.bP Go.Av.eu Go.Av.eN Go.Av.eG Go.Av.b8 Go.Av.bN
open Go Go.ChangeShapes Go.WideShapes Go.ChangeAt Go.RowKit
def se (P:Program) (L:TypeId->Option (List TypeId)):Nat->List Field->Option (List TypeId)
 |_,[]=>some []
 |off,f::r=>match L f.type with
  |some l=>if f.offset=off/\P.cellsOf f.type=l.length then(se P L (off+l.length) r).map (l++·)else none
  |none=>none
def tH (P:Program):Nat->TypeId->Option (List TypeId)
 |0,_=>none
 |k+1,t=>match P.underlying t with
  |some (.struct fs)=>match se P (tH P k) 0 fs.toList with
   |some ls=>if P.cellsOf t=ls.length then some ls else none
   |none=>none
  |some .bool|some (.int _)|some .string|some (.slice _)=>if P.cellsOf t=1 then some [t]else none
  |_=>none
def uC (P:Program) (t:TypeId):Option (List TypeId):=tH P 8 t
def wV (P:Program) (S:List TypeId):Bool:=S.all fun t=>
 match P.underlying t with
 |some .bool|some (.int _)|some .string=>true
 |some (.slice e)=>match uC P e with
  |some ls=>ls.all S.contains && P.cellsOf e==ls.length && decide (0<ls.length)
  |none=>false
 |_=>false
mutual
def sL (P:Program):TypeId->DV->Prop
 |t,.int k n=>P.underlying t=some (.int k)/\(Lit.int k n).wf=true
 |t,.bool _=>P.underlying t=some .bool
 |t,.str s=>P.underlying t=some .string/\s.length<=Go.maxLen
 |t,.sl rows=>∃e ls,P.underlying t=some (.slice e)/\uC P e=some ls/\rows.length<=Go.maxLen/\nF P ls rows
 |_,.raw _=>False
def nF (P:Program):List TypeId->List (List DV)->Prop
 |_,[]=>True
 |ls,r::rs=>fb P ls r/\nF P ls rs
def fb (P:Program):List TypeId->List DV->Prop
 |[],[]=>True
 |t::ts,x::xs=>sL P t x/\fb P ts xs
 |_,_=>False
end
theorem fb.len {P:Program}:∀{ls:List TypeId} {xs:List DV},fb P ls xs->xs.length=ls.length
 |[],[],_=>rfl
 |_::_,_::_,h=>by simp only[fb]at h;simp[fb.len h.2]
 |[],_::_,h=>by simp[fb]at h
 |_::_,[],h=>by simp[fb]at h
theorem nF.mk {P:Program} {ls:List TypeId}:∀{rows:List (List DV)},(∀r∈rows,fb P ls r)->nF P ls rows
 |[],_=>trivial
 |r::rs,h=>⟨h r (by simp),nF.mk fun r hr=>h r (by simp[hr])⟩
theorem nF.at_ {P:Program} {ls:List TypeId}:∀{rows:List (List DV)},nF P ls rows->∀r∈rows,fb P ls r
 |[],_,r,hr=>by simp at hr
 |x::xs,h,r,hr=>by
  simp only[List.mem_cons]at hr;rcases hr with rfl|hr
  ·exact h.1
  ·exact nF.at_ h.2 r hr
def tI (w:World) (b:Nat):Nat:=match w.heap[b]? with
 |some (.cells cs _ _)=>cs.size
 |_=>0
theorem yU {w:World} {a:Addr} {v:Value} (h:w.cell? a=some v):a.spot=none/\a.off<tI w a.block:=by
 unfold World.cell? at h;split at h
 ·rename_i c _ _ hb;split at h
  ·simp at h
  ·rename_i hs;refine⟨by simpa using hs,?_⟩;simp only[tI,hb];exact(Array.getElem?_eq_some_iff.1 h).1
 ·simp at h
theorem fb.append {P:Program}:∀{ls ls':List TypeId} {xs xs':List DV},fb P ls xs->fb P ls' xs'->fb P (ls++ls') (xs++xs')
 |[],_,[],_,_,h=>h
 |_::_,_,_::_,_,h,h'=>by
  simp only[fb]at h;simp only[List.cons_append,fb];exact⟨h.1,fb.append h.2 h'⟩
 |[],_,_::_,_,h,_=>by simp[fb]at h
 |_::_,_,[],_,h,_=>by simp[fb]at h
section
variable {H:Type} {enc:TypeId×Value->H} {P:Program} {w:World} {base:Nat} {spare:Nat->Bool} {held:Bool}
theorem uD {α:Type} {p:Nat->α->Prop}:∀(n:Nat),(∀i,i<n->∃x,p i x)->∃l:List α,l.length=n/\∀(i:Nat) x,l[i]? =some x->p i x
 |0,_=>⟨[],rfl,fun i x h=>by simp at h⟩
 |n+1,h=>by
  obtain⟨l,h1,h2⟩:=uD n fun i hi=>h i (by omega)
  obtain⟨x,hx⟩:=h n (by omega);refine⟨l++[x],by simp[h1],fun i y hy=>?_⟩;by_cases hi:i<l.length
  ·rw[aaF hi]at hy;exact h2 i y hy
  ·rw[aaE (by omega)]at hy;have:i-l.length=0:=by
    have:=(aaC.1 hy).1;simp at this;omega
   rw[this]at hy;simp at hy;subst hy;rw[show i=n by omega];exact hx
theorem nU {S:List TypeId} {L:TypeId->Option (List TypeId)} {n:Nat} {cs:List Value}
  (ih:∀e ls,L e=some ls->(∀t∈ls,t∈S)->∀cs' (y:DataW H×List MemPlace),DataW.trod enc P w base spare held n e cs'=some y->∃ds,ds.length=cs'.length/\fb P ls ds/\∀(j:Nat) d u,ds[j]? =some d->cs'[j]? =some u->a6 (tI w) w d u):
  ∀{fs:List Field} {off:Nat} {ls:List TypeId},se P L off fs=some ls->(∀t∈ls,t∈S)->(∀f∈fs,∃y:DataW H×List MemPlace,DataW.trod enc P w base spare held n f.type ((cs.drop f.offset).take (P.cellsOf f.type))=some y)->off+ls.length<=cs.length->
   ∃ds,ds.length=ls.length/\fb P ls ds/\∀(j:Nat) d u,ds[j]? =some d->cs[off+j]? =some u->a6 (tI w) w d u
 |[],off,ls,h,_,_,_=>by
  simp[se]at h;subst h;exact⟨[],rfl,trivial,fun j d u h=>by simp at h⟩
 |f::fs,off,ls,h,hs,ht,hle=>by
  simp only[se]at h;split at h
  ·rename_i l hl;split at h
   ·rename_i D9;simp only[aaH]at h;obtain⟨ls',h1,rfl⟩:=h;obtain⟨y,hy⟩:=ht f (by simp);simp only[List.length_append]at hle;obtain⟨ds,h2,h3,h4⟩:=ih f.type l hl (fun t h=>hs t (by simp[h])) _ y hy;obtain⟨ds',h5,h6,h7⟩:=nU ih h1 (fun t h=>hs t (by simp[h])) (fun f' h=>ht f' (by simp[h])) (by omega);have hlen:ds.length=l.length:=fb.len h3;refine⟨ds++ds',by simp[hlen,h5],fb.append h3 h6,fun j d u h8 h9=>?_⟩;by_cases hj:j<ds.length
    ·rw[aaF hj]at h8;refine h4 j d u h8 ?_;rw[D9.1,D9.2,List.getElem?_take,if_pos (by omega),List.getElem?_drop];exact h9
    ·rw[aaE (by omega)]at h8;refine h7 (j-ds.length) d u h8 ?_;rw[<-h9];congr 1;omega
   ·simp at h
  ·simp at h
theorem qJ {S:List TypeId} {N:Nat} (ih:∀fuel,fuel<N->∀t,t∈S->∀cs x,DataW.trod enc P w base spare held fuel t cs=some x->∃u d,cs=[u]/\a6 (tI w) w d u/\sL P t d):
  ∀(k fuel:Nat),fuel<N->∀(e:TypeId) (ls:List TypeId),tH P k e=some ls->(∀t∈ls,t∈S)->∀(cs:List Value) (y:DataW H×List MemPlace),DataW.trod enc P w base spare held fuel e cs=some y->
  ∃ds,ds.length=cs.length/\fb P ls ds/\∀(j:Nat) d u,ds[j]? =some d->cs[j]? =some u->a6 (tI w) w d u
 |0,_,_,e,ls,hl,_,_,_,_=>by simp[tH]at hl
 |k+1,fuel,hN,e,ls,hl,hs,cs,y,h=>by
  have one:ls=[e]->∃ds,ds.length=cs.length/\fb P ls ds/\∀(j:Nat) d u,ds[j]? =some d->cs[j]? =some u->a6 (tI w) w d u:=by
   intro he;subst he;obtain⟨u,d,rfl,h1,h2⟩:=ih fuel hN e (hs e (by simp)) cs y h;refine⟨[d],rfl,⟨h2,trivial⟩,fun j d' u' h3 h4=>?_⟩;cases j with
   |zero=>simp at h3 h4;subst h3;subst h4;exact h1
   |succ j=>simp at h3
  unfold tH at hl;split at hl
  ·rename_i fs hu;split at hl
   ·rename_i ls' GF;split at hl
    ·rename_i eP;simp only[Option.some.injEq]at hl;subst hl;obtain⟨xs,n,rfl,rfl,j3,Kc,hf⟩:=DataW.trod_struct hu h;obtain⟨ds,h1,h2,h3⟩:=nU (S:=S) (L:=tH P k) (n:=n) (cs:=cs) (enc:=enc) (base:=base) (spare:=spare) (held:=held) (fun e ls hl hs cs' y hy=>qJ ih k n (by omega) e ls hl hs cs' y hy) GF hs (fun f UC=>by
      obtain⟨i,hi⟩:=aaD UC;have h6:=hf i f (Array.getElem?_toList.symm.trans hi);have DM:i<xs.length:=by
       rw[Kc,<-Array.length_toList];exact(aaC.1 hi).1
      rw[aaA DM]at h6;exact⟨_,h6⟩) (by omega)
     exact⟨ds,by omega,h2,fun j d u h4 h5=>h3 j d u h4 (by rw[Nat.zero_add];exact h5)⟩
    ·simp at hl
   ·simp at hl
  ·split at hl
   ·simp at hl;exact one hl.symm
   ·simp at hl
  ·split at hl
   ·simp at hl;exact one hl.symm
   ·simp at hl
  ·split at hl
   ·simp at hl;exact one hl.symm
   ·simp at hl
  ·split at hl
   ·simp at hl;exact one hl.symm
   ·simp at hl
  ·simp at hl
theorem sf {S:List TypeId} {N:Nat} (ih:∀fuel,fuel<N->∀t,t∈S->∀cs x,DataW.trod enc P w base spare held fuel t cs=some x->∃u d,cs=[u]/\a6 (tI w) w d u/\sL P t d) {fuel:Nat} (hN:fuel<N)
  {e:TypeId} {ls:List TypeId} (hl:uC P e=some ls) (hs:∀t∈ls,t∈S) {cs:List Value} {y:DataW H×List MemPlace} (h:DataW.trod enc P w base spare held fuel e cs=some y):
  ∃ds,ds.length=cs.length/\fb P ls ds/\∀(j:Nat) d u,ds[j]? =some d->cs[j]? =some u->a6 (tI w) w d u:=qJ ih 8 fuel hN e ls hl hs cs y h
theorem zS (a:Addr) (i j:Nat):(a.add i).add j=a.add (i+j):=by
 unfold Addr.add;by_cases hi:i=0<;>by_cases hj:j=0<;>simp[hi,hj,Nat.add_assoc]
theorem sg {S:List TypeId} (hS:wV P S=true):∀(fuel:Nat) (t:TypeId),t∈S->∀cs x,DataW.trod enc P w base spare held fuel t cs=some x->∃u d,cs=[u]/\a6 (tI w) w d u/\sL P t d:=by
 intro fuel;induction fuel using Nat.strongRecOn with
 |_ fuel ih=>
  intro t ht cs x h;have hk:=aaB.1 hS t ht;split at hk
  ·rename_i hu;obtain⟨b,rfl,_⟩:=DataW.trod_bool hu h;exact⟨_,.bool b,rfl,rfl,hu⟩
  ·rename_i k hu;obtain⟨n,rfl,_,hw⟩:=DataW.trod_int hu h;exact⟨_,.int k n,rfl,rfl,hu,hw⟩
  ·rename_i hu;obtain⟨s,rfl,_,hw⟩:=DataW.trod_string hu h;refine⟨_,.str s.data.toList,rfl,?_,hu,?_⟩
   ·obtain⟨⟨l⟩⟩:=s
    rfl
   ·exact hw
  ·rename_i e hu;split at hk
   ·rename_i ls hl;simp only[aaI,aaB,beq_iff_eq,aaG,decide_eq_true_eq]at hk;rcases DataW.trod_slice hu h with⟨rfl,_⟩|⟨a,len,cap,elems,rest,n,rfl,rfl,_,_,hle,hm,sV,hx,_,_⟩
    ·refine⟨_,.sl [],rfl,?_,e,ls,hu,hl,by simp,trivial⟩;simp only[a6];exact⟨none,0,rfl,Nat.le_refl _,.inl trivial⟩
    ·have ev:∀i,i<len->∃ds,ds.length=P.cellsOf e/\fb P ls ds/\∀(j:Nat) d,ds[j]? =some d->∃u,w.cell? (a.add (i*P.cellsOf e+j))=some u/\a6 (tI w) w d u:=by
      intro i hi;have h1:=hx i hi;rw[aaA (by omega)]at h1;obtain⟨cs',h2,h3⟩:=Option.bind_eq_some_iff.1 h1;obtain⟨_,h4,h5⟩:=World.cells?_some h2;obtain⟨ds,h6,h7,h8⟩:=sf (S:=S) (N:=n+1) (fun f hf t' Rc cs x fW=>ih f (by omega) t' Rc cs x fW) (aaJ n) hl hk.1.1 h3;refine⟨ds,by omega,h7,fun j d hj=>?_⟩;have iP:j<cs'.length:=by have:=(aaC.1 hj).1;omega
      have h9:=h5 j (by omega);rw[zS,aaA iP]at h9;exact⟨_,h9,h8 j d _ hj (aaA iP)⟩
     obtain⟨rows,pH,hr⟩:=uD len ev;refine⟨_,.sl rows,rfl,?_,e,ls,hu,hl,by omega,nF.mk fun r At=>?_⟩
     ·simp only[a6];refine⟨some a,cap,by rw[pH],by omega,?_⟩;by_cases h0:rows=[]
      ·exact .inl h0
      right
      have Of:0<len:=by
       cases rows with
       |nil=>exact absurd rfl h0
       |cons r rs=>simp at pH;omega
      have vO:∀i j,i<len->j<P.cellsOf e->∃u,w.cell? (a.add (i*P.cellsOf e+j))=some u:=by
       intro i j hi hj;obtain⟨ds,h1,h2,h3⟩:=ev i hi;obtain⟨u,h4,_⟩:=h3 j _ (aaA (show j<ds.length by omega));exact⟨u,h4⟩
      have fP:0<P.cellsOf e:=by omega
      have Kz:a.spot=none:=by
       obtain⟨u,h4⟩:=vO 0 0 Of fP;have:=(yU h4).1;simpa[Addr.add]using this
      have sO:∀k,a.add k=⟨a.block,a.off+k,none⟩:=by
       intro k;obtain⟨b,o,sp⟩:=a;simp only at Kz;subst Kz;unfold Addr.add;by_cases gx:k=0<;>simp[gx]
      refine⟨a.block,a.off,P.cellsOf e,congrArg some (sO 0),?_,b9.mk fun i r hi=>?_⟩
      ·obtain⟨u,h4⟩:=vO (len-1) (P.cellsOf e-1) (by omega) (by omega);have h5:=(yU h4).2;rw[sO]at h5;simp only at h5;have h6:rows.length*P.cellsOf e=(len-1)*P.cellsOf e+P.cellsOf e:=by
        rw[pH,<-Nat.succ_mul]
        congr 1;omega
       omega
      ·obtain⟨h1,h2,h3⟩:=hr i r hi;refine⟨h1,dh.mk fun j x hj=>?_⟩;obtain⟨u,h4,h5⟩:=h3 j x hj;rw[sO]at h4;exact⟨u,by rw[<-h4];congr 2;omega,h5⟩
     ·obtain⟨i,hi⟩:=aaD At;exact(hr i r hi).2.1
   ·simp at hk
  ·simp at hk
def Py (P:Program) (t:TypeId):AV->Prop
 |.c (.d x)=>DG ((P.underlying t).getD .bool)=false/\sL P t x
 |.agg xs=>DG ((P.underlying t).getD .bool)=true/\∃ls ds,uC P t=some ls/\xs=ds.map CV.d/\fb P ls ds
 |_=>False
def Jt (P:Program):List TypeId->List AV->Prop
 |[],[]=>True
 |t::ts,x::xs=>Py P t x/\Jt P ts xs
 |_,_=>False
def wW (P:Program) (S:List TypeId) (t:TypeId):Bool:=
 match P.underlying t with
 |some (.struct _)=>match uC P t with
  |some ls=>ls.all S.contains
  |none=>false
 |some .bool|some (.int _)|some .string|some (.slice _)=>S.contains t
 |_=>false
def vf (w:World):Gh:=⟨[],[],tI w⟩
theorem Fx (w:World):Inv (vf w) w [] []:=by
 refine⟨rfl,rfl,fun l row b h=>by simp at h,fun k r v h=>by simp at h,fun l l' b h=>by simp[vf]at h,fun k k' v v' b h=>by simp[vf]at h,fun l k v b h=>by simp[vf]at h,fun b hb=>?_⟩;simp only[vf,tI];rw[Array.getElem?_eq_none hb]
theorem BP {S:List TypeId} (hS:wV P S=true) {t:TypeId} (hp:wW P S t=true) {r:Reach} {b0:Nat} {v:Value} {d:DataW H} {ps:List MemPlace} (hv:Value.okWide P w r b0 t v)
  (h:DataW.Trod enc P w base spare held t v d ps):∃x,aR (vf w) w [] x v/\Py P t x:=by
 obtain⟨fuel,h⟩:=h;have leaf:t∈S->DG ((P.underlying t).getD .bool)=false->v.cells= #[v]->∃x,aR (vf w) w [] x v/\Py P t x:=by
  intro ht ha hc;rw[hc]at h;obtain⟨u,d,h1,h2,h3⟩:=sg hS fuel t ht _ _ h;simp only[List.cons.injEq,and_true]at h1;subst h1;exact⟨.c (.d d),h2,ha,h3⟩
 unfold wW at hp;split at hp
 ·rename_i fs hu;split at hp
  ·rename_i ls hl;obtain⟨cs,rfl,_⟩:=okWide_struct hu hv;simp only[aaB,aaG]at hp;obtain⟨ds,h1,h2,h3⟩:=sf (S:=S) (N:=fuel+1) (fun f _ t' Rc cs x fW=>sg hS f t' Rc cs x fW) (aaJ _) hl hp h;refine⟨.agg (ds.map CV.d),⟨cs.toList,rfl,by simpa[Value.cells]using h1.symm,fun i x u h4 h5=>?_⟩,by simp[hu,DG],ls,ds,hl,rfl,h2⟩;simp only[List.getElem?_map,aaH]at h4;obtain⟨d',h6,rfl⟩:=h4;exact h3 i d' u h6 h5
  ·simp at hp
 ·rename_i hu;obtain⟨b,rfl⟩:=okWide_bool hu hv;exact leaf (by simpa using hp) (by simp[hu,DG]) rfl
 ·rename_i k hu;obtain⟨b,rfl⟩:=okWide_int hu hv;exact leaf (by simpa using hp) (by simp[hu,DG]) rfl
 ·rename_i hu;obtain⟨b,rfl⟩:=okWide_string hu hv;exact leaf (by simpa using hp) (by simp[hu,DG]) rfl
 ·rename_i e hu;obtain⟨a,l,c,rfl⟩:=okWide_slice hu hv;exact leaf (by simpa using hp) (by simp[hu,DG]) rfl
 ·simp at hp
theorem sh {S:List TypeId} (hS:wV P S=true) {r:Reach} {b0:Nat}:∀{ts:List TypeId} {vs:List Value} {ds:List (DataW H)} {ps:List MemPlace},(∀t∈ts,wW P S t=true)->
  (∀(j:Nat) t v,ts[j]? =some t->vs[j]? =some v->Value.okWide P w r b0 t v)->DataW.TrodAll enc P w base spare held ts vs ds ps->
  ∃xs:List AV,vs.length=xs.length/\Jt P ts xs/\∀(i:Nat) x u,xs[i]? =some x->vs[i]? =some u->aR (vf w) w [] x u
 |[],vs,ds,ps,_,_,h=>by
  obtain⟨rfl,rfl,rfl⟩:=trodAll_nil h;exact⟨[],rfl,trivial,fun i x u h=>by simp at h⟩
 |t::ts,vs,ds,ps,hp,hv,h=>by
  obtain⟨v,vs1,d,ds1,a,b,rfl,rfl,rfl,h1,h2⟩:=trodAll_cons h;obtain⟨x,lu,lr⟩:=BP hS (hp t (by simp)) (hv 0 t v rfl rfl) h1;obtain⟨xs,h3,h4,h5⟩:=sh hS (fun t' ht=>hp t' (by simp[ht])) (fun j t' v' h6 h7=>hv (j+1) t' v' (by simpa using h6) (by simpa using h7)) h2;refine⟨x::xs,by simp[h3],⟨lr,h4⟩,fun i y u h6 h7=>?_⟩;cases i with
  |zero=>simp at h6 h7;subst h6;subst h7;exact lu
  |succ i=>simp at h6 h7;exact h5 i y u h6 h7
theorem qK (hl:laidOutB P=true) {W W':World} (hb:Below W.heap.size W W'):∀{ts:List TypeId} {vs:List Value} {ds:List (DataW H)} {ps:List MemPlace},(∀t∈ts,P.readableRec t=true/\t<P.types.size)->
  (∀x∈ps,x.block<W.heap.size)->DataW.TrodAll enc P W 0 (fun _=>true) true ts vs ds ps->DataW.TrodAll enc P W' 0 (fun b=>decide (b<W.heap.size)) true ts vs ds ps
 |[],vs,ds,ps,_,_,h=>by
  obtain⟨rfl,rfl,rfl⟩:=trodAll_nil h;exact trodAll_mk0
 |t::ts,vs,ds,ps,hp,ax,h=>by
  obtain⟨v,vs1,d,ds1,a,b,rfl,rfl,rfl,h1,h2⟩:=trodAll_cons h;have h3:=Below.trod hl (hp t (by simp)).1 (hp t (by simp)).2 h1 hb (fun x hx=>ax x (by simp[hx]));exact⟨a,b,h3,qK hl hb (fun t' ht=>hp t' (by simp[ht])) (fun x hx=>ax x (by simp[hx])) h2,rfl⟩
theorem ql {f:FuncId} {fn:Func} {s:ChangeSpec} {S:List TypeId} (hS:wV P S=true) (hl:laidOutB P=true) (Fy:fn.params.toList.all (fun t=>wW P S t && P.readableRec t && decide (t<P.types.size))=true)
  {tb:TypeId} (dJ:fn.resultTypes= #[tb]) (Rd:P.underlying tb=some .bool) (Ea:s.vars=[])
  (hs:∀ds:List (DataW H),ds.length=fn.params.size->s.fn H (ds++[])={results:=[.lit (.bool true)],args:=ds})
  {W:World} {b0:Nat} {args:Array Value} {ds gs:List (DataW H)} {before:List MemPlace}
  (gV:∀xs,Jt P fn.params.toList xs->ah P f xs [] (.c (.d (.bool true))) [] [])
  (Cz:∀(j:Nat) t v,fn.params[j]? =some t->args[j]? =some v->Value.okWide P W .any b0 t v)
  (hW:DataW.Whole enc P fn.params.toList s.vars false W args.toList ds gs before) (Re:As W (vf W)):
  Calls P f args W fun e W'=>∃v,e=.returned v/\s.post enc P fn false true false false W args v W':=by
 have ax:=hW.lt;have UD:=hW;obtain⟨p,q,hA,hV,rfl,By,l8⟩:=hW;rw[Ea]at hV;obtain⟨rfl,rfl⟩:=trodVars_none hV;simp only[aaB,aaI,decide_eq_true_eq]at Fy;obtain⟨xs,h1,h2,h3⟩:=sh hS (fun t ht=>(Fy t ht).1.1) (fun j t v h4 h5=>Cz j t v (by simpa using h4) (by simpa using h5)) hA;obtain⟨_,_,hc⟩:=gV xs h2;refine(hc (vf W) W args rfl (Fx W) Re (by simpa using h1) (fun i x u h4 h5=>h3 i x u h4 (by simpa using h5))).mono ?_;rintro e W' ⟨v,g',rfl,hr,hI,hF⟩;simp only[aR,di,bc,a6]at hr;subst hr;have hb:Below W.heap.size W W':=⟨hF.os,hF.tape,hF.output,hF.size,fun k hk=>hF.pF k hk (by simp[vf]) (by simp[Gh.iF,vf])⟩;have ES:ds.length=fn.params.size:=by
  have:∀{ts:List TypeId} {vs:List Value} {ds:List (DataW H)} {ps:List MemPlace},DataW.TrodAll enc P W 0 (fun _=>true) true ts vs ds ps->ds.length=ts.length:=by
   intro ts;induction ts with
   |nil=>intro vs ds ps h;obtain⟨_,rfl,_⟩:=trodAll_nil h;rfl
   |cons t ts ih=>intro vs ds ps h;obtain⟨v,vs1,d,ds1,a,b,rfl,rfl,rfl,h1,h2⟩:=trodAll_cons h;simp[ih h2]
  simpa using this hA
 have Og:=hs ds ES;refine⟨.bool true,rfl,ds,[],_,[],p,[],UD,?_,?_,?_,hb.frame _,fun h=>by simp at h⟩
 ·rw[Og,dJ];exact trodAll_mk1 (shut_bool Rd true)
 ·rw[Og];exact qK hl hb (fun t ht=>⟨(Fy t ht).1.2,(Fy t ht).2⟩) (fun x hx=>ax x (by simp[hx])) hA
 ·rw[Og,Ea]
  rfl
theorem C7 {f:FuncId} {fn:Func} {s:ChangeSpec} {S:List TypeId} (hS:wV P S=true) (hl:laidOutB P=true) (Fy:fn.params.toList.all (fun t=>wW P S t && P.readableRec t && decide (t<P.types.size))=true)
  {tb:TypeId} (dJ:fn.resultTypes= #[tb]) (Rd:P.underlying tb=some .bool) (Ea:s.vars=[])
  (hs:∀ds:List (DataW H),ds.length=fn.params.size->s.fn H (ds++[])={results:=[.lit (.bool true)],args:=ds})
  {W:World} {b0:Nat} {args:Array Value} {ds gs:List (DataW H)} {before:List MemPlace}
  (gV:∀xs,Jt P fn.params.toList xs->ah P f xs [] (.c (.d (.bool true))) [] [])
  (Cz:∀(j:Nat) t v,fn.params[j]? =some t->args[j]? =some v->Value.okWide P W .any b0 t v)
  (hW:DataW.Whole enc P fn.params.toList s.vars false W args.toList ds gs before) (gQ:KV=none/\KW=[]:=by exact⟨rfl,rfl⟩):
  Calls P f args W fun e W'=>∃v,e=.returned v/\s.post enc P fn false true false false W args v W':=
 ql hS hl Fy dJ Rd Ea hs gV Cz hW fun b hb=>hb.elim (fun h=>by rw[gQ.1]at h;cases h) (fun h=>by rw[gQ.2]at h;cases h)
end
end Go.Av
