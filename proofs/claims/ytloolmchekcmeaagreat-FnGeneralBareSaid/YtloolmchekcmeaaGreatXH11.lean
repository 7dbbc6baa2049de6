/- A part. -/
import Derived.Test.YtloolmchekcmeaaGreatXH10
import Derived.ProofKit
import Derived.Carry
set_option linter.unusedVariables false
set_option linter.unusedSimpArgs false
open List renaming getElem?_eq_getElem->VR,all_eq_true->VS,getElem?_eq_some_iff->VT,getElem?_of_mem->VU,getElem?_append_right->VV,getElem?_append_left->VW,contains_iff_mem->VX
open Option renaming map_eq_some_iff->VY
open Bool renaming and_eq_true->VZ
open Nat renaming lt_succ_self->V1
namespace Go.Av
attribute [-simp] Go.Av.bJ Go.Av.dF Go.Av.fT Go.Av.bE Go.Av.bA Go.Av.fz Go.Av.jP Go.Av.oX Go.Av.j8 Go.Av.wk Go.Av.rowsOf Go.Av.look Go.Av.qb Go.Av.St.put Go.Av.eX Go.Av.Bw Go.Av.bH Go.Av.wi Go.Av.E0 Go.Av.oW Go.Av.oV Go.Av.AB Go.Av.AV.plain Go.Av.AV.cells Go.Av.CV.hM Go.Av.lS Go.Av.fK Go.Av.iC Go.Av.er Go.Av.bC Go.Av.fA Go.Av.AV.iI Go.Av.CV.iI Go.Av.kR Go.Av.AV.ej Go.Av.CV.ej Go.Av.bq Go.Av.fL Go.Av.ie Go.Av.lG Go.Av.cG Go.Av.eD Go.Av.qY Go.Av.AV.nF Go.Av.CV.res Go.Av.me Go.Av.pos? Go.Av.sV Go.Av.s5 Go.Av.eZ Go.Av.Sub Go.Av.iu Go.Av.iJ Go.Av.fX Go.Av.e7 Go.Av.fY Go.Av.e8 Go.Av.aH.bT Go.Av.aH.bU Go.Av.an.bT Go.Av.an.jG Go.Av.an.ou Go.Av.an.re Go.Av.an.rf Go.Av.an.jh Go.Av.an.bU Go.Av.cW Go.Av.rh Go.Av.eU Go.Av.fP Go.Av.b7 Go.Av.fb Go.Av.bQ Go.Av.bw Go.Av.back Go.Av.ev Go.Av.one Go.Av.cK Go.Av.xv Go.Av.dS Go.Av.AV.dp Go.Av.CV.dp Go.Av.fS Go.Av.AV.cO Go.Av.CV.cO Go.Av.bO Go.Av.dO Go.Av.ed Go.Av.ec Go.Av.cl Go.Av.cj
open Go Go.ChangeShapes Go.WideShapes Go.ChangeAt Go.RowKit
def pG (P:Program) (L:TypeId->Option (List TypeId)):Nat->List Field->Option (List TypeId)
 |_,[]=>some []
 |off,f::r=>match L f.type with
  |some l=>if f.offset=off/\P.cellsOf f.type=l.length then(pG P L (off+l.length) r).map (l++·)else none
  |none=>none
def qG (P:Program):Nat->TypeId->Option (List TypeId)
 |0,_=>none
 |k+1,t=>match P.underlying t with
  |some (.struct fs)=>match pG P (qG P k) 0 fs.toList with
   |some ls=>if P.cellsOf t=ls.length then some ls else none
   |none=>none
  |some .bool|some (.int _)|some .string|some (.slice _)=>if P.cellsOf t=1 then some [t]else none
  |_=>none
def vM (P:Program) (t:TypeId):Option (List TypeId):=qG P 8 t
def tP (P:Program) (S:List TypeId):Bool:=S.all fun t=>
 match P.underlying t with
 |some .bool|some (.int _)|some .string=>true
 |some (.slice e)=>match vM P e with
  |some ls=>ls.all S.contains && P.cellsOf e==ls.length && decide (0<ls.length)
  |none=>false
 |_=>false
mutual
def y9 (P:Program):TypeId->DV->Prop
 |t,.int k n=>P.underlying t=some (.int k)/\(Lit.int k n).wf=true
 |t,.bool _=>P.underlying t=some .bool
 |t,.str s=>P.underlying t=some .string/\s.length<=Go.maxLen
 |t,.sl rows=>∃e ls,P.underlying t=some (.slice e)/\vM P e=some ls/\rows.length<=Go.maxLen/\lj P ls rows
 |_,.raw _=>False
def lj (P:Program):List TypeId->List (List DV)->Prop
 |_,[]=>True
 |ls,r::rs=>dZ P ls r/\lj P ls rs
def dZ (P:Program):List TypeId->List DV->Prop
 |[],[]=>True
 |t::ts,x::xs=>y9 P t x/\dZ P ts xs
 |_,_=>False
end
theorem dZ.len {P:Program}:∀{ls:List TypeId} {xs:List DV},dZ P ls xs->xs.length=ls.length
 |[],[],_=>rfl
 |_::_,_::_,h=>by simp only[dZ]at h;simp[dZ.len h.2]
 |[],_::_,h=>by simp[dZ]at h
 |_::_,[],h=>by simp[dZ]at h
theorem lj.mk {P:Program} {ls:List TypeId}:∀{rows:List (List DV)},(∀r∈rows,dZ P ls r)->lj P ls rows
 |[],_=>trivial
 |r::rs,h=>⟨h r (by simp),lj.mk fun r hr=>h r (by simp[hr])⟩
theorem lj.at_ {P:Program} {ls:List TypeId}:∀{rows:List (List DV)},lj P ls rows->∀r∈rows,dZ P ls r
 |[],_,r,hr=>by simp at hr
 |x::xs,h,r,hr=>by
  simp only[List.mem_cons]at hr;rcases hr with rfl|hr
  ·exact h.1
  ·exact lj.at_ h.2 r hr
def qH (w:World) (b:Nat):Nat:=match w.heap[b]? with
 |some (.cells cs _ _)=>cs.size
 |_=>0
theorem vN {w:World} {a:Addr} {v:Value} (h:w.cell? a=some v):a.spot=none/\a.off<qH w a.block:=by
 unfold World.cell? at h;split at h
 ·rename_i c _ _ hb;split at h
  ·simp at h
  ·rename_i hs;refine⟨by simpa using hs,?_⟩;simp only[qH,hb];exact(Array.getElem?_eq_some_iff.1 h).1
 ·simp at h
theorem dZ.append {P:Program}:∀{ls ls':List TypeId} {xs xs':List DV},dZ P ls xs->dZ P ls' xs'->dZ P (ls++ls') (xs++xs')
 |[],_,[],_,_,h=>h
 |_::_,_,_::_,_,h,h'=>by
  simp only[dZ]at h;simp only[List.cons_append,dZ];exact⟨h.1,dZ.append h.2 h'⟩
 |[],_,_::_,_,h,_=>by simp[dZ]at h
 |_::_,_,[],_,h,_=>by simp[dZ]at h
section
variable {H:Type} {enc:TypeId×Value->H} {P:Program} {w:World} {base:Nat} {spare:Nat->Bool} {held:Bool}
theorem rD {α:Type} {p:Nat->α->Prop}:∀(n:Nat),(∀i,i<n->∃x,p i x)->∃l:List α,l.length=n/\∀(i:Nat) x,l[i]? =some x->p i x
 |0,_=>⟨[],rfl,fun i x h=>by simp at h⟩
 |n+1,h=>by
  obtain⟨l,h1,h2⟩:=rD n fun i hi=>h i (by omega)
  obtain⟨x,hx⟩:=h n (by omega);refine⟨l++[x],by simp[h1],fun i y hy=>?_⟩;by_cases hi:i<l.length
  ·rw[VW hi]at hy;exact h2 i y hy
  ·rw[VV (by omega)]at hy;have:i-l.length=0:=by
    have:=(VT.1 hy).1;simp at this;omega
   rw[this]at hy;simp at hy;subst hy;rw[show i=n by omega];exact hx
theorem lO {S:List TypeId} {L:TypeId->Option (List TypeId)} {n:Nat} {cs:List Value}
  (ih:∀e ls,L e=some ls->(∀t∈ls,t∈S)->∀cs' (y:DataW H×List MemPlace),DataW.trod enc P w base spare held n e cs'=some y->∃ds,ds.length=cs'.length/\dZ P ls ds/\∀(j:Nat) d u,ds[j]? =some d->cs'[j]? =some u->bc (qH w) w d u):
  ∀{fs:List Field} {off:Nat} {ls:List TypeId},pG P L off fs=some ls->(∀t∈ls,t∈S)->(∀f∈fs,∃y:DataW H×List MemPlace,DataW.trod enc P w base spare held n f.type ((cs.drop f.offset).take (P.cellsOf f.type))=some y)->off+ls.length<=cs.length->
   ∃ds,ds.length=ls.length/\dZ P ls ds/\∀(j:Nat) d u,ds[j]? =some d->cs[off+j]? =some u->bc (qH w) w d u
 |[],off,ls,h,_,_,_=>by
  simp[pG]at h;subst h;exact⟨[],rfl,trivial,fun j d u h=>by simp at h⟩
 |f::fs,off,ls,h,hs,ht,hle=>by
  simp only[pG]at h;split at h
  ·rename_i l hl;split at h
   ·rename_i I3;simp only[VY]at h;obtain⟨ls',h1,rfl⟩:=h;obtain⟨y,hy⟩:=ht f (by simp);simp only[List.length_append]at hle;obtain⟨ds,h2,h3,h4⟩:=ih f.type l hl (fun t h=>hs t (by simp[h])) _ y hy;obtain⟨ds',h5,h6,h7⟩:=lO ih h1 (fun t h=>hs t (by simp[h])) (fun f' h=>ht f' (by simp[h])) (by omega);have hlen:ds.length=l.length:=dZ.len h3;refine⟨ds++ds',by simp[hlen,h5],dZ.append h3 h6,fun j d u h8 h9=>?_⟩;by_cases hj:j<ds.length
    ·rw[VW hj]at h8;refine h4 j d u h8 ?_;rw[I3.1,I3.2,List.getElem?_take,if_pos (by omega),List.getElem?_drop];exact h9
    ·rw[VV (by omega)]at h8;refine h7 (j-ds.length) d u h8 ?_;rw[<-h9];congr 1;omega
   ·simp at h
  ·simp at h
theorem nW {S:List TypeId} {N:Nat} (ih:∀fuel,fuel<N->∀t,t∈S->∀cs x,DataW.trod enc P w base spare held fuel t cs=some x->∃u d,cs=[u]/\bc (qH w) w d u/\y9 P t d):
  ∀(k fuel:Nat),fuel<N->∀(e:TypeId) (ls:List TypeId),qG P k e=some ls->(∀t∈ls,t∈S)->∀(cs:List Value) (y:DataW H×List MemPlace),DataW.trod enc P w base spare held fuel e cs=some y->
  ∃ds,ds.length=cs.length/\dZ P ls ds/\∀(j:Nat) d u,ds[j]? =some d->cs[j]? =some u->bc (qH w) w d u
 |0,_,_,e,ls,hl,_,_,_,_=>by simp[qG]at hl
 |k+1,fuel,hN,e,ls,hl,hs,cs,y,h=>by
  have one:ls=[e]->∃ds,ds.length=cs.length/\dZ P ls ds/\∀(j:Nat) d u,ds[j]? =some d->cs[j]? =some u->bc (qH w) w d u:=by
   intro he;subst he;obtain⟨u,d,rfl,h1,h2⟩:=ih fuel hN e (hs e (by simp)) cs y h;refine⟨[d],rfl,⟨h2,trivial⟩,fun j d' u' h3 h4=>?_⟩;cases j with
   |zero=>simp at h3 h4;subst h3;subst h4;exact h1
   |succ j=>simp at h3
  unfold qG at hl;split at hl
  ·rename_i fs hu;split at hl
   ·rename_i ls' EF;split at hl
    ·rename_i fw;simp only[Option.some.injEq]at hl;subst hl;obtain⟨xs,n,rfl,rfl,sQ,EZ,hf⟩:=DataW.trod_struct hu h;obtain⟨ds,h1,h2,h3⟩:=lO (S:=S) (L:=qG P k) (n:=n) (cs:=cs) (enc:=enc) (base:=base) (spare:=spare) (held:=held) (fun e ls hl hs cs' y hy=>nW ih k n (by omega) e ls hl hs cs' y hy) EF hs (fun f QI=>by
      obtain⟨i,hi⟩:=VU QI;have h6:=hf i f (Array.getElem?_toList.symm.trans hi);have y0:i<xs.length:=by
       rw[EZ,<-Array.length_toList];exact(VT.1 hi).1
      rw[VR y0]at h6;exact⟨_,h6⟩) (by omega)
     exact⟨ds,by omega,h2,fun j d u h4 h5=>h3 j d u h4 (by rw[Nat.zero_add];exact h5)⟩
    ·simp at hl
   ·simp at hl
  ·split at hl
   ·simp at hl;exact one hl.symm
   ·simp at hl
  ·split at hl
   ·simp at hl;exact one hl.symm
   ·simp at hl
  ·split at hl
   ·simp at hl;exact one hl.symm
   ·simp at hl
  ·split at hl
   ·simp at hl;exact one hl.symm
   ·simp at hl
  ·simp at hl
theorem pH {S:List TypeId} {N:Nat} (ih:∀fuel,fuel<N->∀t,t∈S->∀cs x,DataW.trod enc P w base spare held fuel t cs=some x->∃u d,cs=[u]/\bc (qH w) w d u/\y9 P t d) {fuel:Nat} (hN:fuel<N)
  {e:TypeId} {ls:List TypeId} (hl:vM P e=some ls) (hs:∀t∈ls,t∈S) {cs:List Value} {y:DataW H×List MemPlace} (h:DataW.trod enc P w base spare held fuel e cs=some y):
  ∃ds,ds.length=cs.length/\dZ P ls ds/\∀(j:Nat) d u,ds[j]? =some d->cs[j]? =some u->bc (qH w) w d u:=nW ih 8 fuel hN e ls hl hs cs y h
theorem wJ (a:Addr) (i j:Nat):(a.add i).add j=a.add (i+j):=by
 unfold Addr.add;by_cases hi:i=0<;>by_cases hj:j=0<;>simp[hi,hj,Nat.add_assoc]
theorem pI {S:List TypeId} (hS:tP P S=true):∀(fuel:Nat) (t:TypeId),t∈S->∀cs x,DataW.trod enc P w base spare held fuel t cs=some x->∃u d,cs=[u]/\bc (qH w) w d u/\y9 P t d:=by
 intro fuel;induction fuel using Nat.strongRecOn with
 |_ fuel ih=>
  intro t ht cs x h;have hk:=VS.1 hS t ht;split at hk
  ·rename_i hu;obtain⟨b,rfl,_⟩:=DataW.trod_bool hu h;exact⟨_,.bool b,rfl,rfl,hu⟩
  ·rename_i k hu;obtain⟨n,rfl,_,hw⟩:=DataW.trod_int hu h;exact⟨_,.int k n,rfl,rfl,hu,hw⟩
  ·rename_i hu;obtain⟨s,rfl,_,hw⟩:=DataW.trod_string hu h;refine⟨_,.str s.data.toList,rfl,?_,hu,?_⟩
   ·obtain⟨⟨l⟩⟩:=s
    rfl
   ·exact hw
  ·rename_i e hu;split at hk
   ·rename_i ls hl;simp only[VZ,VS,beq_iff_eq,VX,decide_eq_true_eq]at hk;rcases DataW.trod_slice hu h with⟨rfl,_⟩|⟨a,len,cap,elems,rest,n,rfl,rfl,_,_,hle,hm,uA,hx,_,_⟩
    ·refine⟨_,.sl [],rfl,?_,e,ls,hu,hl,by simp,trivial⟩;simp only[bc];exact⟨none,0,rfl,Nat.le_refl _,.inl trivial⟩
    ·have cV:∀i,i<len->∃ds,ds.length=P.cellsOf e/\dZ P ls ds/\∀(j:Nat) d,ds[j]? =some d->∃u,w.cell? (a.add (i*P.cellsOf e+j))=some u/\bc (qH w) w d u:=by
      intro i hi;have h1:=hx i hi;rw[VR (by omega)]at h1;obtain⟨cs',h2,h3⟩:=Option.bind_eq_some_iff.1 h1;obtain⟨_,h4,h5⟩:=World.cells?_some h2;obtain⟨ds,h6,h7,h8⟩:=pH (S:=S) (N:=n+1) (fun f hf t' HP cs x jc=>ih f (by omega) t' HP cs x jc) (V1 n) hl hk.1.1 h3;refine⟨ds,by omega,h7,fun j d hj=>?_⟩;have kf:j<cs'.length:=by have:=(VT.1 hj).1;omega
      have h9:=h5 j (by omega);rw[wJ,VR kf]at h9;exact⟨_,h9,h8 j d _ hj (VR kf)⟩
     obtain⟨rows,kI,hr⟩:=rD len cV;refine⟨_,.sl rows,rfl,?_,e,ls,hu,hl,by omega,lj.mk fun r xq=>?_⟩
     ·simp only[bc];refine⟨some a,cap,by rw[kI],by omega,?_⟩;by_cases h0:rows=[]
      ·exact .inl h0
      right
      have Kn:0<len:=by
       cases rows with
       |nil=>exact absurd rfl h0
       |cons r rs=>simp at kI;omega
      have ED:∀i j,i<len->j<P.cellsOf e->∃u,w.cell? (a.add (i*P.cellsOf e+j))=some u:=by
       intro i j hi hj;obtain⟨ds,h1,h2,h3⟩:=cV i hi;obtain⟨u,h4,_⟩:=h3 j _ (VR (show j<ds.length by omega));exact⟨u,h4⟩
      have uK:0<P.cellsOf e:=by omega
      have GQ:a.spot=none:=by
       obtain⟨u,h4⟩:=ED 0 0 Kn uK;have:=(vN h4).1;simpa[Addr.add]using this
      have od:∀k,a.add k=⟨a.block,a.off+k,none⟩:=by
       intro k;obtain⟨b,o,sp⟩:=a;simp only at GQ;subst GQ;unfold Addr.add;by_cases iT:k=0<;>simp[iT]
      refine⟨a.block,a.off,P.cellsOf e,congrArg some (od 0),?_,bS.mk fun i r hi=>?_⟩
      ·obtain⟨u,h4⟩:=ED (len-1) (P.cellsOf e-1) (by omega) (by omega);have h5:=(vN h4).2;rw[od]at h5;simp only at h5;have h6:rows.length*P.cellsOf e=(len-1)*P.cellsOf e+P.cellsOf e:=by
        rw[kI,<-Nat.succ_mul]
        congr 1;omega
       omega
      ·obtain⟨h1,h2,h3⟩:=hr i r hi;refine⟨h1,cA.mk fun j x hj=>?_⟩;obtain⟨u,h4,h5⟩:=h3 j x hj;rw[od]at h4;exact⟨u,by rw[<-h4];congr 2;omega,h5⟩
     ·obtain⟨i,hi⟩:=VU xq;exact(hr i r hi).2.1
   ·simp at hk
  ·simp at hk
def Ko (P:Program) (t:TypeId):AV->Prop
 |.c (.d x)=>AA ((P.underlying t).getD .bool)=false/\y9 P t x
 |.agg xs=>AA ((P.underlying t).getD .bool)=true/\∃ls ds,vM P t=some ls/\xs=ds.map CV.d/\dZ P ls ds
 |_=>False
def FH (P:Program):List TypeId->List AV->Prop
 |[],[]=>True
 |t::ts,x::xs=>Ko P t x/\FH P ts xs
 |_,_=>False
def tQ (P:Program) (S:List TypeId) (t:TypeId):Bool:=
 match P.underlying t with
 |some (.struct _)=>match vM P t with
  |some ls=>ls.all S.contains
  |none=>false
 |some .bool|some (.int _)|some .string|some (.slice _)=>S.contains t
 |_=>false
def rY (w:World):Gh:=⟨[],[],qH w⟩
theorem Cb (w:World):Inv (rY w) w [] []:=by
 refine⟨rfl,rfl,fun l row b h=>by simp at h,fun k r v h=>by simp at h,fun l l' b h=>by simp[rY]at h,fun k k' v v' b h=>by simp[rY]at h,fun l k v b h=>by simp[rY]at h,fun b hb=>?_⟩;simp only[rY,qH];rw[Array.getElem?_eq_none hb]
theorem yz {S:List TypeId} (hS:tP P S=true) {t:TypeId} (hp:tQ P S t=true) {r:Reach} {b0:Nat} {v:Value} {d:DataW H} {ps:List MemPlace} (hv:Value.okWide P w r b0 t v)
  (h:DataW.Trod enc P w base spare held t v d ps):∃x,aU (rY w) w [] x v/\Ko P t x:=by
 obtain⟨fuel,h⟩:=h;have leaf:t∈S->AA ((P.underlying t).getD .bool)=false->v.cells= #[v]->∃x,aU (rY w) w [] x v/\Ko P t x:=by
  intro ht ha hc;rw[hc]at h;obtain⟨u,d,h1,h2,h3⟩:=pI hS fuel t ht _ _ h;simp only[List.cons.injEq,and_true]at h1;subst h1;exact⟨.c (.d d),h2,ha,h3⟩
 unfold tQ at hp;split at hp
 ·rename_i fs hu;split at hp
  ·rename_i ls hl;obtain⟨cs,rfl,_⟩:=okWide_struct hu hv;simp only[VS,VX]at hp;obtain⟨ds,h1,h2,h3⟩:=pH (S:=S) (N:=fuel+1) (fun f _ t' HP cs x jc=>pI hS f t' HP cs x jc) (V1 _) hl hp h;refine⟨.agg (ds.map CV.d),⟨cs.toList,rfl,by simpa[Value.cells]using h1.symm,fun i x u h4 h5=>?_⟩,by simp[hu,AA],ls,ds,hl,rfl,h2⟩;simp only[List.getElem?_map,VY]at h4;obtain⟨d',h6,rfl⟩:=h4;exact h3 i d' u h6 h5
  ·simp at hp
 ·rename_i hu;obtain⟨b,rfl⟩:=okWide_bool hu hv;exact leaf (by simpa using hp) (by simp[hu,AA]) rfl
 ·rename_i k hu;obtain⟨b,rfl⟩:=okWide_int hu hv;exact leaf (by simpa using hp) (by simp[hu,AA]) rfl
 ·rename_i hu;obtain⟨b,rfl⟩:=okWide_string hu hv;exact leaf (by simpa using hp) (by simp[hu,AA]) rfl
 ·rename_i e hu;obtain⟨a,l,c,rfl⟩:=okWide_slice hu hv;exact leaf (by simpa using hp) (by simp[hu,AA]) rfl
 ·simp at hp
theorem pJ {S:List TypeId} (hS:tP P S=true) {r:Reach} {b0:Nat}:∀{ts:List TypeId} {vs:List Value} {ds:List (DataW H)} {ps:List MemPlace},(∀t∈ts,tQ P S t=true)->
  (∀(j:Nat) t v,ts[j]? =some t->vs[j]? =some v->Value.okWide P w r b0 t v)->DataW.TrodAll enc P w base spare held ts vs ds ps->
  ∃xs:List AV,vs.length=xs.length/\FH P ts xs/\∀(i:Nat) x u,xs[i]? =some x->vs[i]? =some u->aU (rY w) w [] x u
 |[],vs,ds,ps,_,_,h=>by
  obtain⟨rfl,rfl,rfl⟩:=trodAll_nil h;exact⟨[],rfl,trivial,fun i x u h=>by simp at h⟩
 |t::ts,vs,ds,ps,hp,hv,h=>by
  obtain⟨v,vs1,d,ds1,a,b,rfl,rfl,rfl,h1,h2⟩:=trodAll_cons h;obtain⟨x,cJ,gA⟩:=yz hS (hp t (by simp)) (hv 0 t v rfl rfl) h1;obtain⟨xs,h3,h4,h5⟩:=pJ hS (fun t' ht=>hp t' (by simp[ht])) (fun j t' v' h6 h7=>hv (j+1) t' v' (by simpa using h6) (by simpa using h7)) h2;refine⟨x::xs,by simp[h3],⟨gA,h4⟩,fun i y u h6 h7=>?_⟩;cases i with
  |zero=>simp at h6 h7;subst h6;subst h7;exact cJ
  |succ i=>simp at h6 h7;exact h5 i y u h6 h7
theorem nX (hl:laidOutB P=true) {W W':World} (hb:Below W.heap.size W W'):∀{ts:List TypeId} {vs:List Value} {ds:List (DataW H)} {ps:List MemPlace},(∀t∈ts,P.readableRec t=true/\t<P.types.size)->
  (∀x∈ps,x.block<W.heap.size)->DataW.TrodAll enc P W 0 (fun _=>true) true ts vs ds ps->DataW.TrodAll enc P W' 0 (fun b=>decide (b<W.heap.size)) true ts vs ds ps
 |[],vs,ds,ps,_,_,h=>by
  obtain⟨rfl,rfl,rfl⟩:=trodAll_nil h;exact trodAll_mk0
 |t::ts,vs,ds,ps,hp,aC,h=>by
  obtain⟨v,vs1,d,ds1,a,b,rfl,rfl,rfl,h1,h2⟩:=trodAll_cons h;have h3:=Below.trod hl (hp t (by simp)).1 (hp t (by simp)).2 h1 hb (fun x hx=>aC x (by simp[hx]));exact⟨a,b,h3,nX hl hb (fun t' ht=>hp t' (by simp[ht])) (fun x hx=>aC x (by simp[hx])) h2,rfl⟩
theorem nK {f:FuncId} {fn:Func} {s:ChangeSpec} {S:List TypeId} (hS:tP P S=true) (hl:laidOutB P=true) (Cc:fn.params.toList.all (fun t=>tQ P S t && P.readableRec t && decide (t<P.types.size))=true)
  {tb:TypeId} (gl:fn.resultTypes= #[tb]) (Nt:P.underlying tb=some .bool) (AX:s.vars=[])
  (hs:∀ds:List (DataW H),ds.length=fn.params.size->s.fn H (ds++[])={results:=[.lit (.bool true)],args:=ds})
  {W:World} {b0:Nat} {args:Array Value} {ds gs:List (DataW H)} {before:List MemPlace}
  (kj:∀xs,FH P fn.params.toList xs->ah P f xs [] (.c (.d (.bool true))) [] [])
  (zp:∀(j:Nat) t v,fn.params[j]? =some t->args[j]? =some v->Value.okWide P W .any b0 t v)
  (hW:DataW.Whole enc P fn.params.toList s.vars false W args.toList ds gs before) (Nu:zg W (rY W)):
  Calls P f args W fun e W'=>∃v,e=.returned v/\s.post enc P fn false true false false W args v W':=by
 have aC:=hW.lt;have QJ:=hW;obtain⟨p,q,hA,hV,rfl,DK,pY⟩:=hW;rw[AX]at hV;obtain⟨rfl,rfl⟩:=trodVars_none hV;simp only[VS,VZ,decide_eq_true_eq]at Cc;obtain⟨xs,h1,h2,h3⟩:=pJ hS (fun t ht=>(Cc t ht).1.1) (fun j t v h4 h5=>zp j t v (by simpa using h4) (by simpa using h5)) hA;obtain⟨_,_,hc⟩:=kj xs h2;refine(hc (rY W) W args rfl (Cb W) Nu (by simpa using h1) (fun i x u h4 h5=>h3 i x u h4 (by simpa using h5))).mono ?_;rintro e W' ⟨v,g',rfl,hr,hI,hF⟩;simp only[aU,c7,bj,bc]at hr;subst hr;have hb:Below W.heap.size W W':=⟨hF.os,hF.tape,hF.output,hF.size,fun k hk=>hF.oO k hk (by simp[rY]) (by simp[Gh.gC,rY])⟩;have Jm:ds.length=fn.params.size:=by
  have:∀{ts:List TypeId} {vs:List Value} {ds:List (DataW H)} {ps:List MemPlace},DataW.TrodAll enc P W 0 (fun _=>true) true ts vs ds ps->ds.length=ts.length:=by
   intro ts;induction ts with
   |nil=>intro vs ds ps h;obtain⟨_,rfl,_⟩:=trodAll_nil h;rfl
   |cons t ts ih=>intro vs ds ps h;obtain⟨v,vs1,d,ds1,a,b,rfl,rfl,rfl,h1,h2⟩:=trodAll_cons h;simp[ih h2]
  simpa using this hA
 have GS:=hs ds Jm;refine⟨.bool true,rfl,ds,[],_,[],p,[],QJ,?_,?_,?_,hb.frame _,fun h=>by simp at h⟩
 ·rw[GS,gl];exact trodAll_mk1 (shut_bool Nt true)
 ·rw[GS];exact nX hl hb (fun t ht=>⟨(Cc t ht).1.2,(Cc t ht).2⟩) (fun x hx=>aC x (by simp[hx])) hA
 ·rw[GS,AX]
  rfl
theorem zQ {f:FuncId} {fn:Func} {s:ChangeSpec} {S:List TypeId} (hS:tP P S=true) (hl:laidOutB P=true) (Cc:fn.params.toList.all (fun t=>tQ P S t && P.readableRec t && decide (t<P.types.size))=true)
  {tb:TypeId} (gl:fn.resultTypes= #[tb]) (Nt:P.underlying tb=some .bool) (AX:s.vars=[])
  (hs:∀ds:List (DataW H),ds.length=fn.params.size->s.fn H (ds++[])={results:=[.lit (.bool true)],args:=ds})
  {W:World} {b0:Nat} {args:Array Value} {ds gs:List (DataW H)} {before:List MemPlace}
  (kj:∀xs,FH P fn.params.toList xs->ah P f xs [] (.c (.d (.bool true))) [] [])
  (zp:∀(j:Nat) t v,fn.params[j]? =some t->args[j]? =some v->Value.okWide P W .any b0 t v)
  (hW:DataW.Whole enc P fn.params.toList s.vars false W args.toList ds gs before) (fx:Hg=none/\Hh=[]:=by exact⟨rfl,rfl⟩):
  Calls P f args W fun e W'=>∃v,e=.returned v/\s.post enc P fn false true false false W args v W':=
 nK hS hl Cc gl Nt AX hs kj zp hW fun b hb=>hb.elim (fun h=>by rw[fx.1]at h;cases h) (fun h=>by rw[fx.2]at h;cases h)
end
end Go.Av
