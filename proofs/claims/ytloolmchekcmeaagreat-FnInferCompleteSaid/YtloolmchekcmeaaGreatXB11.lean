/- A part. -/
import Derived.Test.YtloolmchekcmeaaGreatXB10
import Derived.ProofKit
import Derived.Carry
set_option linter.unusedVariables false
set_option linter.unusedSimpArgs false
open List renaming getElem?_eq_getElem->aaJ,all_eq_true->aaK,getElem?_eq_some_iff->aaL,getElem?_of_mem->aaM,getElem?_append_right->aaN,getElem?_append_left->aaO,contains_iff_mem->aaP
open Option renaming map_eq_some_iff->aaQ
open Bool renaming and_eq_true->aaR
open Nat renaming lt_succ_self->aaS
namespace Go.Av
attribute [-simp] Go.Av.bI Go.Av.eS Go.Av.iv Go.Av.bU Go.Av.bF Go.Av.iz Go.Av.mz Go.Av.rX Go.Av.mO Go.Av.z6 Go.Av.rowsOf Go.Av.look Go.Av.tq Go.Av.St.put Go.Av.gQ Go.Av.Fy Go.Av.b9 Go.Av.zY Go.Av.Jk Go.Av.rW Go.Av.rV Go.Av.EA Go.Av.AV.plain Go.Av.AV.cells Go.Av.CV.j5 Go.Av.nE Go.Av.iL Go.Av.kJ Go.Av.fM Go.Av.bQ Go.Av.ib Go.Av.AV.kT Go.Av.CV.kT Go.Av.qD Go.Av.AV.fS Go.Av.CV.fS Go.Av.bA Go.Av.iM Go.Av.kk Go.Av.oE Go.Av.cO Go.Av.fu Go.Av.uQ Go.Av.AV.qF Go.Av.CV.res Go.Av.se Go.Av.pos? Go.Av.wD Go.Av.wJ Go.Av.gR Go.Av.Sub Go.Av.kL Go.Av.kU Go.Av.ja Go.Av.gV Go.Av.jb Go.Av.gW Go.Av.aG.b4 Go.Av.aG.bP Go.Av.al.b4 Go.Av.al.mf Go.Av.al.rk Go.Av.al.sj Go.Av.al.sk Go.Av.al.lD Go.Av.al.bP Go.Av.dI Go.Av.rS Go.Av.iE Go.Av.iy Go.Av.cU Go.Av.ic Go.Av.ck Go.Av.bK Go.Av.back Go.Av.fD Go.Av.one Go.Av.dJ Go.Av.yH Go.Av.fb Go.Av.AV.eH Go.Av.CV.eH Go.Av.iX Go.Av.AV.dO Go.Av.CV.dO Go.Av.cj Go.Av.e0 Go.Av.fH Go.Av.fy Go.Av.cW Go.Av.cg
open Go Go.ChangeShapes Go.WideShapes Go.ChangeAt Go.RowKit
def sN (P:Program) (L:TypeId->Option (List TypeId)):Nat->List Field->Option (List TypeId)
 |_,[]=>some []
 |off,f::r=>match L f.type with
  |some l=>if f.offset=off/\P.cellsOf f.type=l.length then(sN P L (off+l.length) r).map (l++·)else none
  |none=>none
def uf (P:Program):Nat->TypeId->Option (List TypeId)
 |0,_=>none
 |k+1,t=>match P.underlying t with
  |some (.struct fs)=>match sN P (uf P k) 0 fs.toList with
   |some ls=>if P.cellsOf t=ls.length then some ls else none
   |none=>none
  |some .bool|some (.int _)|some .string|some (.slice _)=>if P.cellsOf t=1 then some [t]else none
  |_=>none
def zF (P:Program) (t:TypeId):Option (List TypeId):=uf P 8 t
def xx (P:Program) (S:List TypeId):Bool:=S.all fun t=>
 match P.underlying t with
 |some .bool|some (.int _)|some .string=>true
 |some (.slice e)=>match zF P e with
  |some ls=>ls.all S.contains && P.cellsOf e==ls.length && decide (0<ls.length)
  |none=>false
 |_=>false
mutual
def C8 (P:Program):TypeId->DV->Prop
 |t,.int k n=>P.underlying t=some (.int k)/\(Lit.int k n).wf=true
 |t,.bool _=>P.underlying t=some .bool
 |t,.str s=>P.underlying t=some .string/\s.length<=Go.maxLen
 |t,.sl rows=>∃e ls,P.underlying t=some (.slice e)/\zF P e=some ls/\rows.length<=Go.maxLen/\oh P ls rows
 |_,.raw _=>False
def oh (P:Program):List TypeId->List (List DV)->Prop
 |_,[]=>True
 |ls,r::rs=>fq P ls r/\oh P ls rs
def fq (P:Program):List TypeId->List DV->Prop
 |[],[]=>True
 |t::ts,x::xs=>C8 P t x/\fq P ts xs
 |_,_=>False
end
theorem fq.len {P:Program}:∀{ls:List TypeId} {xs:List DV},fq P ls xs->xs.length=ls.length
 |[],[],_=>rfl
 |_::_,_::_,h=>by simp only[fq]at h;simp[fq.len h.2]
 |[],_::_,h=>by simp[fq]at h
 |_::_,[],h=>by simp[fq]at h
theorem oh.mk {P:Program} {ls:List TypeId}:∀{rows:List (List DV)},(∀r∈rows,fq P ls r)->oh P ls rows
 |[],_=>trivial
 |r::rs,h=>⟨h r (by simp),oh.mk fun r hr=>h r (by simp[hr])⟩
theorem oh.at_ {P:Program} {ls:List TypeId}:∀{rows:List (List DV)},oh P ls rows->∀r∈rows,fq P ls r
 |[],_,r,hr=>by simp at hr
 |x::xs,h,r,hr=>by
  simp only[List.mem_cons]at hr;rcases hr with rfl|hr
  ·exact h.1
  ·exact oh.at_ h.2 r hr
def ug (w:World) (b:Nat):Nat:=match w.heap[b]? with
 |some (.cells cs _ _)=>cs.size
 |_=>0
theorem zG {w:World} {a:Addr} {v:Value} (h:w.cell? a=some v):a.spot=none/\a.off<ug w a.block:=by
 unfold World.cell? at h;split at h
 ·rename_i c _ _ hb;split at h
  ·simp at h
  ·rename_i hs;refine⟨by simpa using hs,?_⟩;simp only[ug,hb];exact(Array.getElem?_eq_some_iff.1 h).1
 ·simp at h
theorem fq.append {P:Program}:∀{ls ls':List TypeId} {xs xs':List DV},fq P ls xs->fq P ls' xs'->fq P (ls++ls') (xs++xs')
 |[],_,[],_,_,h=>h
 |_::_,_,_::_,_,h,h'=>by
  simp only[fq]at h;simp only[List.cons_append,fq];exact⟨h.1,fq.append h.2 h'⟩
 |[],_,_::_,_,h,_=>by simp[fq]at h
 |_::_,_,[],_,h,_=>by simp[fq]at h
section
variable {H:Type} {enc:TypeId×Value->H} {P:Program} {w:World} {base:Nat} {spare:Nat->Bool} {held:Bool}
theorem vj {α:Type} {p:Nat->α->Prop}:∀(n:Nat),(∀i,i<n->∃x,p i x)->∃l:List α,l.length=n/\∀(i:Nat) x,l[i]? =some x->p i x
 |0,_=>⟨[],rfl,fun i x h=>by simp at h⟩
 |n+1,h=>by
  obtain⟨l,h1,h2⟩:=vj n fun i hi=>h i (by omega)
  obtain⟨x,hx⟩:=h n (by omega);refine⟨l++[x],by simp[h1],fun i y hy=>?_⟩;by_cases hi:i<l.length
  ·rw[aaO hi]at hy;exact h2 i y hy
  ·rw[aaN (by omega)]at hy;have:i-l.length=0:=by
    have:=(aaL.1 hy).1;simp at this;omega
   rw[this]at hy;simp at hy;subst hy;rw[show i=n by omega];exact hx
theorem oJ {S:List TypeId} {L:TypeId->Option (List TypeId)} {n:Nat} {cs:List Value}
  (ih:∀e ls,L e=some ls->(∀t∈ls,t∈S)->∀cs' (y:DataW H×List MemPlace),DataW.trod enc P w base spare held n e cs'=some y->∃ds,ds.length=cs'.length/\fq P ls ds/\∀(j:Nat) d u,ds[j]? =some d->cs'[j]? =some u->bh (ug w) w d u):
  ∀{fs:List Field} {off:Nat} {ls:List TypeId},sN P L off fs=some ls->(∀t∈ls,t∈S)->(∀f∈fs,∃y:DataW H×List MemPlace,DataW.trod enc P w base spare held n f.type ((cs.drop f.offset).take (P.cellsOf f.type))=some y)->off+ls.length<=cs.length->
   ∃ds,ds.length=ls.length/\fq P ls ds/\∀(j:Nat) d u,ds[j]? =some d->cs[off+j]? =some u->bh (ug w) w d u
 |[],off,ls,h,_,_,_=>by
  simp[sN]at h;subst h;exact⟨[],rfl,trivial,fun j d u h=>by simp at h⟩
 |f::fs,off,ls,h,hs,ht,hle=>by
  simp only[sN]at h;split at h
  ·rename_i l hl;split at h
   ·rename_i EZ;simp only[aaQ]at h;obtain⟨ls',h1,rfl⟩:=h;obtain⟨y,hy⟩:=ht f (by simp);simp only[List.length_append]at hle;obtain⟨ds,h2,h3,h4⟩:=ih f.type l hl (fun t h=>hs t (by simp[h])) _ y hy;obtain⟨ds',h5,h6,h7⟩:=oJ ih h1 (fun t h=>hs t (by simp[h])) (fun f' h=>ht f' (by simp[h])) (by omega);have hlen:ds.length=l.length:=fq.len h3;refine⟨ds++ds',by simp[hlen,h5],fq.append h3 h6,fun j d u h8 h9=>?_⟩;by_cases hj:j<ds.length
    ·rw[aaO hj]at h8;refine h4 j d u h8 ?_;rw[EZ.1,EZ.2,List.getElem?_take,if_pos (by omega),List.getElem?_drop];exact h9
    ·rw[aaN (by omega)]at h8;refine h7 (j-ds.length) d u h8 ?_;rw[<-h9];congr 1;omega
   ·simp at h
  ·simp at h
theorem qS {S:List TypeId} {N:Nat} (ih:∀fuel,fuel<N->∀t,t∈S->∀cs x,DataW.trod enc P w base spare held fuel t cs=some x->∃u d,cs=[u]/\bh (ug w) w d u/\C8 P t d):
  ∀(k fuel:Nat),fuel<N->∀(e:TypeId) (ls:List TypeId),uf P k e=some ls->(∀t∈ls,t∈S)->∀(cs:List Value) (y:DataW H×List MemPlace),DataW.trod enc P w base spare held fuel e cs=some y->
  ∃ds,ds.length=cs.length/\fq P ls ds/\∀(j:Nat) d u,ds[j]? =some d->cs[j]? =some u->bh (ug w) w d u
 |0,_,_,e,ls,hl,_,_,_,_=>by simp[uf]at hl
 |k+1,fuel,hN,e,ls,hl,hs,cs,y,h=>by
  have one:ls=[e]->∃ds,ds.length=cs.length/\fq P ls ds/\∀(j:Nat) d u,ds[j]? =some d->cs[j]? =some u->bh (ug w) w d u:=by
   intro he;subst he;obtain⟨u,d,rfl,h1,h2⟩:=ih fuel hN e (hs e (by simp)) cs y h;refine⟨[d],rfl,⟨h2,trivial⟩,fun j d' u' h3 h4=>?_⟩;cases j with
   |zero=>simp at h3 h4;subst h3;subst h4;exact h1
   |succ j=>simp at h3
  unfold uf at hl;split at hl
  ·rename_i fs hu;split at hl
   ·rename_i ls' I5;split at hl
    ·rename_i e5;simp only[Option.some.injEq]at hl;subst hl;obtain⟨xs,n,rfl,rfl,kS,Jj,hf⟩:=DataW.trod_struct hu h;obtain⟨ds,h1,h2,h3⟩:=oJ (S:=S) (L:=uf P k) (n:=n) (cs:=cs) (enc:=enc) (base:=base) (spare:=spare) (held:=held) (fun e ls hl hs cs' y hy=>qS ih k n (by omega) e ls hl hs cs' y hy) I5 hs (fun f U5=>by
      obtain⟨i,hi⟩:=aaM U5;have h6:=hf i f (Array.getElem?_toList.symm.trans hi);have EE:i<xs.length:=by
       rw[Jj,<-Array.length_toList];exact(aaL.1 hi).1
      rw[aaJ EE]at h6;exact⟨_,h6⟩) (by omega)
     exact⟨ds,by omega,h2,fun j d u h4 h5=>h3 j d u h4 (by rw[Nat.zero_add];exact h5)⟩
    ·simp at hl
   ·simp at hl
  ·split at hl
   ·simp at hl;exact one hl.symm
   ·simp at hl
  ·split at hl
   ·simp at hl;exact one hl.symm
   ·simp at hl
  ·split at hl
   ·simp at hl;exact one hl.symm
   ·simp at hl
  ·split at hl
   ·simp at hl;exact one hl.symm
   ·simp at hl
  ·simp at hl
theorem sO {S:List TypeId} {N:Nat} (ih:∀fuel,fuel<N->∀t,t∈S->∀cs x,DataW.trod enc P w base spare held fuel t cs=some x->∃u d,cs=[u]/\bh (ug w) w d u/\C8 P t d) {fuel:Nat} (hN:fuel<N)
  {e:TypeId} {ls:List TypeId} (hl:zF P e=some ls) (hs:∀t∈ls,t∈S) {cs:List Value} {y:DataW H×List MemPlace} (h:DataW.trod enc P w base spare held fuel e cs=some y):
  ∃ds,ds.length=cs.length/\fq P ls ds/\∀(j:Nat) d u,ds[j]? =some d->cs[j]? =some u->bh (ug w) w d u:=qS ih 8 fuel hN e ls hl hs cs y h
theorem Ax (a:Addr) (i j:Nat):(a.add i).add j=a.add (i+j):=by
 unfold Addr.add;by_cases hi:i=0<;>by_cases hj:j=0<;>simp[hi,hj,Nat.add_assoc]
theorem sP {S:List TypeId} (hS:xx P S=true):∀(fuel:Nat) (t:TypeId),t∈S->∀cs x,DataW.trod enc P w base spare held fuel t cs=some x->∃u d,cs=[u]/\bh (ug w) w d u/\C8 P t d:=by
 intro fuel;induction fuel using Nat.strongRecOn with
 |_ fuel ih=>
  intro t ht cs x h;have hk:=aaK.1 hS t ht;split at hk
  ·rename_i hu;obtain⟨b,rfl,_⟩:=DataW.trod_bool hu h;exact⟨_,.bool b,rfl,rfl,hu⟩
  ·rename_i k hu;obtain⟨n,rfl,_,hw⟩:=DataW.trod_int hu h;exact⟨_,.int k n,rfl,rfl,hu,hw⟩
  ·rename_i hu;obtain⟨s,rfl,_,hw⟩:=DataW.trod_string hu h;refine⟨_,.str s.data.toList,rfl,?_,hu,?_⟩
   ·obtain⟨⟨l⟩⟩:=s
    rfl
   ·exact hw
  ·rename_i e hu;split at hk
   ·rename_i ls hl;simp only[aaR,aaK,beq_iff_eq,aaP,decide_eq_true_eq]at hk;rcases DataW.trod_slice hu h with⟨rfl,_⟩|⟨a,len,cap,elems,rest,n,rfl,rfl,_,_,hle,hm,tC,hx,_,_⟩
    ·refine⟨_,.sl [],rfl,?_,e,ls,hu,hl,by simp,trivial⟩;simp only[bh];exact⟨none,0,rfl,Nat.le_refl _,.inl trivial⟩
    ·have ef:∀i,i<len->∃ds,ds.length=P.cellsOf e/\fq P ls ds/\∀(j:Nat) d,ds[j]? =some d->∃u,w.cell? (a.add (i*P.cellsOf e+j))=some u/\bh (ug w) w d u:=by
      intro i hi;have h1:=hx i hi;rw[aaJ (by omega)]at h1;obtain⟨cs',h2,h3⟩:=Option.bind_eq_some_iff.1 h1;obtain⟨_,h4,h5⟩:=World.cells?_some h2;obtain⟨ds,h6,h7,h8⟩:=sO (S:=S) (N:=n+1) (fun f hf t' LS cs x gI=>ih f (by omega) t' LS cs x gI) (aaS n) hl hk.1.1 h3;refine⟨ds,by omega,h7,fun j d hj=>?_⟩;have jA:j<cs'.length:=by have:=(aaL.1 hj).1;omega
      have h9:=h5 j (by omega);rw[Ax,aaJ jA]at h9;exact⟨_,h9,h8 j d _ hj (aaJ jA)⟩
     obtain⟨rows,yo,hr⟩:=vj len ef;refine⟨_,.sl rows,rfl,?_,e,ls,hu,hl,by omega,oh.mk fun r Bc=>?_⟩
     ·simp only[bh];refine⟨some a,cap,by rw[yo],by omega,?_⟩;by_cases h0:rows=[]
      ·exact .inl h0
      right
      have OG:0<len:=by
       cases rows with
       |nil=>exact absurd rfl h0
       |cons r rs=>simp at yo;omega
      have wx:∀i j,i<len->j<P.cellsOf e->∃u,w.cell? (a.add (i*P.cellsOf e+j))=some u:=by
       intro i j hi hj;obtain⟨ds,h1,h2,h3⟩:=ef i hi;obtain⟨u,h4,_⟩:=h3 j _ (aaJ (show j<ds.length by omega));exact⟨u,h4⟩
      have re:0<P.cellsOf e:=by omega
      have K0:a.spot=none:=by
       obtain⟨u,h4⟩:=wx 0 0 OG re;have:=(zG h4).1;simpa[Addr.add]using this
      have qZ:∀k,a.add k=⟨a.block,a.off+k,none⟩:=by
       intro k;obtain⟨b,o,sp⟩:=a;simp only at K0;subst K0;unfold Addr.add;by_cases gC:k=0<;>simp[gC]
      refine⟨a.block,a.off,P.cellsOf e,congrArg some (qZ 0),?_,cr.mk fun i r hi=>?_⟩
      ·obtain⟨u,h4⟩:=wx (len-1) (P.cellsOf e-1) (by omega) (by omega);have h5:=(zG h4).2;rw[qZ]at h5;simp only at h5;have h6:rows.length*P.cellsOf e=(len-1)*P.cellsOf e+P.cellsOf e:=by
        rw[yo,<-Nat.succ_mul]
        congr 1;omega
       omega
      ·obtain⟨h1,h2,h3⟩:=hr i r hi;refine⟨h1,dB.mk fun j x hj=>?_⟩;obtain⟨u,h4,h5⟩:=h3 j x hj;rw[qZ]at h4;exact⟨u,by rw[<-h4];congr 2;omega,h5⟩
     ·obtain⟨i,hi⟩:=aaM Bc;exact(hr i r hi).2.1
   ·simp at hk
  ·simp at hk
def OH (P:Program) (t:TypeId):AV->Prop
 |.c (.d x)=>Ez ((P.underlying t).getD .bool)=false/\C8 P t x
 |.agg xs=>Ez ((P.underlying t).getD .bool)=true/\∃ls ds,zF P t=some ls/\xs=ds.map CV.d/\fq P ls ds
 |_=>False
def JV (P:Program):List TypeId->List AV->Prop
 |[],[]=>True
 |t::ts,x::xs=>OH P t x/\JV P ts xs
 |_,_=>False
def xy (P:Program) (S:List TypeId) (t:TypeId):Bool:=
 match P.underlying t with
 |some (.struct _)=>match zF P t with
  |some ls=>ls.all S.contains
  |none=>false
 |some .bool|some (.int _)|some .string|some (.slice _)=>S.contains t
 |_=>false
def vO (w:World):Gh:=⟨[],[],ug w⟩
theorem F8 (w:World):Inv (vO w) w [] []:=by
 refine⟨rfl,rfl,fun l row b h=>by simp at h,fun k r v h=>by simp at h,fun l l' b h=>by simp[vO]at h,fun k k' v v' b h=>by simp[vO]at h,fun l k v b h=>by simp[vO]at h,fun b hb=>?_⟩;simp only[vO,ug];rw[Array.getElem?_eq_none hb]
theorem Cs {S:List TypeId} (hS:xx P S=true) {t:TypeId} (hp:xy P S t=true) {r:Reach} {b0:Nat} {v:Value} {d:DataW H} {ps:List MemPlace} (hv:Value.okWide P w r b0 t v)
  (h:DataW.Trod enc P w base spare held t v d ps):∃x,aO (vO w) w [] x v/\OH P t x:=by
 obtain⟨fuel,h⟩:=h;have leaf:t∈S->Ez ((P.underlying t).getD .bool)=false->v.cells= #[v]->∃x,aO (vO w) w [] x v/\OH P t x:=by
  intro ht ha hc;rw[hc]at h;obtain⟨u,d,h1,h2,h3⟩:=sP hS fuel t ht _ _ h;simp only[List.cons.injEq,and_true]at h1;subst h1;exact⟨.c (.d d),h2,ha,h3⟩
 unfold xy at hp;split at hp
 ·rename_i fs hu;split at hp
  ·rename_i ls hl;obtain⟨cs,rfl,_⟩:=okWide_struct hu hv;simp only[aaK,aaP]at hp;obtain⟨ds,h1,h2,h3⟩:=sO (S:=S) (N:=fuel+1) (fun f _ t' LS cs x gI=>sP hS f t' LS cs x gI) (aaS _) hl hp h;refine⟨.agg (ds.map CV.d),⟨cs.toList,rfl,by simpa[Value.cells]using h1.symm,fun i x u h4 h5=>?_⟩,by simp[hu,Ez],ls,ds,hl,rfl,h2⟩;simp only[List.getElem?_map,aaQ]at h4;obtain⟨d',h6,rfl⟩:=h4;exact h3 i d' u h6 h5
  ·simp at hp
 ·rename_i hu;obtain⟨b,rfl⟩:=okWide_bool hu hv;exact leaf (by simpa using hp) (by simp[hu,Ez]) rfl
 ·rename_i k hu;obtain⟨b,rfl⟩:=okWide_int hu hv;exact leaf (by simpa using hp) (by simp[hu,Ez]) rfl
 ·rename_i hu;obtain⟨b,rfl⟩:=okWide_string hu hv;exact leaf (by simpa using hp) (by simp[hu,Ez]) rfl
 ·rename_i e hu;obtain⟨a,l,c,rfl⟩:=okWide_slice hu hv;exact leaf (by simpa using hp) (by simp[hu,Ez]) rfl
 ·simp at hp
theorem sQ {S:List TypeId} (hS:xx P S=true) {r:Reach} {b0:Nat}:∀{ts:List TypeId} {vs:List Value} {ds:List (DataW H)} {ps:List MemPlace},(∀t∈ts,xy P S t=true)->
  (∀(j:Nat) t v,ts[j]? =some t->vs[j]? =some v->Value.okWide P w r b0 t v)->DataW.TrodAll enc P w base spare held ts vs ds ps->
  ∃xs:List AV,vs.length=xs.length/\JV P ts xs/\∀(i:Nat) x u,xs[i]? =some x->vs[i]? =some u->aO (vO w) w [] x u
 |[],vs,ds,ps,_,_,h=>by
  obtain⟨rfl,rfl,rfl⟩:=trodAll_nil h;exact⟨[],rfl,trivial,fun i x u h=>by simp at h⟩
 |t::ts,vs,ds,ps,hp,hv,h=>by
  obtain⟨v,vs1,d,ds1,a,b,rfl,rfl,rfl,h1,h2⟩:=trodAll_cons h;obtain⟨x,dC,kR⟩:=Cs hS (hp t (by simp)) (hv 0 t v rfl rfl) h1;obtain⟨xs,h3,h4,h5⟩:=sQ hS (fun t' ht=>hp t' (by simp[ht])) (fun j t' v' h6 h7=>hv (j+1) t' v' (by simpa using h6) (by simpa using h7)) h2;refine⟨x::xs,by simp[h3],⟨kR,h4⟩,fun i y u h6 h7=>?_⟩;cases i with
  |zero=>simp at h6 h7;subst h6;subst h7;exact dC
  |succ i=>simp at h6 h7;exact h5 i y u h6 h7
theorem qT (hl:laidOutB P=true) {W W':World} (hb:Below W.heap.size W W'):∀{ts:List TypeId} {vs:List Value} {ds:List (DataW H)} {ps:List MemPlace},(∀t∈ts,P.readableRec t=true/\t<P.types.size)->
  (∀x∈ps,x.block<W.heap.size)->DataW.TrodAll enc P W 0 (fun _=>true) true ts vs ds ps->DataW.TrodAll enc P W' 0 (fun b=>decide (b<W.heap.size)) true ts vs ds ps
 |[],vs,ds,ps,_,_,h=>by
  obtain⟨rfl,rfl,rfl⟩:=trodAll_nil h;exact trodAll_mk0
 |t::ts,vs,ds,ps,hp,ax,h=>by
  obtain⟨v,vs1,d,ds1,a,b,rfl,rfl,rfl,h1,h2⟩:=trodAll_cons h;have h3:=Below.trod hl (hp t (by simp)).1 (hp t (by simp)).2 h1 hb (fun x hx=>ax x (by simp[hx]));exact⟨a,b,h3,qT hl hb (fun t' ht=>hp t' (by simp[ht])) (fun x hx=>ax x (by simp[hx])) h2,rfl⟩
theorem qG {f:FuncId} {fn:Func} {s:ChangeSpec} {S:List TypeId} (hS:xx P S=true) (hl:laidOutB P=true) (F9:fn.params.toList.all (fun t=>xy P S t && P.readableRec t && decide (t<P.types.size))=true)
  {tb:TypeId} (dY:fn.resultTypes= #[tb]) (RC:P.underlying tb=some .bool) (E0:s.vars=[])
  (hs:∀ds:List (DataW H),ds.length=fn.params.size->s.fn H (ds++[])={results:=[.lit (.bool true)],args:=ds})
  {W:World} {b0:Nat} {args:Array Value} {ds gs:List (DataW H)} {before:List MemPlace}
  (iB:∀xs,JV P fn.params.toList xs->ah P f xs [] (.c (.d (.bool true))) [] [])
  (Dq:∀(j:Nat) t v,fn.params[j]? =some t->args[j]? =some v->Value.okWide P W .any b0 t v)
  (hW:DataW.Whole enc P fn.params.toList s.vars false W args.toList ds gs before) (RD:Bi W (vO W)):
  Calls P f args W fun e W'=>∃v,e=.returned v/\s.post enc P fn false true false false W args v W':=by
 have ax:=hW.lt;have U6:=hW;obtain⟨p,q,hA,hV,rfl,FZ,oO⟩:=hW;rw[E0]at hV;obtain⟨rfl,rfl⟩:=trodVars_none hV;simp only[aaK,aaR,decide_eq_true_eq]at F9;obtain⟨xs,h1,h2,h3⟩:=sQ hS (fun t ht=>(F9 t ht).1.1) (fun j t v h4 h5=>Dq j t v (by simpa using h4) (by simpa using h5)) hA;obtain⟨_,_,hc⟩:=iB xs h2;refine(hc (vO W) W args rfl (F8 W) RD (by simpa using h1) (fun i x u h4 h5=>h3 i x u h4 (by simpa using h5))).mono ?_;rintro e W' ⟨v,g',rfl,hr,hI,hF⟩;simp only[aO,dK,bn,bh]at hr;subst hr;have hb:Below W.heap.size W W':=⟨hF.os,hF.tape,hF.output,hF.size,fun k hk=>hF.qI k hk (by simp[vO]) (by simp[Gh.jy,vO])⟩;have C3:ds.length=fn.params.size:=by
  have:∀{ts:List TypeId} {vs:List Value} {ds:List (DataW H)} {ps:List MemPlace},DataW.TrodAll enc P W 0 (fun _=>true) true ts vs ds ps->ds.length=ts.length:=by
   intro ts;induction ts with
   |nil=>intro vs ds ps h;obtain⟨_,rfl,_⟩:=trodAll_nil h;rfl
   |cons t ts ih=>intro vs ds ps h;obtain⟨v,vs1,d,ds1,a,b,rfl,rfl,rfl,h1,h2⟩:=trodAll_cons h;simp[ih h2]
  simpa using this hA
 have OI:=hs ds C3;refine⟨.bool true,rfl,ds,[],_,[],p,[],U6,?_,?_,?_,hb.frame _,fun h=>by simp at h⟩
 ·rw[OI,dY];exact trodAll_mk1 (shut_bool RC true)
 ·rw[OI];exact qT hl hb (fun t ht=>⟨(F9 t ht).1.2,(F9 t ht).2⟩) (fun x hx=>ax x (by simp[hx])) hA
 ·rw[OI,E0]
  rfl
theorem D1 {f:FuncId} {fn:Func} {s:ChangeSpec} {S:List TypeId} (hS:xx P S=true) (hl:laidOutB P=true) (F9:fn.params.toList.all (fun t=>xy P S t && P.readableRec t && decide (t<P.types.size))=true)
  {tb:TypeId} (dY:fn.resultTypes= #[tb]) (RC:P.underlying tb=some .bool) (E0:s.vars=[])
  (hs:∀ds:List (DataW H),ds.length=fn.params.size->s.fn H (ds++[])={results:=[.lit (.bool true)],args:=ds})
  {W:World} {b0:Nat} {args:Array Value} {ds gs:List (DataW H)} {before:List MemPlace}
  (iB:∀xs,JV P fn.params.toList xs->ah P f xs [] (.c (.d (.bool true))) [] [])
  (Dq:∀(j:Nat) t v,fn.params[j]? =some t->args[j]? =some v->Value.okWide P W .any b0 t v)
  (hW:DataW.Whole enc P fn.params.toList s.vars false W args.toList ds gs before) (iw:Lm=none/\Lo=[]:=by exact⟨rfl,rfl⟩):
  Calls P f args W fun e W'=>∃v,e=.returned v/\s.post enc P fn false true false false W args v W':=
 qG hS hl F9 dY RC E0 hs iB Dq hW fun b hb=>hb.elim (fun h=>by rw[iw.1]at h;cases h) (fun h=>by rw[iw.2]at h;cases h)
end
end Go.Av
