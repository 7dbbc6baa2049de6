/- A part. -/
import Derived.Test.YtloolmchekcmeaaGreatXF10
import Derived.ProofKit
import Derived.Carry
set_option linter.unusedVariables false
set_option linter.unusedSimpArgs false
open List renaming getElem?_eq_getElem->aaH,all_eq_true->aaI,getElem?_eq_some_iff->aaJ,getElem?_of_mem->aaK,getElem?_append_right->aaL,getElem?_append_left->aaM,contains_iff_mem->aaN
open Option renaming map_eq_some_iff->aaO
open Bool renaming and_eq_true->aaP
open Nat renaming lt_succ_self->aaQ
namespace Go.Av
attribute [-simp] Go.Av.bJ Go.Av.eO Go.Av.iA Go.Av.bU Go.Av.bH Go.Av.iB Go.Av.mq Go.Av.rP Go.Av.mP Go.Av.zB Go.Av.rowsOf Go.Av.look Go.Av.tc Go.Av.St.put Go.Av.gV Go.Av.E3 Go.Av.ca Go.Av.zy Go.Av.Je Go.Av.rO Go.Av.rN Go.Av.D1 Go.Av.AV.plain Go.Av.AV.cells Go.Av.CV.jW Go.Av.nI Go.Av.iN Go.Av.kI Go.Av.fK Go.Av.bT Go.Av.ig Go.Av.AV.kT Go.Av.CV.kT Go.Av.qx Go.Av.AV.fN Go.Av.CV.fN Go.Av.bD Go.Av.iO Go.Av.j9 Go.Av.oE Go.Av.cS Go.Av.ft Go.Av.uB Go.Av.AV.qz Go.Av.CV.res Go.Av.rW Go.Av.pos? Go.Av.v8 Go.Av.wi Go.Av.gW Go.Av.Sub Go.Av.kj Go.Av.kU Go.Av.iY Go.Av.gY Go.Av.iZ Go.Av.gZ Go.Av.aI.bX Go.Av.aI.bQ Go.Av.ao.bX Go.Av.ao.lf Go.Av.ao.pD Go.Av.ao.oH Go.Av.ao.qJ Go.Av.ao.km Go.Av.ao.bQ Go.Av.dI Go.Av.rJ Go.Av.gJ Go.Av.gy Go.Av.cW Go.Av.ij Go.Av.cl Go.Av.bO Go.Av.back Go.Av.fD Go.Av.one Go.Av.dt Go.Av.xQ Go.Av.fb Go.Av.AV.eF Go.Av.CV.eF Go.Av.iW Go.Av.AV.dN Go.Av.CV.dN Go.Av.ch Go.Av.eY Go.Av.fw Go.Av.fi Go.Av.cY Go.Av.cb
open Go Go.ChangeShapes Go.WideShapes Go.ChangeAt Go.RowKit
def sH (P:Program) (L:TypeId->Option (List TypeId)):Nat->List Field->Option (List TypeId)
 |_,[]=>some []
 |off,f::r=>match L f.type with
  |some l=>if f.offset=off/\P.cellsOf f.type=l.length then(sH P L (off+l.length) r).map (l++·)else none
  |none=>none
def tY (P:Program):Nat->TypeId->Option (List TypeId)
 |0,_=>none
 |k+1,t=>match P.underlying t with
  |some (.struct fs)=>match sH P (tY P k) 0 fs.toList with
   |some ls=>if P.cellsOf t=ls.length then some ls else none
   |none=>none
  |some .bool|some (.int _)|some .string|some (.slice _)=>if P.cellsOf t=1 then some [t]else none
  |_=>none
def y4 (P:Program) (t:TypeId):Option (List TypeId):=tY P 8 t
def w7 (P:Program) (S:List TypeId):Bool:=S.all fun t=>
 match P.underlying t with
 |some .bool|some (.int _)|some .string=>true
 |some (.slice e)=>match y4 P e with
  |some ls=>ls.all S.contains && P.cellsOf e==ls.length && decide (0<ls.length)
  |none=>false
 |_=>false
mutual
def Cw (P:Program):TypeId->DV->Prop
 |t,.int k n=>P.underlying t=some (.int k)/\(Lit.int k n).wf=true
 |t,.bool _=>P.underlying t=some .bool
 |t,.str s=>P.underlying t=some .string/\s.length<=Go.maxLen
 |t,.sl rows=>∃e ls,P.underlying t=some (.slice e)/\y4 P e=some ls/\rows.length<=Go.maxLen/\oo P ls rows
 |_,.raw _=>False
def oo (P:Program):List TypeId->List (List DV)->Prop
 |_,[]=>True
 |ls,r::rs=>fm P ls r/\oo P ls rs
def fm (P:Program):List TypeId->List DV->Prop
 |[],[]=>True
 |t::ts,x::xs=>Cw P t x/\fm P ts xs
 |_,_=>False
end
theorem fm.len {P:Program}:∀{ls:List TypeId} {xs:List DV},fm P ls xs->xs.length=ls.length
 |[],[],_=>rfl
 |_::_,_::_,h=>by simp only[fm]at h;simp[fm.len h.2]
 |[],_::_,h=>by simp[fm]at h
 |_::_,[],h=>by simp[fm]at h
theorem oo.mk {P:Program} {ls:List TypeId}:∀{rows:List (List DV)},(∀r∈rows,fm P ls r)->oo P ls rows
 |[],_=>trivial
 |r::rs,h=>⟨h r (by simp),oo.mk fun r hr=>h r (by simp[hr])⟩
theorem oo.at_ {P:Program} {ls:List TypeId}:∀{rows:List (List DV)},oo P ls rows->∀r∈rows,fm P ls r
 |[],_,r,hr=>by simp at hr
 |x::xs,h,r,hr=>by
  simp only[List.mem_cons]at hr;rcases hr with rfl|hr
  ·exact h.1
  ·exact oo.at_ h.2 r hr
def tZ (w:World) (b:Nat):Nat:=match w.heap[b]? with
 |some (.cells cs _ _)=>cs.size
 |_=>0
theorem y5 {w:World} {a:Addr} {v:Value} (h:w.cell? a=some v):a.spot=none/\a.off<tZ w a.block:=by
 unfold World.cell? at h;split at h
 ·rename_i c _ _ hb;split at h
  ·simp at h
  ·rename_i hs;refine⟨by simpa using hs,?_⟩;simp only[tZ,hb];exact(Array.getElem?_eq_some_iff.1 h).1
 ·simp at h
theorem fm.append {P:Program}:∀{ls ls':List TypeId} {xs xs':List DV},fm P ls xs->fm P ls' xs'->fm P (ls++ls') (xs++xs')
 |[],_,[],_,_,h=>h
 |_::_,_,_::_,_,h,h'=>by
  simp only[fm]at h;simp only[List.cons_append,fm];exact⟨h.1,fm.append h.2 h'⟩
 |[],_,_::_,_,h,_=>by simp[fm]at h
 |_::_,_,[],_,h,_=>by simp[fm]at h
section
variable {H:Type} {enc:TypeId×Value->H} {P:Program} {w:World} {base:Nat} {spare:Nat->Bool} {held:Bool}
theorem uY {α:Type} {p:Nat->α->Prop}:∀(n:Nat),(∀i,i<n->∃x,p i x)->∃l:List α,l.length=n/\∀(i:Nat) x,l[i]? =some x->p i x
 |0,_=>⟨[],rfl,fun i x h=>by simp at h⟩
 |n+1,h=>by
  obtain⟨l,h1,h2⟩:=uY n fun i hi=>h i (by omega)
  obtain⟨x,hx⟩:=h n (by omega);refine⟨l++[x],by simp[h1],fun i y hy=>?_⟩;by_cases hi:i<l.length
  ·rw[aaM hi]at hy;exact h2 i y hy
  ·rw[aaL (by omega)]at hy;have:i-l.length=0:=by
    have:=(aaJ.1 hy).1;simp at this;omega
   rw[this]at hy;simp at hy;subst hy;rw[show i=n by omega];exact hx
theorem oL {S:List TypeId} {L:TypeId->Option (List TypeId)} {n:Nat} {cs:List Value}
  (ih:∀e ls,L e=some ls->(∀t∈ls,t∈S)->∀cs' (y:DataW H×List MemPlace),DataW.trod enc P w base spare held n e cs'=some y->∃ds,ds.length=cs'.length/\fm P ls ds/\∀(j:Nat) d u,ds[j]? =some d->cs'[j]? =some u->bn (tZ w) w d u):
  ∀{fs:List Field} {off:Nat} {ls:List TypeId},sH P L off fs=some ls->(∀t∈ls,t∈S)->(∀f∈fs,∃y:DataW H×List MemPlace,DataW.trod enc P w base spare held n f.type ((cs.drop f.offset).take (P.cellsOf f.type))=some y)->off+ls.length<=cs.length->
   ∃ds,ds.length=ls.length/\fm P ls ds/\∀(j:Nat) d u,ds[j]? =some d->cs[off+j]? =some u->bn (tZ w) w d u
 |[],off,ls,h,_,_,_=>by
  simp[sH]at h;subst h;exact⟨[],rfl,trivial,fun j d u h=>by simp at h⟩
 |f::fs,off,ls,h,hs,ht,hle=>by
  simp only[sH]at h;split at h
  ·rename_i l hl;split at h
   ·rename_i Eo;simp only[aaO]at h;obtain⟨ls',h1,rfl⟩:=h;obtain⟨y,hy⟩:=ht f (by simp);simp only[List.length_append]at hle;obtain⟨ds,h2,h3,h4⟩:=ih f.type l hl (fun t h=>hs t (by simp[h])) _ y hy;obtain⟨ds',h5,h6,h7⟩:=oL ih h1 (fun t h=>hs t (by simp[h])) (fun f' h=>ht f' (by simp[h])) (by omega);have hlen:ds.length=l.length:=fm.len h3;refine⟨ds++ds',by simp[hlen,h5],fm.append h3 h6,fun j d u h8 h9=>?_⟩;by_cases hj:j<ds.length
    ·rw[aaM hj]at h8;refine h4 j d u h8 ?_;rw[Eo.1,Eo.2,List.getElem?_take,if_pos (by omega),List.getElem?_drop];exact h9
    ·rw[aaL (by omega)]at h8;refine h7 (j-ds.length) d u h8 ?_;rw[<-h9];congr 1;omega
   ·simp at h
  ·simp at h
theorem qP {S:List TypeId} {N:Nat} (ih:∀fuel,fuel<N->∀t,t∈S->∀cs x,DataW.trod enc P w base spare held fuel t cs=some x->∃u d,cs=[u]/\bn (tZ w) w d u/\Cw P t d):
  ∀(k fuel:Nat),fuel<N->∀(e:TypeId) (ls:List TypeId),tY P k e=some ls->(∀t∈ls,t∈S)->∀(cs:List Value) (y:DataW H×List MemPlace),DataW.trod enc P w base spare held fuel e cs=some y->
  ∃ds,ds.length=cs.length/\fm P ls ds/\∀(j:Nat) d u,ds[j]? =some d->cs[j]? =some u->bn (tZ w) w d u
 |0,_,_,e,ls,hl,_,_,_,_=>by simp[tY]at hl
 |k+1,fuel,hN,e,ls,hl,hs,cs,y,h=>by
  have one:ls=[e]->∃ds,ds.length=cs.length/\fm P ls ds/\∀(j:Nat) d u,ds[j]? =some d->cs[j]? =some u->bn (tZ w) w d u:=by
   intro he;subst he;obtain⟨u,d,rfl,h1,h2⟩:=ih fuel hN e (hs e (by simp)) cs y h;refine⟨[d],rfl,⟨h2,trivial⟩,fun j d' u' h3 h4=>?_⟩;cases j with
   |zero=>simp at h3 h4;subst h3;subst h4;exact h1
   |succ j=>simp at h3
  unfold tY at hl;split at hl
  ·rename_i fs hu;split at hl
   ·rename_i ls' IQ;split at hl
    ·rename_i fB;simp only[Option.some.injEq]at hl;subst hl;obtain⟨xs,n,rfl,rfl,kS,Jd,hf⟩:=DataW.trod_struct hu h;obtain⟨ds,h1,h2,h3⟩:=oL (S:=S) (L:=tY P k) (n:=n) (cs:=cs) (enc:=enc) (base:=base) (spare:=spare) (held:=held) (fun e ls hl hs cs' y hy=>qP ih k n (by omega) e ls hl hs cs' y hy) IQ hs (fun f UY=>by
      obtain⟨i,hi⟩:=aaK UY;have h6:=hf i f (Array.getElem?_toList.symm.trans hi);have Cs:i<xs.length:=by
       rw[Jd,<-Array.length_toList];exact(aaJ.1 hi).1
      rw[aaH Cs]at h6;exact⟨_,h6⟩) (by omega)
     exact⟨ds,by omega,h2,fun j d u h4 h5=>h3 j d u h4 (by rw[Nat.zero_add];exact h5)⟩
    ·simp at hl
   ·simp at hl
  ·split at hl
   ·simp at hl;exact one hl.symm
   ·simp at hl
  ·split at hl
   ·simp at hl;exact one hl.symm
   ·simp at hl
  ·split at hl
   ·simp at hl;exact one hl.symm
   ·simp at hl
  ·split at hl
   ·simp at hl;exact one hl.symm
   ·simp at hl
  ·simp at hl
theorem sI {S:List TypeId} {N:Nat} (ih:∀fuel,fuel<N->∀t,t∈S->∀cs x,DataW.trod enc P w base spare held fuel t cs=some x->∃u d,cs=[u]/\bn (tZ w) w d u/\Cw P t d) {fuel:Nat} (hN:fuel<N)
  {e:TypeId} {ls:List TypeId} (hl:y4 P e=some ls) (hs:∀t∈ls,t∈S) {cs:List Value} {y:DataW H×List MemPlace} (h:DataW.trod enc P w base spare held fuel e cs=some y):
  ∃ds,ds.length=cs.length/\fm P ls ds/\∀(j:Nat) d u,ds[j]? =some d->cs[j]? =some u->bn (tZ w) w d u:=qP ih 8 fuel hN e ls hl hs cs y h
theorem zZ (a:Addr) (i j:Nat):(a.add i).add j=a.add (i+j):=by
 unfold Addr.add;by_cases hi:i=0<;>by_cases hj:j=0<;>simp[hi,hj,Nat.add_assoc]
theorem sJ {S:List TypeId} (hS:w7 P S=true):∀(fuel:Nat) (t:TypeId),t∈S->∀cs x,DataW.trod enc P w base spare held fuel t cs=some x->∃u d,cs=[u]/\bn (tZ w) w d u/\Cw P t d:=by
 intro fuel;induction fuel using Nat.strongRecOn with
 |_ fuel ih=>
  intro t ht cs x h;have hk:=aaI.1 hS t ht;split at hk
  ·rename_i hu;obtain⟨b,rfl,_⟩:=DataW.trod_bool hu h;exact⟨_,.bool b,rfl,rfl,hu⟩
  ·rename_i k hu;obtain⟨n,rfl,_,hw⟩:=DataW.trod_int hu h;exact⟨_,.int k n,rfl,rfl,hu,hw⟩
  ·rename_i hu;obtain⟨s,rfl,_,hw⟩:=DataW.trod_string hu h;refine⟨_,.str s.data.toList,rfl,?_,hu,?_⟩
   ·obtain⟨⟨l⟩⟩:=s
    rfl
   ·exact hw
  ·rename_i e hu;split at hk
   ·rename_i ls hl;simp only[aaP,aaI,beq_iff_eq,aaN,decide_eq_true_eq]at hk;rcases DataW.trod_slice hu h with⟨rfl,_⟩|⟨a,len,cap,elems,rest,n,rfl,rfl,_,_,hle,hm,tq,hx,_,_⟩
    ·refine⟨_,.sl [],rfl,?_,e,ls,hu,hl,by simp,trivial⟩;simp only[bn];exact⟨none,0,rfl,Nat.le_refl _,.inl trivial⟩
    ·have ef:∀i,i<len->∃ds,ds.length=P.cellsOf e/\fm P ls ds/\∀(j:Nat) d,ds[j]? =some d->∃u,w.cell? (a.add (i*P.cellsOf e+j))=some u/\bn (tZ w) w d u:=by
      intro i hi;have h1:=hx i hi;rw[aaH (by omega)]at h1;obtain⟨cs',h2,h3⟩:=Option.bind_eq_some_iff.1 h1;obtain⟨_,h4,h5⟩:=World.cells?_some h2;obtain⟨ds,h6,h7,h8⟩:=sI (S:=S) (N:=n+1) (fun f hf t' LR cs x gD=>ih f (by omega) t' LR cs x gD) (aaQ n) hl hk.1.1 h3;refine⟨ds,by omega,h7,fun j d hj=>?_⟩;have jk:j<cs'.length:=by have:=(aaJ.1 hj).1;omega
      have h9:=h5 j (by omega);rw[zZ,aaH jk]at h9;exact⟨_,h9,h8 j d _ hj (aaH jk)⟩
     obtain⟨rows,nB,hr⟩:=uY len ef;refine⟨_,.sl rows,rfl,?_,e,ls,hu,hl,by omega,oo.mk fun r AE=>?_⟩
     ·simp only[bn];refine⟨some a,cap,by rw[nB],by omega,?_⟩;by_cases h0:rows=[]
      ·exact .inl h0
      right
      have OD:0<len:=by
       cases rows with
       |nil=>exact absurd rfl h0
       |cons r rs=>simp at nB;omega
      have vS:∀i j,i<len->j<P.cellsOf e->∃u,w.cell? (a.add (i*P.cellsOf e+j))=some u:=by
       intro i j hi hj;obtain⟨ds,h1,h2,h3⟩:=ef i hi;obtain⟨u,h4,_⟩:=h3 j _ (aaH (show j<ds.length by omega));exact⟨u,h4⟩
      have q0:0<P.cellsOf e:=by omega
      have KZ:a.spot=none:=by
       obtain⟨u,h4⟩:=vS 0 0 OD q0;have:=(y5 h4).1;simpa[Addr.add]using this
      have qX:∀k,a.add k=⟨a.block,a.off+k,none⟩:=by
       intro k;obtain⟨b,o,sp⟩:=a;simp only at KZ;subst KZ;unfold Addr.add;by_cases gv:k=0<;>simp[gv]
      refine⟨a.block,a.off,P.cellsOf e,congrArg some (qX 0),?_,cv.mk fun i r hi=>?_⟩
      ·obtain⟨u,h4⟩:=vS (len-1) (P.cellsOf e-1) (by omega) (by omega);have h5:=(y5 h4).2;rw[qX]at h5;simp only at h5;have h6:rows.length*P.cellsOf e=(len-1)*P.cellsOf e+P.cellsOf e:=by
        rw[nB,<-Nat.succ_mul]
        congr 1;omega
       omega
      ·obtain⟨h1,h2,h3⟩:=hr i r hi;refine⟨h1,dA.mk fun j x hj=>?_⟩;obtain⟨u,h4,h5⟩:=h3 j x hj;rw[qX]at h4;exact⟨u,by rw[<-h4];congr 2;omega,h5⟩
     ·obtain⟨i,hi⟩:=aaK AE;exact(hr i r hi).2.1
   ·simp at hk
  ·simp at hk
def OE (P:Program) (t:TypeId):AV->Prop
 |.c (.d x)=>D0 ((P.underlying t).getD .bool)=false/\Cw P t x
 |.agg xs=>D0 ((P.underlying t).getD .bool)=true/\∃ls ds,y4 P t=some ls/\xs=ds.map CV.d/\fm P ls ds
 |_=>False
def JQ (P:Program):List TypeId->List AV->Prop
 |[],[]=>True
 |t::ts,x::xs=>OE P t x/\JQ P ts xs
 |_,_=>False
def w8 (P:Program) (S:List TypeId) (t:TypeId):Bool:=
 match P.underlying t with
 |some (.struct _)=>match y4 P t with
  |some ls=>ls.all S.contains
  |none=>false
 |some .bool|some (.int _)|some .string|some (.slice _)=>S.contains t
 |_=>false
def vA (w:World):Gh:=⟨[],[],tZ w⟩
theorem FG (w:World):Inv (vA w) w [] []:=by
 refine⟨rfl,rfl,fun l row b h=>by simp at h,fun k r v h=>by simp at h,fun l l' b h=>by simp[vA]at h,fun k k' v v' b h=>by simp[vA]at h,fun l k v b h=>by simp[vA]at h,fun b hb=>?_⟩;simp only[vA,tZ];rw[Array.getElem?_eq_none hb]
theorem BO {S:List TypeId} (hS:w7 P S=true) {t:TypeId} (hp:w8 P S t=true) {r:Reach} {b0:Nat} {v:Value} {d:DataW H} {ps:List MemPlace} (hv:Value.okWide P w r b0 t v)
  (h:DataW.Trod enc P w base spare held t v d ps):∃x,aW (vA w) w [] x v/\OE P t x:=by
 obtain⟨fuel,h⟩:=h;have leaf:t∈S->D0 ((P.underlying t).getD .bool)=false->v.cells= #[v]->∃x,aW (vA w) w [] x v/\OE P t x:=by
  intro ht ha hc;rw[hc]at h;obtain⟨u,d,h1,h2,h3⟩:=sJ hS fuel t ht _ _ h;simp only[List.cons.injEq,and_true]at h1;subst h1;exact⟨.c (.d d),h2,ha,h3⟩
 unfold w8 at hp;split at hp
 ·rename_i fs hu;split at hp
  ·rename_i ls hl;obtain⟨cs,rfl,_⟩:=okWide_struct hu hv;simp only[aaI,aaN]at hp;obtain⟨ds,h1,h2,h3⟩:=sI (S:=S) (N:=fuel+1) (fun f _ t' LR cs x gD=>sJ hS f t' LR cs x gD) (aaQ _) hl hp h;refine⟨.agg (ds.map CV.d),⟨cs.toList,rfl,by simpa[Value.cells]using h1.symm,fun i x u h4 h5=>?_⟩,by simp[hu,D0],ls,ds,hl,rfl,h2⟩;simp only[List.getElem?_map,aaO]at h4;obtain⟨d',h6,rfl⟩:=h4;exact h3 i d' u h6 h5
  ·simp at hp
 ·rename_i hu;obtain⟨b,rfl⟩:=okWide_bool hu hv;exact leaf (by simpa using hp) (by simp[hu,D0]) rfl
 ·rename_i k hu;obtain⟨b,rfl⟩:=okWide_int hu hv;exact leaf (by simpa using hp) (by simp[hu,D0]) rfl
 ·rename_i hu;obtain⟨b,rfl⟩:=okWide_string hu hv;exact leaf (by simpa using hp) (by simp[hu,D0]) rfl
 ·rename_i e hu;obtain⟨a,l,c,rfl⟩:=okWide_slice hu hv;exact leaf (by simpa using hp) (by simp[hu,D0]) rfl
 ·simp at hp
theorem sK {S:List TypeId} (hS:w7 P S=true) {r:Reach} {b0:Nat}:∀{ts:List TypeId} {vs:List Value} {ds:List (DataW H)} {ps:List MemPlace},(∀t∈ts,w8 P S t=true)->
  (∀(j:Nat) t v,ts[j]? =some t->vs[j]? =some v->Value.okWide P w r b0 t v)->DataW.TrodAll enc P w base spare held ts vs ds ps->
  ∃xs:List AV,vs.length=xs.length/\JQ P ts xs/\∀(i:Nat) x u,xs[i]? =some x->vs[i]? =some u->aW (vA w) w [] x u
 |[],vs,ds,ps,_,_,h=>by
  obtain⟨rfl,rfl,rfl⟩:=trodAll_nil h;exact⟨[],rfl,trivial,fun i x u h=>by simp at h⟩
 |t::ts,vs,ds,ps,hp,hv,h=>by
  obtain⟨v,vs1,d,ds1,a,b,rfl,rfl,rfl,h1,h2⟩:=trodAll_cons h;obtain⟨x,dB,j8⟩:=BO hS (hp t (by simp)) (hv 0 t v rfl rfl) h1;obtain⟨xs,h3,h4,h5⟩:=sK hS (fun t' ht=>hp t' (by simp[ht])) (fun j t' v' h6 h7=>hv (j+1) t' v' (by simpa using h6) (by simpa using h7)) h2;refine⟨x::xs,by simp[h3],⟨j8,h4⟩,fun i y u h6 h7=>?_⟩;cases i with
  |zero=>simp at h6 h7;subst h6;subst h7;exact dB
  |succ i=>simp at h6 h7;exact h5 i y u h6 h7
theorem qQ (hl:laidOutB P=true) {W W':World} (hb:Below W.heap.size W W'):∀{ts:List TypeId} {vs:List Value} {ds:List (DataW H)} {ps:List MemPlace},(∀t∈ts,P.readableRec t=true/\t<P.types.size)->
  (∀x∈ps,x.block<W.heap.size)->DataW.TrodAll enc P W 0 (fun _=>true) true ts vs ds ps->DataW.TrodAll enc P W' 0 (fun b=>decide (b<W.heap.size)) true ts vs ds ps
 |[],vs,ds,ps,_,_,h=>by
  obtain⟨rfl,rfl,rfl⟩:=trodAll_nil h;exact trodAll_mk0
 |t::ts,vs,ds,ps,hp,ay,h=>by
  obtain⟨v,vs1,d,ds1,a,b,rfl,rfl,rfl,h1,h2⟩:=trodAll_cons h;have h3:=Below.trod hl (hp t (by simp)).1 (hp t (by simp)).2 h1 hb (fun x hx=>ay x (by simp[hx]));exact⟨a,b,h3,qQ hl hb (fun t' ht=>hp t' (by simp[ht])) (fun x hx=>ay x (by simp[hx])) h2,rfl⟩
theorem qA {f:FuncId} {fn:Func} {s:ChangeSpec} {S:List TypeId} (hS:w7 P S=true) (hl:laidOutB P=true) (FH:fn.params.toList.all (fun t=>w8 P S t && P.readableRec t && decide (t<P.types.size))=true)
  {tb:TypeId} (dZ:fn.resultTypes= #[tb]) (Rz:P.underlying tb=some .bool) (Ep:s.vars=[])
  (hs:∀ds:List (DataW H),ds.length=fn.params.size->s.fn H (ds++[])={results:=[.lit (.bool true)],args:=ds})
  {W:World} {b0:Nat} {args:Array Value} {ds gs:List (DataW H)} {before:List MemPlace}
  (iD:∀xs,JQ P fn.params.toList xs->ah P f xs [] (.c (.d (.bool true))) [] [])
  (CJ:∀(j:Nat) t v,fn.params[j]? =some t->args[j]? =some v->Value.okWide P W .any b0 t v)
  (hW:DataW.Whole enc P fn.params.toList s.vars false W args.toList ds gs before) (RA:AI W (vA W)):
  Calls P f args W fun e W'=>∃v,e=.returned v/\s.post enc P fn false true false false W args v W':=by
 have ay:=hW.lt;have UZ:=hW;obtain⟨p,q,hA,hV,rfl,Fw,oU⟩:=hW;rw[Ep]at hV;obtain⟨rfl,rfl⟩:=trodVars_none hV;simp only[aaI,aaP,decide_eq_true_eq]at FH;obtain⟨xs,h1,h2,h3⟩:=sK hS (fun t ht=>(FH t ht).1.1) (fun j t v h4 h5=>CJ j t v (by simpa using h4) (by simpa using h5)) hA;obtain⟨_,_,hc⟩:=iD xs h2;refine(hc (vA W) W args rfl (FG W) RA (by simpa using h1) (fun i x u h4 h5=>h3 i x u h4 (by simpa using h5))).mono ?_;rintro e W' ⟨v,g',rfl,hr,hI,hF⟩;simp only[aW,dL,br,bn]at hr;subst hr;have hb:Below W.heap.size W W':=⟨hF.os,hF.tape,hF.output,hF.size,fun k hk=>hF.qE k hk (by simp[vA]) (by simp[Gh.jB,vA])⟩;have Nq:ds.length=fn.params.size:=by
  have:∀{ts:List TypeId} {vs:List Value} {ds:List (DataW H)} {ps:List MemPlace},DataW.TrodAll enc P W 0 (fun _=>true) true ts vs ds ps->ds.length=ts.length:=by
   intro ts;induction ts with
   |nil=>intro vs ds ps h;obtain⟨_,rfl,_⟩:=trodAll_nil h;rfl
   |cons t ts ih=>intro vs ds ps h;obtain⟨v,vs1,d,ds1,a,b,rfl,rfl,rfl,h1,h2⟩:=trodAll_cons h;simp[ih h2]
  simpa using this hA
 have OF:=hs ds Nq;refine⟨.bool true,rfl,ds,[],_,[],p,[],UZ,?_,?_,?_,hb.frame _,fun h=>by simp at h⟩
 ·rw[OF,dZ];exact trodAll_mk1 (shut_bool Rz true)
 ·rw[OF];exact qQ hl hb (fun t ht=>⟨(FH t ht).1.2,(FH t ht).2⟩) (fun x hx=>ay x (by simp[hx])) hA
 ·rw[OF,Ep]
  rfl
theorem Dj {f:FuncId} {fn:Func} {s:ChangeSpec} {S:List TypeId} (hS:w7 P S=true) (hl:laidOutB P=true) (FH:fn.params.toList.all (fun t=>w8 P S t && P.readableRec t && decide (t<P.types.size))=true)
  {tb:TypeId} (dZ:fn.resultTypes= #[tb]) (Rz:P.underlying tb=some .bool) (Ep:s.vars=[])
  (hs:∀ds:List (DataW H),ds.length=fn.params.size->s.fn H (ds++[])={results:=[.lit (.bool true)],args:=ds})
  {W:World} {b0:Nat} {args:Array Value} {ds gs:List (DataW H)} {before:List MemPlace}
  (iD:∀xs,JQ P fn.params.toList xs->ah P f xs [] (.c (.d (.bool true))) [] [])
  (CJ:∀(j:Nat) t v,fn.params[j]? =some t->args[j]? =some v->Value.okWide P W .any b0 t v)
  (hW:DataW.Whole enc P fn.params.toList s.vars false W args.toList ds gs before) (fz:Lj=none/\Lk=[]:=by exact⟨rfl,rfl⟩):
  Calls P f args W fun e W'=>∃v,e=.returned v/\s.post enc P fn false true false false W args v W':=
 qA hS hl FH dZ Rz Ep hs iD CJ hW fun b hb=>hb.elim (fun h=>by rw[fz.1]at h;cases h) (fun h=>by rw[fz.2]at h;cases h)
end
end Go.Av
