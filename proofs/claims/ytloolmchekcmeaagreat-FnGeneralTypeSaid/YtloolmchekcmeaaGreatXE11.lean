/- A part. -/
import Derived.Test.YtloolmchekcmeaaGreatXE10
import Derived.ProofKit
import Derived.Carry
set_option linter.unusedVariables false
set_option linter.unusedSimpArgs false
open List renaming getElem?_eq_getElem->aau,all_eq_true->aav,getElem?_eq_some_iff->aaw,getElem?_of_mem->aax,getElem?_append_right->aay,getElem?_append_left->aaz,contains_iff_mem->aaA
open Option renaming map_eq_some_iff->aaB
open Bool renaming and_eq_true->aaC
open Nat renaming lt_succ_self->aaD
namespace Go.Av
attribute [-simp] Go.Av.bH Go.Av.eD Go.Av.gX Go.Av.bS Go.Av.bE Go.Av.hM Go.Av.mi Go.Av.rS Go.Av.mF Go.Av.zW Go.Av.rowsOf Go.Av.look Go.Av.th Go.Av.St.put Go.Av.gB Go.Av.Fl Go.Av.b6 Go.Av.zU Go.Av.Jk Go.Av.rR Go.Av.rQ Go.Av.Ek Go.Av.AV.plain Go.Av.AV.cells Go.Av.CV.jM Go.Av.nw Go.Av.iy Go.Av.kB Go.Av.fB Go.Av.bT Go.Av.ib Go.Av.AV.kK Go.Av.CV.kK Go.Av.qz Go.Av.AV.fN Go.Av.CV.fN Go.Av.bB Go.Av.iz Go.Av.jY Go.Av.oC Go.Av.cL Go.Av.e8 Go.Av.uU Go.Av.AV.qB Go.Av.CV.res Go.Av.rZ Go.Av.pos? Go.Av.wG Go.Av.wN Go.Av.gC Go.Av.Sub Go.Av.j4 Go.Av.kL Go.Av.iJ Go.Av.gE Go.Av.iK Go.Av.gF Go.Av.aE.b4 Go.Av.aE.bQ Go.Av.ao.b4 Go.Av.ao.lX Go.Av.ao.q7 Go.Av.ao.sd Go.Av.ao.se Go.Av.ao.lp Go.Av.ao.bQ Go.Av.dw Go.Av.rN Go.Av.gv Go.Av.gi Go.Av.cP Go.Av.gJ Go.Av.cc Go.Av.bK Go.Av.back Go.Av.fg Go.Av.one Go.Av.di Go.Av.yl Go.Av.eS Go.Av.AV.ew Go.Av.CV.ew Go.Av.iG Go.Av.AV.dF Go.Av.CV.dF Go.Av.cb Go.Av.eL Go.Av.fj Go.Av.fa Go.Av.cT Go.Av.b9
open Go Go.ChangeShapes Go.WideShapes Go.ChangeAt Go.RowKit
def sG (P:Program) (L:TypeId->Option (List TypeId)):Nat->List Field->Option (List TypeId)
 |_,[]=>some []
 |off,f::r=>match L f.type with
  |some l=>if f.offset=off/\P.cellsOf f.type=l.length then(sG P L (off+l.length) r).map (l++·)else none
  |none=>none
def ue (P:Program):Nat->TypeId->Option (List TypeId)
 |0,_=>none
 |k+1,t=>match P.underlying t with
  |some (.struct fs)=>match sG P (ue P k) 0 fs.toList with
   |some ls=>if P.cellsOf t=ls.length then some ls else none
   |none=>none
  |some .bool|some (.int _)|some .string|some (.slice _)=>if P.cellsOf t=1 then some [t]else none
  |_=>none
def zy (P:Program) (t:TypeId):Option (List TypeId):=ue P 8 t
def xy (P:Program) (S:List TypeId):Bool:=S.all fun t=>
 match P.underlying t with
 |some .bool|some (.int _)|some .string=>true
 |some (.slice e)=>match zy P e with
  |some ls=>ls.all S.contains && P.cellsOf e==ls.length && decide (0<ls.length)
  |none=>false
 |_=>false
mutual
def CR (P:Program):TypeId->DV->Prop
 |t,.int k n=>P.underlying t=some (.int k)/\(Lit.int k n).wf=true
 |t,.bool _=>P.underlying t=some .bool
 |t,.str s=>P.underlying t=some .string/\s.length<=Go.maxLen
 |t,.sl rows=>∃e ls,P.underlying t=some (.slice e)/\zy P e=some ls/\rows.length<=Go.maxLen/\nW P ls rows
 |_,.raw _=>False
def nW (P:Program):List TypeId->List (List DV)->Prop
 |_,[]=>True
 |ls,r::rs=>e7 P ls r/\nW P ls rs
def e7 (P:Program):List TypeId->List DV->Prop
 |[],[]=>True
 |t::ts,x::xs=>CR P t x/\e7 P ts xs
 |_,_=>False
end
theorem e7.len {P:Program}:∀{ls:List TypeId} {xs:List DV},e7 P ls xs->xs.length=ls.length
 |[],[],_=>rfl
 |_::_,_::_,h=>by simp only[e7]at h;simp[e7.len h.2]
 |[],_::_,h=>by simp[e7]at h
 |_::_,[],h=>by simp[e7]at h
theorem nW.mk {P:Program} {ls:List TypeId}:∀{rows:List (List DV)},(∀r∈rows,e7 P ls r)->nW P ls rows
 |[],_=>trivial
 |r::rs,h=>⟨h r (by simp),nW.mk fun r hr=>h r (by simp[hr])⟩
theorem nW.at_ {P:Program} {ls:List TypeId}:∀{rows:List (List DV)},nW P ls rows->∀r∈rows,e7 P ls r
 |[],_,r,hr=>by simp at hr
 |x::xs,h,r,hr=>by
  simp only[List.mem_cons]at hr;rcases hr with rfl|hr
  ·exact h.1
  ·exact nW.at_ h.2 r hr
def uf (w:World) (b:Nat):Nat:=match w.heap[b]? with
 |some (.cells cs _ _)=>cs.size
 |_=>0
theorem zA {w:World} {a:Addr} {v:Value} (h:w.cell? a=some v):a.spot=none/\a.off<uf w a.block:=by
 unfold World.cell? at h;split at h
 ·rename_i c _ _ hb;split at h
  ·simp at h
  ·rename_i hs;refine⟨by simpa using hs,?_⟩;simp only[uf,hb];exact(Array.getElem?_eq_some_iff.1 h).1
 ·simp at h
theorem e7.append {P:Program}:∀{ls ls':List TypeId} {xs xs':List DV},e7 P ls xs->e7 P ls' xs'->e7 P (ls++ls') (xs++xs')
 |[],_,[],_,_,h=>h
 |_::_,_,_::_,_,h,h'=>by
  simp only[e7]at h;simp only[List.cons_append,e7];exact⟨h.1,e7.append h.2 h'⟩
 |[],_,_::_,_,h,_=>by simp[e7]at h
 |_::_,_,[],_,h,_=>by simp[e7]at h
section
variable {H:Type} {enc:TypeId×Value->H} {P:Program} {w:World} {base:Nat} {spare:Nat->Bool} {held:Bool}
theorem vn {α:Type} {p:Nat->α->Prop}:∀(n:Nat),(∀i,i<n->∃x,p i x)->∃l:List α,l.length=n/\∀(i:Nat) x,l[i]? =some x->p i x
 |0,_=>⟨[],rfl,fun i x h=>by simp at h⟩
 |n+1,h=>by
  obtain⟨l,h1,h2⟩:=vn n fun i hi=>h i (by omega)
  obtain⟨x,hx⟩:=h n (by omega);refine⟨l++[x],by simp[h1],fun i y hy=>?_⟩;by_cases hi:i<l.length
  ·rw[aaz hi]at hy;exact h2 i y hy
  ·rw[aay (by omega)]at hy;have:i-l.length=0:=by
    have:=(aaw.1 hy).1;simp at this;omega
   rw[this]at hy;simp at hy;subst hy;rw[show i=n by omega];exact hx
theorem oL {S:List TypeId} {L:TypeId->Option (List TypeId)} {n:Nat} {cs:List Value}
  (ih:∀e ls,L e=some ls->(∀t∈ls,t∈S)->∀cs' (y:DataW H×List MemPlace),DataW.trod enc P w base spare held n e cs'=some y->∃ds,ds.length=cs'.length/\e7 P ls ds/\∀(j:Nat) d u,ds[j]? =some d->cs'[j]? =some u->bh (uf w) w d u):
  ∀{fs:List Field} {off:Nat} {ls:List TypeId},sG P L off fs=some ls->(∀t∈ls,t∈S)->(∀f∈fs,∃y:DataW H×List MemPlace,DataW.trod enc P w base spare held n f.type ((cs.drop f.offset).take (P.cellsOf f.type))=some y)->off+ls.length<=cs.length->
   ∃ds,ds.length=ls.length/\e7 P ls ds/\∀(j:Nat) d u,ds[j]? =some d->cs[off+j]? =some u->bh (uf w) w d u
 |[],off,ls,h,_,_,_=>by
  simp[sG]at h;subst h;exact⟨[],rfl,trivial,fun j d u h=>by simp at h⟩
 |f::fs,off,ls,h,hs,ht,hle=>by
  simp only[sG]at h;split at h
  ·rename_i l hl;split at h
   ·rename_i EH;simp only[aaB]at h;obtain⟨ls',h1,rfl⟩:=h;obtain⟨y,hy⟩:=ht f (by simp);simp only[List.length_append]at hle;obtain⟨ds,h2,h3,h4⟩:=ih f.type l hl (fun t h=>hs t (by simp[h])) _ y hy;obtain⟨ds',h5,h6,h7⟩:=oL ih h1 (fun t h=>hs t (by simp[h])) (fun f' h=>ht f' (by simp[h])) (by omega);have hlen:ds.length=l.length:=e7.len h3;refine⟨ds++ds',by simp[hlen,h5],e7.append h3 h6,fun j d u h8 h9=>?_⟩;by_cases hj:j<ds.length
    ·rw[aaz hj]at h8;refine h4 j d u h8 ?_;rw[EH.1,EH.2,List.getElem?_take,if_pos (by omega),List.getElem?_drop];exact h9
    ·rw[aay (by omega)]at h8;refine h7 (j-ds.length) d u h8 ?_;rw[<-h9];congr 1;omega
   ·simp at h
  ·simp at h
theorem qO {S:List TypeId} {N:Nat} (ih:∀fuel,fuel<N->∀t,t∈S->∀cs x,DataW.trod enc P w base spare held fuel t cs=some x->∃u d,cs=[u]/\bh (uf w) w d u/\CR P t d):
  ∀(k fuel:Nat),fuel<N->∀(e:TypeId) (ls:List TypeId),ue P k e=some ls->(∀t∈ls,t∈S)->∀(cs:List Value) (y:DataW H×List MemPlace),DataW.trod enc P w base spare held fuel e cs=some y->
  ∃ds,ds.length=cs.length/\e7 P ls ds/\∀(j:Nat) d u,ds[j]? =some d->cs[j]? =some u->bh (uf w) w d u
 |0,_,_,e,ls,hl,_,_,_,_=>by simp[ue]at hl
 |k+1,fuel,hN,e,ls,hl,hs,cs,y,h=>by
  have one:ls=[e]->∃ds,ds.length=cs.length/\e7 P ls ds/\∀(j:Nat) d u,ds[j]? =some d->cs[j]? =some u->bh (uf w) w d u:=by
   intro he;subst he;obtain⟨u,d,rfl,h1,h2⟩:=ih fuel hN e (hs e (by simp)) cs y h;refine⟨[d],rfl,⟨h2,trivial⟩,fun j d' u' h3 h4=>?_⟩;cases j with
   |zero=>simp at h3 h4;subst h3;subst h4;exact h1
   |succ j=>simp at h3
  unfold ue at hl;split at hl
  ·rename_i fs hu;split at hl
   ·rename_i ls' I0;split at hl
    ·rename_i eM;simp only[Option.some.injEq]at hl;subst hl;obtain⟨xs,n,rfl,rfl,kJ,Jj,hf⟩:=DataW.trod_struct hu h;obtain⟨ds,h1,h2,h3⟩:=oL (S:=S) (L:=ue P k) (n:=n) (cs:=cs) (enc:=enc) (base:=base) (spare:=spare) (held:=held) (fun e ls hl hs cs' y hy=>qO ih k n (by omega) e ls hl hs cs' y hy) I0 hs (fun f UI=>by
      obtain⟨i,hi⟩:=aax UI;have h6:=hf i f (Array.getElem?_toList.symm.trans hi);have CL:i<xs.length:=by
       rw[Jj,<-Array.length_toList];exact(aaw.1 hi).1
      rw[aau CL]at h6;exact⟨_,h6⟩) (by omega)
     exact⟨ds,by omega,h2,fun j d u h4 h5=>h3 j d u h4 (by rw[Nat.zero_add];exact h5)⟩
    ·simp at hl
   ·simp at hl
  ·split at hl
   ·simp at hl;exact one hl.symm
   ·simp at hl
  ·split at hl
   ·simp at hl;exact one hl.symm
   ·simp at hl
  ·split at hl
   ·simp at hl;exact one hl.symm
   ·simp at hl
  ·split at hl
   ·simp at hl;exact one hl.symm
   ·simp at hl
  ·simp at hl
theorem sH {S:List TypeId} {N:Nat} (ih:∀fuel,fuel<N->∀t,t∈S->∀cs x,DataW.trod enc P w base spare held fuel t cs=some x->∃u d,cs=[u]/\bh (uf w) w d u/\CR P t d) {fuel:Nat} (hN:fuel<N)
  {e:TypeId} {ls:List TypeId} (hl:zy P e=some ls) (hs:∀t∈ls,t∈S) {cs:List Value} {y:DataW H×List MemPlace} (h:DataW.trod enc P w base spare held fuel e cs=some y):
  ∃ds,ds.length=cs.length/\e7 P ls ds/\∀(j:Nat) d u,ds[j]? =some d->cs[j]? =some u->bh (uf w) w d u:=qO ih 8 fuel hN e ls hl hs cs y h
theorem Ap (a:Addr) (i j:Nat):(a.add i).add j=a.add (i+j):=by
 unfold Addr.add;by_cases hi:i=0<;>by_cases hj:j=0<;>simp[hi,hj,Nat.add_assoc]
theorem sI {S:List TypeId} (hS:xy P S=true):∀(fuel:Nat) (t:TypeId),t∈S->∀cs x,DataW.trod enc P w base spare held fuel t cs=some x->∃u d,cs=[u]/\bh (uf w) w d u/\CR P t d:=by
 intro fuel;induction fuel using Nat.strongRecOn with
 |_ fuel ih=>
  intro t ht cs x h;have hk:=aav.1 hS t ht;split at hk
  ·rename_i hu;obtain⟨b,rfl,_⟩:=DataW.trod_bool hu h;exact⟨_,.bool b,rfl,rfl,hu⟩
  ·rename_i k hu;obtain⟨n,rfl,_,hw⟩:=DataW.trod_int hu h;exact⟨_,.int k n,rfl,rfl,hu,hw⟩
  ·rename_i hu;obtain⟨s,rfl,_,hw⟩:=DataW.trod_string hu h;refine⟨_,.str s.data.toList,rfl,?_,hu,?_⟩
   ·obtain⟨⟨l⟩⟩:=s
    rfl
   ·exact hw
  ·rename_i e hu;split at hk
   ·rename_i ls hl;simp only[aaC,aav,beq_iff_eq,aaA,decide_eq_true_eq]at hk;rcases DataW.trod_slice hu h with⟨rfl,_⟩|⟨a,len,cap,elems,rest,n,rfl,rfl,_,_,hle,hm,tz,hx,_,_⟩
    ·refine⟨_,.sl [],rfl,?_,e,ls,hu,hl,by simp,trivial⟩;simp only[bh];exact⟨none,0,rfl,Nat.le_refl _,.inl trivial⟩
    ·have dK:∀i,i<len->∃ds,ds.length=P.cellsOf e/\e7 P ls ds/\∀(j:Nat) d,ds[j]? =some d->∃u,w.cell? (a.add (i*P.cellsOf e+j))=some u/\bh (uf w) w d u:=by
      intro i hi;have h1:=hx i hi;rw[aau (by omega)]at h1;obtain⟨cs',h2,h3⟩:=Option.bind_eq_some_iff.1 h1;obtain⟨_,h4,h5⟩:=World.cells?_some h2;obtain⟨ds,h6,h7,h8⟩:=sH (S:=S) (N:=n+1) (fun f hf t' LJ cs x gp=>ih f (by omega) t' LJ cs x gp) (aaD n) hl hk.1.1 h3;refine⟨ds,by omega,h7,fun j d hj=>?_⟩;have iZ:j<cs'.length:=by have:=(aaw.1 hj).1;omega
      have h9:=h5 j (by omega);rw[Ap,aau iZ]at h9;exact⟨_,h9,h8 j d _ hj (aau iZ)⟩
     obtain⟨rows,ni,hr⟩:=vn len dK;refine⟨_,.sl rows,rfl,?_,e,ls,hu,hl,by omega,nW.mk fun r AT=>?_⟩
     ·simp only[bh];refine⟨some a,cap,by rw[ni],by omega,?_⟩;by_cases h0:rows=[]
      ·exact .inl h0
      right
      have Ou:0<len:=by
       cases rows with
       |nil=>exact absurd rfl h0
       |cons r rs=>simp at ni;omega
      have wA:∀i j,i<len->j<P.cellsOf e->∃u,w.cell? (a.add (i*P.cellsOf e+j))=some u:=by
       intro i j hi hj;obtain⟨ds,h1,h2,h3⟩:=dK i hi;obtain⟨u,h4,_⟩:=h3 j _ (aau (show j<ds.length by omega));exact⟨u,h4⟩
      have yv:0<P.cellsOf e:=by omega
      have KW:a.spot=none:=by
       obtain⟨u,h4⟩:=wA 0 0 Ou yv;have:=(zA h4).1;simpa[Addr.add]using this
      have qU:∀k,a.add k=⟨a.block,a.off+k,none⟩:=by
       intro k;obtain⟨b,o,sp⟩:=a;simp only at KW;subst KW;unfold Addr.add;by_cases gx:k=0<;>simp[gx]
      refine⟨a.block,a.off,P.cellsOf e,congrArg some (qU 0),?_,cj.mk fun i r hi=>?_⟩
      ·obtain⟨u,h4⟩:=wA (len-1) (P.cellsOf e-1) (by omega) (by omega);have h5:=(zA h4).2;rw[qU]at h5;simp only at h5;have h6:rows.length*P.cellsOf e=(len-1)*P.cellsOf e+P.cellsOf e:=by
        rw[ni,<-Nat.succ_mul]
        congr 1;omega
       omega
      ·obtain⟨h1,h2,h3⟩:=hr i r hi;refine⟨h1,dm.mk fun j x hj=>?_⟩;obtain⟨u,h4,h5⟩:=h3 j x hj;rw[qU]at h4;exact⟨u,by rw[<-h4];congr 2;omega,h5⟩
     ·obtain⟨i,hi⟩:=aax AT;exact(hr i r hi).2.1
   ·simp at hk
  ·simp at hk
def Ov (P:Program) (t:TypeId):AV->Prop
 |.c (.d x)=>Ej ((P.underlying t).getD .bool)=false/\CR P t x
 |.agg xs=>Ej ((P.underlying t).getD .bool)=true/\∃ls ds,zy P t=some ls/\xs=ds.map CV.d/\e7 P ls ds
 |_=>False
def JV (P:Program):List TypeId->List AV->Prop
 |[],[]=>True
 |t::ts,x::xs=>Ov P t x/\JV P ts xs
 |_,_=>False
def xz (P:Program) (S:List TypeId) (t:TypeId):Bool:=
 match P.underlying t with
 |some (.struct _)=>match zy P t with
  |some ls=>ls.all S.contains
  |none=>false
 |some .bool|some (.int _)|some .string|some (.slice _)=>S.contains t
 |_=>false
def vU (w:World):Gh:=⟨[],[],uf w⟩
theorem F4 (w:World):Inv (vU w) w [] []:=by
 refine⟨rfl,rfl,fun l row b h=>by simp at h,fun k r v h=>by simp at h,fun l l' b h=>by simp[vU]at h,fun k k' v v' b h=>by simp[vU]at h,fun l k v b h=>by simp[vU]at h,fun b hb=>?_⟩;simp only[vU,uf];rw[Array.getElem?_eq_none hb]
theorem B6 {S:List TypeId} (hS:xy P S=true) {t:TypeId} (hp:xz P S t=true) {r:Reach} {b0:Nat} {v:Value} {d:DataW H} {ps:List MemPlace} (hv:Value.okWide P w r b0 t v)
  (h:DataW.Trod enc P w base spare held t v d ps):∃x,aV (vU w) w [] x v/\Ov P t x:=by
 obtain⟨fuel,h⟩:=h;have leaf:t∈S->Ej ((P.underlying t).getD .bool)=false->v.cells= #[v]->∃x,aV (vU w) w [] x v/\Ov P t x:=by
  intro ht ha hc;rw[hc]at h;obtain⟨u,d,h1,h2,h3⟩:=sI hS fuel t ht _ _ h;simp only[List.cons.injEq,and_true]at h1;subst h1;exact⟨.c (.d d),h2,ha,h3⟩
 unfold xz at hp;split at hp
 ·rename_i fs hu;split at hp
  ·rename_i ls hl;obtain⟨cs,rfl,_⟩:=okWide_struct hu hv;simp only[aav,aaA]at hp;obtain⟨ds,h1,h2,h3⟩:=sH (S:=S) (N:=fuel+1) (fun f _ t' LJ cs x gp=>sI hS f t' LJ cs x gp) (aaD _) hl hp h;refine⟨.agg (ds.map CV.d),⟨cs.toList,rfl,by simpa[Value.cells]using h1.symm,fun i x u h4 h5=>?_⟩,by simp[hu,Ej],ls,ds,hl,rfl,h2⟩;simp only[List.getElem?_map,aaB]at h4;obtain⟨d',h6,rfl⟩:=h4;exact h3 i d' u h6 h5
  ·simp at hp
 ·rename_i hu;obtain⟨b,rfl⟩:=okWide_bool hu hv;exact leaf (by simpa using hp) (by simp[hu,Ej]) rfl
 ·rename_i k hu;obtain⟨b,rfl⟩:=okWide_int hu hv;exact leaf (by simpa using hp) (by simp[hu,Ej]) rfl
 ·rename_i hu;obtain⟨b,rfl⟩:=okWide_string hu hv;exact leaf (by simpa using hp) (by simp[hu,Ej]) rfl
 ·rename_i e hu;obtain⟨a,l,c,rfl⟩:=okWide_slice hu hv;exact leaf (by simpa using hp) (by simp[hu,Ej]) rfl
 ·simp at hp
theorem sJ {S:List TypeId} (hS:xy P S=true) {r:Reach} {b0:Nat}:∀{ts:List TypeId} {vs:List Value} {ds:List (DataW H)} {ps:List MemPlace},(∀t∈ts,xz P S t=true)->
  (∀(j:Nat) t v,ts[j]? =some t->vs[j]? =some v->Value.okWide P w r b0 t v)->DataW.TrodAll enc P w base spare held ts vs ds ps->
  ∃xs:List AV,vs.length=xs.length/\JV P ts xs/\∀(i:Nat) x u,xs[i]? =some x->vs[i]? =some u->aV (vU w) w [] x u
 |[],vs,ds,ps,_,_,h=>by
  obtain⟨rfl,rfl,rfl⟩:=trodAll_nil h;exact⟨[],rfl,trivial,fun i x u h=>by simp at h⟩
 |t::ts,vs,ds,ps,hp,hv,h=>by
  obtain⟨v,vs1,d,ds1,a,b,rfl,rfl,rfl,h1,h2⟩:=trodAll_cons h;obtain⟨x,dn,ji⟩:=B6 hS (hp t (by simp)) (hv 0 t v rfl rfl) h1;obtain⟨xs,h3,h4,h5⟩:=sJ hS (fun t' ht=>hp t' (by simp[ht])) (fun j t' v' h6 h7=>hv (j+1) t' v' (by simpa using h6) (by simpa using h7)) h2;refine⟨x::xs,by simp[h3],⟨ji,h4⟩,fun i y u h6 h7=>?_⟩;cases i with
  |zero=>simp at h6 h7;subst h6;subst h7;exact dn
  |succ i=>simp at h6 h7;exact h5 i y u h6 h7
theorem qP (hl:laidOutB P=true) {W W':World} (hb:Below W.heap.size W W'):∀{ts:List TypeId} {vs:List Value} {ds:List (DataW H)} {ps:List MemPlace},(∀t∈ts,P.readableRec t=true/\t<P.types.size)->
  (∀x∈ps,x.block<W.heap.size)->DataW.TrodAll enc P W 0 (fun _=>true) true ts vs ds ps->DataW.TrodAll enc P W' 0 (fun b=>decide (b<W.heap.size)) true ts vs ds ps
 |[],vs,ds,ps,_,_,h=>by
  obtain⟨rfl,rfl,rfl⟩:=trodAll_nil h;exact trodAll_mk0
 |t::ts,vs,ds,ps,hp,az,h=>by
  obtain⟨v,vs1,d,ds1,a,b,rfl,rfl,rfl,h1,h2⟩:=trodAll_cons h;have h3:=Below.trod hl (hp t (by simp)).1 (hp t (by simp)).2 h1 hb (fun x hx=>az x (by simp[hx]));exact⟨a,b,h3,qP hl hb (fun t' ht=>hp t' (by simp[ht])) (fun x hx=>az x (by simp[hx])) h2,rfl⟩
theorem qD {f:FuncId} {fn:Func} {s:ChangeSpec} {S:List TypeId} (hS:xy P S=true) (hl:laidOutB P=true) (F5:fn.params.toList.all (fun t=>xz P S t && P.readableRec t && decide (t<P.types.size))=true)
  {tb:TypeId} (fw:fn.resultTypes= #[tb]) (Rl:P.underlying tb=some .bool) (EI:s.vars=[])
  (hs:∀ds:List (DataW H),ds.length=fn.params.size->s.fn H (ds++[])={results:=[.lit (.bool true)],args:=ds})
  {W:World} {b0:Nat} {args:Array Value} {ds gs:List (DataW H)} {before:List MemPlace}
  (ic:∀xs,JV P fn.params.toList xs->ah P f xs [] (.c (.d (.bool true))) [] [])
  (C5:∀(j:Nat) t v,fn.params[j]? =some t->args[j]? =some v->Value.okWide P W .any b0 t v)
  (hW:DataW.Whole enc P fn.params.toList s.vars false W args.toList ds gs before) (Rm:AZ W (vU W)):
  Calls P f args W fun e W'=>∃v,e=.returned v/\s.post enc P fn false true false false W args v W':=by
 have az:=hW.lt;have UJ:=hW;obtain⟨p,q,hA,hV,rfl,FU,oQ⟩:=hW;rw[EI]at hV;obtain⟨rfl,rfl⟩:=trodVars_none hV;simp only[aav,aaC,decide_eq_true_eq]at F5;obtain⟨xs,h1,h2,h3⟩:=sJ hS (fun t ht=>(F5 t ht).1.1) (fun j t v h4 h5=>C5 j t v (by simpa using h4) (by simpa using h5)) hA;obtain⟨_,_,hc⟩:=ic xs h2;refine(hc (vU W) W args rfl (F4 W) Rm (by simpa using h1) (fun i x u h4 h5=>h3 i x u h4 (by simpa using h5))).mono ?_;rintro e W' ⟨v,g',rfl,hr,hI,hF⟩;simp only[aV,dD,bm,bh]at hr;subst hr;have hb:Below W.heap.size W W':=⟨hF.os,hF.tape,hF.output,hF.size,fun k hk=>hF.qF k hk (by simp[vU]) (by simp[Gh.jg,vU])⟩;have No:ds.length=fn.params.size:=by
  have:∀{ts:List TypeId} {vs:List Value} {ds:List (DataW H)} {ps:List MemPlace},DataW.TrodAll enc P W 0 (fun _=>true) true ts vs ds ps->ds.length=ts.length:=by
   intro ts;induction ts with
   |nil=>intro vs ds ps h;obtain⟨_,rfl,_⟩:=trodAll_nil h;rfl
   |cons t ts ih=>intro vs ds ps h;obtain⟨v,vs1,d,ds1,a,b,rfl,rfl,rfl,h1,h2⟩:=trodAll_cons h;simp[ih h2]
  simpa using this hA
 have Ow:=hs ds No;refine⟨.bool true,rfl,ds,[],_,[],p,[],UJ,?_,?_,?_,hb.frame _,fun h=>by simp at h⟩
 ·rw[Ow,fw];exact trodAll_mk1 (shut_bool Rl true)
 ·rw[Ow];exact qP hl hb (fun t ht=>⟨(F5 t ht).1.2,(F5 t ht).2⟩) (fun x hx=>az x (by simp[hx])) hA
 ·rw[Ow,EI]
  rfl
theorem DC {f:FuncId} {fn:Func} {s:ChangeSpec} {S:List TypeId} (hS:xy P S=true) (hl:laidOutB P=true) (F5:fn.params.toList.all (fun t=>xz P S t && P.readableRec t && decide (t<P.types.size))=true)
  {tb:TypeId} (fw:fn.resultTypes= #[tb]) (Rl:P.underlying tb=some .bool) (EI:s.vars=[])
  (hs:∀ds:List (DataW H),ds.length=fn.params.size->s.fn H (ds++[])={results:=[.lit (.bool true)],args:=ds})
  {W:World} {b0:Nat} {args:Array Value} {ds gs:List (DataW H)} {before:List MemPlace}
  (ic:∀xs,JV P fn.params.toList xs->ah P f xs [] (.c (.d (.bool true))) [] [])
  (C5:∀(j:Nat) t v,fn.params[j]? =some t->args[j]? =some v->Value.okWide P W .any b0 t v)
  (hW:DataW.Whole enc P fn.params.toList s.vars false W args.toList ds gs before) (fe:Lb=none/\Ld=[]:=by exact⟨rfl,rfl⟩):
  Calls P f args W fun e W'=>∃v,e=.returned v/\s.post enc P fn false true false false W args v W':=
 qD hS hl F5 fw Rl EI hs ic C5 hW fun b hb=>hb.elim (fun h=>by rw[fe.1]at h;cases h) (fun h=>by rw[fe.2]at h;cases h)
end
end Go.Av
