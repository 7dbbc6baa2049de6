/- A part. -/
import Derived.Test.YtloolmchekcmeaaGreatXB5
set_option linter.unusedVariables false
set_option linter.unusedSimpArgs false
open List renaming range->Y5,getD->Y6,take_append_drop->Y7,mem_range->Y8,mem_append->Y9,contains_eq_mem->Za,all_eq_true->Zb
open Bool renaming and_eq_true->Zc,or_eq_true->Zd
open Array renaming getElem?_eq_getElem->Ze,getElem?_eq_some_iff->Zf,mem_toList_iff->Zg,getElem?_setIfInBounds_ne->Zh
open Nat renaming lt_or_ge->Zi,le_refl->Zj,zero_add->Zk,strongRecOn->Zl,lt_trichotomy->Zm
open Option renaming bind_some->Zn
namespace Go.Av
open Go
section
variable {P:Program} {n:Nat} {Q:Exit->St->Prop} {s:St}
theorem T.seal {c:Code} (t k n':Nat) {r:bu} (ht:look s.fr t=some (.c (.own k n'))) (hk:s.A[k]? =some r) (hn:n'=r.rows.length) (h:T P n c Q ⟨(t,.c (.d (.sl r.rows)))::s.fr,s.V,s.A.set k {r with wr:=false}⟩):T P n c Q s:=by
 intro eT w0 g0 g a w hR;obtain⟨u,hu,PF⟩:=hR.slot t _ ht;have hd:nE s.A (.own k n')=some (.sl r.rows):=by simp[nE,hk,hn]
 obtain⟨g',hI,hx,hF,_,_,UR⟩:=rZ hR.inv hR.fr (show bn g w s.A (.own k n') u from PF) hd;have hs:fM s.A (.own k n')=s.A.set k {r with wr:=false}:=by simp[fM,hk]
 rw[hs]at hI hx;refine h eT w0 g0 g' a w ⟨hI,hF,hR.size,hR.defers,fun t' x gI=>?_⟩;simp only[look]at gI;by_cases e:t'=t
 ·subst e;simp at gI;subst gI;exact⟨u,hu,UR⟩
 ·rw[if_neg e]at gI;obtain⟨u',h1,h2⟩:=hR.slot t' x gI;exact⟨u',h1,aO.ext hx h2⟩
end
section
variable {P:Program} {s:St}
theorem aB.gt {fn:Func} {e:Exit} {m:Nat} {a b:AV} {ys:List AV} {V':List (List CV)} (he:e=.normal\/e=.ret) (hr:(fu P s fn.results.toList).bind (ay s.A (Y5 m) [])=some (a::b::ys))
  (hV:fD s.A s.V (Y5 m) [] (Y5 m)=some V'):aB P fn m (.a8 (a::b::ys)) V' [] e s:=aB.g he hr rfl hV
theorem aB.g1 {fn:Func} {e:Exit} {m:Nat} {r:AV} {V':List (List CV)} (he:e=.normal\/e=.ret) (hr:(fu P s fn.results.toList).bind (ay s.A (Y5 m) [])=some [r])
  (hV:fD s.A s.V (Y5 m) [] (Y5 m)=some V'):aB P fn m r V' [] e s:=aB.g he hr rfl hV
end
section
attribute [-simp] bI eS iv bU bF iz mz rX mO z6 rowsOf look tq St.put gQ Fy b9 zY Jk rW rV EA AV.plain AV.cells CV.j5 nE iL kJ fM bQ ib AV.kT CV.kT qD AV.fS CV.fS bA iM kk oE cO fu uQ AV.qF CV.res se pos? wD wJ gR Sub kL kU
attribute [-simp] dI rS iE iy ic ck bK back fD one
def yH (ex:List Nat) (rs:Nat->bu) (V:List bu):List bu:=ex.foldl (fun W i=>W.set i (rs i)) V
theorem Ca (V:List bu):∀(ex:List Nat),yH ex (fun i=>V.getD i r8) V=V
 |[]=>rfl
 |i::ex=>by
  have h:V.set i (V.getD i r8)=V:=by
   apply List.ext_getElem?;intro j;rw[List.getElem?_set];split
   ·rename_i e;subst e;split
    ·rename_i h;simp[Y6,h]
    ·rename_i h;simp[Nat.le_of_not_lt h]
   ·rfl
  show yH ex _ (V.set i (V.getD i r8))=V;rw[h];exact Ca V ex
def dJ (P:Program) (s:St) (ow:Bool) (o:Oper) (ex exa:List Nat) (V0:List (List CV)) (A0:List bu) (x:AV):Prop:=
 ∀(rs:Nat->List CV) (ra:Nat->bu) GV GA,bI P ⟨s.fr,rS ex rs V0++GV,yH exa ra A0++GA⟩ ow o fun y V' A'=>y=x/\V'=rS ex rs V0++GV/\A'=yH exa ra A0++GA
def zy (P:Program) (all:Array Oper) (ow:Nat->Bool) (ws fs:List Nat) (m:Nat) (ex exa:List Nat) (V0:List (List CV)) (A0:List bu) (K:St->Prop):Nat->List Oper->St->Prop
 |_,[],s=>K s
 |i,o::rest,s=>iv all s o (bI P s (ow i) o fun x V A=>(i∈ws\/(V=s.V/\A=s.A))/\(i∈ws->i<m->V.take V0.length=rS ex (fun i=>V.getD i []) V0/\A.take A0.length=yH exa (fun i=>A.getD i r8) A0)/\(i∈fs->dJ P s (ow i) o ex exa V0 A0 x)/\
   zy P all ow ws fs m ex exa V0 A0 K (i+1) rest (s.put o.dst x V A)) (zy P all ow ws fs m ex exa V0 A0 K (i+1) rest (s.put o.dst (.c .undef) s.V s.A))
section
variable {P:Program} {n:Nat} {Q Q':Exit->St->Prop} {s s':St} {w0:World} {g0 g g':Gh} {a:Act} {w w':World} {V:List (List CV)} {A A':List bu}
def Oa (P:Program) (all:Array Oper) (ow:Bool) (fs:List Nat) (j:Nat) (ex exa:List Nat) (V0:List (List CV)) (A0:List bu) (o:Oper) (s s':St):Prop:=
 iv all s o True True/\((gw all s o=true/\∃x V A,s'=s.put o.dst x V A/\(∀K:AV->List (List CV)->List bu->Prop,K x V A->bI P s ow o K)/\(j∈fs->dJ P s ow o ex exa V0 A0 x))\/(gw all s o=false/\s'=s.put o.dst (.c .undef) s.V s.A))
def LN (ex exa:List Nat) (V0:List (List CV)) (A0:List bu) (s:St):Prop:=s.V.take V0.length=rS ex (fun i=>s.V.getD i []) V0/\s.A.take A0.length=yH exa (fun i=>s.A.getD i r8) A0
theorem pK {all:Array Oper} {ow:Nat->Bool} {ws fs:List Nat} {m:Nat} {ex exa:List Nat} {V0:List (List CV)} {A0:List bu} {K:St->Prop}:∀(ops:List Oper) (i:Nat) (s:St),zy P all ow ws fs m ex exa V0 A0 K i ops s->
  ∃σ:Nat->St,σ 0=s/\K (σ ops.length)/\∀(j:Nat) o,ops[j]? =some o->Oa P all (ow (i+j)) fs (i+j) ex exa V0 A0 o (σ j) (σ (j+1))/\(i+j∈ws\/((σ (j+1)).V=(σ j).V/\(σ (j+1)).A=(σ j).A))/\
   (i+j<m->LN ex exa V0 A0 (σ (j+1))\/((σ (j+1)).V=(σ j).V/\(σ (j+1)).A=(σ j).A))
 |[],i,s,h=>⟨fun _=>s,rfl,h,fun j o h=>by simp at h⟩
 |o::rest,i,s,h=>by
  simp only[zy]at h;obtain⟨h0,hg⟩:=fZ h;rcases h0 with⟨h1,h2⟩|⟨h1,h2⟩
  ·obtain⟨x,V,A,⟨h3,NR,FK,h4⟩,h5⟩:=gl h2;obtain⟨σ,k1,k2,k3⟩:=pK rest (i+1) _ h4;refine⟨fun j=>match j with|0=>s|j+1=>σ j,rfl,k2,fun j o' ho=>?_⟩;cases j with
   |zero=>
    simp at ho;subst ho;refine⟨⟨hg,.inl ⟨h1,x,V,A,k1,h5,FK⟩⟩,?_,fun hm=>?_⟩
    ·rcases h3 with h3|⟨h3,s7⟩
     ·exact .inl h3
     ·exact .inr (by simp only[k1];exact⟨h3,s7⟩)
    ·rcases h3 with h3|⟨h3,s7⟩
     ·exact .inl (by simp only[k1];exact NR h3 hm)
     ·exact .inr (by simp only[k1];exact⟨h3,s7⟩)
   |succ j=>
    simp at ho;have:=k3 j o' ho;rwa[show i+1+j=i+(j+1) by omega]at this
  ·obtain⟨σ,k1,k2,k3⟩:=pK rest (i+1) _ h2;refine⟨fun j=>match j with|0=>s|j+1=>σ j,rfl,k2,fun j o' ho=>?_⟩;cases j with
   |zero=>
    simp at ho;subst ho;exact⟨⟨hg,.inr ⟨h1,k1⟩⟩,.inr (by simp only[k1];exact⟨rfl,rfl⟩),fun _=>.inr (by simp only[k1];exact⟨rfl,rfl⟩)⟩
   |succ j=>
    simp at ho;have:=k3 j o' ho;rwa[show i+1+j=i+(j+1) by omega]at this
set_option maxHeartbeats 2000000 in
theorem Cb {all:Array Oper} {ow:Nat->Bool} {ws fs:List Nat} {m:Nat} {ex exa:List Nat} {V0:List (List CV)} {A0:List bu} {σ:Nat->St} {K:St->Prop} {Q:Exit->Act->World->Prop} (hd:iH all ws fs m=true) (fc:da n all.toList=true)
  (lV:∀(j:Nat) o,all[j]? =some o->Oa P all (ow j) fs j ex exa V0 A0 o (σ j) (σ (j+1))/\(j∈ws\/((σ (j+1)).V=(σ j).V/\(σ (j+1)).A=(σ j).A))/\(j<m->LN ex exa V0 A0 (σ (j+1))\/((σ (j+1)).V=(σ j).V/\(σ (j+1)).A=(σ j).A))) (Hz:(σ 0).V=V0/\(σ 0).A=A0)
  (hK:K (σ all.size)) (hQ:∀s' g' a' w',K s'->Rp n w0 g0 s' g' a' w'->Q .normal a' w'):
  ∀(fuel:Nat) (af:Array Bool) (k0:Nat) (g:Gh) (a:Act) (w:World),((Y5 all.size).filter fun i=> !af.getD i true).length<=fuel->yc all ws σ n w0 g0 af k0 g a w->wpAny P .any all Q fuel af a w:=by
 simp only[iH,Zc,Zb]at hd;obtain⟨⟨⟨⟨gk,jk⟩,nM⟩,I9⟩,Ja⟩:=hd;have cV:∀(j:Nat) o,all[j]? =some o->(o,j)∈all.toList.zipIdx:=fun j o h=>by
  rw[List.mem_iff_getElem?];exact⟨j,by simp[List.getElem?_zipIdx,h]⟩
 have c7:∀(j:Nat) o,all[j]? =some o->∀e∈o.after,Region.binds .any e=true->e.on<j:=fun j o h e he hb=>by
  have:=gk _ (cV j o h) e (Zg.2 he);simpa[hb]using this
 have fW:∀(i j:Nat) oi oj,all[i]? =some oi->all[j]? =some oj->i<j->cH all ws fs m (aX all.toList []) oi oj i j=true:=fun i j oi oj h1 h2 ax=>by
  have:=jk _ (cV j oj h2) _ (cV i oi h1);simpa[ax]using this
 have b7:∀(i j:Nat) oi oj,all[i]? =some oi->all[j]? =some oj->i<j->i∉fs->j∉fs->bq all ws (aX all.toList []) oi oj i j=true:=fun i j oi oj h1 h2 ax hi hj=>by
  have:=fW i j oi oj h1 h2 ax;simpa[cH,bq,hi,hj]using this
 have mi:∀i,i∈ws->i∉fs:=fun i hi hf=>by
  have:=I9 i hf;simp[hi]at this
 have Dw:∀k,k<=m->k<=all.size->LN ex exa V0 A0 (σ k):=by
  intro k;induction k with
  |zero=>
   intro _ _;refine⟨?_,?_⟩
   ·rw[Hz.1,pD];simp
   ·rw[Hz.2,Ca];simp
  |succ k ih=>
   intro h1 h2;have ho:all[k]? =some all[k]:=Ze (by omega);rcases(lV k _ ho).2.2 (by omega)with h3|⟨h3,h4⟩
   ·exact h3
   ·have:=ih (by omega) (by omega);exact⟨by rw[h3];exact this.1,by rw[h4];exact this.2⟩
 have uT:∀(j:Nat) o,all[j]? =some o->j∈ws->cO o.op=false:=fun j o h hj=>by
  have:=nM _ (cV j o h);simpa[hj]using this
 have fU:∀(i j:Nat) oi oj d,all[i]? =some oi->all[j]? =some oj->i<j->oi.dst=some d->oj.dst≠some d:=fun i j oi oj d h1 h2 ax h3 h4=>by
  have:=fW i j oi oj h1 h2 ax;simp[cH,h3,h4]at this
 have rj:∀(i j:Nat) oi oj d,all[i]? =some oi->all[j]? =some oj->oi.dst=some d->oj.dst=some d->i=j:=fun i j oi oj d h1 h2 h3 h4=>by
  rcases Zm i j with h|h|h
  ·exact absurd h4 (fU i j oi oj d h1 h2 h h3)
  ·exact h
  ·exact absurd h3 (fU j i oj oi d h2 h1 h h4)
 have Ae:∀(j:Nat) o d,all[j]? =some o->o.dst=some d->d<n:=fun j o d h1 h2=>by
  have:=Zb.1 fc o (by rw[Zg];exact Array.mem_of_getElem? h1);simpa[h2]using this
 obtain⟨GO,_,BD⟩:=fe all.toList []
 have mW:∀{af:Array Bool},(∀(i:Nat) o,all[i]? =some o->af[i]? =some true->∀e∈o.after,Region.binds .any e=true->af[e.on]? =some true)->
   ∀(i:Nat) o,all[i]? =some o->(∀e∈o.after,Region.binds .any e=true->af[e.on]? =some true)->∀k,((aX all.toList []).getD i 0).testBit k=true->af[k]? =some true:=by
  intro af kS i;induction i using Zl with
  |_ i ih=>
   intro o ho cG k hk;obtain⟨pre,h1,h2,h3⟩:=BD i o (by simpa using ho);simp only[List.length_nil,Zk]at h1 h3;have h4:(aX all.toList []).getD i 0=mV pre o:=by simp[Y6,h3]
   rw[h4]at hk;obtain⟨e,he,hb,h5⟩:=fT hk;have s9:=cG e he hb;rcases h5 with rfl|h5
   ·exact s9
   ·have ax:=c7 i o ho e he hb;have h6:pre.getD e.on 0=(aX all.toList []).getD e.on 0:=by simp only[Y6,h2 e.on (by omega)]
    rw[h6]at h5;have e5:e.on<all.size:=by have:=(Zf.1 ho).1;omega
    have uU:all[e.on]? =some all[e.on]:=Ze e5;exact ih e.on ax _ uU (kS e.on _ uU s9) k h5
 have mb:∀(j:Nat) o t,all[j]? =some o->o.dst≠some t->look (σ (j+1)).fr t=look (σ j).fr t:=fun j o t h1 h2=>by
  obtain⟨⟨_,h3⟩,_⟩:=lV j o h1;have kp:∀(x:AV) V A,look ((σ j).put o.dst x V A).fr t=look (σ j).fr t:=fun x V A=>by
   simp only[St.put];cases q9:o.dst with
   |none=>rfl
   |some d=>simp only[look];rw[if_neg (fun e=>h2 (by rw[q9,e]))]
  rcases h3 with⟨_,x,V,A,h4,_,_⟩|⟨_,h4⟩
  ·rw[h4];exact kp x V A
  ·rw[h4];exact kp _ _ _
 have oP:∀(j t:Nat),j<=all.size->(∀(i:Nat) o,i<j->all[i]? =some o->o.dst≠some t)->look (σ j).fr t=look (σ 0).fr t:=by
  intro j;induction j with
  |zero=>intro t _ _;rfl
  |succ j ih=>
   intro t hj iw;have ho:all[j]? =some all[j]:=Ze (by omega);rw[mb j _ t ho (iw j _ (by omega) ho)];exact ih t (by omega) (fun i o hi=>iw i o (by omega))
 have oQ:∀(j i:Nat) oi t,j<=all.size->i<j->all[i]? =some oi->oi.dst=some t->look (σ j).fr t=look (σ (i+1)).fr t:=by
  intro j;induction j with
  |zero=>intro i oi t _ h;omega
  |succ j ih=>
   intro i oi t hj kI aV cn;by_cases e:i=j
   ·subst e;rfl
   ·have ho:all[j]? =some all[j]:=Ze (by omega);rw[mb j _ t ho (fU i j oi _ t aV ho (by omega) cn)];exact ih i oi t (by omega) (by omega) aV cn
 have tH:∀(b a:Nat),a<=b->b<=all.size->(∀i,a<=i->i<b->i∉ws)->(σ b).V=(σ a).V/\(σ b).A=(σ a).A:=by
  intro b;induction b with
  |zero=>
   intro a h _ _;obtain rfl:a=0:=by omega
   exact⟨rfl,rfl⟩
  |succ b ih=>
   intro a PH hb iw;by_cases e:a=b+1
   ·subst e;exact⟨rfl,rfl⟩
   ·have ho:all[b]? =some all[b]:=Ze (by omega);obtain⟨h1,h2⟩:=ih a (by omega) (by omega) (fun i hi Fv=>iw i hi (by omega));rcases(lV b _ ho).2.1 with h3|⟨h3,h4⟩
    ·exact absurd h3 (iw b (by omega) (by omega))
    ·exact⟨h3.trans h1,h4.trans h2⟩
 have lU:∀{af:Array Bool} {k0:Nat} {g:Gh} {a:Act} {w:World},yc all ws σ n w0 g0 af k0 g a w->Region.ready .any all af=[]->Q .normal a w:=by
  intro af k0 g a w hD hr;have dh:∀i,i<all.size->af[i]? =some true:=by
   intro i;induction i using Zl with
   |_ i ih=>
    intro hi;have ho:all[i]? =some all[i]:=Ze hi;have bE:i<af.size:=by rw[hD.eI];exact hi
    cases hl:af[i]with
    |true=>rw[Ze bE,hl]
    |false=>
     exfalso
     have:i∈Region.ready .any all af:=mem_ready.2 ⟨by simp[bE,hl],_,ho,fun e he hb=>cF.2 (ih e.on (c7 i _ ho e he hb) (by have:=c7 i _ ho e he hb;omega))⟩;rw[hr]at this;simp at this
  have kV:=tH all.size k0 hD.nL (Zj _) (fun i h1 h2 h3=>by have:=(hD.ep i h3 h2).1 (dh i h2);omega);refine hQ _ g a w hK ⟨by rw[kV.1,kV.2];exact hD.inv,hD.fr,hD.size,hD.defers,fun t x hx=>?_⟩;rw[kV.2];by_cases hex:∃(i:Nat) (o:Oper),all[i]? =some o/\o.dst=some t
  ·obtain⟨i,o,ho,cn⟩:=hex;have hi:=(Zf.1 ho).1;rw[oQ all.size i o t (Zj _) hi ho cn]at hx;exact hD.ga i o t x ho (dh i hi) cn hx
  ·rw[oP all.size t (Zj _) (fun i o _ ho cn=>hex ⟨i,o,ho,cn⟩)]at hx;exact hD.gd t x (fun i o ho _ cn=>hex ⟨i,o,ho,cn⟩) hx
 intro fuel;induction fuel with
 |zero=>
  intro af k0 g a w hf hD;have la:Region.ready .any all af=[]:=by
   have h0:((Y5 all.size).filter fun i=> !af.getD i true)=[]:=List.eq_nil_of_length_eq_zero (by omega);rcases hr:Region.ready .any all af with _|⟨j,r⟩
   ·rfl
   ·have hj:j∈Region.ready .any all af:=by rw[hr];simp
    obtain⟨h1,o,h2,_⟩:=mem_ready.1 hj;have:j∈((Y5 all.size).filter fun i=> !af.getD i true):=by
     rw[List.mem_filter,Y8];exact⟨(Zf.1 h2).1,by simp[h1]⟩
    rw[h0]at this;simp at this
  exact⟨la,lU hD la⟩
 |succ fuel ih=>
  intro af k0 g a w hf hD;refine⟨fun hr=>lU hD hr,fun j hj=>?_⟩;obtain⟨mX,o,ho,cG⟩:=mem_ready.1 hj;have mY:=er mX;have rP:j<all.size:=(Zf.1 ho).1;have jA:j<af.size:=by rw[hD.eI];exact rP
  have cB:∀e∈o.after,Region.binds .any e=true->af[e.on]? =some true:=fun e he hb=>cF.1 (cG e he hb)
  have cv:∀k,((aX all.toList []).getD j 0).testBit k=true->af[k]? =some true:=mW hD.closed j o ho cB;have bZ:∀(i:Nat) oi,all[i]? =some oi->af[i]? =some true->((aX all.toList []).getD i 0).testBit j=false:=fun i oi aV bE=>by
   cases hb:((aX all.toList []).getD i 0).testBit j with
   |false=>rfl
   |true=>have:=mW hD.closed i oi aV (hD.closed i oi aV bE) j hb;rw[mY]at this;simp at this
  have jJ:∀t∈o.looksAt all,∀x,look (σ j).fr t=some x->∃u,a.tmps[t]? =some u/\aO g w (σ k0).A x u:=by
   intro t ht x hx;by_cases hex:∃(i:Nat) (oi:Oper),i<j/\all[i]? =some oi/\oi.dst=some t
   ·obtain⟨i,oi,kI,aV,cn⟩:=hex;rw[oQ j i oi t (by omega) kI aV cn]at hx;have hp:=fW i j oi o aV ho kI;have tI:dE all oi o=true:=by simp only[dE,cn];simpa using ht
    simp only[cH,tI,Zc,Zd]at hp;have hb:((aX all.toList []).getD j 0).testBit i=true:=by simpa using hp.2
    exact hD.ga i oi t x aV (cv i hb) cn hx
   ·rw[oP j t (by omega) (fun i oi kI aV cn=>hex ⟨i,oi,kI,aV,cn⟩)]at hx;refine hD.gd t x (fun i oi aV bE cn=>?_) hx;rcases Zm i j with h|h|h
    ·exact hex ⟨i,oi,h,aV,cn⟩
    ·subst h;rw[mY]at bE;simp at bE
    ·have hp:=fW j i o oi ho aV h;have tI:dE all oi o=true:=by simp only[dE,cn];simpa using ht
     have hb:=bZ i oi aV bE;simp only[cH,tI,hb,Zc,Zd]at hp;simp at hp
  let cR:=(σ j).fr.filter fun p=>(o.looksAt all).contains p.1
  have ld:∀t,look cR t=if(o.looksAt all).contains t then look (σ j).fr t else none:=fun t=>e8 (fun t=>(o.looksAt all).contains t) (σ j).fr t
  have hS:∀(V:List (List CV)),iA g w ⟨cR,V,(σ k0).A⟩ a:=fun V t x hx=>by
   simp only[ld]at hx;split at hx
   ·rename_i hc;exact jJ t (by simpa using hc) x hx
   ·cases hx
  have gL:∀(V V':List (List CV)) (A A':List bu),∀x∈o.op.operands.toList,bF ⟨cR,V,A⟩ x=bF ⟨(σ j).fr,V',A'⟩ x:=fun V V' A A' x hx=>by
   cases x with
   |tmp t=>
    simp only[bF,ld];rw[if_pos];simp only[Oper.looksAt,Za,decide_eq_true_eq,Y9,List.mem_filterMap];exact .inl ⟨.tmp t,hx,rfl⟩
   |_=>rfl
  have gU:Rp n w0 g0 ⟨cR,(σ k0).V,(σ k0).A⟩ g a w:=⟨hD.inv,hD.fr,hD.size,hD.defers,hS _⟩;obtain⟨⟨uP,ft⟩,Du,_⟩:=lV j o ho;have oR:iv all ⟨cR,(σ k0).V,(σ k0).A⟩ o True True/\gw all ⟨cR,(σ k0).V,(σ k0).A⟩ o=gw all (σ j) o:=by
   unfold iv gw at*;cases nN:o.guard with
   |none=>simp
   |some jw=>
    obtain⟨q,want⟩:=jw;simp only[nN]at uP⊢;obtain⟨oq,h1,h2⟩:=cC uP;obtain⟨t,h3,h4⟩:=cC h2;have:look cR t=look (σ j).fr t:=by
     rw[ld,if_pos];simp only[Oper.looksAt,nN,Za,decide_eq_true_eq,Y9];exact .inr (by simp[h1,h3])
    simp only[h1,bU,h3,Zn,this]at h4⊢;exact⟨h4,trivial⟩
  have lC:Region.wanted o (yielded all a.tmps)=gw all (σ j) o:=by
   rw[<-oR.2];have h0:=fZ oR.1;have h1:=oR.1;unfold iv at h1;unfold gw;cases nN:o.guard with
   |none=>simp[Region.wanted,nN]
   |some jw=>
    obtain⟨q,want⟩:=jw;simp only[nN]at h1⊢;obtain⟨oq,h2,h3⟩:=cC h1;obtain⟨t,h4,h5⟩:=cC h3;obtain⟨x,h6,h7⟩:=cC h5;obtain⟨h8,h9⟩:=jI gU h2 h4 h6;simp only[h2,Zn,h4,h6];split at h7
    ·rename_i b;simp[Region.wanted,nN,h8 b rfl]
    ·simp[Region.wanted,nN,h9 rfl]
    ·exact h7.elim
  have bN:∀i,(af.setIfInBounds j true)[i]? =if i=j then some true else af[i]? :=fun i=>by
   by_cases e:i=j
   ·subst e;simp[jA]
   ·rw[if_neg e,Zh (fun h=>e h.symm)]
  have c4:((Y5 all.size).filter fun i=> !(af.setIfInBounds j true).getD i true).length<=fuel:=by
   have ax:((Y5 all.size).filter fun i=> !(af.setIfInBounds j true).getD i true).length<((Y5 all.size).filter fun i=> !af.getD i true).length:=by
    have gK:∀i,(!(af.setIfInBounds j true).getD i true)=true->(!af.getD i true)=true:=fun i h=>by
     by_cases e:i=j
     ·subst e;simp[jA]at h
     ·have:(af.setIfInBounds j true).getD i true=af.getD i true:=by
       simp only[Array.getD_eq_getD_getElem?,bN,if_neg e]
      rwa[this]at h
    exact filter_lt gK (Y8.2 rP) (by simp[mX]) (by simp[jA])
   omega
  have cM:∀(k1:Nat) (x:AV) (v:Value) (w':World) (g':Gh),look (σ (j+1)).fr=look ((σ j).put o.dst x [] []).fr->aO g' w' (σ k1).A x v->Inv g' w' (σ k1).V (σ k1).A->Ext g w (σ k0).A g' w' (σ k1).A->Fr w0 g0 w' g'->k1<=all.size->(k1=0\/∃i∈ws,k1=i+1)->
    (∀i∈ws,i<all.size->((af.setIfInBounds j true)[i]? =some true↔i<k1))->yc all ws σ n w0 g0 (af.setIfInBounds j true) k1 g' (a.put o.dst v) w':=by
   intro k1 x v w' g' C6 yv hI hx hF hk LD FH;have iY:∀t u,o.dst≠some t->a.tmps[t]? =some u->(a.put o.dst v).tmps[t]? =some u:=fun t u dj hu=>by
    cases q9:o.dst with
    |none=>exact hu
    |some d=>
     simp only[Act.put];rw[Zh (fun e=>dj (by rw[q9,e]))];exact hu
   refine⟨hI,hF,?_,?_,by simp[hD.eI],fun i oi t y aV bE cn hy=>?_,fun t y iw hy=>?_,FH,hk,LD,fun i oi aV bE e he hb=>?_⟩
   ·cases o.dst<;>simp[Act.put,hD.size]
   ·cases o.dst<;>simp[Act.put,hD.defers]
   ·rw[bN]at bE;by_cases e:i=j
    ·subst e;obtain rfl:o=oi:=by rw[ho]at aV;exact Option.some.inj aV
     rw[C6]at hy;simp only[St.put,cn,look,if_true]at hy;cases hy
     refine⟨v,?_,yv⟩;have:t<a.tmps.size:=by rw[hD.size];exact Ae i o t ho cn
     simp[Act.put,cn,this]
    ·rw[if_neg e]at bE;obtain⟨u,h1,h2⟩:=hD.ga i oi t y aV bE cn hy;exact⟨u,iY t u (fun h=>e (rj i j oi o t aV ho cn h)) h1,aO.ext hx h2⟩
   ·have dj:o.dst≠some t:=iw j o ho (by rw[bN,if_pos rfl]);obtain⟨u,h1,h2⟩:=hD.gd t y (fun i oi aV bE=>iw i oi aV (by
     rw[bN];by_cases e:i=j
     ·rw[if_pos e]
     ·rw[if_neg e];exact bE)) hy
    exact⟨u,iY t u dj h1,aO.ext hx h2⟩
   ·rw[bN]at bE⊢;have:af[e.on]? =some true:=by
     by_cases e':i=j
     ·subst e';obtain rfl:o=oi:=by rw[ho]at aV;exact Option.some.inj aV
      exact cB e he hb
     ·rw[if_neg e']at bE;exact hD.closed i oi aV bE e he hb
    by_cases e':e.on=j
    ·rw[if_pos e']
    ·rw[if_neg e'];exact this
  have il:j∉ws->∀i∈ws,i<all.size->((af.setIfInBounds j true)[i]? =some true↔i<k0):=fun ez i hi b8=>by
   rw[bN,if_neg (fun e=>ez (by rw[<-e];exact hi))];exact hD.ep i hi b8
  have kV:cO o.op=false->j∉fs->(σ j).V=(σ k0).V/\(σ j).A=(σ k0).A:=by
   intro fK nU;rcases Nat.le_total j k0 with h|h
   ·have:=tH k0 j h hD.nL (fun i h1 h2 h3=>by
     have b8:i<all.size:=by have:=hD.nL;omega
     have bE:=(hD.ep i h3 b8).2 h2;have aV:all[i]? =some all[i]:=Ze b8;rcases Zi j i with h4|h4
     ·have hp:=b7 j i o _ ho aV h4 nU (mi i h3);have hb:=bZ i _ aV bE;simp only[bq,hb,Zc,Zd]at hp;simp[h3,fK]at hp
     ·obtain rfl:i=j:=by omega
      rw[mY]at bE;simp at bE)
    exact⟨this.1.symm,this.2.symm⟩
   ·exact tH j k0 h (by omega) (fun i h1 h2 h3=>by
     have b8:i<all.size:=by omega
     have aV:all[i]? =some all[i]:=Ze b8;have hp:=b7 i j _ o aV ho h2 (mi i h3) nU;simp only[bq,Zc,Zd]at hp;have hb:((aX all.toList []).getD j 0).testBit i=true:=by
      rcases hp.2 with h4|h4
      ·simp[h3,fK]at h4
      ·exact h4
     have:=(hD.ep i h3 b8).1 (cv i hb);omega)
  unfold wpOp;simp only[ho];rcases ft with⟨h1,x,V,A,h2,h3,FK⟩|⟨h1,h2⟩
  ·rw[if_pos (by rw[lC,h1])];refine .inl ?_;by_cases hs:cO o.op=true
   ·-- slots alone
    have ez:j∉ws:=fun h=>by have:=uT j o ho h;rw[hs]at this;simp at this
    have h4:bI P ⟨cR,(σ k0).V,(σ k0).A⟩ (ow j) o (fun y V' A'=>y=x/\V'=(σ k0).V/\A'=(σ k0).A):=nK (s:=σ j) (s':=⟨cR,(σ k0).V,(σ k0).A⟩) hs (gL _ _ _ _) h3 ⟨rfl,rfl,rfl⟩;obtain⟨y,V',A',⟨rfl,rfl,rfl⟩,h5⟩:=dk gU.inv gU.fr gU.slot h4;refine h5 _ _ fun v w' g' h6 h7 h8 h9=>ih _ k0 g' _ w' c4 (cM k0 y v w' g' (by rw[h2];rfl) h6 h7 h8 h9 hD.nL hD.kw (il ez))
   ·have fK:cO o.op=false:=by simpa using hs
    by_cases nU:j∈fs
    ·have ez:j∉ws:=fun h=>mi j h nU
     have Dx:k0<=m:=by
      rcases hD.kw with h|⟨i,hi,hk⟩
      ·omega
      ·rcases Zi i m with h|h
       ·omega
       ·exfalso
        have b8:i<all.size:=by have:=hD.nL;omega
        have aV:all[i]? =some all[i]:=Ze b8;have bE:=(hD.ep i hi b8).2 (by omega);have KO:j<i:=by
         have:=Ja j nU i hi;simp at this;omega
        have hp:=fW j i o _ ho aV KO;have hb:=bZ i _ aV bE;have tf:¬i<m:=by omega
        simp only[cH,hb,Zc,Zd]at hp;simp[hi,fK,tf,nU,ez]at hp
     obtain⟨dM,Ai⟩:=Dw k0 Dx hD.nL;have h4:bI P ⟨cR,(σ k0).V,(σ k0).A⟩ (ow j) o (fun y V' A'=>y=x/\V'=(σ k0).V/\A'=(σ k0).A):=by
      have h5:=FK nU (fun i=>(σ k0).V.getD i []) (fun i=>(σ k0).A.getD i r8) ((σ k0).V.drop V0.length) ((σ k0).A.drop A0.length);have e1:rS ex (fun i=>(σ k0).V.getD i []) V0++(σ k0).V.drop V0.length=(σ k0).V:=by
       rw[<-dM];exact Y7 _ _
      have e2:yH exa (fun i=>(σ k0).A.getD i r8) A0++(σ k0).A.drop A0.length=(σ k0).A:=by
       rw[<-Ai];exact Y7 _ _
      rw[e1,e2]at h5;exact eo (fr:=(σ j).fr) (gL _ _ _ _) h5
     obtain⟨y,V',A',⟨rfl,rfl,rfl⟩,h5⟩:=dk gU.inv gU.fr gU.slot h4;exact h5 _ _ fun v w' g' h6 h7 h8 h9=>ih _ k0 g' _ w' c4 (cM k0 y v w' g' (by rw[h2];rfl) h6 h7 h8 h9 hD.nL hD.kw (il ez))
    obtain⟨kK,iZ⟩:=kV fK nU;have h4:bI P ⟨cR,(σ k0).V,(σ k0).A⟩ (ow j) o (fun y V' A'=>y=x/\V'=V/\A'=A):=by
     rw[<-kK,<-iZ];exact eo (fr:=(σ j).fr) (gL _ _ _ _) (h3 _ ⟨rfl,rfl,rfl⟩)
    obtain⟨y,V',A',⟨rfl,rfl,rfl⟩,h5⟩:=dk gU.inv gU.fr gU.slot h4;have tc:(σ (j+1)).V=V':=by rw[h2];rfl
    have jo:(σ (j+1)).A=A':=by rw[h2];rfl
    by_cases ez:j∈ws
    ·refine h5 _ _ fun v w' g' h6 h7 h8 h9=>ih _ (j+1) g' _ w' c4 (cM (j+1) y v w' g' (by rw[h2];rfl) (by rw[jo];exact h6) (by rw[tc,jo];exact h7) (by rw[jo];exact h8) h9 (by omega) (.inr ⟨j,ez,rfl⟩) (fun i hi b8=>?_))
     have aV:all[i]? =some all[i]:=Ze b8;rw[bN];by_cases e:i=j
     ·subst e;simp
     ·rw[if_neg e];constructor
      ·intro bE;rcases Zi j i with h|h
       ·have hp:=b7 j i o _ ho aV h (mi j ez) (mi i hi);have hb:=bZ i _ aV bE;simp only[bq,hb,Zc,Zd]at hp;simp[hi,fK]at hp
       ·omega
      ·intro ax;have hp:=b7 i j _ o aV ho (by omega) (mi i hi) (mi j ez);simp only[bq,Zc,Zd]at hp;rcases hp.2 with h|h
       ·simp[hi,fK]at h
       ·exact cv i h
    ·rcases Du with Du|⟨p9,mI⟩
     ·exact absurd Du ez
     ·refine h5 _ _ fun v w' g' h6 h7 h8 h9=>ih _ k0 g' _ w' c4 (cM k0 y v w' g' (by rw[h2];rfl) ?_ ?_ ?_ h9 hD.nL hD.kw (il ez))
      ·rw[<-iZ,<-mI,jo];exact h6
      ·rw[<-kK,<-iZ,<-p9,<-mI,tc,jo];exact h7
      ·have e1:(σ k0).A=A':=by rw[<-iZ,<-mI,jo]
       rw[e1]at h8⊢;exact h8
  ·rw[if_neg (by rw[lC,h1];simp)];have tc:(σ (j+1)).V=(σ j).V:=by rw[h2];rfl
   have jo:(σ (j+1)).A=(σ j).A:=by rw[h2];rfl
   by_cases ez:j∈ws
   ·have fK:=uT j o ho ez;obtain⟨kK,iZ⟩:=kV fK (mi j ez);refine ih _ (j+1) g _ w c4 (cM (j+1) (.c .undef) undef w g (by rw[h2];rfl) rfl ?_ ?_ hD.fr (by omega) (.inr ⟨j,ez,rfl⟩) (fun i hi b8=>?_))
    ·rw[tc,jo,kK,iZ];exact hD.inv
    ·rw[jo,iZ];exact .refl _ _ _
    ·have aV:all[i]? =some all[i]:=Ze b8;rw[bN];by_cases e:i=j
     ·subst e;simp
     ·rw[if_neg e];constructor
      ·intro bE;rcases Zi j i with h|h
       ·have hp:=b7 j i o _ ho aV h (mi j ez) (mi i hi);have hb:=bZ i _ aV bE;simp only[bq,hb,Zc,Zd]at hp;simp[hi,fK]at hp
       ·omega
      ·intro ax;have hp:=b7 i j _ o aV ho (by omega) (mi i hi) (mi j ez);simp only[bq,Zc,Zd]at hp;rcases hp.2 with h|h
       ·simp[hi,fK]at h
       ·exact cv i h
   ·exact ih _ k0 g _ w c4 (cM k0 (.c .undef) undef w g (by rw[h2];rfl) rfl hD.inv (.refl _ _ _) hD.fr hD.nL hD.kw (il ez))
theorem T.sJ {id:Nat} {ops:Array Oper} (hm:P.follows .mixedOrders=true) (ow:Nat->Bool) (ws fs:List Nat) (m:Nat) (ex exa:List Nat) (hd:iH ops ws fs m=true) (h:zy P ops ow ws fs m ex exa s.V s.A (fun s'=>Q .normal s') 0 ops.toList s):T P n (.region id ops true) Q s:=by
 intro eT w0 g0 g a w hR;obtain⟨σ,h0,hK,lV⟩:=pK ops.toList 0 s h;obtain⟨hI,hx⟩:=hR.inv.heap (w':={w with drawn:=w.drawn+1}) rfl;refine wp_region_any hm (Cb (ex:=ex) (exa:=exa) (K:=fun s'=>Q .normal s') (w0:=w0) (g0:=g0) (n:=n) (σ:=σ) (ow:=ow) hd eT (fun j o ho=>?_) ⟨by rw[h0],by rw[h0]⟩ ?_ (fun s' g' a' w' h1 h2=>⟨s',g',h1,h2⟩) ops.size (Array.replicate ops.size false) 0 g a _ ?_ ?_)
 ·have:=lV j o (by simpa using ho);simpa only[Zk]using this
 ·simpa using hK
 ·exact Nat.le_trans (List.length_filter_le _ _) (by simp)
 ·refine⟨by rw[h0];exact hI,hR.fr.heap rfl rfl rfl rfl,hR.size,hR.defers,by simp,fun i o t x ho hl=>?_,fun t x _ gI=>?_,fun i _ b8=>?_,Nat.zero_le _,.inl rfl,fun i o ho hl=>?_⟩
  ·have hi:=(Zf.1 ho).1;simp[hi]at hl
  ·rw[h0]at gI⊢;obtain⟨u,h1,h2⟩:=hR.slot t x gI;exact⟨u,h1,aO.ext hx h2⟩
  ·simp[b8]
  ·have hi:=(Zf.1 ho).1;simp[hi]at hl
end
section
variable {P:Program} {n:Nat} {Q:Exit->St->Prop} {s s':St} {y:Code}
structure xi (P:Program) (all:Array Oper) (ow:Nat->Bool) (ws fs:List Nat) (m:Nat) (ex exa:List Nat) (V0:List (List CV)) (A0:List bu) (K:St->Prop) (i:Nat) (ops:List Oper) (s:St):Prop where
 mk::
 run:zy P all ow ws fs m ex exa V0 A0 K i ops s
theorem kB {all:Array Oper} {ow:Nat->Bool} {ws fs:List Nat} {m:Nat} {ex exa:List Nat} {V0:List (List CV)} {A0:List bu} {K:St->Prop} {i:Nat} {o:Oper} {rest:List Oper}
  (h:iv all s o (bI P s (ow i) o fun x V A=>(i∈ws\/(V=s.V/\A=s.A))/\(i∈ws->i<m->V.take V0.length=rS ex (fun i=>V.getD i []) V0/\A.take A0.length=yH exa (fun i=>A.getD i r8) A0)/\(i∈fs->dJ P s (ow i) o ex exa V0 A0 x)/\xi P all ow ws fs m ex exa V0 A0 K (i+1) rest (s.put o.dst x V A)) (xi P all ow ws fs m ex exa V0 A0 K (i+1) rest (s.put o.dst (.c .undef) s.V s.A))):xi P all ow ws fs m ex exa V0 A0 K i (o::rest) s:=
 ⟨nP (fun h=>gm (fun _ _ _ h=>⟨h.1,h.2.1,h.2.2.1,h.2.2.2.run⟩) h) (fun h=>h.run) h⟩
theorem jf {all:Array Oper} {ow:Nat->Bool} {ws fs:List Nat} {m:Nat} {ex exa:List Nat} {V0:List (List CV)} {A0:List bu} {K:St->Prop} {i:Nat} (h:K s):xi P all ow ws fs m ex exa V0 A0 K i [] s:=⟨h⟩
theorem T.Rk {id:Nat} {l:List Oper} (hm:P.follows .mixedOrders=true) (ow:Nat->Bool) (ws fs:List Nat) (m:Nat) (ex exa:List Nat) (hd:iH l.toArray ws fs m=true) (h:∀K:St->Prop,(∀s',T P n y Q s'->K s')->xi P l.toArray ow ws fs m ex exa s.V s.A K 0 l s):T P n (.seq (.region id l.toArray true) y) Q s:=
 T.seq (T.sJ hm ow ws fs m ex exa hd (h _ fun _ h=>h).run)
theorem T.HP {id:Nat} {l:List Oper} (hm:P.follows .mixedOrders=true) (ow:Nat->Bool) (ws fs:List Nat) (m:Nat) (ex exa:List Nat) (hd:iH l.toArray ws fs m=true) (h:∀K:St->Prop,(∀s',Q .normal s'->K s')->xi P l.toArray ow ws fs m ex exa s.V s.A K 0 l s):T P n (.region id l.toArray true) Q s:=
 T.sJ hm ow ws fs m ex exa hd (h _ fun _ h=>h).run
@[congr] theorem LO {all:Array Oper} {ow:Nat->Bool} {ws fs:List Nat} {m:Nat} {ex exa:List Nat} {V0:List (List CV)} {A0:List bu} {K:St->Prop} {i i':Nat} {ops:List Oper} (hi:i=i') (h:s=s'):xi P all ow ws fs m ex exa V0 A0 K i ops s=xi P all ow ws fs m ex exa V0 A0 K i' ops s':=by rw[h,hi]
theorem xi.gen {all:Array Oper} {ow:Nat->Bool} {ws fs:List Nat} {m:Nat} {ex exa:List Nat} {V0:List (List CV)} {A0:List bu} {K:St->Prop} {i:Nat} {ops:List Oper} {d:Nat} {b:Bool} {fr:List (Nat×AV)} {V:List (List CV)} {A:List bu}
  (h:∀q:Bool,b=q->xi P all ow ws fs m ex exa V0 A0 K i ops ⟨(d,.c (.d (.bool q)))::fr,V,A⟩):xi P all ow ws fs m ex exa V0 A0 K i ops ⟨(d,.c (.d (.bool b)))::fr,V,A⟩:=h b rfl
end
end
attribute [simp] dJ yH
end Go.Av
