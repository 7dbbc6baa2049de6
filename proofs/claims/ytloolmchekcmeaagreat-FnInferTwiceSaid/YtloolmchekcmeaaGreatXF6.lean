/- A part. -/
import Derived.Test.YtloolmchekcmeaaGreatXF5
set_option linter.unusedVariables false
set_option linter.unusedSimpArgs false
open List renaming range->YV,getD->YW,take_append_drop->YX,mem_range->YY,mem_append->YZ,contains_eq_mem->Y0,all_eq_true->Y1
open Bool renaming and_eq_true->Y2,or_eq_true->Y3
open Array renaming getElem?_eq_getElem->Y4,getElem?_eq_some_iff->Y5,mem_toList_iff->Y6,getElem?_setIfInBounds_ne->Y7
open Nat renaming lt_or_ge->Y8,le_refl->Y9,zero_add->Za,strongRecOn->Zb,lt_trichotomy->Zc
open Option renaming bind_some->Zd
namespace Go.Av
open Go
section
variable {P:Program} {n:Nat} {Q:Exit->St->Prop} {s:St}
theorem T.seal {c:Code} (t k n':Nat) {r:bz} (ht:look s.fr t=some (.c (.own k n'))) (hk:s.A[k]? =some r) (hn:n'=r.rows.length) (h:T P n c Q ⟨(t,.c (.d (.sl r.rows)))::s.fr,s.V,s.A.set k {r with wr:=false}⟩):T P n c Q s:=by
 intro eP w0 g0 g a w hR;obtain⟨u,hu,PF⟩:=hR.slot t _ ht;have hd:nI s.A (.own k n')=some (.sl r.rows):=by simp[nI,hk,hn]
 obtain⟨g',hI,hx,hF,_,_,UM⟩:=rR hR.inv hR.fr (show br g w s.A (.own k n') u from PF) hd;have hs:fK s.A (.own k n')=s.A.set k {r with wr:=false}:=by simp[fK,hk]
 rw[hs]at hI hx;refine h eP w0 g0 g' a w ⟨hI,hF,hR.size,hR.defers,fun t' x gD=>?_⟩;simp only[look]at gD;by_cases e:t'=t
 ·subst e;simp at gD;subst gD;exact⟨u,hu,UM⟩
 ·rw[if_neg e]at gD;obtain⟨u',h1,h2⟩:=hR.slot t' x gD;exact⟨u',h1,aW.ext hx h2⟩
end
section
variable {P:Program} {s:St}
theorem aB.gt {fn:Func} {e:Exit} {m:Nat} {a b:AV} {ys:List AV} {V':List (List CV)} (he:e=.normal\/e=.ret) (hr:(ft P s fn.results.toList).bind (aA s.A (YV m) [])=some (a::b::ys))
  (hV:fD s.A s.V (YV m) [] (YV m)=some V'):aB P fn m (.a8 (a::b::ys)) V' [] e s:=aB.g he hr rfl hV
theorem aB.g1 {fn:Func} {e:Exit} {m:Nat} {r:AV} {V':List (List CV)} (he:e=.normal\/e=.ret) (hr:(ft P s fn.results.toList).bind (aA s.A (YV m) [])=some [r])
  (hV:fD s.A s.V (YV m) [] (YV m)=some V'):aB P fn m r V' [] e s:=aB.g he hr rfl hV
end
section
attribute [-simp] bJ eO iA bU bH iB mq rP mP zB rowsOf look tc St.put gV E3 ca zy Je rO rN D1 AV.plain AV.cells CV.jW nI iN kI fK bT ig AV.kT CV.kT qx AV.fN CV.fN bD iO j9 oE cS ft uB AV.qz CV.res rW pos? v8 wi gW Sub kj kU
attribute [-simp] dI rJ gJ gy ij cl bO back fD one
def xQ (ex:List Nat) (rs:Nat->bz) (V:List bz):List bz:=ex.foldl (fun W i=>W.set i (rs i)) V
theorem Bw (V:List bz):∀(ex:List Nat),xQ ex (fun i=>V.getD i rT) V=V
 |[]=>rfl
 |i::ex=>by
  have h:V.set i (V.getD i rT)=V:=by
   apply List.ext_getElem?;intro j;rw[List.getElem?_set];split
   ·rename_i e;subst e;split
    ·rename_i h;simp[YW,h]
    ·rename_i h;simp[Nat.le_of_not_lt h]
   ·rfl
  show xQ ex _ (V.set i (V.getD i rT))=V;rw[h];exact Bw V ex
def dt (P:Program) (s:St) (ow:Bool) (o:Oper) (ex exa:List Nat) (V0:List (List CV)) (A0:List bz) (x:AV):Prop:=
 ∀(rs:Nat->List CV) (ra:Nat->bz) GV GA,bJ P ⟨s.fr,rJ ex rs V0++GV,xQ exa ra A0++GA⟩ ow o fun y V' A'=>y=x/\V'=rJ ex rs V0++GV/\A'=xQ exa ra A0++GA
def yT (P:Program) (all:Array Oper) (ow:Nat->Bool) (ws fs:List Nat) (m:Nat) (ex exa:List Nat) (V0:List (List CV)) (A0:List bz) (K:St->Prop):Nat->List Oper->St->Prop
 |_,[],s=>K s
 |i,o::rest,s=>iA all s o (bJ P s (ow i) o fun x V A=>(i∈ws\/(V=s.V/\A=s.A))/\(i∈ws->i<m->V.take V0.length=rJ ex (fun i=>V.getD i []) V0/\A.take A0.length=xQ exa (fun i=>A.getD i rT) A0)/\(i∈fs->dt P s (ow i) o ex exa V0 A0 x)/\
   yT P all ow ws fs m ex exa V0 A0 K (i+1) rest (s.put o.dst x V A)) (yT P all ow ws fs m ex exa V0 A0 K (i+1) rest (s.put o.dst (.c .undef) s.V s.A))
section
variable {P:Program} {n:Nat} {Q Q':Exit->St->Prop} {s s':St} {w0:World} {g0 g g':Gh} {a:Act} {w w':World} {V:List (List CV)} {A A':List bz}
def N8 (P:Program) (all:Array Oper) (ow:Bool) (fs:List Nat) (j:Nat) (ex exa:List Nat) (V0:List (List CV)) (A0:List bz) (o:Oper) (s s':St):Prop:=
 iA all s o True True/\((gw all s o=true/\∃x V A,s'=s.put o.dst x V A/\(∀K:AV->List (List CV)->List bz->Prop,K x V A->bJ P s ow o K)/\(j∈fs->dt P s ow o ex exa V0 A0 x))\/(gw all s o=false/\s'=s.put o.dst (.c .undef) s.V s.A))
def LL (ex exa:List Nat) (V0:List (List CV)) (A0:List bz) (s:St):Prop:=s.V.take V0.length=rJ ex (fun i=>s.V.getD i []) V0/\s.A.take A0.length=xQ exa (fun i=>s.A.getD i rT) A0
theorem pK {all:Array Oper} {ow:Nat->Bool} {ws fs:List Nat} {m:Nat} {ex exa:List Nat} {V0:List (List CV)} {A0:List bz} {K:St->Prop}:∀(ops:List Oper) (i:Nat) (s:St),yT P all ow ws fs m ex exa V0 A0 K i ops s->
  ∃σ:Nat->St,σ 0=s/\K (σ ops.length)/\∀(j:Nat) o,ops[j]? =some o->N8 P all (ow (i+j)) fs (i+j) ex exa V0 A0 o (σ j) (σ (j+1))/\(i+j∈ws\/((σ (j+1)).V=(σ j).V/\(σ (j+1)).A=(σ j).A))/\
   (i+j<m->LL ex exa V0 A0 (σ (j+1))\/((σ (j+1)).V=(σ j).V/\(σ (j+1)).A=(σ j).A))
 |[],i,s,h=>⟨fun _=>s,rfl,h,fun j o h=>by simp at h⟩
 |o::rest,i,s,h=>by
  simp only[yT]at h;obtain⟨h0,hg⟩:=fT h;rcases h0 with⟨h1,h2⟩|⟨h1,h2⟩
  ·obtain⟨x,V,A,⟨h3,NQ,Fe,h4⟩,h5⟩:=gd h2;obtain⟨σ,k1,k2,k3⟩:=pK rest (i+1) _ h4;refine⟨fun j=>match j with|0=>s|j+1=>σ j,rfl,k2,fun j o' ho=>?_⟩;cases j with
   |zero=>
    simp at ho;subst ho;refine⟨⟨hg,.inl ⟨h1,x,V,A,k1,h5,Fe⟩⟩,?_,fun hm=>?_⟩
    ·rcases h3 with h3|⟨h3,sZ⟩
     ·exact .inl h3
     ·exact .inr (by simp only[k1];exact⟨h3,sZ⟩)
    ·rcases h3 with h3|⟨h3,sZ⟩
     ·exact .inl (by simp only[k1];exact NQ h3 hm)
     ·exact .inr (by simp only[k1];exact⟨h3,sZ⟩)
   |succ j=>
    simp at ho;have:=k3 j o' ho;rwa[show i+1+j=i+(j+1) by omega]at this
  ·obtain⟨σ,k1,k2,k3⟩:=pK rest (i+1) _ h2;refine⟨fun j=>match j with|0=>s|j+1=>σ j,rfl,k2,fun j o' ho=>?_⟩;cases j with
   |zero=>
    simp at ho;subst ho;exact⟨⟨hg,.inr ⟨h1,k1⟩⟩,.inr (by simp only[k1];exact⟨rfl,rfl⟩),fun _=>.inr (by simp only[k1];exact⟨rfl,rfl⟩)⟩
   |succ j=>
    simp at ho;have:=k3 j o' ho;rwa[show i+1+j=i+(j+1) by omega]at this
set_option maxHeartbeats 2000000 in
theorem Bx {all:Array Oper} {ow:Nat->Bool} {ws fs:List Nat} {m:Nat} {ex exa:List Nat} {V0:List (List CV)} {A0:List bz} {σ:Nat->St} {K:St->Prop} {Q:Exit->Act->World->Prop} (hd:iK all ws fs m=true) (fc:da n all.toList=true)
  (lT:∀(j:Nat) o,all[j]? =some o->N8 P all (ow j) fs j ex exa V0 A0 o (σ j) (σ (j+1))/\(j∈ws\/((σ (j+1)).V=(σ j).V/\(σ (j+1)).A=(σ j).A))/\(j<m->LL ex exa V0 A0 (σ (j+1))\/((σ (j+1)).V=(σ j).V/\(σ (j+1)).A=(σ j).A))) (Hi:(σ 0).V=V0/\(σ 0).A=A0)
  (hK:K (σ all.size)) (hQ:∀s' g' a' w',K s'->Rp n w0 g0 s' g' a' w'->Q .normal a' w'):
  ∀(fuel:Nat) (af:Array Bool) (k0:Nat) (g:Gh) (a:Act) (w:World),((YV all.size).filter fun i=> !af.getD i true).length<=fuel->xM all ws σ n w0 g0 af k0 g a w->wpAny P .any all Q fuel af a w:=by
 simp only[iK,Y2,Y1]at hd;obtain⟨⟨⟨⟨gR,jE⟩,o5⟩,IY⟩,IZ⟩:=hd;have cZ:∀(j:Nat) o,all[j]? =some o->(o,j)∈all.toList.zipIdx:=fun j o h=>by
  rw[List.mem_iff_getElem?];exact⟨j,by simp[List.getElem?_zipIdx,h]⟩
 have c8:∀(j:Nat) o,all[j]? =some o->∀e∈o.after,Region.binds .any e=true->e.on<j:=fun j o h e he hb=>by
  have:=gR _ (cZ j o h) e (Y6.2 he);simpa[hb]using this
 have fR:∀(i j:Nat) oi oj,all[i]? =some oi->all[j]? =some oj->i<j->cN all ws fs m (bc all.toList []) oi oj i j=true:=fun i j oi oj h1 h2 ay=>by
  have:=jE _ (cZ j oj h2) _ (cZ i oi h1);simpa[ay]using this
 have b7:∀(i j:Nat) oi oj,all[i]? =some oi->all[j]? =some oj->i<j->i∉fs->j∉fs->bu all ws (bc all.toList []) oi oj i j=true:=fun i j oi oj h1 h2 ay hi hj=>by
  have:=fR i j oi oj h1 h2 ay;simpa[cN,bu,hi,hj]using this
 have mc:∀i,i∈ws->i∉fs:=fun i hi hf=>by
  have:=IY i hf;simp[hi]at this
 have CQ:∀k,k<=m->k<=all.size->LL ex exa V0 A0 (σ k):=by
  intro k;induction k with
  |zero=>
   intro _ _;refine⟨?_,?_⟩
   ·rw[Hi.1,pH];simp
   ·rw[Hi.2,Bw];simp
  |succ k ih=>
   intro h1 h2;have ho:all[k]? =some all[k]:=Y4 (by omega);rcases(lT k _ ho).2.2 (by omega)with h3|⟨h3,h4⟩
   ·exact h3
   ·have:=ih (by omega) (by omega);exact⟨by rw[h3];exact this.1,by rw[h4];exact this.2⟩
 have uE:∀(j:Nat) o,all[j]? =some o->j∈ws->cS o.op=false:=fun j o h hj=>by
  have:=o5 _ (cZ j o h);simpa[hj]using this
 have fP:∀(i j:Nat) oi oj d,all[i]? =some oi->all[j]? =some oj->i<j->oi.dst=some d->oj.dst≠some d:=fun i j oi oj d h1 h2 ay h3 h4=>by
  have:=fR i j oi oj h1 h2 ay;simp[cN,h3,h4]at this
 have re:∀(i j:Nat) oi oj d,all[i]? =some oi->all[j]? =some oj->oi.dst=some d->oj.dst=some d->i=j:=fun i j oi oj d h1 h2 h3 h4=>by
  rcases Zc i j with h|h|h
  ·exact absurd h4 (fP i j oi oj d h1 h2 h h3)
  ·exact h
  ·exact absurd h3 (fP j i oj oi d h2 h1 h h4)
 have zG:∀(j:Nat) o d,all[j]? =some o->o.dst=some d->d<n:=fun j o d h1 h2=>by
  have:=Y1.1 fc o (by rw[Y6];exact Array.mem_of_getElem? h1);simpa[h2]using this
 obtain⟨Gs,_,A7⟩:=fe all.toList []
 have mX:∀{af:Array Bool},(∀(i:Nat) o,all[i]? =some o->af[i]? =some true->∀e∈o.after,Region.binds .any e=true->af[e.on]? =some true)->
   ∀(i:Nat) o,all[i]? =some o->(∀e∈o.after,Region.binds .any e=true->af[e.on]? =some true)->∀k,((bc all.toList []).getD i 0).testBit k=true->af[k]? =some true:=by
  intro af kS i;induction i using Zb with
  |_ i ih=>
   intro o ho cL k hk;obtain⟨pre,h1,h2,h3⟩:=A7 i o (by simpa using ho);simp only[List.length_nil,Za]at h1 h3;have h4:(bc all.toList []).getD i 0=mW pre o:=by simp[YW,h3]
   rw[h4]at hk;obtain⟨e,he,hb,h5⟩:=fO hk;have s4:=cL e he hb;rcases h5 with rfl|h5
   ·exact s4
   ·have ay:=c8 i o ho e he hb;have h6:pre.getD e.on 0=(bc all.toList []).getD e.on 0:=by simp only[YW,h2 e.on (by omega)]
    rw[h6]at h5;have fB:e.on<all.size:=by have:=(Y5.1 ho).1;omega
    have uF:all[e.on]? =some all[e.on]:=Y4 fB;exact ih e.on ay _ uF (kS e.on _ uF s4) k h5
 have l7:∀(j:Nat) o t,all[j]? =some o->o.dst≠some t->look (σ (j+1)).fr t=look (σ j).fr t:=fun j o t h1 h2=>by
  obtain⟨⟨_,h3⟩,_⟩:=lT j o h1;have kh:∀(x:AV) V A,look ((σ j).put o.dst x V A).fr t=look (σ j).fr t:=fun x V A=>by
   simp only[St.put];cases qZ:o.dst with
   |none=>rfl
   |some d=>simp only[look];rw[if_neg (fun e=>h2 (by rw[qZ,e]))]
  rcases h3 with⟨_,x,V,A,h4,_,_⟩|⟨_,h4⟩
  ·rw[h4];exact kh x V A
  ·rw[h4];exact kh _ _ _
 have oV:∀(j t:Nat),j<=all.size->(∀(i:Nat) o,i<j->all[i]? =some o->o.dst≠some t)->look (σ j).fr t=look (σ 0).fr t:=by
  intro j;induction j with
  |zero=>intro t _ _;rfl
  |succ j ih=>
   intro t hj fz;have ho:all[j]? =some all[j]:=Y4 (by omega);rw[l7 j _ t ho (fz j _ (by omega) ho)];exact ih t (by omega) (fun i o hi=>fz i o (by omega))
 have oW:∀(j i:Nat) oi t,j<=all.size->i<j->all[i]? =some oi->oi.dst=some t->look (σ j).fr t=look (σ (i+1)).fr t:=by
  intro j;induction j with
  |zero=>intro i oi t _ h;omega
  |succ j ih=>
   intro i oi t hj lr a7 cn;by_cases e:i=j
   ·subst e;rfl
   ·have ho:all[j]? =some all[j]:=Y4 (by omega);rw[l7 j _ t ho (fP i j oi _ t a7 ho (by omega) cn)];exact ih i oi t (by omega) (by omega) a7 cn
 have tC:∀(b a:Nat),a<=b->b<=all.size->(∀i,a<=i->i<b->i∉ws)->(σ b).V=(σ a).V/\(σ b).A=(σ a).A:=by
  intro b;induction b with
  |zero=>
   intro a h _ _;obtain rfl:a=0:=by omega
   exact⟨rfl,rfl⟩
  |succ b ih=>
   intro a PH hb fz;by_cases e:a=b+1
   ·subst e;exact⟨rfl,rfl⟩
   ·have ho:all[b]? =some all[b]:=Y4 (by omega);obtain⟨h1,h2⟩:=ih a (by omega) (by omega) (fun i hi EZ=>fz i hi (by omega));rcases(lT b _ ho).2.1 with h3|⟨h3,h4⟩
    ·exact absurd h3 (fz b (by omega) (by omega))
    ·exact⟨h3.trans h1,h4.trans h2⟩
 have lS:∀{af:Array Bool} {k0:Nat} {g:Gh} {a:Act} {w:World},xM all ws σ n w0 g0 af k0 g a w->Region.ready .any all af=[]->Q .normal a w:=by
  intro af k0 g a w hD hr;have dm:∀i,i<all.size->af[i]? =some true:=by
   intro i;induction i using Zb with
   |_ i ih=>
    intro hi;have ho:all[i]? =some all[i]:=Y4 hi;have bF:i<af.size:=by rw[hD.eG];exact hi
    cases hl:af[i]with
    |true=>rw[Y4 bF,hl]
    |false=>
     exfalso
     have:i∈Region.ready .any all af:=mem_ready.2 ⟨by simp[bF,hl],_,ho,fun e he hb=>cK.2 (ih e.on (c8 i _ ho e he hb) (by have:=c8 i _ ho e he hb;omega))⟩;rw[hr]at this;simp at this
  have kV:=tC all.size k0 hD.nP (Y9 _) (fun i h1 h2 h3=>by have:=(hD.eo i h3 h2).1 (dm i h2);omega);refine hQ _ g a w hK ⟨by rw[kV.1,kV.2];exact hD.inv,hD.fr,hD.size,hD.defers,fun t x hx=>?_⟩;rw[kV.2];by_cases hex:∃(i:Nat) (o:Oper),all[i]? =some o/\o.dst=some t
  ·obtain⟨i,o,ho,cn⟩:=hex;have hi:=(Y5.1 ho).1;rw[oW all.size i o t (Y9 _) hi ho cn]at hx;exact hD.fU i o t x ho (dm i hi) cn hx
  ·rw[oV all.size t (Y9 _) (fun i o _ ho cn=>hex ⟨i,o,ho,cn⟩)]at hx;exact hD.fV t x (fun i o ho _ cn=>hex ⟨i,o,ho,cn⟩) hx
 intro fuel;induction fuel with
 |zero=>
  intro af k0 g a w hf hD;have la:Region.ready .any all af=[]:=by
   have h0:((YV all.size).filter fun i=> !af.getD i true)=[]:=List.eq_nil_of_length_eq_zero (by omega);rcases hr:Region.ready .any all af with _|⟨j,r⟩
   ·rfl
   ·have hj:j∈Region.ready .any all af:=by rw[hr];simp
    obtain⟨h1,o,h2,_⟩:=mem_ready.1 hj;have:j∈((YV all.size).filter fun i=> !af.getD i true):=by
     rw[List.mem_filter,YY];exact⟨(Y5.1 h2).1,by simp[h1]⟩
    rw[h0]at this;simp at this
  exact⟨la,lS hD la⟩
 |succ fuel ih=>
  intro af k0 g a w hf hD;refine⟨fun hr=>lS hD hr,fun j hj=>?_⟩;obtain⟨mY,o,ho,cL⟩:=mem_ready.1 hj;have mZ:=ep mY;have rG:j<all.size:=(Y5.1 ho).1;have jk:j<af.size:=by rw[hD.eG];exact rG
  have cE:∀e∈o.after,Region.binds .any e=true->af[e.on]? =some true:=fun e he hb=>cK.1 (cL e he hb)
  have cw:∀k,((bc all.toList []).getD j 0).testBit k=true->af[k]? =some true:=mX hD.closed j o ho cE;have b4:∀(i:Nat) oi,all[i]? =some oi->af[i]? =some true->((bc all.toList []).getD i 0).testBit j=false:=fun i oi a7 bF=>by
   cases hb:((bc all.toList []).getD i 0).testBit j with
   |false=>rfl
   |true=>have:=mX hD.closed i oi a7 (hD.closed i oi a7 bF) j hb;rw[mZ]at this;simp at this
  have jJ:∀t∈o.looksAt all,∀x,look (σ j).fr t=some x->∃u,a.tmps[t]? =some u/\aW g w (σ k0).A x u:=by
   intro t ht x hx;by_cases hex:∃(i:Nat) (oi:Oper),i<j/\all[i]? =some oi/\oi.dst=some t
   ·obtain⟨i,oi,lr,a7,cn⟩:=hex;rw[oW j i oi t (by omega) lr a7 cn]at hx;have hp:=fR i j oi o a7 ho lr;have tD:dC all oi o=true:=by simp only[dC,cn];simpa using ht
    simp only[cN,tD,Y2,Y3]at hp;have hb:((bc all.toList []).getD j 0).testBit i=true:=by simpa using hp.2
    exact hD.fU i oi t x a7 (cw i hb) cn hx
   ·rw[oV j t (by omega) (fun i oi lr a7 cn=>hex ⟨i,oi,lr,a7,cn⟩)]at hx;refine hD.fV t x (fun i oi a7 bF cn=>?_) hx;rcases Zc i j with h|h|h
    ·exact hex ⟨i,oi,h,a7,cn⟩
    ·subst h;rw[mZ]at bF;simp at bF
    ·have hp:=fR j i o oi ho a7 h;have tD:dC all oi o=true:=by simp only[dC,cn];simpa using ht
     have hb:=b4 i oi a7 bF;simp only[cN,tD,hb,Y2,Y3]at hp;simp at hp
  let cU:=(σ j).fr.filter fun p=>(o.looksAt all).contains p.1
  have ld:∀t,look cU t=if(o.looksAt all).contains t then look (σ j).fr t else none:=fun t=>e9 (fun t=>(o.looksAt all).contains t) (σ j).fr t
  have hS:∀(V:List (List CV)),iC g w ⟨cU,V,(σ k0).A⟩ a:=fun V t x hx=>by
   simp only[ld]at hx;split at hx
   ·rename_i hc;exact jJ t (by simpa using hc) x hx
   ·cases hx
  have gG:∀(V V':List (List CV)) (A A':List bz),∀x∈o.op.operands.toList,bH ⟨cU,V,A⟩ x=bH ⟨(σ j).fr,V',A'⟩ x:=fun V V' A A' x hx=>by
   cases x with
   |tmp t=>
    simp only[bH,ld];rw[if_pos];simp only[Oper.looksAt,Y0,decide_eq_true_eq,YZ,List.mem_filterMap];exact .inl ⟨.tmp t,hx,rfl⟩
   |_=>rfl
  have gX:Rp n w0 g0 ⟨cU,(σ k0).V,(σ k0).A⟩ g a w:=⟨hD.inv,hD.fr,hD.size,hD.defers,hS _⟩;obtain⟨⟨uA,jG⟩,CO,_⟩:=lT j o ho;have oX:iA all ⟨cU,(σ k0).V,(σ k0).A⟩ o True True/\gw all ⟨cU,(σ k0).V,(σ k0).A⟩ o=gw all (σ j) o:=by
   unfold iA gw at*;cases nQ:o.guard with
   |none=>simp
   |some jw=>
    obtain⟨q,want⟩:=jw;simp only[nQ]at uA⊢;obtain⟨oq,h1,h2⟩:=cI uA;obtain⟨t,h3,h4⟩:=cI h2;have:look cU t=look (σ j).fr t:=by
     rw[ld,if_pos];simp only[Oper.looksAt,nQ,Y0,decide_eq_true_eq,YZ];exact .inr (by simp[h1,h3])
    simp only[h1,bU,h3,Zd,this]at h4⊢;exact⟨h4,trivial⟩
  have lD:Region.wanted o (yielded all a.tmps)=gw all (σ j) o:=by
   rw[<-oX.2];have h0:=fT oX.1;have h1:=oX.1;unfold iA at h1;unfold gw;cases nQ:o.guard with
   |none=>simp[Region.wanted,nQ]
   |some jw=>
    obtain⟨q,want⟩:=jw;simp only[nQ]at h1⊢;obtain⟨oq,h2,h3⟩:=cI h1;obtain⟨t,h4,h5⟩:=cI h3;obtain⟨x,h6,h7⟩:=cI h5;obtain⟨h8,h9⟩:=jI gX h2 h4 h6;simp only[h2,Zd,h4,h6];split at h7
    ·rename_i b;simp[Region.wanted,nQ,h8 b rfl]
    ·simp[Region.wanted,nQ,h9 rfl]
    ·exact h7.elim
  have bS:∀i,(af.setIfInBounds j true)[i]? =if i=j then some true else af[i]? :=fun i=>by
   by_cases e:i=j
   ·subst e;simp[jk]
   ·rw[if_neg e,Y7 (fun h=>e h.symm)]
  have c5:((YV all.size).filter fun i=> !(af.setIfInBounds j true).getD i true).length<=fuel:=by
   have ay:((YV all.size).filter fun i=> !(af.setIfInBounds j true).getD i true).length<((YV all.size).filter fun i=> !af.getD i true).length:=by
    have gF:∀i,(!(af.setIfInBounds j true).getD i true)=true->(!af.getD i true)=true:=fun i h=>by
     by_cases e:i=j
     ·subst e;simp[jk]at h
     ·have:(af.setIfInBounds j true).getD i true=af.getD i true:=by
       simp only[Array.getD_eq_getD_getElem?,bS,if_neg e]
      rwa[this]at h
    exact filter_lt gF (YY.2 rG) (by simp[mY]) (by simp[jk])
   omega
  have cR:∀(k1:Nat) (x:AV) (v:Value) (w':World) (g':Gh),look (σ (j+1)).fr=look ((σ j).put o.dst x [] []).fr->aW g' w' (σ k1).A x v->Inv g' w' (σ k1).V (σ k1).A->Ext g w (σ k0).A g' w' (σ k1).A->Fr w0 g0 w' g'->k1<=all.size->(k1=0\/∃i∈ws,k1=i+1)->
    (∀i∈ws,i<all.size->((af.setIfInBounds j true)[i]? =some true↔i<k1))->xM all ws σ n w0 g0 (af.setIfInBounds j true) k1 g' (a.put o.dst v) w':=by
   intro k1 x v w' g' Cu x8 hI hx hF hk LA Fb;have iX:∀t u,o.dst≠some t->a.tmps[t]? =some u->(a.put o.dst v).tmps[t]? =some u:=fun t u di hu=>by
    cases qZ:o.dst with
    |none=>exact hu
    |some d=>
     simp only[Act.put];rw[Y7 (fun e=>di (by rw[qZ,e]))];exact hu
   refine⟨hI,hF,?_,?_,by simp[hD.eG],fun i oi t y a7 bF cn hy=>?_,fun t y fz hy=>?_,Fb,hk,LA,fun i oi a7 bF e he hb=>?_⟩
   ·cases o.dst<;>simp[Act.put,hD.size]
   ·cases o.dst<;>simp[Act.put,hD.defers]
   ·rw[bS]at bF;by_cases e:i=j
    ·subst e;obtain rfl:o=oi:=by rw[ho]at a7;exact Option.some.inj a7
     rw[Cu]at hy;simp only[St.put,cn,look,if_true]at hy;cases hy
     refine⟨v,?_,x8⟩;have:t<a.tmps.size:=by rw[hD.size];exact zG i o t ho cn
     simp[Act.put,cn,this]
    ·rw[if_neg e]at bF;obtain⟨u,h1,h2⟩:=hD.fU i oi t y a7 bF cn hy;exact⟨u,iX t u (fun h=>e (re i j oi o t a7 ho cn h)) h1,aW.ext hx h2⟩
   ·have di:o.dst≠some t:=fz j o ho (by rw[bS,if_pos rfl]);obtain⟨u,h1,h2⟩:=hD.fV t y (fun i oi a7 bF=>fz i oi a7 (by
     rw[bS];by_cases e:i=j
     ·rw[if_pos e]
     ·rw[if_neg e];exact bF)) hy
    exact⟨u,iX t u di h1,aW.ext hx h2⟩
   ·rw[bS]at bF⊢;have:af[e.on]? =some true:=by
     by_cases e':i=j
     ·subst e';obtain rfl:o=oi:=by rw[ho]at a7;exact Option.some.inj a7
      exact cE e he hb
     ·rw[if_neg e']at bF;exact hD.closed i oi a7 bF e he hb
    by_cases e':e.on=j
    ·rw[if_pos e']
    ·rw[if_neg e'];exact this
  have iu:j∉ws->∀i∈ws,i<all.size->((af.setIfInBounds j true)[i]? =some true↔i<k0):=fun eu i hi b8=>by
   rw[bS,if_neg (fun e=>eu (by rw[<-e];exact hi))];exact hD.eo i hi b8
  have kV:cS o.op=false->j∉fs->(σ j).V=(σ k0).V/\(σ j).A=(σ k0).A:=by
   intro fI nX;rcases Nat.le_total j k0 with h|h
   ·have:=tC k0 j h hD.nP (fun i h1 h2 h3=>by
     have b8:i<all.size:=by have:=hD.nP;omega
     have bF:=(hD.eo i h3 b8).2 h2;have a7:all[i]? =some all[i]:=Y4 b8;rcases Y8 j i with h4|h4
     ·have hp:=b7 j i o _ ho a7 h4 nX (mc i h3);have hb:=b4 i _ a7 bF;simp only[bu,hb,Y2,Y3]at hp;simp[h3,fI]at hp
     ·obtain rfl:i=j:=by omega
      rw[mZ]at bF;simp at bF)
    exact⟨this.1.symm,this.2.symm⟩
   ·exact tC j k0 h (by omega) (fun i h1 h2 h3=>by
     have b8:i<all.size:=by omega
     have a7:all[i]? =some all[i]:=Y4 b8;have hp:=b7 i j _ o a7 ho h2 (mc i h3) nX;simp only[bu,Y2,Y3]at hp;have hb:((bc all.toList []).getD j 0).testBit i=true:=by
      rcases hp.2 with h4|h4
      ·simp[h3,fI]at h4
      ·exact h4
     have:=(hD.eo i h3 b8).1 (cw i hb);omega)
  unfold wpOp;simp only[ho];rcases jG with⟨h1,x,V,A,h2,h3,Fe⟩|⟨h1,h2⟩
  ·rw[if_pos (by rw[lD,h1])];refine .inl ?_;by_cases hs:cS o.op=true
   ·-- slots alone
    have eu:j∉ws:=fun h=>by have:=uE j o ho h;rw[hs]at this;simp at this
    have h4:bJ P ⟨cU,(σ k0).V,(σ k0).A⟩ (ow j) o (fun y V' A'=>y=x/\V'=(σ k0).V/\A'=(σ k0).A):=nO (s:=σ j) (s':=⟨cU,(σ k0).V,(σ k0).A⟩) hs (gG _ _ _ _) h3 ⟨rfl,rfl,rfl⟩;obtain⟨y,V',A',⟨rfl,rfl,rfl⟩,h5⟩:=dj gX.inv gX.fr gX.slot h4;refine h5 _ _ fun v w' g' h6 h7 h8 h9=>ih _ k0 g' _ w' c5 (cR k0 y v w' g' (by rw[h2];rfl) h6 h7 h8 h9 hD.nP hD.kw (iu eu))
   ·have fI:cS o.op=false:=by simpa using hs
    by_cases nX:j∈fs
    ·have eu:j∉ws:=fun h=>mc j h nX
     have CR:k0<=m:=by
      rcases hD.kw with h|⟨i,hi,hk⟩
      ·omega
      ·rcases Y8 i m with h|h
       ·omega
       ·exfalso
        have b8:i<all.size:=by have:=hD.nP;omega
        have a7:all[i]? =some all[i]:=Y4 b8;have bF:=(hD.eo i hi b8).2 (by omega);have KP:j<i:=by
         have:=IZ j nX i hi;simp at this;omega
        have hp:=fR j i o _ ho a7 KP;have hb:=b4 i _ a7 bF;have s6:¬i<m:=by omega
        simp only[cN,hb,Y2,Y3]at hp;simp[hi,fI,s6,nX,eu]at hp
     obtain⟨dO,zK⟩:=CQ k0 CR hD.nP;have h4:bJ P ⟨cU,(σ k0).V,(σ k0).A⟩ (ow j) o (fun y V' A'=>y=x/\V'=(σ k0).V/\A'=(σ k0).A):=by
      have h5:=Fe nX (fun i=>(σ k0).V.getD i []) (fun i=>(σ k0).A.getD i rT) ((σ k0).V.drop V0.length) ((σ k0).A.drop A0.length);have e1:rJ ex (fun i=>(σ k0).V.getD i []) V0++(σ k0).V.drop V0.length=(σ k0).V:=by
       rw[<-dO];exact YX _ _
      have e2:xQ exa (fun i=>(σ k0).A.getD i rT) A0++(σ k0).A.drop A0.length=(σ k0).A:=by
       rw[<-zK];exact YX _ _
      rw[e1,e2]at h5;exact ej (fr:=(σ j).fr) (gG _ _ _ _) h5
     obtain⟨y,V',A',⟨rfl,rfl,rfl⟩,h5⟩:=dj gX.inv gX.fr gX.slot h4;exact h5 _ _ fun v w' g' h6 h7 h8 h9=>ih _ k0 g' _ w' c5 (cR k0 y v w' g' (by rw[h2];rfl) h6 h7 h8 h9 hD.nP hD.kw (iu eu))
    obtain⟨kJ,gn⟩:=kV fI nX;have h4:bJ P ⟨cU,(σ k0).V,(σ k0).A⟩ (ow j) o (fun y V' A'=>y=x/\V'=V/\A'=A):=by
     rw[<-kJ,<-gn];exact ej (fr:=(σ j).fr) (gG _ _ _ _) (h3 _ ⟨rfl,rfl,rfl⟩)
    obtain⟨y,V',A',⟨rfl,rfl,rfl⟩,h5⟩:=dj gX.inv gX.fr gX.slot h4;have s5:(σ (j+1)).V=V':=by rw[h2];rfl
    have jq:(σ (j+1)).A=A':=by rw[h2];rfl
    by_cases eu:j∈ws
    ·refine h5 _ _ fun v w' g' h6 h7 h8 h9=>ih _ (j+1) g' _ w' c5 (cR (j+1) y v w' g' (by rw[h2];rfl) (by rw[jq];exact h6) (by rw[s5,jq];exact h7) (by rw[jq];exact h8) h9 (by omega) (.inr ⟨j,eu,rfl⟩) (fun i hi b8=>?_))
     have a7:all[i]? =some all[i]:=Y4 b8;rw[bS];by_cases e:i=j
     ·subst e;simp
     ·rw[if_neg e];constructor
      ·intro bF;rcases Y8 j i with h|h
       ·have hp:=b7 j i o _ ho a7 h (mc j eu) (mc i hi);have hb:=b4 i _ a7 bF;simp only[bu,hb,Y2,Y3]at hp;simp[hi,fI]at hp
       ·omega
      ·intro ay;have hp:=b7 i j _ o a7 ho (by omega) (mc i hi) (mc j eu);simp only[bu,Y2,Y3]at hp;rcases hp.2 with h|h
       ·simp[hi,fI]at h
       ·exact cw i h
    ·rcases CO with CO|⟨qa,mJ⟩
     ·exact absurd CO eu
     ·refine h5 _ _ fun v w' g' h6 h7 h8 h9=>ih _ k0 g' _ w' c5 (cR k0 y v w' g' (by rw[h2];rfl) ?_ ?_ ?_ h9 hD.nP hD.kw (iu eu))
      ·rw[<-gn,<-mJ,jq];exact h6
      ·rw[<-kJ,<-gn,<-qa,<-mJ,s5,jq];exact h7
      ·have e1:(σ k0).A=A':=by rw[<-gn,<-mJ,jq]
       rw[e1]at h8⊢;exact h8
  ·rw[if_neg (by rw[lD,h1];simp)];have s5:(σ (j+1)).V=(σ j).V:=by rw[h2];rfl
   have jq:(σ (j+1)).A=(σ j).A:=by rw[h2];rfl
   by_cases eu:j∈ws
   ·have fI:=uE j o ho eu;obtain⟨kJ,gn⟩:=kV fI (mc j eu);refine ih _ (j+1) g _ w c5 (cR (j+1) (.c .undef) undef w g (by rw[h2];rfl) rfl ?_ ?_ hD.fr (by omega) (.inr ⟨j,eu,rfl⟩) (fun i hi b8=>?_))
    ·rw[s5,jq,kJ,gn];exact hD.inv
    ·rw[jq,gn];exact .refl _ _ _
    ·have a7:all[i]? =some all[i]:=Y4 b8;rw[bS];by_cases e:i=j
     ·subst e;simp
     ·rw[if_neg e];constructor
      ·intro bF;rcases Y8 j i with h|h
       ·have hp:=b7 j i o _ ho a7 h (mc j eu) (mc i hi);have hb:=b4 i _ a7 bF;simp only[bu,hb,Y2,Y3]at hp;simp[hi,fI]at hp
       ·omega
      ·intro ay;have hp:=b7 i j _ o a7 ho (by omega) (mc i hi) (mc j eu);simp only[bu,Y2,Y3]at hp;rcases hp.2 with h|h
       ·simp[hi,fI]at h
       ·exact cw i h
   ·exact ih _ k0 g _ w c5 (cR k0 (.c .undef) undef w g (by rw[h2];rfl) rfl hD.inv (.refl _ _ _) hD.fr hD.nP hD.kw (iu eu))
theorem T.sC {id:Nat} {ops:Array Oper} (hm:P.follows .mixedOrders=true) (ow:Nat->Bool) (ws fs:List Nat) (m:Nat) (ex exa:List Nat) (hd:iK ops ws fs m=true) (h:yT P ops ow ws fs m ex exa s.V s.A (fun s'=>Q .normal s') 0 ops.toList s):T P n (.region id ops true) Q s:=by
 intro eP w0 g0 g a w hR;obtain⟨σ,h0,hK,lT⟩:=pK ops.toList 0 s h;obtain⟨hI,hx⟩:=hR.inv.heap (w':={w with drawn:=w.drawn+1}) rfl;refine wp_region_any hm (Bx (ex:=ex) (exa:=exa) (K:=fun s'=>Q .normal s') (w0:=w0) (g0:=g0) (n:=n) (σ:=σ) (ow:=ow) hd eP (fun j o ho=>?_) ⟨by rw[h0],by rw[h0]⟩ ?_ (fun s' g' a' w' h1 h2=>⟨s',g',h1,h2⟩) ops.size (Array.replicate ops.size false) 0 g a _ ?_ ?_)
 ·have:=lT j o (by simpa using ho);simpa only[Za]using this
 ·simpa using hK
 ·exact Nat.le_trans (List.length_filter_le _ _) (by simp)
 ·refine⟨by rw[h0];exact hI,hR.fr.heap rfl rfl rfl rfl,hR.size,hR.defers,by simp,fun i o t x ho hl=>?_,fun t x _ gD=>?_,fun i _ b8=>?_,Nat.zero_le _,.inl rfl,fun i o ho hl=>?_⟩
  ·have hi:=(Y5.1 ho).1;simp[hi]at hl
  ·rw[h0]at gD⊢;obtain⟨u,h1,h2⟩:=hR.slot t x gD;exact⟨u,h1,aW.ext hx h2⟩
  ·simp[b8]
  ·have hi:=(Y5.1 ho).1;simp[hi]at hl
end
section
variable {P:Program} {n:Nat} {Q:Exit->St->Prop} {s s':St} {y:Code}
structure wM (P:Program) (all:Array Oper) (ow:Nat->Bool) (ws fs:List Nat) (m:Nat) (ex exa:List Nat) (V0:List (List CV)) (A0:List bz) (K:St->Prop) (i:Nat) (ops:List Oper) (s:St):Prop where
 mk::
 run:yT P all ow ws fs m ex exa V0 A0 K i ops s
theorem kA {all:Array Oper} {ow:Nat->Bool} {ws fs:List Nat} {m:Nat} {ex exa:List Nat} {V0:List (List CV)} {A0:List bz} {K:St->Prop} {i:Nat} {o:Oper} {rest:List Oper}
  (h:iA all s o (bJ P s (ow i) o fun x V A=>(i∈ws\/(V=s.V/\A=s.A))/\(i∈ws->i<m->V.take V0.length=rJ ex (fun i=>V.getD i []) V0/\A.take A0.length=xQ exa (fun i=>A.getD i rT) A0)/\(i∈fs->dt P s (ow i) o ex exa V0 A0 x)/\wM P all ow ws fs m ex exa V0 A0 K (i+1) rest (s.put o.dst x V A)) (wM P all ow ws fs m ex exa V0 A0 K (i+1) rest (s.put o.dst (.c .undef) s.V s.A))):wM P all ow ws fs m ex exa V0 A0 K i (o::rest) s:=
 ⟨nS (fun h=>gg (fun _ _ _ h=>⟨h.1,h.2.1,h.2.2.1,h.2.2.2.run⟩) h) (fun h=>h.run) h⟩
theorem jd {all:Array Oper} {ow:Nat->Bool} {ws fs:List Nat} {m:Nat} {ex exa:List Nat} {V0:List (List CV)} {A0:List bz} {K:St->Prop} {i:Nat} (h:K s):wM P all ow ws fs m ex exa V0 A0 K i [] s:=⟨h⟩
theorem T.Rh {id:Nat} {l:List Oper} (hm:P.follows .mixedOrders=true) (ow:Nat->Bool) (ws fs:List Nat) (m:Nat) (ex exa:List Nat) (hd:iK l.toArray ws fs m=true) (h:∀K:St->Prop,(∀s',T P n y Q s'->K s')->wM P l.toArray ow ws fs m ex exa s.V s.A K 0 l s):T P n (.seq (.region id l.toArray true) y) Q s:=
 T.seq (T.sC hm ow ws fs m ex exa hd (h _ fun _ h=>h).run)
theorem T.Hw {id:Nat} {l:List Oper} (hm:P.follows .mixedOrders=true) (ow:Nat->Bool) (ws fs:List Nat) (m:Nat) (ex exa:List Nat) (hd:iK l.toArray ws fs m=true) (h:∀K:St->Prop,(∀s',Q .normal s'->K s')->wM P l.toArray ow ws fs m ex exa s.V s.A K 0 l s):T P n (.region id l.toArray true) Q s:=
 T.sC hm ow ws fs m ex exa hd (h _ fun _ h=>h).run
@[congr] theorem LM {all:Array Oper} {ow:Nat->Bool} {ws fs:List Nat} {m:Nat} {ex exa:List Nat} {V0:List (List CV)} {A0:List bz} {K:St->Prop} {i i':Nat} {ops:List Oper} (hi:i=i') (h:s=s'):wM P all ow ws fs m ex exa V0 A0 K i ops s=wM P all ow ws fs m ex exa V0 A0 K i' ops s':=by rw[h,hi]
theorem wM.gen {all:Array Oper} {ow:Nat->Bool} {ws fs:List Nat} {m:Nat} {ex exa:List Nat} {V0:List (List CV)} {A0:List bz} {K:St->Prop} {i:Nat} {ops:List Oper} {d:Nat} {b:Bool} {fr:List (Nat×AV)} {V:List (List CV)} {A:List bz}
  (h:∀q:Bool,b=q->wM P all ow ws fs m ex exa V0 A0 K i ops ⟨(d,.c (.d (.bool q)))::fr,V,A⟩):wM P all ow ws fs m ex exa V0 A0 K i ops ⟨(d,.c (.d (.bool b)))::fr,V,A⟩:=h b rfl
end
end
attribute [simp] dt xQ
end Go.Av
