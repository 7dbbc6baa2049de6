/- A part. -/
import Derived.Test.YtloolmchekcmeaaGreatXE5
set_option linter.unusedVariables false
set_option linter.unusedSimpArgs false
open List renaming range->YI,getD->YJ,take_append_drop->YK,mem_range->YL,mem_append->YM,contains_eq_mem->YN,all_eq_true->YO
open Bool renaming and_eq_true->YP,or_eq_true->YQ
open Array renaming getElem?_eq_getElem->YR,getElem?_eq_some_iff->YS,mem_toList_iff->YT,getElem?_setIfInBounds_ne->YU
open Nat renaming lt_or_ge->YV,le_refl->YW,zero_add->YX,strongRecOn->YY,lt_trichotomy->YZ
open Option renaming bind_some->Y0
namespace Go.Av
open Go
section
variable {P:Program} {n:Nat} {Q:Exit->St->Prop} {s:St}
theorem T.seal {c:Code} (t k n':Nat) {r:bu} (ht:look s.fr t=some (.c (.own k n'))) (hk:s.A[k]? =some r) (hn:n'=r.rows.length) (h:T P n c Q ⟨(t,.c (.d (.sl r.rows)))::s.fr,s.V,s.A.set k {r with wr:=false}⟩):T P n c Q s:=by
 intro eK w0 g0 g a w hR;obtain⟨u,hu,Pt⟩:=hR.slot t _ ht;have hd:nw s.A (.own k n')=some (.sl r.rows):=by simp[nw,hk,hn]
 obtain⟨g',hI,hx,hF,_,_,Uw⟩:=rU hR.inv hR.fr (show bm g w s.A (.own k n') u from Pt) hd;have hs:fB s.A (.own k n')=s.A.set k {r with wr:=false}:=by simp[fB,hk]
 rw[hs]at hI hx;refine h eK w0 g0 g' a w ⟨hI,hF,hR.size,hR.defers,fun t' x gp=>?_⟩;simp only[look]at gp;by_cases e:t'=t
 ·subst e;simp at gp;subst gp;exact⟨u,hu,Uw⟩
 ·rw[if_neg e]at gp;obtain⟨u',h1,h2⟩:=hR.slot t' x gp;exact⟨u',h1,aV.ext hx h2⟩
end
section
variable {P:Program} {s:St}
theorem aD.gt {fn:Func} {e:Exit} {m:Nat} {a b:AV} {ys:List AV} {V':List (List CV)} (he:e=.normal\/e=.ret) (hr:(e8 P s fn.results.toList).bind (aF s.A (YI m) [])=some (a::b::ys))
  (hV:fg s.A s.V (YI m) [] (YI m)=some V'):aD P fn m (.bq (a::b::ys)) V' [] e s:=aD.g he hr rfl hV
theorem aD.g1 {fn:Func} {e:Exit} {m:Nat} {r:AV} {V':List (List CV)} (he:e=.normal\/e=.ret) (hr:(e8 P s fn.results.toList).bind (aF s.A (YI m) [])=some [r])
  (hV:fg s.A s.V (YI m) [] (YI m)=some V'):aD P fn m r V' [] e s:=aD.g he hr rfl hV
end
section
attribute [-simp] bH eD gX bS bE hM mi rS mF zW rowsOf look th St.put gB Fl b6 zU Jk rR rQ Ek AV.plain AV.cells CV.jM nw iy kB fB bT ib AV.kK CV.kK qz AV.fN CV.fN bB iz jY oC cL e8 uU AV.qB CV.res rZ pos? wG wN gC Sub j4 kL
attribute [-simp] dw rN gv gi gJ cc bK back fg one
def yl (ex:List Nat) (rs:Nat->bu) (V:List bu):List bu:=ex.foldl (fun W i=>W.set i (rs i)) V
theorem BL (V:List bu):∀(ex:List Nat),yl ex (fun i=>V.getD i rW) V=V
 |[]=>rfl
 |i::ex=>by
  have h:V.set i (V.getD i rW)=V:=by
   apply List.ext_getElem?;intro j;rw[List.getElem?_set];split
   ·rename_i e;subst e;split
    ·rename_i h;simp[YJ,h]
    ·rename_i h;simp[Nat.le_of_not_lt h]
   ·rfl
  show yl ex _ (V.set i (V.getD i rW))=V;rw[h];exact BL V ex
def di (P:Program) (s:St) (ow:Bool) (o:Oper) (ex exa:List Nat) (V0:List (List CV)) (A0:List bu) (x:AV):Prop:=
 ∀(rs:Nat->List CV) (ra:Nat->bu) GV GA,bH P ⟨s.fr,rN ex rs V0++GV,yl exa ra A0++GA⟩ ow o fun y V' A'=>y=x/\V'=rN ex rs V0++GV/\A'=yl exa ra A0++GA
def zm (P:Program) (all:Array Oper) (ow:Nat->Bool) (ws fs:List Nat) (m:Nat) (ex exa:List Nat) (V0:List (List CV)) (A0:List bu) (K:St->Prop):Nat->List Oper->St->Prop
 |_,[],s=>K s
 |i,o::rest,s=>gX all s o (bH P s (ow i) o fun x V A=>(i∈ws\/(V=s.V/\A=s.A))/\(i∈ws->i<m->V.take V0.length=rN ex (fun i=>V.getD i []) V0/\A.take A0.length=yl exa (fun i=>A.getD i rW) A0)/\(i∈fs->di P s (ow i) o ex exa V0 A0 x)/\
   zm P all ow ws fs m ex exa V0 A0 K (i+1) rest (s.put o.dst x V A)) (zm P all ow ws fs m ex exa V0 A0 K (i+1) rest (s.put o.dst (.c .undef) s.V s.A))
section
variable {P:Program} {n:Nat} {Q Q':Exit->St->Prop} {s s':St} {w0:World} {g0 g g':Gh} {a:Act} {w w':World} {V:List (List CV)} {A A':List bu}
def NY (P:Program) (all:Array Oper) (ow:Bool) (fs:List Nat) (j:Nat) (ex exa:List Nat) (V0:List (List CV)) (A0:List bu) (o:Oper) (s s':St):Prop:=
 gX all s o True True/\((gw all s o=true/\∃x V A,s'=s.put o.dst x V A/\(∀K:AV->List (List CV)->List bu->Prop,K x V A->bH P s ow o K)/\(j∈fs->di P s ow o ex exa V0 A0 x))\/(gw all s o=false/\s'=s.put o.dst (.c .undef) s.V s.A))
def LB (ex exa:List Nat) (V0:List (List CV)) (A0:List bu) (s:St):Prop:=s.V.take V0.length=rN ex (fun i=>s.V.getD i []) V0/\s.A.take A0.length=yl exa (fun i=>s.A.getD i rW) A0
theorem pF {all:Array Oper} {ow:Nat->Bool} {ws fs:List Nat} {m:Nat} {ex exa:List Nat} {V0:List (List CV)} {A0:List bu} {K:St->Prop}:∀(ops:List Oper) (i:Nat) (s:St),zm P all ow ws fs m ex exa V0 A0 K i ops s->
  ∃σ:Nat->St,σ 0=s/\K (σ ops.length)/\∀(j:Nat) o,ops[j]? =some o->NY P all (ow (i+j)) fs (i+j) ex exa V0 A0 o (σ j) (σ (j+1))/\(i+j∈ws\/((σ (j+1)).V=(σ j).V/\(σ (j+1)).A=(σ j).A))/\
   (i+j<m->LB ex exa V0 A0 (σ (j+1))\/((σ (j+1)).V=(σ j).V/\(σ (j+1)).A=(σ j).A))
 |[],i,s,h=>⟨fun _=>s,rfl,h,fun j o h=>by simp at h⟩
 |o::rest,i,s,h=>by
  simp only[zm]at h;obtain⟨h0,hg⟩:=fO h;rcases h0 with⟨h1,h2⟩|⟨h1,h2⟩
  ·obtain⟨x,V,A,⟨h3,NL,Fz,h4⟩,h5⟩:=fU h2;obtain⟨σ,k1,k2,k3⟩:=pF rest (i+1) _ h4;refine⟨fun j=>match j with|0=>s|j+1=>σ j,rfl,k2,fun j o' ho=>?_⟩;cases j with
   |zero=>
    simp at ho;subst ho;refine⟨⟨hg,.inl ⟨h1,x,V,A,k1,h5,Fz⟩⟩,?_,fun hm=>?_⟩
    ·rcases h3 with h3|⟨h3,s5⟩
     ·exact .inl h3
     ·exact .inr (by simp only[k1];exact⟨h3,s5⟩)
    ·rcases h3 with h3|⟨h3,s5⟩
     ·exact .inl (by simp only[k1];exact NL h3 hm)
     ·exact .inr (by simp only[k1];exact⟨h3,s5⟩)
   |succ j=>
    simp at ho;have:=k3 j o' ho;rwa[show i+1+j=i+(j+1) by omega]at this
  ·obtain⟨σ,k1,k2,k3⟩:=pF rest (i+1) _ h2;refine⟨fun j=>match j with|0=>s|j+1=>σ j,rfl,k2,fun j o' ho=>?_⟩;cases j with
   |zero=>
    simp at ho;subst ho;exact⟨⟨hg,.inr ⟨h1,k1⟩⟩,.inr (by simp only[k1];exact⟨rfl,rfl⟩),fun _=>.inr (by simp only[k1];exact⟨rfl,rfl⟩)⟩
   |succ j=>
    simp at ho;have:=k3 j o' ho;rwa[show i+1+j=i+(j+1) by omega]at this
set_option maxHeartbeats 2000000 in
theorem BM {all:Array Oper} {ow:Nat->Bool} {ws fs:List Nat} {m:Nat} {ex exa:List Nat} {V0:List (List CV)} {A0:List bu} {σ:Nat->St} {K:St->Prop} {Q:Exit->Act->World->Prop} (hd:iu all ws fs m=true) (eT:c7 n all.toList=true)
  (lK:∀(j:Nat) o,all[j]? =some o->NY P all (ow j) fs j ex exa V0 A0 o (σ j) (σ (j+1))/\(j∈ws\/((σ (j+1)).V=(σ j).V/\(σ (j+1)).A=(σ j).A))/\(j<m->LB ex exa V0 A0 (σ (j+1))\/((σ (j+1)).V=(σ j).V/\(σ (j+1)).A=(σ j).A))) (Hu:(σ 0).V=V0/\(σ 0).A=A0)
  (hK:K (σ all.size)) (hQ:∀s' g' a' w',K s'->Rp n w0 g0 s' g' a' w'->Q .normal a' w'):
  ∀(fuel:Nat) (ae:Array Bool) (k0:Nat) (g:Gh) (a:Act) (w:World),((YI all.size).filter fun i=> !ae.getD i true).length<=fuel->yj all ws σ n w0 g0 ae k0 g a w->wpAny P .any all Q fuel ae a w:=by
 simp only[iu,YP,YO]at hd;obtain⟨⟨⟨⟨hP,jm⟩,oX⟩,I5⟩,I6⟩:=hd;have cQ:∀(j:Nat) o,all[j]? =some o->(o,j)∈all.toList.zipIdx:=fun j o h=>by
  rw[List.mem_iff_getElem?];exact⟨j,by simp[List.getElem?_zipIdx,h]⟩
 have cZ:∀(j:Nat) o,all[j]? =some o->∀e∈o.after,Region.binds .any e=true->e.on<j:=fun j o h e he hb=>by
  have:=hP _ (cQ j o h) e (YT.2 he);simpa[hb]using this
 have fI:∀(i j:Nat) oi oj,all[i]? =some oi->all[j]? =some oj->i<j->cC all ws fs m (a7 all.toList []) oi oj i j=true:=fun i j oi oj h1 h2 az=>by
  have:=jm _ (cQ j oj h2) _ (cQ i oi h1);simpa[az]using this
 have bY:∀(i j:Nat) oi oj,all[i]? =some oi->all[j]? =some oj->i<j->i∉fs->j∉fs->br all ws (a7 all.toList []) oi oj i j=true:=fun i j oi oj h1 h2 az hi hj=>by
  have:=fI i j oi oj h1 h2 az;simpa[cC,br,hi,hj]using this
 have l7:∀i,i∈ws->i∉fs:=fun i hi hf=>by
  have:=I5 i hf;simp[hi]at this
 have Dd:∀k,k<=m->k<=all.size->LB ex exa V0 A0 (σ k):=by
  intro k;induction k with
  |zero=>
   intro _ _;refine⟨?_,?_⟩
   ·rw[Hu.1,pA];simp
   ·rw[Hu.2,BL];simp
  |succ k ih=>
   intro h1 h2;have ho:all[k]? =some all[k]:=YR (by omega);rcases(lK k _ ho).2.2 (by omega)with h3|⟨h3,h4⟩
   ·exact h3
   ·have:=ih (by omega) (by omega);exact⟨by rw[h3];exact this.1,by rw[h4];exact this.2⟩
 have uX:∀(j:Nat) o,all[j]? =some o->j∈ws->cL o.op=false:=fun j o h hj=>by
  have:=oX _ (cQ j o h);simpa[hj]using this
 have fG:∀(i j:Nat) oi oj d,all[i]? =some oi->all[j]? =some oj->i<j->oi.dst=some d->oj.dst≠some d:=fun i j oi oj d h1 h2 az h3 h4=>by
  have:=fI i j oi oj h1 h2 az;simp[cC,h3,h4]at this
 have q0:∀(i j:Nat) oi oj d,all[i]? =some oi->all[j]? =some oj->oi.dst=some d->oj.dst=some d->i=j:=fun i j oi oj d h1 h2 h3 h4=>by
  rcases YZ i j with h|h|h
  ·exact absurd h4 (fG i j oi oj d h1 h2 h h3)
  ·exact h
  ·exact absurd h3 (fG j i oj oi d h2 h1 h h4)
 have z8:∀(j:Nat) o d,all[j]? =some o->o.dst=some d->d<n:=fun j o d h1 h2=>by
  have:=YO.1 eT o (by rw[YT];exact Array.mem_of_getElem? h1);simpa[h2]using this
 obtain⟨GJ,_,Bn⟩:=eU all.toList []
 have mO:∀{ae:Array Bool},(∀(i:Nat) o,all[i]? =some o->ae[i]? =some true->∀e∈o.after,Region.binds .any e=true->ae[e.on]? =some true)->
   ∀(i:Nat) o,all[i]? =some o->(∀e∈o.after,Region.binds .any e=true->ae[e.on]? =some true)->∀k,((a7 all.toList []).getD i 0).testBit k=true->ae[k]? =some true:=by
  intro ae kJ i;induction i using YY with
  |_ i ih=>
   intro o ho cz k hk;obtain⟨pre,h1,h2,h3⟩:=Bn i o (by simpa using ho);simp only[List.length_nil,YX]at h1 h3;have h4:(a7 all.toList []).getD i 0=mN pre o:=by simp[YJ,h3]
   rw[h4]at hk;obtain⟨e,he,hb,h5⟩:=fF hk;have s7:=cz e he hb;rcases h5 with rfl|h5
   ·exact s7
   ·have az:=cZ i o ho e he hb;have h6:pre.getD e.on 0=(a7 all.toList []).getD e.on 0:=by simp only[YJ,h2 e.on (by omega)]
    rw[h6]at h5;have eM:e.on<all.size:=by have:=(YS.1 ho).1;omega
    have uY:all[e.on]? =some all[e.on]:=YR eM;exact ih e.on az _ uY (kJ e.on _ uY s7) k h5
 have lV:∀(j:Nat) o t,all[j]? =some o->o.dst≠some t->look (σ (j+1)).fr t=look (σ j).fr t:=fun j o t h1 h2=>by
  obtain⟨⟨_,h3⟩,_⟩:=lK j o h1;have j3:∀(x:AV) V A,look ((σ j).put o.dst x V A).fr t=look (σ j).fr t:=fun x V A=>by
   simp only[St.put];cases rI:o.dst with
   |none=>rfl
   |some d=>simp only[look];rw[if_neg (fun e=>h2 (by rw[rI,e]))]
  rcases h3 with⟨_,x,V,A,h4,_,_⟩|⟨_,h4⟩
  ·rw[h4];exact j3 x V A
  ·rw[h4];exact j3 _ _ _
 have oR:∀(j t:Nat),j<=all.size->(∀(i:Nat) o,i<j->all[i]? =some o->o.dst≠some t)->look (σ j).fr t=look (σ 0).fr t:=by
  intro j;induction j with
  |zero=>intro t _ _;rfl
  |succ j ih=>
   intro t hj fe;have ho:all[j]? =some all[j]:=YR (by omega);rw[lV j _ t ho (fe j _ (by omega) ho)];exact ih t (by omega) (fun i o hi=>fe i o (by omega))
 have oS:∀(j i:Nat) oi t,j<=all.size->i<j->all[i]? =some oi->oi.dst=some t->look (σ j).fr t=look (σ (i+1)).fr t:=by
  intro j;induction j with
  |zero=>intro i oi t _ h;omega
  |succ j ih=>
   intro i oi t hj kq aZ cg;by_cases e:i=j
   ·subst e;rfl
   ·have ho:all[j]? =some all[j]:=YR (by omega);rw[lV j _ t ho (fG i j oi _ t aZ ho (by omega) cg)];exact ih i oi t (by omega) (by omega) aZ cg
 have tE:∀(b a:Nat),a<=b->b<=all.size->(∀i,a<=i->i<b->i∉ws)->(σ b).V=(σ a).V/\(σ b).A=(σ a).A:=by
  intro b;induction b with
  |zero=>
   intro a h _ _;obtain rfl:a=0:=by omega
   exact⟨rfl,rfl⟩
  |succ b ih=>
   intro a Pw hb fe;by_cases e:a=b+1
   ·subst e;exact⟨rfl,rfl⟩
   ·have ho:all[b]? =some all[b]:=YR (by omega);obtain⟨h1,h2⟩:=ih a (by omega) (by omega) (fun i hi Fh=>fe i hi (by omega));rcases(lK b _ ho).2.1 with h3|⟨h3,h4⟩
    ·exact absurd h3 (fe b (by omega) (by omega))
    ·exact⟨h3.trans h1,h4.trans h2⟩
 have lJ:∀{ae:Array Bool} {k0:Nat} {g:Gh} {a:Act} {w:World},yj all ws σ n w0 g0 ae k0 g a w->Region.ready .any all ae=[]->Q .normal a w:=by
  intro ae k0 g a w hD hr;have df:∀i,i<all.size->ae[i]? =some true:=by
   intro i;induction i using YY with
   |_ i ih=>
    intro hi;have ho:all[i]? =some all[i]:=YR hi;have bC:i<ae.size:=by rw[hD.ey];exact hi
    cases hl:ae[i]with
    |true=>rw[YR bC,hl]
    |false=>
     exfalso
     have:i∈Region.ready .any all ae:=mem_ready.2 ⟨by simp[bC,hl],_,ho,fun e he hb=>cy.2 (ih e.on (cZ i _ ho e he hb) (by have:=cZ i _ ho e he hb;omega))⟩;rw[hr]at this;simp at this
  have kM:=tE all.size k0 hD.nF (YW _) (fun i h1 h2 h3=>by have:=(hD.dY i h3 h2).1 (df i h2);omega);refine hQ _ g a w hK ⟨by rw[kM.1,kM.2];exact hD.inv,hD.fr,hD.size,hD.defers,fun t x hx=>?_⟩;rw[kM.2];by_cases hex:∃(i:Nat) (o:Oper),all[i]? =some o/\o.dst=some t
  ·obtain⟨i,o,ho,cg⟩:=hex;have hi:=(YS.1 ho).1;rw[oS all.size i o t (YW _) hi ho cg]at hx;exact hD.fP i o t x ho (df i hi) cg hx
  ·rw[oR all.size t (YW _) (fun i o _ ho cg=>hex ⟨i,o,ho,cg⟩)]at hx;exact hD.fQ t x (fun i o ho _ cg=>hex ⟨i,o,ho,cg⟩) hx
 intro fuel;induction fuel with
 |zero=>
  intro ae k0 g a w hf hD;have lL:Region.ready .any all ae=[]:=by
   have h0:((YI all.size).filter fun i=> !ae.getD i true)=[]:=List.eq_nil_of_length_eq_zero (by omega);rcases hr:Region.ready .any all ae with _|⟨j,r⟩
   ·rfl
   ·have hj:j∈Region.ready .any all ae:=by rw[hr];simp
    obtain⟨h1,o,h2,_⟩:=mem_ready.1 hj;have:j∈((YI all.size).filter fun i=> !ae.getD i true):=by
     rw[List.mem_filter,YL];exact⟨(YS.1 h2).1,by simp[h1]⟩
    rw[h0]at this;simp at this
  exact⟨lL,lJ hD lL⟩
 |succ fuel ih=>
  intro ae k0 g a w hf hD;refine⟨fun hr=>lJ hD hr,fun j hj=>?_⟩;obtain⟨mP,o,ho,cz⟩:=mem_ready.1 hj;have mQ:=dZ mP;have rK:j<all.size:=(YS.1 ho).1;have iZ:j<ae.size:=by rw[hD.ey];exact rK
  have cn:∀e∈o.after,Region.binds .any e=true->ae[e.on]? =some true:=fun e he hb=>cy.1 (cz e he hb)
  have ck:∀k,((a7 all.toList []).getD j 0).testBit k=true->ae[k]? =some true:=mO hD.closed j o ho cn;have bV:∀(i:Nat) oi,all[i]? =some oi->ae[i]? =some true->((a7 all.toList []).getD i 0).testBit j=false:=fun i oi aZ bC=>by
   cases hb:((a7 all.toList []).getD i 0).testBit j with
   |false=>rfl
   |true=>have:=mO hD.closed i oi aZ (hD.closed i oi aZ bC) j hb;rw[mQ]at this;simp at this
  have jr:∀t∈o.looksAt all,∀x,look (σ j).fr t=some x->∃u,a.tmps[t]? =some u/\aV g w (σ k0).A x u:=by
   intro t ht x hx;by_cases hex:∃(i:Nat) (oi:Oper),i<j/\all[i]? =some oi/\oi.dst=some t
   ·obtain⟨i,oi,kq,aZ,cg⟩:=hex;rw[oS j i oi t (by omega) kq aZ cg]at hx;have hp:=fI i j oi o aZ ho kq;have tF:dq all oi o=true:=by simp only[dq,cg];simpa using ht
    simp only[cC,tF,YP,YQ]at hp;have hb:((a7 all.toList []).getD j 0).testBit i=true:=by simpa using hp.2
    exact hD.fP i oi t x aZ (ck i hb) cg hx
   ·rw[oR j t (by omega) (fun i oi kq aZ cg=>hex ⟨i,oi,kq,aZ,cg⟩)]at hx;refine hD.fQ t x (fun i oi aZ bC cg=>?_) hx;rcases YZ i j with h|h|h
    ·exact hex ⟨i,oi,h,aZ,cg⟩
    ·subst h;rw[mQ]at bC;simp at bC
    ·have hp:=fI j i o oi ho aZ h;have tF:dq all oi o=true:=by simp only[dq,cg];simpa using ht
     have hb:=bV i oi aZ bC;simp only[cC,tF,hb,YP,YQ]at hp;simp at hp
  let cM:=(σ j).fr.filter fun p=>(o.looksAt all).contains p.1
  have mD:∀t,look cM t=if(o.looksAt all).contains t then look (σ j).fr t else none:=fun t=>eP (fun t=>(o.looksAt all).contains t) (σ j).fr t
  have hS:∀(V:List (List CV)),ia g w ⟨cM,V,(σ k0).A⟩ a:=fun V t x hx=>by
   simp only[mD]at hx;split at hx
   ·rename_i hc;exact jr t (by simpa using hc) x hx
   ·cases hx
  have gu:∀(V V':List (List CV)) (A A':List bu),∀x∈o.op.operands.toList,bE ⟨cM,V,A⟩ x=bE ⟨(σ j).fr,V',A'⟩ x:=fun V V' A A' x hx=>by
   cases x with
   |tmp t=>
    simp only[bE,mD];rw[if_pos];simp only[Oper.looksAt,YN,decide_eq_true_eq,YM,List.mem_filterMap];exact .inl ⟨.tmp t,hx,rfl⟩
   |_=>rfl
  have gD:Rp n w0 g0 ⟨cM,(σ k0).V,(σ k0).A⟩ g a w:=⟨hD.inv,hD.fr,hD.size,hD.defers,hS _⟩;obtain⟨⟨uT,kn⟩,Da,_⟩:=lK j o ho;have oT:gX all ⟨cM,(σ k0).V,(σ k0).A⟩ o True True/\gw all ⟨cM,(σ k0).V,(σ k0).A⟩ o=gw all (σ j) o:=by
   unfold gX gw at*;cases nG:o.guard with
   |none=>simp
   |some jw=>
    obtain⟨q,want⟩:=jw;simp only[nG]at uT⊢;obtain⟨oq,h1,h2⟩:=cv uT;obtain⟨t,h3,h4⟩:=cv h2;have:look cM t=look (σ j).fr t:=by
     rw[mD,if_pos];simp only[Oper.looksAt,nG,YN,decide_eq_true_eq,YM];exact .inr (by simp[h1,h3])
    simp only[h1,bS,h3,Y0,this]at h4⊢;exact⟨h4,trivial⟩
  have ll:Region.wanted o (yielded all a.tmps)=gw all (σ j) o:=by
   rw[<-oT.2];have h0:=fO oT.1;have h1:=oT.1;unfold gX at h1;unfold gw;cases nG:o.guard with
   |none=>simp[Region.wanted,nG]
   |some jw=>
    obtain⟨q,want⟩:=jw;simp only[nG]at h1⊢;obtain⟨oq,h2,h3⟩:=cv h1;obtain⟨t,h4,h5⟩:=cv h3;obtain⟨x,h6,h7⟩:=cv h5;obtain⟨h8,h9⟩:=jq gD h2 h4 h6;simp only[h2,Y0,h4,h6];split at h7
    ·rename_i b;simp[Region.wanted,nG,h8 b rfl]
    ·simp[Region.wanted,nG,h9 rfl]
    ·exact h7.elim
  have bN:∀i,(ae.setIfInBounds j true)[i]? =if i=j then some true else ae[i]? :=fun i=>by
   by_cases e:i=j
   ·subst e;simp[iZ]
   ·rw[if_neg e,YU (fun h=>e h.symm)]
  have cW:((YI all.size).filter fun i=> !(ae.setIfInBounds j true).getD i true).length<=fuel:=by
   have az:((YI all.size).filter fun i=> !(ae.setIfInBounds j true).getD i true).length<((YI all.size).filter fun i=> !ae.getD i true).length:=by
    have gq:∀i,(!(ae.setIfInBounds j true).getD i true)=true->(!ae.getD i true)=true:=fun i h=>by
     by_cases e:i=j
     ·subst e;simp[iZ]at h
     ·have:(ae.setIfInBounds j true).getD i true=ae.getD i true:=by
       simp only[Array.getD_eq_getD_getElem?,bN,if_neg e]
      rwa[this]at h
    exact filter_lt gq (YL.2 rK) (by simp[mP]) (by simp[iZ])
   omega
  have cJ:∀(k1:Nat) (x:AV) (v:Value) (w':World) (g':Gh),look (σ (j+1)).fr=look ((σ j).put o.dst x [] []).fr->aV g' w' (σ k1).A x v->Inv g' w' (σ k1).V (σ k1).A->Ext g w (σ k0).A g' w' (σ k1).A->Fr w0 g0 w' g'->k1<=all.size->(k1=0\/∃i∈ws,k1=i+1)->
    (∀i∈ws,i<all.size->((ae.setIfInBounds j true)[i]? =some true↔i<k1))->yj all ws σ n w0 g0 (ae.setIfInBounds j true) k1 g' (a.put o.dst v) w':=by
   intro k1 x v w' g' CN yy hI hx hF hk Lt Fw;have iH:∀t u,o.dst≠some t->a.tmps[t]? =some u->(a.put o.dst v).tmps[t]? =some u:=fun t u dc hu=>by
    cases rI:o.dst with
    |none=>exact hu
    |some d=>
     simp only[Act.put];rw[YU (fun e=>dc (by rw[rI,e]))];exact hu
   refine⟨hI,hF,?_,?_,by simp[hD.ey],fun i oi t y aZ bC cg hy=>?_,fun t y fe hy=>?_,Fw,hk,Lt,fun i oi aZ bC e he hb=>?_⟩
   ·cases o.dst<;>simp[Act.put,hD.size]
   ·cases o.dst<;>simp[Act.put,hD.defers]
   ·rw[bN]at bC;by_cases e:i=j
    ·subst e;obtain rfl:o=oi:=by rw[ho]at aZ;exact Option.some.inj aZ
     rw[CN]at hy;simp only[St.put,cg,look,if_true]at hy;cases hy
     refine⟨v,?_,yy⟩;have:t<a.tmps.size:=by rw[hD.size];exact z8 i o t ho cg
     simp[Act.put,cg,this]
    ·rw[if_neg e]at bC;obtain⟨u,h1,h2⟩:=hD.fP i oi t y aZ bC cg hy;exact⟨u,iH t u (fun h=>e (q0 i j oi o t aZ ho cg h)) h1,aV.ext hx h2⟩
   ·have dc:o.dst≠some t:=fe j o ho (by rw[bN,if_pos rfl]);obtain⟨u,h1,h2⟩:=hD.fQ t y (fun i oi aZ bC=>fe i oi aZ (by
     rw[bN];by_cases e:i=j
     ·rw[if_pos e]
     ·rw[if_neg e];exact bC)) hy
    exact⟨u,iH t u dc h1,aV.ext hx h2⟩
   ·rw[bN]at bC⊢;have:ae[e.on]? =some true:=by
     by_cases e':i=j
     ·subst e';obtain rfl:o=oi:=by rw[ho]at aZ;exact Option.some.inj aZ
      exact cn e he hb
     ·rw[if_neg e']at bC;exact hD.closed i oi aZ bC e he hb
    by_cases e':e.on=j
    ·rw[if_pos e']
    ·rw[if_neg e'];exact this
  have gN:j∉ws->∀i∈ws,i<all.size->((ae.setIfInBounds j true)[i]? =some true↔i<k0):=fun ef i hi bZ=>by
   rw[bN,if_neg (fun e=>ef (by rw[<-e];exact hi))];exact hD.dY i hi bZ
  have kM:cL o.op=false->j∉fs->(σ j).V=(σ k0).V/\(σ j).A=(σ k0).A:=by
   intro fx nM;rcases Nat.le_total j k0 with h|h
   ·have:=tE k0 j h hD.nF (fun i h1 h2 h3=>by
     have bZ:i<all.size:=by have:=hD.nF;omega
     have bC:=(hD.dY i h3 bZ).2 h2;have aZ:all[i]? =some all[i]:=YR bZ;rcases YV j i with h4|h4
     ·have hp:=bY j i o _ ho aZ h4 nM (l7 i h3);have hb:=bV i _ aZ bC;simp only[br,hb,YP,YQ]at hp;simp[h3,fx]at hp
     ·obtain rfl:i=j:=by omega
      rw[mQ]at bC;simp at bC)
    exact⟨this.1.symm,this.2.symm⟩
   ·exact tE j k0 h (by omega) (fun i h1 h2 h3=>by
     have bZ:i<all.size:=by omega
     have aZ:all[i]? =some all[i]:=YR bZ;have hp:=bY i j _ o aZ ho h2 (l7 i h3) nM;simp only[br,YP,YQ]at hp;have hb:((a7 all.toList []).getD j 0).testBit i=true:=by
      rcases hp.2 with h4|h4
      ·simp[h3,fx]at h4
      ·exact h4
     have:=(hD.dY i h3 bZ).1 (ck i hb);omega)
  unfold wpOp;simp only[ho];rcases kn with⟨h1,x,V,A,h2,h3,Fz⟩|⟨h1,h2⟩
  ·rw[if_pos (by rw[ll,h1])];refine .inl ?_;by_cases hs:cL o.op=true
   ·-- slots alone
    have ef:j∉ws:=fun h=>by have:=uX j o ho h;rw[hs]at this;simp at this
    have h4:bH P ⟨cM,(σ k0).V,(σ k0).A⟩ (ow j) o (fun y V' A'=>y=x/\V'=(σ k0).V/\A'=(σ k0).A):=nE (s:=σ j) (s':=⟨cM,(σ k0).V,(σ k0).A⟩) hs (gu _ _ _ _) h3 ⟨rfl,rfl,rfl⟩;obtain⟨y,V',A',⟨rfl,rfl,rfl⟩,h5⟩:=db gD.inv gD.fr gD.slot h4;refine h5 _ _ fun v w' g' h6 h7 h8 h9=>ih _ k0 g' _ w' cW (cJ k0 y v w' g' (by rw[h2];rfl) h6 h7 h8 h9 hD.nF hD.kw (gN ef))
   ·have fx:cL o.op=false:=by simpa using hs
    by_cases nM:j∈fs
    ·have ef:j∉ws:=fun h=>l7 j h nM
     have De:k0<=m:=by
      rcases hD.kw with h|⟨i,hi,hk⟩
      ·omega
      ·rcases YV i m with h|h
       ·omega
       ·exfalso
        have bZ:i<all.size:=by have:=hD.nF;omega
        have aZ:all[i]? =some all[i]:=YR bZ;have bC:=(hD.dY i hi bZ).2 (by omega);have KO:j<i:=by
         have:=I6 j nM i hi;simp at this;omega
        have hp:=fI j i o _ ho aZ KO;have hb:=bV i _ aZ bC;have s9:¬i<m:=by omega
        simp only[cC,hb,YP,YQ]at hp;simp[hi,fx,s9,nM,ef]at hp
     obtain⟨dG,Ad⟩:=Dd k0 De hD.nF;have h4:bH P ⟨cM,(σ k0).V,(σ k0).A⟩ (ow j) o (fun y V' A'=>y=x/\V'=(σ k0).V/\A'=(σ k0).A):=by
      have h5:=Fz nM (fun i=>(σ k0).V.getD i []) (fun i=>(σ k0).A.getD i rW) ((σ k0).V.drop V0.length) ((σ k0).A.drop A0.length);have e1:rN ex (fun i=>(σ k0).V.getD i []) V0++(σ k0).V.drop V0.length=(σ k0).V:=by
       rw[<-dG];exact YK _ _
      have e2:yl exa (fun i=>(σ k0).A.getD i rW) A0++(σ k0).A.drop A0.length=(σ k0).A:=by
       rw[<-Ad];exact YK _ _
      rw[e1,e2]at h5;exact dX (fr:=(σ j).fr) (gu _ _ _ _) h5
     obtain⟨y,V',A',⟨rfl,rfl,rfl⟩,h5⟩:=db gD.inv gD.fr gD.slot h4;exact h5 _ _ fun v w' g' h6 h7 h8 h9=>ih _ k0 g' _ w' cW (cJ k0 y v w' g' (by rw[h2];rfl) h6 h7 h8 h9 hD.nF hD.kw (gN ef))
    obtain⟨kC,gY⟩:=kM fx nM;have h4:bH P ⟨cM,(σ k0).V,(σ k0).A⟩ (ow j) o (fun y V' A'=>y=x/\V'=V/\A'=A):=by
     rw[<-kC,<-gY];exact dX (fr:=(σ j).fr) (gu _ _ _ _) (h3 _ ⟨rfl,rfl,rfl⟩)
    obtain⟨y,V',A',⟨rfl,rfl,rfl⟩,h5⟩:=db gD.inv gD.fr gD.slot h4;have s8:(σ (j+1)).V=V':=by rw[h2];rfl
    have iW:(σ (j+1)).A=A':=by rw[h2];rfl
    by_cases ef:j∈ws
    ·refine h5 _ _ fun v w' g' h6 h7 h8 h9=>ih _ (j+1) g' _ w' cW (cJ (j+1) y v w' g' (by rw[h2];rfl) (by rw[iW];exact h6) (by rw[s8,iW];exact h7) (by rw[iW];exact h8) h9 (by omega) (.inr ⟨j,ef,rfl⟩) (fun i hi bZ=>?_))
     have aZ:all[i]? =some all[i]:=YR bZ;rw[bN];by_cases e:i=j
     ·subst e;simp
     ·rw[if_neg e];constructor
      ·intro bC;rcases YV j i with h|h
       ·have hp:=bY j i o _ ho aZ h (l7 j ef) (l7 i hi);have hb:=bV i _ aZ bC;simp only[br,hb,YP,YQ]at hp;simp[hi,fx]at hp
       ·omega
      ·intro az;have hp:=bY i j _ o aZ ho (by omega) (l7 i hi) (l7 j ef);simp only[br,YP,YQ]at hp;rcases hp.2 with h|h
       ·simp[hi,fx]at h
       ·exact ck i h
    ·rcases Da with Da|⟨pZ,mC⟩
     ·exact absurd Da ef
     ·refine h5 _ _ fun v w' g' h6 h7 h8 h9=>ih _ k0 g' _ w' cW (cJ k0 y v w' g' (by rw[h2];rfl) ?_ ?_ ?_ h9 hD.nF hD.kw (gN ef))
      ·rw[<-gY,<-mC,iW];exact h6
      ·rw[<-kC,<-gY,<-pZ,<-mC,s8,iW];exact h7
      ·have e1:(σ k0).A=A':=by rw[<-gY,<-mC,iW]
       rw[e1]at h8⊢;exact h8
  ·rw[if_neg (by rw[ll,h1];simp)];have s8:(σ (j+1)).V=(σ j).V:=by rw[h2];rfl
   have iW:(σ (j+1)).A=(σ j).A:=by rw[h2];rfl
   by_cases ef:j∈ws
   ·have fx:=uX j o ho ef;obtain⟨kC,gY⟩:=kM fx (l7 j ef);refine ih _ (j+1) g _ w cW (cJ (j+1) (.c .undef) undef w g (by rw[h2];rfl) rfl ?_ ?_ hD.fr (by omega) (.inr ⟨j,ef,rfl⟩) (fun i hi bZ=>?_))
    ·rw[s8,iW,kC,gY];exact hD.inv
    ·rw[iW,gY];exact .refl _ _ _
    ·have aZ:all[i]? =some all[i]:=YR bZ;rw[bN];by_cases e:i=j
     ·subst e;simp
     ·rw[if_neg e];constructor
      ·intro bC;rcases YV j i with h|h
       ·have hp:=bY j i o _ ho aZ h (l7 j ef) (l7 i hi);have hb:=bV i _ aZ bC;simp only[br,hb,YP,YQ]at hp;simp[hi,fx]at hp
       ·omega
      ·intro az;have hp:=bY i j _ o aZ ho (by omega) (l7 i hi) (l7 j ef);simp only[br,YP,YQ]at hp;rcases hp.2 with h|h
       ·simp[hi,fx]at h
       ·exact ck i h
   ·exact ih _ k0 g _ w cW (cJ k0 (.c .undef) undef w g (by rw[h2];rfl) rfl hD.inv (.refl _ _ _) hD.fr hD.nF hD.kw (gN ef))
theorem T.sA {id:Nat} {ops:Array Oper} (hm:P.follows .mixedOrders=true) (ow:Nat->Bool) (ws fs:List Nat) (m:Nat) (ex exa:List Nat) (hd:iu ops ws fs m=true) (h:zm P ops ow ws fs m ex exa s.V s.A (fun s'=>Q .normal s') 0 ops.toList s):T P n (.region id ops true) Q s:=by
 intro eK w0 g0 g a w hR;obtain⟨σ,h0,hK,lK⟩:=pF ops.toList 0 s h;obtain⟨hI,hx⟩:=hR.inv.heap (w':={w with drawn:=w.drawn+1}) rfl;refine wp_region_any hm (BM (ex:=ex) (exa:=exa) (K:=fun s'=>Q .normal s') (w0:=w0) (g0:=g0) (n:=n) (σ:=σ) (ow:=ow) hd eK (fun j o ho=>?_) ⟨by rw[h0],by rw[h0]⟩ ?_ (fun s' g' a' w' h1 h2=>⟨s',g',h1,h2⟩) ops.size (Array.replicate ops.size false) 0 g a _ ?_ ?_)
 ·have:=lK j o (by simpa using ho);simpa only[YX]using this
 ·simpa using hK
 ·exact Nat.le_trans (List.length_filter_le _ _) (by simp)
 ·refine⟨by rw[h0];exact hI,hR.fr.heap rfl rfl rfl rfl,hR.size,hR.defers,by simp,fun i o t x ho hl=>?_,fun t x _ gp=>?_,fun i _ bZ=>?_,Nat.zero_le _,.inl rfl,fun i o ho hl=>?_⟩
  ·have hi:=(YS.1 ho).1;simp[hi]at hl
  ·rw[h0]at gp⊢;obtain⟨u,h1,h2⟩:=hR.slot t x gp;exact⟨u,h1,aV.ext hx h2⟩
  ·simp[bZ]
  ·have hi:=(YS.1 ho).1;simp[hi]at hl
end
section
variable {P:Program} {n:Nat} {Q:Exit->St->Prop} {s s':St} {y:Code}
structure xh (P:Program) (all:Array Oper) (ow:Nat->Bool) (ws fs:List Nat) (m:Nat) (ex exa:List Nat) (V0:List (List CV)) (A0:List bu) (K:St->Prop) (i:Nat) (ops:List Oper) (s:St):Prop where
 mk::
 run:zm P all ow ws fs m ex exa V0 A0 K i ops s
theorem j7 {all:Array Oper} {ow:Nat->Bool} {ws fs:List Nat} {m:Nat} {ex exa:List Nat} {V0:List (List CV)} {A0:List bu} {K:St->Prop} {i:Nat} {o:Oper} {rest:List Oper}
  (h:gX all s o (bH P s (ow i) o fun x V A=>(i∈ws\/(V=s.V/\A=s.A))/\(i∈ws->i<m->V.take V0.length=rN ex (fun i=>V.getD i []) V0/\A.take A0.length=yl exa (fun i=>A.getD i rW) A0)/\(i∈fs->di P s (ow i) o ex exa V0 A0 x)/\xh P all ow ws fs m ex exa V0 A0 K (i+1) rest (s.put o.dst x V A)) (xh P all ow ws fs m ex exa V0 A0 K (i+1) rest (s.put o.dst (.c .undef) s.V s.A))):xh P all ow ws fs m ex exa V0 A0 K i (o::rest) s:=
 ⟨nI (fun h=>fV (fun _ _ _ h=>⟨h.1,h.2.1,h.2.2.1,h.2.2.2.run⟩) h) (fun h=>h.run) h⟩
theorem iM {all:Array Oper} {ow:Nat->Bool} {ws fs:List Nat} {m:Nat} {ex exa:List Nat} {V0:List (List CV)} {A0:List bu} {K:St->Prop} {i:Nat} (h:K s):xh P all ow ws fs m ex exa V0 A0 K i [] s:=⟨h⟩
theorem T.Q5 {id:Nat} {l:List Oper} (hm:P.follows .mixedOrders=true) (ow:Nat->Bool) (ws fs:List Nat) (m:Nat) (ex exa:List Nat) (hd:iu l.toArray ws fs m=true) (h:∀K:St->Prop,(∀s',T P n y Q s'->K s')->xh P l.toArray ow ws fs m ex exa s.V s.A K 0 l s):T P n (.seq (.region id l.toArray true) y) Q s:=
 T.seq (T.sA hm ow ws fs m ex exa hd (h _ fun _ h=>h).run)
theorem T.HK {id:Nat} {l:List Oper} (hm:P.follows .mixedOrders=true) (ow:Nat->Bool) (ws fs:List Nat) (m:Nat) (ex exa:List Nat) (hd:iu l.toArray ws fs m=true) (h:∀K:St->Prop,(∀s',Q .normal s'->K s')->xh P l.toArray ow ws fs m ex exa s.V s.A K 0 l s):T P n (.region id l.toArray true) Q s:=
 T.sA hm ow ws fs m ex exa hd (h _ fun _ h=>h).run
@[congr] theorem LC {all:Array Oper} {ow:Nat->Bool} {ws fs:List Nat} {m:Nat} {ex exa:List Nat} {V0:List (List CV)} {A0:List bu} {K:St->Prop} {i i':Nat} {ops:List Oper} (hi:i=i') (h:s=s'):xh P all ow ws fs m ex exa V0 A0 K i ops s=xh P all ow ws fs m ex exa V0 A0 K i' ops s':=by rw[h,hi]
theorem xh.gen {all:Array Oper} {ow:Nat->Bool} {ws fs:List Nat} {m:Nat} {ex exa:List Nat} {V0:List (List CV)} {A0:List bu} {K:St->Prop} {i:Nat} {ops:List Oper} {d:Nat} {b:Bool} {fr:List (Nat×AV)} {V:List (List CV)} {A:List bu}
  (h:∀q:Bool,b=q->xh P all ow ws fs m ex exa V0 A0 K i ops ⟨(d,.c (.d (.bool q)))::fr,V,A⟩):xh P all ow ws fs m ex exa V0 A0 K i ops ⟨(d,.c (.d (.bool b)))::fr,V,A⟩:=h b rfl
end
end
attribute [simp] di yl
end Go.Av
