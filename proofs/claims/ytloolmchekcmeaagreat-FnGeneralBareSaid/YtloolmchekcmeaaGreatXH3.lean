/- A part. -/
import Derived.Test.YtloolmchekcmeaaGreatXH2
set_option linter.unusedVariables false
set_option linter.unusedSimpArgs false
open Option renaming bind_some->Ui
open Nat renaming lt_or_ge->Uj,le_refl->Uk,strongRecOn->Ul,le_trans->Um,zero_add->Un,lt_trichotomy->Uo,lt_of_lt_of_le->Up
open List renaming range->Uq,length_nil->Ur,mem_append->Us,getD->Ut,all_eq_true->Uu,map_cons->Uv,length_cons->Uw,map_append->Ux,getElem?_eq_some_iff->Uy,getElem?_append_left->Uz,take_append_drop->UA,mem_range->UB,mem_iff_getElem?->UC,map_nil->UD,getElem?_zipIdx->UE,contains_eq_mem->UF,append_assoc->UG
open Bool renaming and_eq_true->UH,or_eq_true->UI
open Array renaming getElem?_eq_getElem->UJ,getElem?_eq_some_iff->UK,getElem?_setIfInBounds_ne->UL,mem_toList_iff->UM,mem_of_getElem?->UN,getD_eq_getD_getElem?->UO
namespace Go.Av
open Go
section
variable {P:Program} {s:St}
theorem qp {all:Array Oper} {o:Oper} {y n:Prop} (h:fT all s o True True) (hy:gw all s o=true->y) (hn:gw all s o=false->n):fT all s o y n:=by
 unfold fT at h⊢;unfold gw at hy hn;cases hg:o.guard with
 |none=>rw[hg]at hy;exact hy rfl
 |some p=>
  obtain⟨j,want⟩:=p;rw[hg]at h hy hn;refine af h fun oj h1 h2=>af h2 fun t h3 h4=>af h4 fun x h5 h6=>?_
  simp only[h1,Ui,h3,h5]at hy hn;show bE (all[j]?) _;rw[h1];show bE oj.dst _;rw[h3];show bE (look s.fr t) _;rw[h5];simp only[bE];split at h6
  ·rename_i b;simp only[beq_iff_eq,beq_eq_false_iff_ne]at hy hn;exact⟨fun e=>hy e,fun e=>hn (by subst e;cases want<;>decide)⟩
  ·exact hn rfl
  ·exact h6.elim
theorem pr {all:Array Oper} {ow:Nat->Bool}:∀(ops:List Oper) (i:Nat) (s:St) {K:St->Prop},s3 P all ow K i ops s->∃s',K s'/\∀K':St->Prop,K' s'->s3 P all ow K' i ops s
 |[],i,s,K,h=>⟨s,h,fun K' h=>h⟩
 |o::rest,i,s,K,h=>by
  simp only[s3]at h;obtain⟨h0,hg⟩:=gp h;rcases h0 with⟨h1,h2⟩|⟨h1,h2⟩
  ·obtain⟨x,V,A,h3,h4⟩:=gL h2;obtain⟨s',h5,h6⟩:=pr rest (i+1) _ h3;refine⟨s',h5,fun K' Du=>?_⟩;simp only[s3];exact qp hg (fun _=>h4 _ (h6 K' Du)) (fun e=>by rw[h1]at e;cases e)
  ·obtain⟨s',h5,h6⟩:=pr rest (i+1) _ h2;refine⟨s',h5,fun K' Du=>?_⟩;simp only[s3];exact qp hg (fun e=>by rw[h1]at e;cases e) (fun _=>h6 K' Du)
theorem mY {all:Array Oper} {ow:Nat->Bool} {ws:List Nat}:∀(ops:List Oper) (i:Nat) (s:St) {K:St->Prop},mh P all ow ws K i ops s->∃s',K s'/\∀K':St->Prop,K' s'->mh P all ow ws K' i ops s
 |[],i,s,K,h=>⟨s,h,fun K' h=>h⟩
 |o::rest,i,s,K,h=>by
  simp only[mh]at h;obtain⟨h0,hg⟩:=gp h;rcases h0 with⟨h1,h2⟩|⟨h1,h2⟩
  ·obtain⟨x,V,A,⟨h3,sd⟩,h4⟩:=gL h2;obtain⟨s',h5,h6⟩:=mY rest (i+1) _ sd;refine⟨s',h5,fun K' Du=>?_⟩;simp only[mh];exact qp hg (fun _=>h4 _ ⟨h3,h6 K' Du⟩) (fun e=>by rw[h1]at e;cases e)
  ·obtain⟨s',h5,h6⟩:=mY rest (i+1) _ h2;refine⟨s',h5,fun K' Du=>?_⟩;simp only[mh];exact qp hg (fun e=>by rw[h1]at e;cases e) (fun _=>h6 K' Du)
theorem mZ {all:Array Oper} {ow:Nat->Bool} {ws fs:List Nat} {m:Nat} {ex:List Nat} {V0:List (List CV)} {A0:List bp}:∀(ops:List Oper) (i:Nat) (s:St) {K:St->Prop},lJ P all ow ws fs m ex V0 A0 K i ops s->∃s',K s'/\∀K':St->Prop,K' s'->lJ P all ow ws fs m ex V0 A0 K' i ops s
 |[],i,s,K,h=>⟨s,h,fun K' h=>h⟩
 |o::rest,i,s,K,h=>by
  simp only[lJ]at h;obtain⟨h0,hg⟩:=gp h;rcases h0 with⟨h1,h2⟩|⟨h1,h2⟩
  ·obtain⟨x,V,A,⟨h3,sd,h3'',Qf⟩,h4⟩:=gL h2;obtain⟨s',h5,h6⟩:=mZ rest (i+1) _ Qf;refine⟨s',h5,fun K' Du=>?_⟩;simp only[lJ];exact qp hg (fun _=>h4 _ ⟨h3,sd,h3'',h6 K' Du⟩) (fun e=>by rw[h1]at e;cases e)
  ·obtain⟨s',h5,h6⟩:=mZ rest (i+1) _ h2;refine⟨s',h5,fun K' Du=>?_⟩;simp only[lJ];exact qp hg (fun e=>by rw[h1]at e;cases e) (fun _=>h6 K' Du)
end
section
variable {P:Program} {n:Nat} {ι:Type} {Q:ι->Exit->St->Prop} {s s':St}
def TX (P:Program) (n:Nat) (c:Code) (Q:ι->Exit->St->Prop) (s:St):Prop:=∃x,T P n c (Q x) s
def EX (Q:ι->Exit->St->Prop) (e:Exit) (s:St):Prop:=∃x,Q x e s
theorem TX.seq {x y:Code} (h:TX P n x (fun i=>s5 P n y (Q i)) s):TX P n (.seq x y) Q s:=h.imp fun _ h=>T.seq h
theorem TX.skip (h:EX Q .normal s):TX P n .skip Q s:=h.imp fun _ h=>T.skip h
theorem TX.exit {id:Nat} (h:EX Q (.exit id) s):TX P n (.exit id) Q s:=h.imp fun _ h=>T.exit h
theorem TX.ret (h:EX Q .ret s):TX P n .ret Q s:=h.imp fun _ h=>T.ret h
theorem TX.block {id:Nat} {c:Code} (h:TX P n c (fun i=>eZ id (Q i)) s):TX P n (.block id c) Q s:=h.imp fun _ h=>T.block h
theorem TX.cond {c:Operand} {x y:Code} {b:Bool} (hc:bA s c=some (.c (.d (.bool b)))) (ht:b=true->TX P n x Q s) (hf:b=false->TX P n y Q s):TX P n (.cond c x y) Q s:=by
 cases b
 ·exact(hf rfl).imp fun _ h=>T.cond hc (fun e=>by cases e) (fun _=>h)
 ·exact(ht rfl).imp fun _ h=>T.cond hc (fun _=>h) (fun e=>by cases e)
section
variable {id:Nat} {l:List Oper} {y:Code}
theorem TX.rs (ow:Nat->Bool) (h:∀K:St->Prop,(∀s',TX P n y Q s'->K s')->y4 P l.toArray ow K 0 l s):TX P n (.seq (.region id l.toArray false) y) Q s:=by
 obtain⟨s',⟨x,hx⟩,h2⟩:=pr l 0 s (h (fun s'=>TX P n y Q s') fun _ h=>h).run;exact⟨x,T.rs ow fun K hK=>⟨h2 _ (hK _ hx)⟩⟩
theorem TX.ef (ow:Nat->Bool) (h:∀K:St->Prop,(∀s',EX Q .normal s'->K s')->y4 P l.toArray ow K 0 l s):TX P n (.region id l.toArray false) Q s:=by
 obtain⟨s',⟨x,hx⟩,h2⟩:=pr l 0 s (h (fun s'=>EX Q .normal s') fun _ h=>h).run;exact⟨x,T.ef ow fun K hK=>⟨h2 _ (hK _ hx)⟩⟩
theorem TX.rd (hm:P.follows .mixedOrders=true) (ow:Nat->Bool) (ws:List Nat) (hd:fi l.toArray ws=true) (h:∀K:St->Prop,(∀s',TX P n y Q s'->K s')->qm P l.toArray ow ws K 0 l s):TX P n (.seq (.region id l.toArray true) y) Q s:=by
 obtain⟨s',⟨x,hx⟩,h2⟩:=mY l 0 s (h (fun s'=>TX P n y Q s') fun _ h=>h).run;exact⟨x,T.rd hm ow ws hd fun K hK=>⟨h2 _ (hK _ hx)⟩⟩
theorem TX.mW (hm:P.follows .mixedOrders=true) (ow:Nat->Bool) (ws:List Nat) (hd:fi l.toArray ws=true) (h:∀K:St->Prop,(∀s',EX Q .normal s'->K s')->qm P l.toArray ow ws K 0 l s):TX P n (.region id l.toArray true) Q s:=by
 obtain⟨s',⟨x,hx⟩,h2⟩:=mY l 0 s (h (fun s'=>EX Q .normal s') fun _ h=>h).run;exact⟨x,T.mW hm ow ws hd fun K hK=>⟨h2 _ (hK _ hx)⟩⟩
theorem TX.nI (hm:P.follows .mixedOrders=true) (ow:Nat->Bool) (ws fs:List Nat) (m:Nat) (ex:List Nat) (hd:kZ l.toArray ws fs m=true) (h:∀K:St->Prop,(∀s',TX P n y Q s'->K s')->pq P l.toArray ow ws fs m ex s.V s.A K 0 l s):TX P n (.seq (.region id l.toArray true) y) Q s:=by
 obtain⟨s',⟨x,hx⟩,h2⟩:=mZ l 0 s (h (fun s'=>TX P n y Q s') fun _ h=>h).run;exact⟨x,T.nI hm ow ws fs m ex hd fun K hK=>⟨h2 _ (hK _ hx)⟩⟩
theorem TX.BK (hm:P.follows .mixedOrders=true) (ow:Nat->Bool) (ws fs:List Nat) (m:Nat) (ex:List Nat) (hd:kZ l.toArray ws fs m=true) (h:∀K:St->Prop,(∀s',EX Q .normal s'->K s')->pq P l.toArray ow ws fs m ex s.V s.A K 0 l s):TX P n (.region id l.toArray true) Q s:=by
 obtain⟨s',⟨x,hx⟩,h2⟩:=mZ l 0 s (h (fun s'=>EX Q .normal s') fun _ h=>h).run;exact⟨x,T.BK hm ow ws fs m ex hd fun K hK=>⟨h2 _ (hK _ hx)⟩⟩
end
theorem EX.fB {c:Code} (h:TX P n c Q s):EX (fun i=>s5 P n c (Q i)) .normal s:=h
theorem EX.fC {c:Code} (h:EX Q .ret s):EX (fun i=>s5 P n c (Q i)) .ret s:=h
theorem EX.lK {c:Code} {id:Nat} (h:EX Q (.exit id) s):EX (fun i=>s5 P n c (Q i)) (.exit id) s:=h
theorem EX.fm {id:Nat} (h:EX Q .normal s):EX (fun i=>eZ id (Q i)) .normal s:=h
theorem EX.dT {id:Nat} (h:EX Q .ret s):EX (fun i=>eZ id (Q i)) .ret s:=h
theorem EX.iE {id:Nat} (h:EX Q .normal s):EX (fun i=>eZ id (Q i)) (.exit id) s:=h.imp fun _ h=>by simpa[eZ]using h
def tn {α:Type} (S:α->St) (m:α->Nat) (H:α->Prop) (k:Nat) (Q:ι->Exit->St->Prop):{a:α // m a<k/\H a}⊕ι->Exit->St->Prop
 |.inl a,e,s=>e=.normal/\Sub (S a.1) s
 |.inr x,e,s=>e≠.normal/\Q x e s
theorem EX.next {α:Type} {S:α->St} {m:α->Nat} {H:α->Prop} {k:Nat} (a:α) (hm:m a<k) (hH:H a) (hs:Sub (S a) s):EX (tn S m H k Q) .normal s:=⟨.inl ⟨a,hm,hH⟩,rfl,hs⟩
theorem EX.jW {α:Type} {S:α->St} {m:α->Nat} {H:α->Prop} {k:Nat} (h:EX Q .ret s):EX (tn S m H k Q) .ret s:=h.elim fun x h=>⟨.inr x,by simp,h⟩
theorem EX.BM {α:Type} {S:α->St} {m:α->Nat} {H:α->Prop} {k id:Nat} (h:EX Q (.exit id) s):EX (tn S m H k Q) (.exit id) s:=h.elim fun x h=>⟨.inr x,by simp,h⟩
theorem Iter.sub {c:Code} {Q:Exit->St->Prop} {k:Nat} {s s':St} (h:Iter P n c Q k s) (hs:Sub s s'):Iter P n c Q k s':=by
 cases k with
 |zero=>exact h.elim
 |succ k=>exact T.sub h hs
theorem TX.gq {α:Type} {c:Code} (S:α->St) (m:α->Nat) (H:α->Prop) (h:∀a,H a->TX P n c (tn S m H (m a) Q) (S a)) (a:α) (ha:H a) (hs:Sub (S a) s):TX P n (.loop c) Q s:=by
 have key:∀k a,m a=k->H a->∃x j,Iter P n c (Q x) j (S a):=by
  intro k;induction k using Ul with
  |_ k ih=>
   intro a hk ha;obtain⟨y,hy⟩:=h a ha;cases y with
   |inl b=>
    obtain⟨x,j,hx⟩:=ih (m b.1) (by have:=b.2.1;omega) b.1 rfl b.2.2;refine⟨x,j+1,T.mono hy fun e s' h1=>?_⟩;obtain⟨rfl,h2⟩:=h1;exact hx.sub h2
   |inr x=>
    refine⟨x,1,T.mono hy fun e s' h1=>?_⟩;obtain⟨h1,h2⟩:=h1;cases e<;>first|exact absurd rfl h1|exact h2
 obtain⟨x,j,hx⟩:=key _ a rfl ha;exact⟨x,T.km (hx.sub hs)⟩
end
section
variable {P:Program} {f:FuncId} {fn:Func} {c:Code} {s:St} {e:Exit} {b:List Int}
def bF (P:Program) (f:FuncId) (as:List AV) (V:List (List CV)) (R:AV->List (List CV)->List bp->Prop):Prop:=∃v V' A',R v V' A'/\ah P f as V v V' A'
abbrev MS (R:AV->List (List CV)->List bp->Prop):Type:={x:AV×List (List CV)×List bp // R x.1 x.2.1 x.2.2}
abbrev ri (P:Program) (fn:Func) (m:Nat) (R:AV->List (List CV)->List bp->Prop) (x:MS R):Exit->St->Prop:=aG P fn m x.1.1 x.1.2.1 x.1.2.2
theorem bF.bW {as:List AV} {V:List (List CV)} {R:AV->List (List CV)->List bp->Prop} (hf:P.funcs[f]? =some fn) (il:(fn.name== "runtime.NumGoroutine")=false) (hb:fn.body=some c) (eC:codeOk fn.ntmps c=true) (hn:as.length<=fn.ntmps)
  (hV:∀v V' A',R v V' A'->V.length<=V'.length) (h:TX P fn.ntmps c (ri P fn V.length R) ⟨iJ as,V,[]⟩):bF P f as V R:=by
 obtain⟨x,hx⟩:=h;exact⟨_,_,_,x.2,ah.bW hf il hb eC hn (hV _ _ _ x.2) hx⟩
theorem aG.gen {m:Nat} {r:AV} {V':List (List CV)} {A':List bp} (ext ks:List Nat) {ys:List AV} (he:e=.normal\/e=.ret) (kn:(eD P s fn.results.toList).bind (aI s.A (Uq m++ext) ks)=some ys) (hr:one ys=r)
  (hV:ev s.A s.V (Uq m++ext) ks (Uq m++ext)=some V') (hA:c5 s.A ks=some A') (jS:ks.Nodup) (Ff:ext.Nodup) (hm:∀l∈ext,m<=l):aG P fn m r V' A' e s:=by
 cases hx:eD P s fn.results.toList with
 |none=>rw[hx]at kn;simp at kn
 |some xs=>rw[hx]at kn;exact⟨he,ext,ks,xs,ys,hx,jS,Ff,hm,kn,hr.symm,hV,hA⟩
theorem aG.HD {r:AV} {a:bp} (k:Nat) {ys:List AV} (he:e=.normal\/e=.ret) (kn:(eD P s fn.results.toList).bind (aI s.A [] [k])=some ys) (hr:one ys=r) (hA:s.A[k]? =some a):aG P fn 0 r [] [a] e s:=
 aG.gen [] [k] he (by simpa using kn) hr rfl (by simp[c5,hA]) (by simp) (by simp) (by simp)
def bo (P:Program) (f:FuncId) (as:List AV) (b:List Int) (p N:Nat) (R:AV->List bp->Prop):Prop:=
 bF P f (.c (.ptr 0 0)::as) (dV [rd b p]) fun v V' A'=>∃p',V'=dV [rd b p']/\p<=p'/\p'<=p+N/\R v A'
theorem EX.draw {p N p':Nat} {R:AV->List bp->Prop} (ks:List Nat) {ys:List AV} {A':List bp} (he:e=.normal\/e=.ret) (kn:(eD P s fn.results.toList).bind (aI s.A [0] ks)=some ys) (hV:s.V[0]? =some ((rd b p').map CV.d)) (hA:c5 s.A ks=some A') (jS:ks.Nodup)
  (h1:p<=p') (h2:p'<=p+N) (hR:R (one ys) A'):EX (ri P fn 1 (fun v V' A'=>∃p',V'=dV [rd b p']/\p<=p'/\p'<=p+N/\R v A')) e s:=by
 refine⟨⟨(one ys,dV [rd b p'],A'),p',rfl,h1,h2,hR⟩,?_⟩;refine aG.gen [] ks he (by simpa using kn) rfl ?_ hA jS (by simp) (by simp);refine so [0] [rd b p'] rfl ?_;intro j l' row' h1 h2
 match j with
 |0=>simp at h1 h2;subst h1;subst h2;exact hV
 |j+1=>simp at h1
theorem yc (l:Nat) {p N:Nat} {R:AV->List bp->Prop} {xs as:List AV} {K:AV->List (List CV)->List bp->Prop} (cV:s.V[l]? =some ((rd b p).map CV.d)) (cr:fA s.A [l] xs=some (.c (.ptr 0 0)::as)) (hd:bo P f as b p N R)
  (hK:∀v A' p',R v A'->p<=p'->p'<=p+N->K (v.ej [l] s.V.length s.A.length) (s.V.set l ((rd b p').map CV.d)) (bC s.A (bq xs)++A')):fM P s f xs K:=by
 obtain⟨v,V',A',⟨p',rfl,h1,h2,hR⟩,hc⟩:=hd;refine .inl ⟨[l],_,dV [rd b p],v,dV [rd b p'],A',by simp,cr,sn [l] [rd b p] rfl ?_,hc,?_⟩
 ·intro j l' row'' h1 h2
  match j with
  |0=>simp at h1 h2;subst h1;subst h2;exact cV
  |j+1=>simp at h1
 ·obtain⟨ds,xo⟩:=kV (V:=s.V) [l] [rd b p] rfl (by
   intro j l' row'' h1 h2
   match j with
   |0=>simp at h1 h2;subst h1;subst h2;exact cV
   |j+1=>simp at h1)
  rw[xo,jT,pd];have hp:bQ s.A.length s.V.length [l] s.V [l] (dV [rd b p'])=s.V.set l ((rd b p').map CV.d):=by
   simp only[dV,Uv,UD,bQ,List.append_nil]
   rfl
  rw[hp];exact hK v A' p' hR h1 h2
theorem jk {xs as:List AV} {r:AV} {A':List bp} {K:AV->List (List CV)->List bp->Prop} (cr:fA s.A [] xs=some as) (hc:ah P f as [] r [] A') (hK:K (r.ej [] s.V.length s.A.length) s.V (bC s.A (bq xs)++A')):fM P s f xs K:=by
 refine .inl ⟨[],as,[],r,[],A',by simp,cr,rfl,hc,?_⟩;simpa[bQ,bw]using hK
abbrev RV {α:Type} (enc:α->AV) (arr:α->List bp) (good:α->Prop):AV->List bp->Prop:=fun v A'=>∃x,(v=enc x/\A'=arr x)/\good x
abbrev ss {α:Type}:α->List bp:=fun _=>[]
theorem au (l:Nat) {α:Type} {enc:α->AV} {arr:α->List bp} {good:α->Prop} {p N:Nat} {xs as:List AV} {K:AV->List (List CV)->List bp->Prop} (cV:s.V[l]? =some ((rd b p).map CV.d)) (cr:fA s.A [l] xs=some (.c (.ptr 0 0)::as)) (hd:bo P f as b p N (RV enc arr good))
  (hK:∀x p',good x->p<=p'->p'<=p+N->K ((enc x).ej [l] s.V.length s.A.length) (s.V.set l ((rd b p').map CV.d)) (bC s.A (bq xs)++arr x)):fM P s f xs K:=
 yc l cV cr hd fun _ _ p' h h1 h2=>by obtain⟨x,⟨rfl,rfl⟩,hg⟩:=h;exact hK x p' hg h1 h2
theorem EX.dr {α:Type} {enc:α->AV} {arr:α->List bp} {good:α->Prop} {p N p':Nat} (ks:List Nat) (x:α) {ys:List AV} (he:e=.normal\/e=.ret) (kn:(eD P s fn.results.toList).bind (aI s.A [0] ks)=some ys) (hx:one ys=enc x) (hV:s.V[0]? =some ((rd b p').map CV.d)) (hA:c5 s.A ks=some (arr x)) (jS:ks.Nodup)
  (h1:p<=p') (h2:p'<=p+N) (hg:good x):EX (ri P fn 1 (fun v V' A'=>∃p',V'=dV [rd b p']/\p<=p'/\p'<=p+N/\RV enc arr good v A')) e s:=
 EX.draw ks he kn hV hA jS h1 h2 ⟨x,⟨hx,rfl⟩,hg⟩
theorem bo.mk {α:Type} {enc:α->AV} {arr:α->List bp} {good:α->Prop} {p p' N:Nat} {as:List AV} (x:α) (hg:good x) (h1:p<=p') (h2:p'<=p+N) (hc:ah P f (.c (.ptr 0 0)::as) (dV [rd b p]) (enc x) (dV [rd b p']) (arr x)):bo P f as b p N (RV enc arr good):=
 ⟨_,_,_,⟨p',rfl,h1,h2,x,⟨rfl,rfl⟩,hg⟩,hc⟩
theorem bo.mono {α:Type} {enc:α->AV} {arr:α->List bp} {good good':α->Prop} {p N N':Nat} {as:List AV} (h:bo P f as b p N (RV enc arr good)) (hN:N<=N') (hg:∀x,good x->good' x):bo P f as b p N' (RV enc arr good'):=by
 obtain⟨v,V',A',⟨p',h1,h2,h3,x,h4,h5⟩,hc⟩:=h;exact⟨v,V',A',⟨p',h1,h2,by omega,x,h4,hg x h5⟩,hc⟩
theorem bo.bW {p N:Nat} {as:List AV} {R:AV->List bp->Prop} (hf:P.funcs[f]? =some fn) (il:(fn.name== "runtime.NumGoroutine")=false) (hb:fn.body=some c) (eC:codeOk fn.ntmps c=true) (hn:as.length+1<=fn.ntmps)
  (h:TX P fn.ntmps c (ri P fn 1 (fun v V' A'=>∃p',V'=dV [rd b p']/\p<=p'/\p'<=p+N/\R v A')) ⟨iJ (.c (.ptr 0 0)::as),dV [rd b p],[]⟩):bo P f as b p N R:=
 bF.bW hf il hb eC hn (by rintro v V' A' ⟨p',rfl,-⟩;simp) h
def cE (P:Program) (f:FuncId) (as:List AV) (R:AV->List bp->Prop):Prop:=bF P f as [] fun v V' A'=>V'=[]/\R v A'
theorem cE.bW {as:List AV} {R:AV->List bp->Prop} (hf:P.funcs[f]? =some fn) (il:(fn.name== "runtime.NumGoroutine")=false) (hb:fn.body=some c) (eC:codeOk fn.ntmps c=true) (hn:as.length<=fn.ntmps)
  (h:TX P fn.ntmps c (ri P fn 0 (fun v V' A'=>V'=[]/\R v A')) ⟨iJ as,[],[]⟩):cE P f as R:=
 bF.bW hf il hb eC hn (by rintro v V' A' ⟨rfl,-⟩;simp) h
theorem EX.sm {α:Type} {enc:α->AV} {arr:α->List bp} {good:α->Prop} (ks:List Nat) (x:α) {ys:List AV} (he:e=.normal\/e=.ret) (kn:(eD P s fn.results.toList).bind (aI s.A [] ks)=some ys) (hx:one ys=enc x) (hA:c5 s.A ks=some (arr x)) (jS:ks.Nodup) (hg:good x):
  EX (ri P fn 0 (fun v V' A'=>V'=[]/\RV enc arr good v A')) e s:=by
 refine⟨⟨(one ys,[],arr x),rfl,x,⟨hx,rfl⟩,hg⟩,?_⟩;exact aG.gen [] ks he (by simpa using kn) rfl rfl hA jS (by simp) (by simp)
theorem yd {row:List DV} {xs as:List AV} {r:AV} {K:AV->List (List CV)->List bp->Prop} (cr:fA s.A [] xs=some as) (hc:ah P f as [] r (dV [row]) []) (hK:K (r.ej [] s.V.length s.A.length) (s.V++[row.map CV.d]) (bC s.A (bq xs))):fM P s f xs K:=by
 refine .inl ⟨[],as,[],r,dV [row],[],by simp,cr,rfl,hc,?_⟩;have hm:(row.map CV.d).map (CV.ej [] s.V.length s.A.length)=row.map CV.d:=by
  rw[List.map_map];rfl
 have hp:bQ s.A.length s.V.length [] s.V [] (dV [row])=s.V++[row.map CV.d]:=by
  simp only[dV,Uv,UD,bQ,hm]
 rw[hp];simpa[bw]using hK
end
section
variable {P:Program} {n:Nat} {ι:Type} {Q:ι->Exit->St->Prop} {s s':St} {c:Code}
def LX (P:Program) (n:Nat) (c:Code) (Q:ι->Exit->St->Prop) (s:St):Prop:=∃x j,Iter P n c (Q x) j s
def BN (P:Program) (n:Nat) (c:Code) (Q:ι->Exit->St->Prop):ι×Nat->Exit->St->Prop
 |(x,j),.normal,s=>Iter P n c (Q x) j s
 |(x,_),e,s=>Q x e s
theorem LX.la (h:TX P n c (BN P n c Q) s):LX P n c Q s:=by
 obtain⟨⟨x,j⟩,h⟩:=h;exact⟨x,j+1,T.mono h fun e s' h1=>by cases e<;>exact h1⟩
theorem TX.la (h:TX P n c (BN P n c Q) s):TX P n (.loop c) Q s:=by
 obtain⟨x,j,h⟩:=LX.la h;exact⟨x,T.km h⟩
theorem EX.wB (h:TX P n c (BN P n c Q) s):EX (BN P n c Q) .normal s:=by
 obtain⟨x,j,h⟩:=LX.la h;exact⟨(x,j),h⟩
theorem EX.jX (h:EX Q .ret s):EX (BN P n c Q) .ret s:=h.imp' (fun x=>(x,0)) fun _ h=>h
theorem EX.BO {id:Nat} (h:EX Q (.exit id) s):EX (BN P n c Q) (.exit id) s:=h.imp' (fun x=>(x,0)) fun _ h=>h
end
section
variable {P:Program} {n:Nat} {s:St} {c:Code}
def eU:List Nat->List (Nat×AV)->List (Nat×AV)
 |[],_=>[]
 |t::r,fr=>match look fr t with
  |some x=>(t,x)::eU r fr
  |none=>eU r fr
def fP:List (Nat×List CV)->List (List CV)->List (List CV)
 |[],V=>V
 |p::r,V=>fP r (V.set p.1 p.2)
attribute [simp] eU fP
end
end Go.Av
namespace Go.Av
open Go
def dE (r:List DV) (t:aH):Prop:=r=cD t
def aZ (rs:List (List DV)) (ts:List aH):Prop:=rs=ts.map cD
def cc (r:List DV) (e:an):Prop:=r=fZ e
def aY (rs:List (List DV)) (es:List an):Prop:=rs=es.map fZ
structure da (k:Int) (rs:List (List DV)) (t:aH):Prop where
 k:k=t.kind
 rs:rs=t.kids.map cD
theorem da.var (t:aH):da t.kind (t.kids.map cD) t:=⟨rfl,rfl⟩
theorem da.node {k:Int} {rs:List (List DV)} {ts:List aH} (h:aZ rs ts):da k rs (.mk k ts):=⟨rfl,h⟩
theorem dE.of {k:Int} {rs:List (List DV)} {t:aH} (h:da k rs t):dE [.int .i64 k,.sl rs] t:=by rw[dE,aX,<-h.k,<-h.rs]
theorem dE.row (t:aH):dE (cD t) t:=rfl
theorem aZ.map (l:List aH):aZ (l.map cD) l:=rfl
theorem aZ.nil:aZ [] []:=rfl
theorem aZ.cons {r:List DV} {rs:List (List DV)} {t:aH} {ts:List aH} (h:dE r t) (hs:aZ rs ts):aZ (r::rs) (t::ts):=by rw[aZ,Uv,<-hs,<-h]
theorem aZ.app {rs rs':List (List DV)} {ts ts':List aH} (h:aZ rs ts) (h':aZ rs' ts'):aZ (rs++rs') (ts++ts'):=by rw[aZ,Ux,<-h,<-h']
theorem cc.row (e:an):cc (fZ e) e:=rfl
theorem cc.var (e:an):cc [.int .i64 e.kind,.str e.name,.int .i64 e.num,.int .i64 e.ty.kind,.sl (e.ty.kids.map cD),.int .i64 e.fr.kind,.sl (e.fr.kids.map cD),.int .i64 e.label,.sl (e.kids.map fZ)] e:=by rw[cc,ax]
theorem cc.node {k n k1 k2 lb:Int} {s:List UInt8} {r1 r2 r3:List (List DV)} {t f:aH} {es:List an} (h1:da k1 r1 t) (h2:da k2 r2 f) (h3:aY r3 es):
  cc [.int .i64 k,.str s,.int .i64 n,.int .i64 k1,.sl r1,.int .i64 k2,.sl r2,.int .i64 lb,.sl r3] (.mk k s n t f lb es):=by
 rw[cc,ax,h1.k,h1.rs,h2.k,h2.rs,h3];rfl
theorem aY.map (l:List an):aY (l.map fZ) l:=rfl
theorem aY.nil:aY [] []:=rfl
theorem aY.cons {r:List DV} {rs:List (List DV)} {t:an} {ts:List an} (h:cc r t) (hs:aY rs ts):aY (r::rs) (t::ts):=by rw[aY,Uv,<-hs,<-h]
theorem aY.app {rs rs':List (List DV)} {ts ts':List an} (h:aY rs ts) (h':aY rs' ts'):aY (rs++rs') (ts++ts'):=by rw[aY,Ux,<-h,<-h']
def bh {α:Type} (enc:α->AV) (v:AV) (x:α):Prop:=v=enc x
theorem bh.ty {k:Int} {rs:List (List DV)} {t:aH} (h:da k rs t):bh ep (.agg [.d (.int .i64 k),.d (.sl rs)]) t:=by rw[bh,h.k,h.rs]
theorem bh.uS (e:an):bh cw (.agg [.d (.int .i64 e.kind),.d (.str e.name),.d (.int .i64 e.num),.d (.int .i64 e.ty.kind),.d (.sl (e.ty.kids.map cD)),.d (.int .i64 e.fr.kind),.d (.sl (e.fr.kids.map cD)),.d (.int .i64 e.label),.d (.sl (e.kids.map fZ))]) e:=rfl
theorem bh.tm {k n k1 k2 lb:Int} {s:List UInt8} {r1 r2 r3:List (List DV)} {t f:aH} {es:List an} (h1:da k1 r1 t) (h2:da k2 r2 f) (h3:aY r3 es):
  bh cw (.agg [.d (.int .i64 k),.d (.str s),.d (.int .i64 n),.d (.int .i64 k1),.d (.sl r1),.d (.int .i64 k2),.d (.sl r2),.d (.int .i64 lb),.d (.sl r3)]) (.mk k s n t f lb es):=by
 rw[bh,cw,h1.k,h1.rs,h2.k,h2.rs,h3];rfl
abbrev aP {α β:Type} (f:α->AV) (g:β->AV):α×β->AV:=fun x=>.bu [f x.1,g x.2]
abbrev Qg {α β γ:Type} (f:α->AV) (g:β->AV) (h:γ->AV):α×β×γ->AV:=fun x=>.bu [f x.1,g x.2.1,h x.2.2]
theorem bh.p2 {α β:Type} {f:α->AV} {g:β->AV} {v u:AV} {a:α} {b:β} (h:bh f v a) (h':bh g u b):bh (aP f g) (.bu [v,u]) (a,b):=by rw[bh,h,h']
theorem bh.p3 {α β γ:Type} {f:α->AV} {g:β->AV} {i:γ->AV} {v u w:AV} {a:α} {b:β} {c:γ} (h:bh f v a) (h':bh g u b) (h'':bh i w c):bh (Qg f g i) (.bu [v,u,w]) (a,b,c):=by rw[bh,h,h',h'']
abbrev HE (l:List aH):AV:=.l (l.map cD)
abbrev MT (l:List an):AV:=.l (l.map fZ)
abbrev qt (l:List gj):AV:=.l (l.map mr)
theorem bh.uB {rs:List (List DV)} {ts:List aH} (h:aZ rs ts):bh HE (.c (.d (.sl rs))) ts:=by rw[bh,h]
theorem bh.uT {rs:List (List DV)} {ts:List an} (h:aY rs ts):bh MT (.c (.d (.sl rs))) ts:=by rw[bh,h]
def a6 (rs:List (List DV)) (ts:List gj):Prop:=rs=ts.map mr
theorem a6.map (l:List gj):a6 (l.map mr) l:=rfl
theorem a6.nil:a6 [] []:=rfl
theorem a6.cons {s:List UInt8} {k:Int} {r1 rs:List (List DV)} {t:aH} {ts:List gj} (h:da k r1 t) (hs:a6 rs ts):a6 ([.str s,.int .i64 k,.sl r1]::rs) (⟨s,t⟩::ts):=by rw[a6,Uv,<-hs,mr,h.k,h.rs]
theorem a6.app {rs rs':List (List DV)} {ts ts':List gj} (h:a6 rs ts) (h':a6 rs' ts'):a6 (rs++rs') (ts++ts'):=by rw[a6,Ux,<-h,<-h']
theorem bh.uU {rs:List (List DV)} {ts:List gj} (h:a6 rs ts):bh qt (.c (.d (.sl rs))) ts:=by rw[bh,h]
theorem bh.int (n:Int):bh (fun n:Int=>.i n) (.c (.d (.int .i64 n))) n:=rfl
theorem bh.str (s:List UInt8):bh (fun s:List UInt8=>.s s) (.c (.d (.str s))) s:=rfl
theorem bh.bool (s:Bool):bh (fun s:Bool=>.b s) (.c (.d (.bool s))) s:=rfl
section
variable {P:Program} {f:FuncId} {fn:Func} {c:Code} {s:St} {e:Exit} {b:List Int}
theorem EX.vt {α:Type} {enc:α->AV} {arr:α->List bp} {good:α->Prop} {p N p':Nat} (ks:List Nat) {x:α} {ys:List AV} {v:AV} (he:e=.normal\/e=.ret) (kn:(eD P s fn.results.toList).bind (aI s.A [0] ks)=some ys) (hv:one ys=v) (hx:bh enc v x) (hV:s.V[0]? =some ((rd b p').map CV.d)) (hA:c5 s.A ks=some (arr x)) (jS:ks.Nodup)
  (h1:p<=p') (h2:p'<=p+N) (hg:good x):EX (ri P fn 1 (fun v V' A'=>∃p',V'=dV [rd b p']/\p<=p'/\p'<=p+N/\RV enc arr good v A')) e s:=
 EX.dr ks x he kn (hv.trans hx) hV hA jS h1 h2 hg
theorem EX.JN {α:Type} {enc:α->AV} {arr:α->List bp} {good:α->Prop} (ks:List Nat) {x:α} {ys:List AV} {v:AV} (he:e=.normal\/e=.ret) (kn:(eD P s fn.results.toList).bind (aI s.A [] ks)=some ys) (hv:one ys=v) (hx:bh enc v x) (hA:c5 s.A ks=some (arr x)) (jS:ks.Nodup) (hg:good x):
  EX (ri P fn 0 (fun v V' A'=>V'=[]/\RV enc arr good v A')) e s:=
 EX.sm ks x he kn (hv.trans hx) hA jS hg
end
theorem pw (d:Nat) (k:Int) (l:List aH):ay (d+1) (.mk k l)=(decide (cx k=l.length)&& l.all (ay d)):=rfl
def jz (c:UInt8):List UInt8->List UInt8
 |[]=>[c]
 |x::r=>if x<c then x::jz c r else if x=c then x::r else c::x::r
theorem tq (c:UInt8):∀(s:List UInt8),(jz c s).length<=s.length+1
 |[]=>by simp[jz]
 |x::r=>by
  have:=tq c r;simp only[jz];split
  ·simp;omega
  ·split<;>simp
theorem uV (x c:UInt8):Op.bytesLess [x] [c]=decide (x<c):=by
 simp only[Op.bytesLess];by_cases h:x<c
 ·simp[h]
 ·by_cases h2:x=c
  ·subst h2;simp
  ·simp[h,h2]
theorem px:∀(l m:List aH),cF (l++m)=cF l+cF m
 |[],m=>by simp[cF]
 |x::l,m=>by simp[cF,px l m];omega
theorem cI (k:Int) (l:List aH):iK (.mk k l)=cF l:=by simp[iK]
theorem dU (k:Int) (s:List UInt8) (n:Int) (t f:aH) (b:Int) (l:List an):fO (.mk k s n t f b l)=s.length+iK t+iK f+eS l:=by simp[fO]
theorem vu {α:Type} {s:List α} {k:Nat} (h:k<s.length):(s.take (k+1)).drop k=[s[k]]:=by
 rw[List.take_add_one,List.getElem?_eq_getElem h,List.drop_append_of_le_length (by simp;omega)];simp
@[simp] theorem b7 {α:Type} (G X:List α) (k:Nat):(G++X).take (G.length+k)=G++X.take k:=by
 rw[List.take_append,List.take_of_length_le (by omega),show G.length+k-G.length=k by omega]
theorem qu:ay 4 dD=true:=rfl
theorem tt:ay 4 eT=true:=rfl
theorem vv:ay 4 iN=true:=rfl
theorem zy:ay 4 cy=false:=rfl
mutual
def fQ:aH->aH->Bool
 |.mk k l,.mk k' l'=>decide (k=k')&& jI l l'
def jI:List aH->List aH->Bool
 |[],[]=>true
 |x::xs,y::ys=>fQ x y && jI xs ys
 |_,_=>false
end
mutual
theorem qv:∀(a b:aH),fQ a b=true->a=b
 |.mk k l,.mk k' l',h=>by
  simp only[fQ,UH,decide_eq_true_eq]at h;obtain⟨rfl,h⟩:=h;rw[tv l l' h]
theorem tv:∀(l m:List aH),jI l m=true->l=m
 |[],[],_=>rfl
 |x::xs,y::ys,h=>by
  simp only[jI,UH]at h;rw[qv x y h.1,tv xs ys h.2]
 |[],_::_,h=>by simp[jI]at h
 |_::_,[],h=>by simp[jI]at h
end
mutual
theorem rj:∀(a:aH),fQ a a=true
 |.mk k l=>by simp[fQ,py l]
theorem py:∀(l:List aH),jI l l=true
 |[]=>rfl
 |x::xs=>by simp[jI,rj x,py xs]
end
def JO (n:Int) (e:an) (f t:aH):an×Int:=if fQ f t=true then(e,n)else(.mk 14 [] 0 t f (n+1) [e],n+1)
def Dv (ctx:List gj) (k:Int) (name:List UInt8) (ty:aH) (ts:List aH):Option (List aH×aH):=
 if k=1 then(ff ctx name).map fun t=>([],t)
 else if k=2 then some ([],dD)
 else if k=3\/k=4 then some ([],eT)
 else match ts with
  |[a]=>
   if k=5 then some ([],.mk 4 [ty,a])
   else if k=11 then(kY 5 a).map fun p=>([.mk 5 [p.1,p.2]],p.1)
   else if k=12 then(kY 5 a).map fun p=>([.mk 5 [p.1,p.2]],p.2)
   else if k=13 then if bN a ty=true then some ([ty],ty)else none
   else none
  |[a,b]=>
   if k=6 then match kY 4 a with
    |some (x,y)=>if bN b x=true then some ([.mk 4 [x,y],x],y)else none
    |none=>none
   else if k=7 then if bN a dD=true/\bN b dD=true then some ([dD,dD],dD)else none
   else if k=8 then if bN a dD=true/\bN b dD=true then some ([dD,dD],eT)else none
   else if k=10 then some ([],.mk 5 [a,b])
   else none
  |[a,b,c]=>if k=9 then if bN a eT=true/\bN b c=true then some ([eT,jU b c,jU b c],jU b c)else none else none
  |_=>none
def Gw:Int->List an->List aH->List aH->List an×Int
 |n,e::es,h::hs,w::ws=>let(e',m):=JO n e h w;let(r,m'):=Gw m es hs ws;(e'::r,m')
 |n,es,_,_=>(es,n)
def MU (ctx:List gj) (k:Int) (name:List UInt8) (num:Int) (ty fr:aH) (lb:Int):Option (List an×List aH)×Int->Option (an×aH)×Int
 |(none,n)=>(none,n)
 |(some (es,ts),n)=>match Dv ctx k name ty ts with
  |none=>(none,n)
  |some (ws,t)=>if ay 4 t=true then
   let(es',m):=Gw n es ts ws
   if k=13 then(es'.head?.map fun x=>(x,t),m)else(some (.mk k name num ty fr lb es',t),m)
   else(none,n)
def JP:Option (an×aH)×Int->(Int->Option (List an×List aH)×Int)->Option (List an×List aH)×Int
 |(none,n),_=>(none,n)
 |(some (e,t),n),f=>match f n with
  |(none,m)=>(none,m)
  |(some (es,ts),m)=>(some (e::es,t::ts),m)
mutual
def Gx:List gj->an->Int->Option (an×aH)×Int
 |ctx,.mk k s n t f b l,c=>MU ctx k s n t f b (Gy (if k=5 then ctx++[⟨s,t⟩]else ctx) l c)
def Gy:List gj->List an->Int->Option (List an×List aH)×Int
 |_,[],c=>(some ([],[]),c)
 |ctx,e::r,c=>JP (Gx ctx e c) (Gy ctx r)
end
inductive xr:Nat->aH->Prop
 |any (d:Nat):xr (d+1) iN
 |int (d:Nat):xr (d+1) dD
 |bool (d:Nat):xr (d+1) eT
 |fn {d:Nat} {a b:aH}:xr d a->xr d b->xr (d+1) (.mk 4 [a,b])
 |pair {d:Nat} {a b:aH}:xr d a->xr d b->xr (d+1) (.mk 5 [a,b])
theorem xr.of:∀{d:Nat} {t:aH},ay d t=true->xr d t
 |0,t,h=>by simp[ay]at h
 |d+1,.mk k l,h=>by
  simp only[ay,UH,decide_eq_true_eq,Uu]at h;simp only[aH.bT,aH.bU]at h;obtain⟨h1,h2⟩:=h
  match l,h1,h2 with
  |[],h1,_=>
   simp only[cx,Ur]at h1;split at h1
   ·rename_i h;rcases h with rfl|rfl|rfl
    ·exact .any d
    ·exact .int d
    ·exact .bool d
   ·split at h1<;>simp at h1
  |[a],h1,_=>
   simp only[cx]at h1;split at h1
   ·simp at h1
   ·split at h1<;>simp at h1
  |[a,b],h1,h2=>
   simp only[cx]at h1;split at h1
   ·simp at h1
   ·split at h1
    ·rename_i h;rcases h with rfl|rfl
     ·exact .fn (xr.of (h2 a (by simp))) (xr.of (h2 b (by simp)))
     ·exact .pair (xr.of (h2 a (by simp))) (xr.of (h2 b (by simp)))
    ·simp at h1
  |a::b::c::r,h1,_=>
   simp only[cx,Uw]at h1;split at h1
   ·omega
   ·split at h1<;>omega
abbrev rW (s:List UInt8):an:=.mk 1 s 0 cy cy 0 []
abbrev uW (n:Int):an:=.mk 2 [] n cy cy 0 []
abbrev nT:an:=.mk 3 [] 0 cy cy 0 []
abbrev jY:an:=.mk 4 [] 0 cy cy 0 []
abbrev nJ (s:List UInt8) (t:aH) (b:an):an:=.mk 5 s 0 t cy 0 [b]
abbrev AO (k:Int) (a:an):an:=.mk k [] 0 cy cy 0 [a]
abbrev xt (k:Int) (a b:an):an:=.mk k [] 0 cy cy 0 [a,b]
abbrev BP (a b c:an):an:=.mk 9 [] 0 cy cy 0 [a,b,c]
abbrev Gz (a:an) (t:aH):an:=.mk 13 [] 0 t cy 0 [a]
abbrev AP (a:an) (f t:aH) (l:Int):an:=.mk 14 [] 0 t f l [a]
inductive gN (nt:Int):Nat->an->Prop
 |var {d:Nat} {s:List UInt8}:nt≠1->dL s=true->gN nt (d+1) (rW s)
 |num {d:Nat} {n:Int}:nt≠2->0<=n->n<=999->gN nt (d+1) (uW n)
 |pz {d:Nat}:nt≠3->gN nt (d+1) nT
 |pA {d:Nat}:nt≠4->gN nt (d+1) jY
 |lam {d:Nat} {s:List UInt8} {t:aH} {b:an}:nt≠5->dL s=true->ay 4 t=true->gN nt d b->gN nt (d+1) (nJ s t b)
 |n2 {d:Nat} {k:Int} {a b:an}:nt≠k->k=6\/k=7\/k=8\/k=10->gN nt d a->gN nt d b->gN nt (d+1) (xt k a b)
 |ite {d:Nat} {a b c:an}:nt≠9->gN nt d a->gN nt d b->gN nt d c->gN nt (d+1) (BP a b c)
 |n1 {d:Nat} {k:Int} {a:an}:nt≠k->k=11\/k=12->gN nt d a->gN nt (d+1) (AO k a)
 |asc {d:Nat} {t:aH} {a:an}:nt≠13->ay 4 t=true->gN nt d a->gN nt (d+1) (Gz a t)
 |cast {d:Nat} {f t:aH} {l:Int} {a:an}:nt≠14->ay 4 f=true->ay 4 t=true->bN f t=true->zx l=true->gN nt d a->gN nt (d+1) (AP a f t l)
theorem fG {t:aH} (h:c6 t=true):t=cy:=by
 obtain⟨k,l⟩:=t;simp only[c6,UH,decide_eq_true_eq]at h;obtain⟨h1,h2⟩:=h;cases h1;cases h2;rfl
theorem gN.of {nt:Int}:∀{d:Nat} {e:an},bm nt d e=true->gN nt d e
 |0,e,h=>by simp[bm]at h
 |d+1,.mk k s n t f b l,h=>by
  simp only[bm,eL,UH,decide_eq_true_eq,Uu]at h;simp only[an.bT,an.bU]at h;obtain⟨⟨hk,h1,h2⟩,h3⟩:=h;have Ht:=h2;have h2:(if cB k then dL s else decide (s=[]))=true/\(kK n 0 (if k=2 then 999 else 0))=true/\(if cZ k then ay 4 t else c6 t)=true/\(if k=14 then mq (.mk k s n t f b l)else c6 f && decide (b=0))=true:=by
   simp only[eb,UH]at h2;exact⟨h2.1.1.1,h2.1.1.2,h2.1.2,h2.2⟩
  simp only[kK,UH,decide_eq_true_eq]at h2;obtain⟨g1,g2,g3,g4⟩:=h2;have jd:nt≠k:=fun e=>hk e.symm
  match l,h1,h3 with
  |[],h1,_=>
   have:k=1\/k=2\/k=3\/k=4:=by
    simp only[cv,Ur]at h1;split at h1
    ·assumption
    ·split at h1
     ·omega
     ·split at h1
      ·omega
      ·split at h1<;>omega
   rcases this with rfl|rfl|rfl|rfl<;>simp[cB,cZ]at g1 g2 g3 g4<;>obtain⟨g4,rfl⟩:=g4<;>obtain rfl:=fG g3<;>obtain rfl:=fG g4
   ·obtain rfl:n=0:=by omega
    exact .var jd g1
   ·subst g1;exact .num jd g2.1 g2.2
   ·subst g1;obtain rfl:n=0:=by omega
    exact .pz jd
   ·subst g1;obtain rfl:n=0:=by omega
    exact .pA jd
  |[a],h1,h3=>
   have:k=5\/k=11\/k=12\/k=13\/k=14:=by
    simp only[cv,Uw,Ur]at h1;split at h1
    ·omega
    ·split at h1
     ·assumption
     ·split at h1
      ·omega
      ·split at h1<;>omega
   have ha:=gN.of (h3 a (by simp));rcases this with rfl|rfl|rfl|rfl|rfl<;>simp[cB,cZ]at g1 g2 g3 g4
   ·obtain⟨g4,rfl⟩:=g4;obtain rfl:=fG g4;obtain rfl:n=0:=by omega
    exact .lam jd g1 g3 ha
   ·obtain⟨g4,rfl⟩:=g4;obtain rfl:=fG g4;obtain rfl:=fG g3;subst g1;obtain rfl:n=0:=by omega
    exact .n1 jd (.inl rfl) ha
   ·obtain⟨g4,rfl⟩:=g4;obtain rfl:=fG g4;obtain rfl:=fG g3;subst g1;obtain rfl:n=0:=by omega
    exact .n1 jd (.inr rfl) ha
   ·obtain⟨g4,rfl⟩:=g4;obtain rfl:=fG g4;subst g1;obtain rfl:n=0:=by omega
    exact .asc jd g3 ha
   ·subst g1;obtain rfl:n=0:=by omega
    simp only[mq,UH]at g4;exact .cast jd g4.1.1.1 g3 g4.1.2 g4.2 ha
  |[a,b'],h1,h3=>
   have:k=6\/k=7\/k=8\/k=10:=by
    simp only[cv,Uw,Ur]at h1;split at h1
    ·omega
    ·split at h1
     ·omega
     ·split at h1
      ·assumption
      ·split at h1<;>omega
   have ha:=gN.of (h3 a (by simp));have hb:=gN.of (h3 b' (by simp));have e1:cB k=false:=by rcases this with rfl|rfl|rfl|rfl<;>rfl
   have e2:cZ k=false:=by rcases this with rfl|rfl|rfl|rfl<;>rfl
   have e3:¬k=14:=by omega
   have e4:¬k=2:=by omega
   simp[e1,e2,e3,e4]at g1 g2 g3 g4;obtain⟨g4,rfl⟩:=g4;obtain rfl:=fG g4;obtain rfl:=fG g3;subst g1;obtain rfl:n=0:=by omega
   exact .n2 jd this ha hb
  |[a,b',c],h1,h3=>
   have:k=9:=by
    simp only[cv,Uw,Ur]at h1;split at h1
    ·omega
    ·split at h1
     ·omega
     ·split at h1
      ·omega
      ·split at h1<;>omega
   have ha:=gN.of (h3 a (by simp));have hb:=gN.of (h3 b' (by simp));have hc:=gN.of (h3 c (by simp));subst this;simp[cB,cZ]at g1 g2 g3 g4;obtain⟨g4,rfl⟩:=g4;obtain rfl:=fG g4;obtain rfl:=fG g3;subst g1;obtain rfl:n=0:=by omega
   exact .ite jd ha hb hc
  |a::b'::c::x::r,h1,_=>
   exfalso
   have:=x9 k;simp only[Uw]at h1;omega
theorem gN.shape {nt:Int} {d:Nat} {e:an} (h:gN nt d e):bm nt d e=true:=by
 induction h with
 |var h1 h2=>simp[bm,eL,eb,cv,cB,cZ,kK,c6,h1.symm,h2]
 |num h1 h2 h3=>simp[bm,eL,eb,cv,cB,cZ,kK,c6,h1.symm,h2,h3]
 |pz h1=>simp[bm,eL,eb,cv,cB,cZ,kK,c6,h1.symm]
 |pA h1=>simp[bm,eL,eb,cv,cB,cZ,kK,c6,h1.symm]
 |lam h1 h2 h3 _ h4=>simp[bm,eL,eb,cv,cB,cZ,kK,c6,h1.symm,h2,h3,h4]
 |n2 h1 h2 _ _ h3 h4=>
  rcases h2 with rfl|rfl|rfl|rfl<;>simp[bm,eL,eb,cv,cB,cZ,kK,c6,h1.symm,h3,h4]
 |ite h1 _ _ _ h2 h3 h4=>simp[bm,eL,eb,cv,cB,cZ,kK,c6,h1.symm,h2,h3,h4]
 |n1 h1 h2 _ h3=>
  rcases h2 with rfl|rfl<;>simp[bm,eL,eb,cv,cB,cZ,kK,c6,h1.symm,h3]
 |asc h1 h2 _ h3=>simp[bm,eL,eb,cv,cB,cZ,kK,c6,h1.symm,h2,h3]
 |cast h1 h2 h3 h4 h5 _ h6=>simp[bm,eL,eb,cv,cB,cZ,kK,c6,mq,h1.symm,h2,h3,h4,h5,h6]
section
variable {nt:Int} {d:Nat}
theorem gN.mono {nt:Int} {d:Nat} {e:an} (h:gN nt d e):∀{m:Nat},d<=m->gN nt m e:=by
 induction h with
 |var h1 h2=>intro m hm;obtain⟨m,rfl⟩:∃j,m=j+1:=⟨m-1,by omega⟩;exact .var h1 h2
 |num h1 h2 h3=>intro m hm;obtain⟨m,rfl⟩:∃j,m=j+1:=⟨m-1,by omega⟩;exact .num h1 h2 h3
 |pz h1=>intro m hm;obtain⟨m,rfl⟩:∃j,m=j+1:=⟨m-1,by omega⟩;exact .pz h1
 |pA h1=>intro m hm;obtain⟨m,rfl⟩:∃j,m=j+1:=⟨m-1,by omega⟩;exact .pA h1
 |lam h1 h2 h3 _ ih=>intro m hm;obtain⟨m,rfl⟩:∃j,m=j+1:=⟨m-1,by omega⟩;exact .lam h1 h2 h3 (ih (by omega))
 |n2 h1 h2 _ _ ih1 ih2=>intro m hm;obtain⟨m,rfl⟩:∃j,m=j+1:=⟨m-1,by omega⟩;exact .n2 h1 h2 (ih1 (by omega)) (ih2 (by omega))
 |ite h1 _ _ _ ih1 ih2 ih3=>intro m hm;obtain⟨m,rfl⟩:∃j,m=j+1:=⟨m-1,by omega⟩;exact .ite h1 (ih1 (by omega)) (ih2 (by omega)) (ih3 (by omega))
 |n1 h1 h2 _ ih=>intro m hm;obtain⟨m,rfl⟩:∃j,m=j+1:=⟨m-1,by omega⟩;exact .n1 h1 h2 (ih (by omega))
 |asc h1 h2 _ ih=>intro m hm;obtain⟨m,rfl⟩:∃j,m=j+1:=⟨m-1,by omega⟩;exact .asc h1 h2 (ih (by omega))
 |cast h1 h2 h3 h4 h5 _ ih=>intro m hm;obtain⟨m,rfl⟩:∃j,m=j+1:=⟨m-1,by omega⟩;exact .cast h1 h2 h3 h4 h5 (ih (by omega))
end
section
variable (ctx:List gj) (s:List UInt8) (n:Int) (t:aH) (a b c:an)
end
def MV (c c':List gj):Prop:=∀s t,ff c s=some t->ff c' s=some t
mutual
def wC (x:List UInt8) (v:an):an->an
 |.mk k s n t f b l=>if k=1/\s=x then v else if k=5/\s=x then .mk k s n t f b l else .mk k s n t f b (Dw x v l)
def Dw (x:List UInt8) (v:an):List an->List an
 |[]=>[]
 |e::r=>wC x v e::Dw x v r
end
def OJ (c c':List gj):Prop:=∀s,ff c s=ff c' s
mutual
def ld:aH->aH->Bool
 |.mk k l,.mk k' l'=>decide (k'=1)||(decide (k=k')&& sw l l')
def sw:List aH->List aH->Bool
 |[],[]=>true
 |x::xs,y::ys=>ld x y && sw xs ys
 |_,_=>false
end
theorem pB:∀(l m:List aH),sw l m=jg ld l m
 |[],[]=>rfl
 |x::xs,y::ys=>by simp[sw,jg,pB xs ys]
 |[],_::_=>rfl
 |_::_,[]=>rfl
theorem zA (a b:aH):ld a b=(decide (b.kind=1)||(decide (a.kind=b.kind)&& jg ld a.kids b.kids)):=by
 cases a;cases b;simp only[ld,pB];rfl
def bt (k:Int):Bool:=decide (k=5)||decide (k=13)
mutual
def HF (q:aH->aH->Bool):an->an->Bool
 |.mk k s n t _ _ l,.mk k' s' n' t' _ _ l'=> !(bt k && decide (k=k')&& !q t t')&&(decide (k=k')&&(decide (s=s')&&(decide (n=n')&& Dx q l l')))
def Dx (q:aH->aH->Bool):List an->List an->Bool
 |[],[]=>true
 |x::xs,y::ys=>HF q x y && Dx q xs ys
 |_,_=>false
end
theorem vz (a:aH):ld a iN=true:=by rw[zA];simp
def Fl:List gj->List gj->Prop
 |[],[]=>True
 |b::r,b'::r'=>b.name=b'.name/\ld b.ty b'.ty=true/\Fl r r'
 |_,_=>False
inductive xu (q:aH->aH->Bool):an->an->Prop
 |var (s:List UInt8):xu q (rW s) (rW s)
 |num (n:Int):xu q (uW n) (uW n)
 |pz:xu q nT nT
 |pA:xu q jY jY
 |lam {s:List UInt8} {t t':aH} {b b':an}:q t t'=true->xu q b b'->xu q (nJ s t b) (nJ s t' b')
 |n2 {k:Int} {a b a' b':an}:xu q a a'->xu q b b'->xu q (xt k a b) (xt k a' b')
 |ite {a b c a' b' c':an}:xu q a a'->xu q b b'->xu q c c'->xu q (BP a b c) (BP a' b' c')
 |n1 {k:Int} {a a':an}:xu q a a'->xu q (AO k a) (AO k a')
 |asc {t t':aH} {a a':an}:q t t'=true->xu q a a'->xu q (Gz a t) (Gz a' t')
section
variable {P:Program} {n:Nat} {ι:Type} {Q:Exit->St->Prop} {QX:ι->Exit->St->Prop} {s s':St} {c:Code}
theorem iu.app:∀{l m fr:List (Nat×AV)},iu l fr->iu m fr->iu (l++m) fr
 |[],m,fr,_,h=>h
 |(t,x)::r,m,fr,h,h'=>⟨h.1,iu.app h.2 h'⟩
theorem ov:∀(ks:List Nat) {fr cS:List (Nat×AV)},(∀t x,look fr t=some x->look cS t=some x)->iu (eU ks fr) cS
 |[],_,_,_=>trivial
 |k::r,fr,cS,h=>by
  simp only[eU];cases hk:look fr k with
  |some x=>exact⟨h k x hk,ov r h⟩
  |none=>exact ov r h
theorem qw (ks:List Nat) (fr:List (Nat×AV)):iu (eU ks fr) fr:=ov ks fun _ _ h=>h
theorem T.dq {α:Type} (ks:List Nat) (ph:α->List (Nat×AV)) (ob:α->List (Nat×List CV)) (G:α->List (List CV)) (ar:α->List bp->List bp) (m:α->Nat) (H:α->Prop) {fr0:List (Nat×AV)} (hk:eU ks s.fr=fr0)
  (h:∀a,H a->T P n c (Round (fun a=>⟨ph a++fr0,fP (ob a) s.V++G a,ar a s.A⟩) m H (m a) Q) ⟨ph a++fr0,fP (ob a) s.V++G a,ar a s.A⟩) (a:α) (ha:H a) (hV:fP (ob a) s.V++G a=s.V) (hA:ar a s.A=s.A) (hp:iu (ph a) s.fr):T P n (.loop c) Q s:=by
 subst hk;exact T.gq (fun a=>⟨ph a++eU ks s.fr,fP (ob a) s.V++G a,ar a s.A⟩) m H h a ha ⟨hV,hA,hp.app (qw ks s.fr)⟩
theorem TX.dq {α:Type} (ks:List Nat) (ph:α->List (Nat×AV)) (ob:α->List (Nat×List CV)) (G:α->List (List CV)) (ar:α->List bp->List bp) (m:α->Nat) (H:α->Prop) {fr0:List (Nat×AV)} (hk:eU ks s.fr=fr0)
  (h:∀a,H a->TX P n c (tn (fun a=>⟨ph a++fr0,fP (ob a) s.V++G a,ar a s.A⟩) m H (m a) QX) ⟨ph a++fr0,fP (ob a) s.V++G a,ar a s.A⟩) (a:α) (ha:H a) (hV:fP (ob a) s.V++G a=s.V) (hA:ar a s.A=s.A) (hp:iu (ph a) s.fr):TX P n (.loop c) QX s:=by
 subst hk;exact TX.gq (fun a=>⟨ph a++eU ks s.fr,fP (ob a) s.V++G a,ar a s.A⟩) m H h a ha ⟨hV,hA,hp.app (qw ks s.fr)⟩
end
end Go.Av
namespace Go.Av
attribute [-simp] Go.Av.bJ Go.Av.dF Go.Av.fT Go.Av.bE Go.Av.bA Go.Av.fz Go.Av.jP Go.Av.oX Go.Av.j8 Go.Av.wk Go.Av.rowsOf Go.Av.look Go.Av.qb Go.Av.St.put Go.Av.eX Go.Av.Bw Go.Av.bH Go.Av.wi Go.Av.E0 Go.Av.oW Go.Av.oV Go.Av.AB Go.Av.AV.plain Go.Av.AV.cells Go.Av.CV.hM Go.Av.lS Go.Av.fK Go.Av.iC Go.Av.er Go.Av.bC Go.Av.fA Go.Av.AV.iI Go.Av.CV.iI Go.Av.kR Go.Av.AV.ej Go.Av.CV.ej Go.Av.bq Go.Av.fL Go.Av.ie Go.Av.lG Go.Av.cG Go.Av.eD Go.Av.qY Go.Av.AV.nF Go.Av.CV.res Go.Av.me Go.Av.pos? Go.Av.sV Go.Av.s5 Go.Av.eZ Go.Av.Sub Go.Av.iu Go.Av.iJ Go.Av.fX Go.Av.e7 Go.Av.fY Go.Av.e8 Go.Av.aH.bT Go.Av.aH.bU Go.Av.an.bT Go.Av.an.jG Go.Av.an.ou Go.Av.an.re Go.Av.an.rf Go.Av.an.jh Go.Av.an.bU Go.Av.cW Go.Av.rh Go.Av.eU Go.Av.fP Go.Av.b7
open Go
def Lo:Op->Bool
 |.buildSlice _ _ _=>true
 |.call {callee:=.builtin .append,.. }=>true
 |_=>false
def Fm (all:Array Oper) (wv wa fs:List Nat) (m:Nat) (ms:List Nat) (oi oj:Oper) (i j:Nat):Bool:=
 (oi.dst.isNone||oi.dst !=oj.dst)&&((!eh all oi oj && !eh all oj oi &&
  !((wv.contains i||wa.contains i)&& !cG oj.op && !(fs.contains j && decide (i<m))&& !(wv.contains i && wa.contains j)&& !(wa.contains i && wv.contains j))&&
  !((wv.contains j||wa.contains j)&& !cG oi.op && !(fs.contains i && decide (j<m))&& !(wv.contains j && wa.contains i)&& !(wa.contains j && wv.contains i)))||(ms.getD j 0).testBit i)
def Lp (all:Array Oper) (wv wa fs:List Nat) (m:Nat):Bool:=
 let l:=all.toList.zipIdx
 let ms:=bD all.toList []
 (l.all fun(o,j)=>o.after.toList.all fun e=> !Region.binds .any e||decide (e.on<j))&&
 (l.all fun(oj,j)=>l.all fun(oi,i)=> !(decide (i<j))||Fm all wv wa fs m ms oi oj i j)&&
 (l.all fun(o,j)=>(!wv.contains j|| !cG o.op)&&(!wa.contains j||Lo o.op))&&(fs.all fun j=> !wv.contains j && !wa.contains j)&&
 (fs.all fun j=>(wv++wa).all fun i=>decide (i<m)||decide (j<i))&&(wv.all fun j=> !wa.contains j)
def Dy (P:Program) (all:Array Oper) (ow:Nat->Bool) (wv wa fs:List Nat) (m:Nat) (ex:List Nat) (V0:List (List CV)) (A0:List bp) (K:St->Prop):Nat->List Oper->St->Prop
 |_,[],s=>K s
 |i,o::rest,s=>fT all s o (bJ P s (ow i) o fun x V A=>((i∈wv\/V=s.V)/\(i∈wa\/A=s.A))/\(i∈wv\/i∈wa->i<m->V.take V0.length=rh ex (fun i=>V.getD i []) V0/\A.take A0.length=A0)/\(i∈fs->cW P s (ow i) o ex V0 A0 x)/\
   (i∈wv->∀A2,bJ P ⟨s.fr,s.V,A2⟩ (ow i) o fun y V' A'=>y=x/\V'=V/\A'=A2)/\Dy P all ow wv wa fs m ex V0 A0 K (i+1) rest (s.put o.dst x V A)) (Dy P all ow wv wa fs m ex V0 A0 K (i+1) rest (s.put o.dst (.c .undef) s.V s.A))
section
variable {P:Program} {n:Nat} {Q Q':Exit->St->Prop} {s s':St} {w0:World} {g0 g g':Gh} {a:Act} {w w':World} {V:List (List CV)} {A A':List bp}
def Qh (P:Program) (all:Array Oper) (ow:Bool) (wv fs:List Nat) (j:Nat) (ex:List Nat) (V0:List (List CV)) (A0:List bp) (o:Oper) (s s':St):Prop:=
 fT all s o True True/\((gw all s o=true/\∃x V A,s'=s.put o.dst x V A/\(∀K:AV->List (List CV)->List bp->Prop,K x V A->bJ P s ow o K)/\(j∈fs->cW P s ow o ex V0 A0 x)/\
  (j∈wv->∀A2,bJ P ⟨s.fr,s.V,A2⟩ ow o fun y V' A'=>y=x/\V'=V/\A'=A2))\/(gw all s o=false/\s'=s.put o.dst (.c .undef) s.V s.A))
structure RD (all:Array Oper) (wv wa:List Nat) (σ:Nat->St) (n:Nat) (w0:World) (g0:Gh) (ai:Array Bool) (kv ka:Nat) (g:Gh) (a:Act) (w:World):Prop where
 inv:Inv g w (σ kv).V (σ ka).A
 fr:Fr w0 g0 w g
 size:a.tmps.size=n
 defers:a.defers=[]
 fc:ai.size=all.size
 iq:∀(i:Nat) o t x,all[i]? =some o->ai[i]? =some true->o.dst=some t->look (σ (i+1)).fr t=some x->∃u,a.tmps[t]? =some u/\aU g w (σ ka).A x u
 ir:∀t x,(∀(i:Nat) o,all[i]? =some o->ai[i]? =some true->o.dst≠some t)->look (σ 0).fr t=some x->∃u,a.tmps[t]? =some u/\aU g w (σ ka).A x u
 JQ:∀i∈wv,i<all.size->(ai[i]? =some true↔i<kv)
 JR:∀i∈wa,i<all.size->(ai[i]? =some true↔i<ka)
 Qi:kv<=all.size
 Qj:ka<=all.size
 vw:kv=0\/∃i∈wv,kv=i+1
 aw:ka=0\/∃i∈wa,ka=i+1
 closed:∀(i:Nat) o,all[i]? =some o->ai[i]? =some true->∀e∈o.after,Region.binds .any e=true->ai[e.on]? =some true
end
end Go.Av
namespace Go.Av
attribute [-simp] Go.Av.b7
open Go
def Fo (all:Array Oper) (ws fs:List Nat) (m q:Nat) (ms:List Nat) (oi oj:Oper) (i j:Nat):Bool:=
 if j=q then oi.dst.isNone||oi.dst !=oj.dst else dK all ws fs m ms oi oj i j &&(!(decide (i<=q)&& decide (q<j))||(ms.getD j 0).testBit i)
def Lq (all:Array Oper) (ws fs:List Nat) (m q:Nat):Bool:=
 let l:=all.toList.zipIdx
 let ms:=bD all.toList []
 (l.all fun(o,j)=>o.after.toList.all fun e=> !Region.binds .any e||decide (e.on<j))&&
 (l.all fun(oj,j)=>l.all fun(oi,i)=> !(decide (i<j))||Fo all ws fs m q ms oi oj i j)&&
 (l.all fun(o,j)=> !ws.contains j|| !cG o.op)&&(fs.all fun j=> !ws.contains j)&&(fs.all fun j=>ws.all fun i=>decide (i<m)||decide (j<i))&& ws.contains q
section
variable {P:Program} {n:Nat} {Q Q':Exit->St->Prop} {s s':St} {w0:World} {g0 g g':Gh} {a:Act} {w w':World} {V:List (List CV)} {A A':List bp}
structure Qk (all:Array Oper) (ws:List Nat) (σ:Nat->St) (n:Nat) (w0:World) (g0:Gh) (q d:Nat) (row:List CV) (cs:Array Value) (ty:TypeId) (ai:Array Bool) (k0:Nat) (b:Nat) (g:Gh) (a:Act) (w:World):Prop where
 IY:ai[q]? =some true
 base:CI all ws σ n w0 g0 (ai.setIfInBounds q false) k0 g a w
 slot:a.tmps[d]? =some (.pointer (some ⟨b,0,none⟩))
 mem:w.heap[b]? =some (.cells cs ty)
 ob:b∉g.ob
 gC:b∉g.gC
 im:g.im b=0
 new:w0.heap.size<=b
 lt:b<w.heap.size
 closed:∀(i:Nat) o,all[i]? =some o->ai[i]? =some true->∀e∈o.after,Region.binds .any e=true->ai[e.on]? =some true
structure MW (P:Program) (all:Array Oper) (ow:Nat->Bool) (σ:Nat->St) (q d:Nat) (row:List CV) (cs:Array Value) (ty:TypeId) (oq:Oper):Prop where
 at_:all[q]? =some oq
 guard:oq.guard=none
 dst:oq.dst=some d
 s0:look (σ 0).fr d=none
 size:cs.size=row.length
 cells:∀(j:Nat) c u,row[j]? =some c->cs[j]? =some u->∀g w A,bj g w A c u
 next:σ (q+1)=(σ q).put (some d) (.c (.ptr (σ q).V.length 0)) ((σ q).V++[row]) (σ q).A
 run:∀(a:Act) (w:World),(execOp a.eval oq).run P w=.ok (.value (.pointer (some ⟨w.heap.size,0,none⟩))) (w.alloc (.cells cs ty))
theorem tz {all:Array Oper} (dQ:∀(j:Nat) o,all[j]? =some o->∀e∈o.after,Region.binds .any e=true->e.on<j) {ai:Array Bool} (sQ:∀(i:Nat) o,all[i]? =some o->ai[i]? =some true->∀e∈o.after,Region.binds .any e=true->ai[e.on]? =some true):
  ∀(i:Nat) o,all[i]? =some o->(∀e∈o.after,Region.binds .any e=true->ai[e.on]? =some true)->∀k,((bD all.toList []).getD i 0).testBit k=true->ai[k]? =some true:=by
 obtain⟨Fa,_,Dl⟩:=fN all.toList [];intro i;induction i using Ul with
 |_ i ih=>
  intro o ho dI k hk;obtain⟨pre,h1,h2,h3⟩:=Dl i o (by simpa using ho);simp only[Ur,Un]at h1 h3;have h4:(bD all.toList []).getD i 0=nR pre o:=by simp[Ut,h3]
  rw[h4]at hk;obtain⟨e,he,hb,h5⟩:=gM hk;have xU:=dI e he hb;rcases h5 with rfl|h5
  ·exact xU
  ·have aC:=dQ i o ho e he hb;have h6:pre.getD e.on 0=(bD all.toList []).getD e.on 0:=by simp only[Ut,h2 e.on (by omega)]
   rw[h6]at h5;have fw:e.on<all.size:=by have:=(UK.1 ho).1;omega
   have xV:all[e.on]? =some all[e.on]:=UJ fw;exact ih e.on aC _ xV (sQ e.on _ xV xU) k h5
end
section
variable {P:Program} {n:Nat} {Q:Exit->St->Prop} {s:St}
theorem T.HG {c:Code} (l j:Nat) {row:List CV} (hl:s.V[l]? =some row) (hj:row[j]? =some .nil) (h:T P n c Q ⟨s.fr,s.V.set l (row.set j (.d (.sl []))),s.A⟩):T P n c Q s:=by
 intro eC w0 g0 g a w hR;have eK:=hR.inv;refine h eC w0 g0 g a w ⟨?_,hR.fr,hR.size,hR.defers,fun t' x hx=>hR.slot t' x hx⟩;refine⟨by simpa using eK.nD,eK.j7,fun l' row' b h1 h2=>?_,eK.arr,eK.jx,eK.gF,eK.ic,eK.fresh⟩;have lT:(s.V.set l (row.set j (.d (.sl []))))[l']? =some row':=h1;rw[cR hl]at lT;by_cases e':l'=l
 ·subst e';simp at lT;subst lT;obtain⟨h3,cs,ty,h4,h5,h6⟩:=eK.obj l' row b hl h2;refine⟨h3,cs,ty,h4,by simpa using h5,fun i c u h7 h8=>?_⟩;rw[cR hj]at h7;by_cases e'':i=j
  ·subst e'';simp at h7;subst h7;have h9:=h6 i _ u hj h8;simp only[bj]at h9;subst h9;simp only[bj,bc];exact⟨none,0,rfl,Uk _,by simp⟩
  ·rw[if_neg e'']at h7;exact h6 i c u h7 h8
 ·rw[if_neg e']at lT;exact eK.obj l' row' b lT h2
end
def Fp (all:Array Oper) (ws fs:List Nat) (m q:Nat) (ms:List Nat) (oi oj:Oper) (i j:Nat):Bool:=
 if j=q/\ws.contains i=true then oi.dst.isNone||oi.dst !=oj.dst else dK all ws fs m ms oi oj i j &&(!(decide (i<=q)&& decide (q<j)&& ws.contains i)||(ms.getD j 0).testBit i)
def Lr (all:Array Oper) (ws fs:List Nat) (m q:Nat):Bool:=
 let l:=all.toList.zipIdx
 let ms:=bD all.toList []
 (l.all fun(o,j)=>o.after.toList.all fun e=> !Region.binds .any e||decide (e.on<j))&&
 (l.all fun(oj,j)=>l.all fun(oi,i)=> !(decide (i<j))||Fp all ws fs m q ms oi oj i j)&&
 (l.all fun(o,j)=> !ws.contains j|| !cG o.op)&&(fs.all fun j=> !ws.contains j)&&(fs.all fun j=>ws.all fun i=>decide (i<m)||decide (j<i))&& ws.contains q
section
variable {P:Program} {n:Nat} {Q Q':Exit->St->Prop} {s s':St} {w0:World} {g0 g g':Gh} {a:Act} {w w':World} {V:List (List CV)} {A A':List bp}
theorem Fr.ye (h:Fr w0 g0 w g) (k:Fr w g w' g'):Fr w0 g0 w' g':=by
 have AQ:∀b,b<w0.heap.size->b∉g0.ob->b∉g.ob:=fun b hb h1 hm=>by
  obtain⟨new,e,hn⟩:=h.ob;rw[e]at hm;rcases Us.1 hm with q|q
  ·exact h1 q
  ·exact absurd (hn b q) (by omega)
 have qx:∀b,b<w0.heap.size->b∉g0.gC->b∉g.gC:=fun b hb h1 hm=>by
  obtain⟨k,v,q1,q2⟩:=Gh.eG hm;rcases h.ar k v b q1 q2 with q|q
  ·omega
  ·exact h1 q
 refine⟨k.os.trans h.os,k.tape.trans h.tape,k.output.trans h.output,Um h.size k.size,fun b h1 h2 h3=>?_,fun b h1 h2=>?_,?_,fun i v b h1 h2=>?_,fun i v h1=>?_,h.wh⟩
 ·rw[k.oO b (Up h1 h.size) (AQ b h1 h2) (qx b h1 h3)];exact h.oO b h1 h2 h3
 ·rw[k.gG b (Up h1 h.size) (qx b h1 h2)];exact h.gG b h1 h2
 ·obtain⟨new,e,hn⟩:=h.ob;obtain⟨new',e',IH⟩:=k.ob;refine⟨new++new',by rw[e',e,UG],fun b hb=>?_⟩;rcases Us.1 hb with q|q
  ·exact hn b q
  ·exact Um h.size (IH b q)
 ·rcases k.ar i v b h1 h2 with q|q
  ·exact .inl (Um h.size q)
  ·obtain⟨j,v',q1,q2⟩:=Gh.eG q;exact h.ar j v' b q1 q2
 ·obtain⟨v1,q1,q2,q3⟩:=h.uE i v h1;obtain⟨v2,q4,q5,q6⟩:=k.uE i v1 q1;exact⟨v2,q4,Um q2 q5,fun e=>(q6 (by omega)).trans (q3 (by omega))⟩
theorem Fr.HH (h:Fr w0 g0 w g) {b:Nat} (hb:w0.heap.size<=b):Fr w0 g0 w {g with ob:=g.ob++[b]}:=by
 refine⟨h.os,h.tape,h.output,h.size,h.oO,h.gG,?_,h.ar,h.uE,h.wh⟩;obtain⟨new,e,hn⟩:=h.ob;refine⟨new++[b],by show g.ob++[b]=_;rw[e,UG],fun c hc=>?_⟩;rcases Us.1 hc with q|q
 ·exact hn c q
 ·simp at q;omega
theorem Inv.HH (hi:Inv g w V A) {b:Nat} {cs:Array Value} {ty:TypeId} {row:List CV} (hb:w.heap[b]? =some (.cells cs ty)) (hs:cs.size=row.length) (hr:∀(j:Nat) c u,row[j]? =some c->cs[j]? =some u->∀g w A,bj g w A c u)
  (h1:b∉g.ob) (h2:b∉g.gC) (h3:g.im b=0):Inv {g with ob:=g.ob++[b]} w (V++[row]) A/\Ext g w A {g with ob:=g.ob++[b]} w A/\(g.ob++[b])[V.length]? =some b:=by
 have gA:Ext g w A {g with ob:=g.ob++[b]} w A:=
  ⟨fun l c hc=>by show(g.ob++[b])[l]? =some c;rw[Uz (Uy.1 hc).1];exact hc,.refl _ _,fun _ r h=>⟨r,h,rfl,Uk _,fun _=>rfl⟩⟩
 have dc:∀(l c:Nat),(g.ob++[b])[l]? =some c->(g.ob[l]? =some c/\c≠b)\/(l=V.length/\c=b):=fun l c hc=>by
  rcases Uj l g.ob.length with h|h
  ·rw[Uz h]at hc;exact .inl ⟨hc,fun e=>h1 (e▸List.mem_of_getElem? hc)⟩
  ·rw[List.getElem?_append_right h]at hc;have h0:l-g.ob.length=0:=by
    have:=(Uy.1 hc).1;simp at this;omega
   rw[h0]at hc;simp at hc;exact .inr ⟨by rw[<-hi.nD];omega,hc.symm⟩
 refine⟨⟨by simp[hi.nD],hi.j7,fun l row' c q1 q2=>?_,fun k r v q1 q2=>?_,fun l l' c q1 q2=>?_,hi.gF,fun l k v c q1 q2=>?_,hi.fresh⟩,gA,?_⟩
 ·rcases dc l c q2 with⟨h4,_⟩|⟨h4,h5⟩
  ·have h5:V[l]? =some row':=by
    have:l<V.length:=by rw[<-hi.nD];exact(Uy.1 h4).1
    rwa[Uz this]at q1
   exact hi.eH gA h5 h4 rfl (hi.obj l row' c h5 h4).1
  ·subst h4;subst h5;simp at q1;subst q1;exact⟨h3,cs,ty,hb,hs,fun j c u h6 h7=>hr j c u h6 h7 _ _ _⟩
 ·exact hi.eI gA q1 q2 (fun _ _=>rfl) (fun _ _=>rfl)
 ·rcases dc l c q1 with⟨h4,h5⟩|⟨h4,h5⟩<;>rcases dc l' c q2 with⟨h6,h7⟩|⟨h6,h7⟩
  ·exact hi.jx l l' c h4 h6
  ·exact absurd h7 h5
  ·exact absurd h5 h7
  ·omega
 ·rcases dc l c q1 with⟨h4,h5⟩|⟨h4,h5⟩
  ·exact hi.ic l k v c h4 q2
  ·subst h5;exact fun e=>h2 (Gh.jB q2 e)
 ·rw[<-hi.nD];simp
structure zB (all:Array Oper) (ws:List Nat) (σ:Nat->St) (n:Nat) (w0:World) (g0:Gh) (q d:Nat) (row:List CV) (cs:Array Value) (ty:TypeId) (ai:Array Bool) (k0:Nat) (b:Nat) (g:Gh) (a:Act) (w:World):Prop where
 IY:ai[q]? =some true
 base:CI all ws σ n w0 g0 (ai.setIfInBounds q false) k0 g a w
 slot:a.tmps[d]? =some (.pointer (some ⟨b,0,none⟩))
 mem:w.heap[b]? =some (.cells cs ty)
 ob:b∉g.ob
 gC:b∉g.gC
 im:g.im b=0
 new:w0.heap.size<=b
 lt:b<w.heap.size
 closed:∀(i:Nat) o,all[i]? =some o->ai[i]? =some true->∀e∈o.after,Region.binds .any e=true->ai[e.on]? =some true
theorem zB.step {all:Array Oper} {ws:List Nat} {σ:Nat->St} {q d:Nat} {row:List CV} {cs:Array Value} {ty:TypeId} {ai:Array Bool} {k0 k1 b:Nat} {a':Act} (h:zB all ws σ n w0 g0 q d row cs ty ai k0 b g a w) {j:Nat} (CJ:j≠q) (ha:a'.tmps[d]? =a.tmps[d]?)
  (hD:CI all ws σ n w0 g0 ((ai.setIfInBounds q false).setIfInBounds j true) k1 g' a' w') (hF:Fr w g w' g') (sQ:∀(i:Nat) o,all[i]? =some o->(ai.setIfInBounds j true)[i]? =some true->∀e∈o.after,Region.binds .any e=true->(ai.setIfInBounds j true)[e.on]? =some true):zB all ws σ n w0 g0 q d row cs ty (ai.setIfInBounds j true) k1 b g' a' w':=by
 refine⟨by rw[UL CJ];exact h.IY,?_,by rw[ha];exact h.slot,by rw[hF.oO b h.lt h.ob h.gC];exact h.mem,fun hm=>?_,fun hm=>?_,by rw[hF.gG b h.lt h.gC];exact h.im,h.new,Up h.lt hF.size,sQ⟩
 ·rw[Array.setIfInBounds_comm _ _ CJ];exact hD
 ·obtain⟨new,e,hn⟩:=hF.ob;rw[e]at hm;rcases Us.1 hm with p|p
  ·exact h.ob p
  ·have:=hn b p;have:=h.lt;omega
 ·obtain⟨k,v,q1,q2⟩:=Gh.eG hm;rcases hF.ar k v b q1 q2 with p|p
  ·have:=h.lt;omega
  ·exact h.gC p
structure zC (P:Program) (all:Array Oper) (ow:Nat->Bool) (σ:Nat->St) (q d:Nat) (row:List CV) (cs:Array Value) (ty:TypeId) (oq:Oper):Prop where
 at_:all[q]? =some oq
 guard:oq.guard=none
 dst:oq.dst=some d
 s0:look (σ 0).fr d=none
 size:cs.size=row.length
 cells:∀(j:Nat) c u,row[j]? =some c->cs[j]? =some u->∀g w A,bj g w A c u
 next:σ (q+1)=(σ q).put (some d) (.c (.ptr (σ q).V.length 0)) ((σ q).V++[row]) (σ q).A
 run:∀(a:Act) (w:World),(execOp a.eval oq).run P w=.ok (.value (.pointer (some ⟨w.heap.size,0,none⟩))) (w.alloc (.cells cs ty))
theorem HI (l:Array Bool) (q:Nat) (h:l[q]? ≠some true) (hq:q<l.size):(l.setIfInBounds q true).setIfInBounds q false=l:=by
 apply Array.ext_getElem?;intro i;rw[Array.getElem?_setIfInBounds];by_cases e:q=i
 ·subst e;have:l[q]=false:=by
   rw[UJ hq]at h;cases hx:l[q]<;>simp_all
  simp[hq,this]
 ·rw[if_neg e,UL e]
theorem rk {all:Array Oper} (dQ:∀(j:Nat) o,all[j]? =some o->∀e∈o.after,Region.binds .any e=true->e.on<j) {ai:Array Bool} (sQ:∀(i:Nat) o,all[i]? =some o->ai[i]? =some true->∀e∈o.after,Region.binds .any e=true->ai[e.on]? =some true):
  ∀(i:Nat) o,all[i]? =some o->(∀e∈o.after,Region.binds .any e=true->ai[e.on]? =some true)->∀k,((bD all.toList []).getD i 0).testBit k=true->ai[k]? =some true:=by
 obtain⟨Fa,_,Dl⟩:=fN all.toList [];intro i;induction i using Ul with
 |_ i ih=>
  intro o ho dI k hk;obtain⟨pre,h1,h2,h3⟩:=Dl i o (by simpa using ho);simp only[Ur,Un]at h1 h3;have h4:(bD all.toList []).getD i 0=nR pre o:=by simp[Ut,h3]
  rw[h4]at hk;obtain⟨e,he,hb,h5⟩:=gM hk;have xU:=dI e he hb;rcases h5 with rfl|h5
  ·exact xU
  ·have aC:=dQ i o ho e he hb;have h6:pre.getD e.on 0=(bD all.toList []).getD e.on 0:=by simp only[Ut,h2 e.on (by omega)]
   rw[h6]at h5;have fw:e.on<all.size:=by have:=(UK.1 ho).1;omega
   have xV:all[e.on]? =some all[e.on]:=UJ fw;exact ih e.on aC _ xV (sQ e.on _ xV xU) k h5
end
def lf (all:Array Oper) (ws fs:List Nat) (m q:Nat) (wt:List Nat) (ms:List Nat) (oi oj:Oper) (i j:Nat):Bool:=
 if j=q/\wt.contains i=true then oi.dst.isNone||oi.dst !=oj.dst else dK all ws fs m ms oi oj i j &&(!(decide (i<=q)&& decide (q<j)&& wt.contains i)||(ms.getD j 0).testBit i)
def jJ (all:Array Oper) (ws fs:List Nat) (m q:Nat) (wt:List Nat):Bool:=
 let l:=all.toList.zipIdx
 let ms:=bD all.toList []
 (l.all fun(o,j)=>o.after.toList.all fun e=> !Region.binds .any e||decide (e.on<j))&&
 (l.all fun(oj,j)=>l.all fun(oi,i)=> !(decide (i<j))||lf all ws fs m q wt ms oi oj i j)&&
 (l.all fun(o,j)=> !ws.contains j|| !cG o.op)&&(fs.all fun j=> !ws.contains j)&&(fs.all fun j=>ws.all fun i=>decide (i<m)||decide (j<i))&& ws.contains q &&(ws.all fun i=>wt.contains i)
section
variable {P:Program} {n:Nat} {Q Q':Exit->St->Prop} {s s':St} {w0:World} {g0 g g':Gh} {a:Act} {w w':World} {V:List (List CV)} {A A':List bp}
theorem vA {all:Array Oper} {ow:Nat->Bool} {ws fs:List Nat} {m q:Nat} {wt:List Nat} {ex:List Nat} {V0:List (List CV)} {A0:List bp} {σ:Nat->St} (hd:jJ all ws fs m q wt=true) (gn:fh n all.toList=true)
  (nG:∀(j:Nat) o,all[j]? =some o->Dt P all (ow j) fs j ex V0 A0 o (σ j) (σ (j+1))/\(j∈ws\/((σ (j+1)).V=(σ j).V/\(σ (j+1)).A=(σ j).A))/\(j<m->Hz ex V0 A0 (σ (j+1))\/((σ (j+1)).V=(σ j).V/\(σ (j+1)).A=(σ j).A))) (Gv:(σ 0).V=V0/\(σ 0).A=A0)
  {ai:Array Bool} {k0:Nat} (hD:CI all ws σ n w0 g0 ai k0 g a w) (hL:ai[q]? =some true->∀i∈wt,i<q->ai[i]? =some true) {j:Nat} (hj:j∈Region.ready .any all ai) (hq:j=q->∀i∈wt,i<q->ai[i]? =some true)
  {next:Act->World->Prop} {Q:Exit->Act->World->Prop} (ih:∀k1 o g' a' w',all[j]? =some o->(∀t,o.dst≠some t->a'.tmps[t]? =a.tmps[t]?)->CI all ws σ n w0 g0 (ai.setIfInBounds j true) k1 g' a' w'->Fr w g w' g'->next a' w'):wpOp P all Q j next a w:=by
 simp only[jJ,UH,Uu]at hd;obtain⟨⟨⟨⟨⟨⟨ij,jR⟩,sj⟩,Lj⟩,Lk⟩,GB⟩,yf⟩:=hd;have gm:∀i∈ws,i∈wt:=fun i hi=>by simpa using yf i hi
 have GB:q∈ws:=by simpa using GB
 have eE:∀(j:Nat) o,all[j]? =some o->(o,j)∈all.toList.zipIdx:=fun j o h=>by
  rw[UC];exact⟨j,by simp[UE,h]⟩
 have dQ:∀(j:Nat) o,all[j]? =some o->∀e∈o.after,Region.binds .any e=true->e.on<j:=fun j o h e he hb=>by
  have:=ij _ (eE j o h) e (UM.2 he);simpa[hb]using this
 have tA:∀(i j:Nat) oi oj,all[i]? =some oi->all[j]? =some oj->i<j->lf all ws fs m q wt (bD all.toList []) oi oj i j=true:=fun i j oi oj h1 h2 aC=>by
  have:=jR _ (eE j oj h2) _ (eE i oi h1);simpa[aC]using this
 have jV:∀(i j:Nat) oi oj,all[i]? =some oi->all[j]? =some oj->i<j->¬(j=q/\i∈wt)->dK all ws fs m (bD all.toList []) oi oj i j=true:=fun i j oi oj h1 h2 aC cN=>by
  have:=tA i j oi oj h1 h2 aC;rw[lf,if_neg (by simpa using cN)]at this;simp only[UH]at this;exact this.1
 have cH:∀(i j:Nat) oi oj,all[i]? =some oi->all[j]? =some oj->i<j->¬(j=q/\i∈wt)->i∉fs->j∉fs->bM all ws (bD all.toList []) oi oj i j=true:=fun i j oi oj h1 h2 aC cN hi hj=>by
  have:=jV i j oi oj h1 h2 aC cN;simpa[dK,bM,hi,hj]using this
 have rV:∀i,i∈ws->i∉fs:=fun i hi hf=>by
  have:=Lj i hf;simp[hi]at this
 have HA:∀k,k<=m->k<=all.size->Hz ex V0 A0 (σ k):=by
  intro k;induction k with
  |zero=>
   intro _ _;refine⟨?_,by rw[Gv.2];simp⟩;rw[Gv.1,tj];simp
  |succ k ih=>
   intro h1 h2;have ho:all[k]? =some all[k]:=UJ (by omega);rcases(nG k _ ho).2.2 (by omega)with h3|⟨h3,h4⟩
   ·exact h3
   ·have:=ih (by omega) (by omega);exact⟨by rw[h3];exact this.1,by rw[h4];exact this.2⟩
 have y3:∀(j:Nat) o,all[j]? =some o->j∈ws->cG o.op=false:=fun j o h hj=>by
  have:=sj _ (eE j o h);simpa[hj]using this
 have ko:∀(i j:Nat) oi oj d,all[i]? =some oi->all[j]? =some oj->i<j->oi.dst=some d->oj.dst≠some d:=fun i j oi oj d h1 h2 aC h3 h4=>by
  have:=tA i j oi oj h1 h2 aC;simp only[lf,dK,h3,h4]at this;split at this<;>simp at this
 have wz:∀(i j:Nat) oi oj d,all[i]? =some oi->all[j]? =some oj->oi.dst=some d->oj.dst=some d->i=j:=fun i j oi oj d h1 h2 h3 h4=>by
  rcases Uo i j with h|h|h
  ·exact absurd h4 (ko i j oi oj d h1 h2 h h3)
  ·exact h
  ·exact absurd h3 (ko j i oj oi d h2 h1 h h4)
 have BF:∀(j:Nat) o d,all[j]? =some o->o.dst=some d->d<n:=fun j o d h1 h2=>by
  have:=Uu.1 gn o (by rw[UM];exact UN h1);simpa[h2]using this
 obtain⟨Fa,_,Dl⟩:=fN all.toList []
 have s8:∀{ai:Array Bool},(∀(i:Nat) o,all[i]? =some o->ai[i]? =some true->∀e∈o.after,Region.binds .any e=true->ai[e.on]? =some true)->
   ∀(i:Nat) o,all[i]? =some o->(∀e∈o.after,Region.binds .any e=true->ai[e.on]? =some true)->∀k,((bD all.toList []).getD i 0).testBit k=true->ai[k]? =some true:=by
  intro ai sQ i;induction i using Ul with
  |_ i ih=>
   intro o ho dI k hk;obtain⟨pre,h1,h2,h3⟩:=Dl i o (by simpa using ho);simp only[Ur,Un]at h1 h3;have h4:(bD all.toList []).getD i 0=nR pre o:=by simp[Ut,h3]
   rw[h4]at hk;obtain⟨e,he,hb,h5⟩:=gM hk;have xU:=dI e he hb;rcases h5 with rfl|h5
   ·exact xU
   ·have aC:=dQ i o ho e he hb;have h6:pre.getD e.on 0=(bD all.toList []).getD e.on 0:=by simp only[Ut,h2 e.on (by omega)]
    rw[h6]at h5;have fw:e.on<all.size:=by have:=(UK.1 ho).1;omega
    have xV:all[e.on]? =some all[e.on]:=UJ fw;exact ih e.on aC _ xV (sQ e.on _ xV xU) k h5
 have mj:∀(j:Nat) o t,all[j]? =some o->o.dst≠some t->look (σ (j+1)).fr t=look (σ j).fr t:=fun j o t h1 h2=>by
  obtain⟨⟨_,h3⟩,_⟩:=nG j o h1;have ml:∀(x:AV) V A,look ((σ j).put o.dst x V A).fr t=look (σ j).fr t:=fun x V A=>by
   simp only[St.put];cases uJ:o.dst with
   |none=>rfl
   |some d=>simp only[look];rw[if_neg (fun e=>h2 (by rw[uJ,e]))]
  rcases h3 with⟨_,x,V,A,h4,_,_⟩|⟨_,h4⟩
  ·rw[h4];exact ml x V A
  ·rw[h4];exact ml _ _ _
 have s9:∀(j t:Nat),j<=all.size->(∀(i:Nat) o,i<j->all[i]? =some o->o.dst≠some t)->look (σ j).fr t=look (σ 0).fr t:=by
  intro j;induction j with
  |zero=>intro t _ _;rfl
  |succ j ih=>
   intro t hj fx;have ho:all[j]? =some all[j]:=UJ (by omega);rw[mj j _ t ho (fx j _ (by omega) ho)];exact ih t (by omega) (fun i o hi=>fx i o (by omega))
 have tc:∀(j i:Nat) oi t,j<=all.size->i<j->all[i]? =some oi->oi.dst=some t->look (σ j).fr t=look (σ (i+1)).fr t:=by
  intro j;induction j with
  |zero=>intro i oi t _ h;omega
  |succ j ih=>
   intro i oi t hj nS bG c8;by_cases e:i=j
   ·subst e;rfl
   ·have ho:all[j]? =some all[j]:=UJ (by omega);rw[mj j _ t ho (ko i j oi _ t bG ho (by omega) c8)];exact ih i oi t (by omega) (by omega) bG c8
 have xW:∀(b a:Nat),a<=b->b<=all.size->(∀i,a<=i->i<b->i∉ws)->(σ b).V=(σ a).V/\(σ b).A=(σ a).A:=by
  intro b;induction b with
  |zero=>
   intro a h _ _;obtain rfl:a=0:=by omega
   exact⟨rfl,rfl⟩
  |succ b ih=>
   intro a MN hb fx;by_cases e:a=b+1
   ·subst e;exact⟨rfl,rfl⟩
   ·have ho:all[b]? =some all[b]:=UJ (by omega);obtain⟨h1,h2⟩:=ih a (by omega) (by omega) (fun i hi Ay=>fx i hi (by omega));rcases(nG b _ ho).2.1 with h3|⟨h3,h4⟩
    ·exact absurd h3 (fx b (by omega) (by omega))
    ·exact⟨h3.trans h1,h4.trans h2⟩
 obtain⟨p7,o,ho,dI⟩:=mem_ready.1 hj;have sk:=fW p7;have zn:j<all.size:=(UK.1 ho).1;have kf:j<ai.size:=by rw[hD.fc];exact zn
 have cN:∀i,j<i->ai[i]? =some true->¬(i=q/\j∈wt):=fun i h hl e=>by
  obtain⟨rfl,e⟩:=e;have:=hL hl j e h;rw[sk]at this;simp at this
 have du:∀e∈o.after,Region.binds .any e=true->ai[e.on]? =some true:=fun e he hb=>dH.1 (dI e he hb)
 have df:∀k,((bD all.toList []).getD j 0).testBit k=true->ai[k]? =some true:=s8 hD.closed j o ho du;have cT:∀(i:Nat) oi,all[i]? =some oi->ai[i]? =some true->((bD all.toList []).getD i 0).testBit j=false:=fun i oi bG cg=>by
  cases hb:((bD all.toList []).getD i 0).testBit j with
  |false=>rfl
  |true=>have:=s8 hD.closed i oi bG (hD.closed i oi bG cg) j hb;rw[sk]at this;simp at this
 have oo:∀t∈o.looksAt all,∀x,look (σ j).fr t=some x->∃u,a.tmps[t]? =some u/\aU g w (σ k0).A x u:=by
  intro t ht x hx;by_cases hex:∃(i:Nat) (oi:Oper),i<j/\all[i]? =some oi/\oi.dst=some t
  ·obtain⟨i,oi,nS,bG,c8⟩:=hex;rw[tc j i oi t (by omega) nS bG c8]at hx;have cg:ai[i]? =some true:=by
    by_cases e:j=q/\i∈wt
    ·exact hq e.1 i e.2 (by omega)
    ·have hp:=jV i j oi o bG ho nS e;have zw:eh all oi o=true:=by simp only[eh,c8];simpa using ht
     simp only[dK,zw,UH,UI]at hp;have hb:((bD all.toList []).getD j 0).testBit i=true:=by simpa using hp.2
     exact df i hb
   exact hD.iq i oi t x bG cg c8 hx
  ·rw[s9 j t (by omega) (fun i oi nS bG c8=>hex ⟨i,oi,nS,bG,c8⟩)]at hx;refine hD.ir t x (fun i oi bG cg c8=>?_) hx;rcases Uo i j with h|h|h
   ·exact hex ⟨i,oi,h,bG,c8⟩
   ·subst h;rw[sk]at cg;simp at cg
   ·have hp:=jV j i o oi ho bG h (cN i h cg);have zw:eh all oi o=true:=by simp only[eh,c8];simpa using ht
    have hb:=cT i oi bG cg;simp only[dK,zw,hb,UH,UI]at hp;simp at hp
 let cS:=(σ j).fr.filter fun p=>(o.looksAt all).contains p.1
 have rU:∀t,look cS t=if(o.looksAt all).contains t then look (σ j).fr t else none:=fun t=>fV (fun t=>(o.looksAt all).contains t) (σ j).fr t
 have hS:∀(V:List (List CV)),gD g w ⟨cS,V,(σ k0).A⟩ a:=fun V t x hx=>by
  simp only[rU]at hx;split at hx
  ·rename_i hc;exact oo t (by simpa using hc) x hx
  ·cases hx
 have jf:∀(V V':List (List CV)) (A A':List bp),∀x∈o.op.operands.toList,bA ⟨cS,V,A⟩ x=bA ⟨(σ j).fr,V',A'⟩ x:=fun V V' A A' x hx=>by
  cases x with
  |tmp t=>
   simp only[bA,rU];rw[if_pos];simp only[Oper.looksAt,UF,decide_eq_true_eq,Us,List.mem_filterMap];exact .inl ⟨.tmp t,hx,rfl⟩
  |_=>rfl
 have kT:Rp n w0 g0 ⟨cS,(σ k0).V,(σ k0).A⟩ g a w:=⟨hD.inv,hD.fr,hD.size,hD.defers,hS _⟩;obtain⟨⟨s4,pV⟩,Dm,_⟩:=nG j o ho;have o8:fT all ⟨cS,(σ k0).V,(σ k0).A⟩ o True True/\gw all ⟨cS,(σ k0).V,(σ k0).A⟩ o=gw all (σ j) o:=by
  unfold fT gw at*;cases ot:o.guard with
  |none=>simp
  |some jw=>
   obtain⟨q,want⟩:=jw;simp only[ot]at s4⊢;obtain⟨oq,h1,h2⟩:=cq s4;obtain⟨t,h3,h4⟩:=cq h2;have:look cS t=look (σ j).fr t:=by
    rw[rU,if_pos];simp only[Oper.looksAt,ot,UF,decide_eq_true_eq,Us];exact .inr (by simp[h1,h3])
   simp only[h1,bE,h3,Ui,this]at h4⊢;exact⟨h4,trivial⟩
 have q0:Region.wanted o (yielded all a.tmps)=gw all (σ j) o:=by
  rw[<-o8.2];have h0:=gp o8.1;have h1:=o8.1;unfold fT at h1;unfold gw;cases ot:o.guard with
  |none=>simp[Region.wanted,ot]
  |some jw=>
   obtain⟨q,want⟩:=jw;simp only[ot]at h1⊢;obtain⟨oq,h2,h3⟩:=cq h1;obtain⟨t,h4,h5⟩:=cq h3;obtain⟨x,h6,h7⟩:=cq h5;obtain⟨h8,h9⟩:=je kT h2 h4 h6;simp only[h2,Ui,h4,h6];split at h7
   ·rename_i b;simp[Region.wanted,ot,h8 b rfl]
   ·simp[Region.wanted,ot,h9 rfl]
   ·exact h7.elim
 have cb:∀i,(ai.setIfInBounds j true)[i]? =if i=j then some true else ai[i]? :=fun i=>by
  by_cases e:i=j
  ·subst e;simp[kf]
  ·rw[if_neg e,UL (fun h=>e h.symm)]
 have gH:∀(v:Value) (t:Nat),o.dst≠some t->(a.put o.dst v).tmps[t]? =a.tmps[t]? :=fun v t cN=>by
  cases uJ:o.dst with
  |none=>rfl
  |some d=>
   simp only[Act.put];rw[UL (fun e=>cN (by rw[uJ,e]))]
 have dB:∀(k1:Nat) (x:AV) (v:Value) (w':World) (g':Gh),look (σ (j+1)).fr=look ((σ j).put o.dst x [] []).fr->aU g' w' (σ k1).A x v->Inv g' w' (σ k1).V (σ k1).A->Ext g w (σ k0).A g' w' (σ k1).A->Fr w0 g0 w' g'->k1<=all.size->(k1=0\/∃i∈ws,k1=i+1)->
   (∀i∈ws,i<all.size->((ai.setIfInBounds j true)[i]? =some true↔i<k1))->CI all ws σ n w0 g0 (ai.setIfInBounds j true) k1 g' (a.put o.dst v) w':=by
  intro k1 x v w' g' EL zr hI hx hF hk MR Hv;have mo:∀t u,o.dst≠some t->a.tmps[t]? =some u->(a.put o.dst v).tmps[t]? =some u:=fun t u cN hu=>by
   cases uJ:o.dst with
   |none=>exact hu
   |some d=>
    simp only[Act.put];rw[UL (fun e=>cN (by rw[uJ,e]))];exact hu
  refine⟨hI,hF,?_,?_,by simp[hD.fc],fun i oi t y bG cg c8 hy=>?_,fun t y fx hy=>?_,Hv,hk,MR,fun i oi bG cg e he hb=>?_⟩
  ·cases o.dst<;>simp[Act.put,hD.size]
  ·cases o.dst<;>simp[Act.put,hD.defers]
  ·rw[cb]at cg;by_cases e:i=j
   ·subst e;obtain rfl:o=oi:=by rw[ho]at bG;exact Option.some.inj bG
    rw[EL]at hy;simp only[St.put,c8,look,if_true]at hy;cases hy
    refine⟨v,?_,zr⟩;have:t<a.tmps.size:=by rw[hD.size];exact BF i o t ho c8
    simp[Act.put,c8,this]
   ·rw[if_neg e]at cg;obtain⟨u,h1,h2⟩:=hD.iq i oi t y bG cg c8 hy;exact⟨u,mo t u (fun h=>e (wz i j oi o t bG ho c8 h)) h1,aU.ext hx h2⟩
  ·have cN:o.dst≠some t:=fx j o ho (by rw[cb,if_pos rfl]);obtain⟨u,h1,h2⟩:=hD.ir t y (fun i oi bG cg=>fx i oi bG (by
    rw[cb];by_cases e:i=j
    ·rw[if_pos e]
    ·rw[if_neg e];exact cg)) hy
   exact⟨u,mo t u cN h1,aU.ext hx h2⟩
  ·rw[cb]at cg⊢;have:ai[e.on]? =some true:=by
    by_cases e':i=j
    ·subst e';obtain rfl:o=oi:=by rw[ho]at bG;exact Option.some.inj bG
     exact du e he hb
    ·rw[if_neg e']at cg;exact hD.closed i oi bG cg e he hb
   by_cases e':e.on=j
   ·rw[if_pos e']
   ·rw[if_neg e'];exact this
 have kU:j∉ws->∀i∈ws,i<all.size->((ai.setIfInBounds j true)[i]? =some true↔i<k0):=fun fF i hi cr=>by
  rw[cb,if_neg (fun e=>fF (by rw[<-e];exact hi))];exact hD.fe i hi cr
 have mS:cG o.op=false->j∉fs->(σ j).V=(σ k0).V/\(σ j).A=(σ k0).A:=by
  intro iD yb;rcases Nat.le_total j k0 with h|h
  ·have:=xW k0 j h hD.pZ (fun i h1 h2 h3=>by
    have cr:i<all.size:=by have:=hD.pZ;omega
    have cg:=(hD.fe i h3 cr).2 h2;have bG:all[i]? =some all[i]:=UJ cr;rcases Uj j i with h4|h4
    ·have hp:=cH j i o _ ho bG h4 (cN i h4 cg) yb (rV i h3);have hb:=cT i _ bG cg;simp only[bM,hb,UH,UI]at hp;simp[h3,iD,-cG]at hp
    ·obtain rfl:i=j:=by omega
     rw[sk]at cg;simp at cg)
   exact⟨this.1.symm,this.2.symm⟩
  ·exact xW j k0 h (by omega) (fun i h1 h2 h3=>by
    have cr:i<all.size:=by omega
    have bG:all[i]? =some all[i]:=UJ cr;have cg:ai[i]? =some true:=by
     by_cases e:j=q
     ·exact hq e i (gm i h3) (by omega)
     ·have hp:=cH i j _ o bG ho h2 (fun h=>e h.1) (rV i h3) yb;simp only[bM,UH,UI]at hp;rcases hp.2 with h4|h4
      ·simp[h3,iD,-cG]at h4
      ·exact df i h4
    have:=(hD.fe i h3 cr).1 cg;omega)
 unfold wpOp;simp only[ho];rcases pV with⟨h1,x,V,A,h2,h3,JK⟩|⟨h1,h2⟩
 ·rw[if_pos (by rw[q0,h1])];refine .inl ?_;by_cases hs:cG o.op=true
  ·-- slots alone
   have fF:j∉ws:=fun h=>by have:=y3 j o ho h;rw[hs]at this;simp at this
   have h4:bJ P ⟨cS,(σ k0).V,(σ k0).A⟩ (ow j) o (fun y V' A'=>y=x/\V'=(σ k0).V/\A'=(σ k0).A):=si (s:=σ j) (s':=⟨cS,(σ k0).V,(σ k0).A⟩) hs (jf _ _ _ _) h3 ⟨rfl,rfl,rfl⟩;obtain⟨y,V',A',⟨rfl,rfl,rfl⟩,h5⟩:=eu kT.inv (Fr.refl kT.fr.now) kT.slot h4;refine h5 _ _ fun v w' g' h6 h7 h8 h9=>ih k0 o g' _ w' ho (gH v) (dB k0 y v w' g' (by rw[h2];rfl) h6 h7 h8 (hD.fr.ye h9) hD.pZ hD.kw (kU fF)) h9
  ·have iD:cG o.op=false:=by simpa using hs
   by_cases yb:j∈fs
   ·have fF:j∉ws:=fun h=>rV j h yb
    have HB:k0<=m:=by
     rcases hD.kw with h|⟨i,hi,hk⟩
     ·omega
     ·rcases Uj i m with h|h
      ·omega
      ·exfalso
       have cr:i<all.size:=by have:=hD.pZ;omega
       have bG:all[i]? =some all[i]:=UJ cr;have cg:=(hD.fe i hi cr).2 (by omega);have Ll:j<i:=by
        have:=Lk j yb i hi;simp at this;omega
       have hp:=jV j i o _ ho bG Ll (cN i Ll cg);have hb:=cT i _ bG cg;have qo:¬i<m:=by omega
       simp only[dK,hb,UH,UI]at hp;simp[-cG,hi,iD,qo,yb,fF]at hp
    obtain⟨cY,JL⟩:=HA k0 HB hD.pZ;have h4:bJ P ⟨cS,(σ k0).V,(σ k0).A⟩ (ow j) o (fun y V' A'=>y=x/\V'=(σ k0).V/\A'=(σ k0).A):=by
     have h5:=JK yb (fun i=>(σ k0).V.getD i []) ((σ k0).V.drop V0.length) ((σ k0).A.drop A0.length);have e1:rh ex (fun i=>(σ k0).V.getD i []) V0++(σ k0).V.drop V0.length=(σ k0).V:=by
      rw[<-cY];exact UA _ _
     have e2:A0++(σ k0).A.drop A0.length=(σ k0).A:=by conv=>lhs;arg 1;rw[<-JL]
                                                      exact UA _ _
     rw[e1,e2]at h5;exact fU (fr:=(σ j).fr) (jf _ _ _ _) h5
    obtain⟨y,V',A',⟨rfl,rfl,rfl⟩,h5⟩:=eu kT.inv (Fr.refl kT.fr.now) kT.slot h4;exact h5 _ _ fun v w' g' h6 h7 h8 h9=>ih k0 o g' _ w' ho (gH v) (dB k0 y v w' g' (by rw[h2];rfl) h6 h7 h8 (hD.fr.ye h9) hD.pZ hD.kw (kU fF)) h9
   obtain⟨lH,jv⟩:=mS iD yb;have h4:bJ P ⟨cS,(σ k0).V,(σ k0).A⟩ (ow j) o (fun y V' A'=>y=x/\V'=V/\A'=A):=by
    rw[<-lH,<-jv];exact fU (fr:=(σ j).fr) (jf _ _ _ _) (h3 _ ⟨rfl,rfl,rfl⟩)
   obtain⟨y,V',A',⟨rfl,rfl,rfl⟩,h5⟩:=eu kT.inv (Fr.refl kT.fr.now) kT.slot h4;have xX:(σ (j+1)).V=V':=by rw[h2];rfl
   have lV:(σ (j+1)).A=A':=by rw[h2];rfl
   by_cases fF:j∈ws
   ·refine h5 _ _ fun v w' g' h6 h7 h8 h9=>ih (j+1) o g' _ w' ho (gH v) (dB (j+1) y v w' g' (by rw[h2];rfl) (by rw[lV];exact h6) (by rw[xX,lV];exact h7) (by rw[lV];exact h8) (hD.fr.ye h9) (by omega) (.inr ⟨j,fF,rfl⟩) (fun i hi cr=>?_)) h9
    have bG:all[i]? =some all[i]:=UJ cr;rw[cb];by_cases e:i=j
    ·subst e;simp
    ·rw[if_neg e];constructor
     ·intro cg;rcases Uj j i with h|h
      ·have hp:=cH j i o _ ho bG h (cN i h cg) (rV j fF) (rV i hi);have hb:=cT i _ bG cg;simp only[bM,hb,UH,UI]at hp;simp[hi,iD,-cG]at hp
      ·omega
     ·intro aC;by_cases e:j=q
      ·exact hq e i (gm i hi) (by omega)
      have hp:=cH i j _ o bG ho (by omega) (fun h=>e h.1) (rV i hi) (rV j fF);simp only[bM,UH,UI]at hp;rcases hp.2 with h|h
      ·simp[hi,iD,-cG]at h
      ·exact df i h
   ·rcases Dm with Dm|⟨qa,se⟩
    ·exact absurd Dm fF
    ·refine h5 _ _ fun v w' g' h6 h7 h8 h9=>ih k0 o g' _ w' ho (gH v) (dB k0 y v w' g' (by rw[h2];rfl) ?_ ?_ ?_ (hD.fr.ye h9) hD.pZ hD.kw (kU fF)) h9
     ·rw[<-jv,<-se,lV];exact h6
     ·rw[<-lH,<-jv,<-qa,<-se,xX,lV];exact h7
     ·have e1:(σ k0).A=A':=by rw[<-jv,<-se,lV]
      rw[e1]at h8⊢;exact h8
 ·rw[if_neg (by rw[q0,h1];simp)];have xX:(σ (j+1)).V=(σ j).V:=by rw[h2];rfl
  have lV:(σ (j+1)).A=(σ j).A:=by rw[h2];rfl
  by_cases fF:j∈ws
  ·have iD:=y3 j o ho fF;obtain⟨lH,jv⟩:=mS iD (rV j fF);refine ih (j+1) o g _ w ho (gH undef) (dB (j+1) (.c .undef) undef w g (by rw[h2];rfl) rfl ?_ ?_ hD.fr (by omega) (.inr ⟨j,fF,rfl⟩) (fun i hi cr=>?_)) (.refl hD.fr.now)
   ·rw[xX,lV,lH,jv];exact hD.inv
   ·rw[lV,jv];exact .refl _ _ _
   ·have bG:all[i]? =some all[i]:=UJ cr;rw[cb];by_cases e:i=j
    ·subst e;simp
    ·rw[if_neg e];constructor
     ·intro cg;rcases Uj j i with h|h
      ·have hp:=cH j i o _ ho bG h (cN i h cg) (rV j fF) (rV i hi);have hb:=cT i _ bG cg;simp only[bM,hb,UH,UI]at hp;simp[hi,iD,-cG]at hp
      ·omega
     ·intro aC;by_cases e:j=q
      ·exact hq e i (gm i hi) (by omega)
      have hp:=cH i j _ o bG ho (by omega) (fun h=>e h.1) (rV i hi) (rV j fF);simp only[bM,UH,UI]at hp;rcases hp.2 with h|h
      ·simp[hi,iD,-cG]at h
      ·exact df i h
  ·exact ih k0 o g _ w ho (gH undef) (dB k0 (.c .undef) undef w g (by rw[h2];rfl) rfl hD.inv (.refl _ _ _) hD.fr hD.pZ hD.kw (kU fF)) (.refl hD.fr.now)
theorem Dz {all:Array Oper} {ws fs:List Nat} {m q:Nat} {wt:List Nat} (hd:jJ all ws fs m q wt=true):q∈ws/\(∀i∈ws,i∈wt)/\(∀(j:Nat) o,all[j]? =some o->∀e∈o.after,Region.binds .any e=true->e.on<j)/\
  (∀(i j:Nat) oi oj,all[i]? =some oi->all[j]? =some oj->i∈wt->i<=q->q<j->((bD all.toList []).getD j 0).testBit i=true)/\(∀(i j:Nat) oi oj d,all[i]? =some oi->all[j]? =some oj->i≠j->oi.dst=some d->oj.dst≠some d):=by
 simp only[jJ,UH,Uu]at hd;obtain⟨⟨⟨⟨⟨⟨ij,jR⟩,sj⟩,Lj⟩,Lk⟩,GB⟩,yf⟩:=hd;have gm:∀i∈ws,i∈wt:=fun i hi=>by simpa using yf i hi
 have eE:∀(j:Nat) o,all[j]? =some o->(o,j)∈all.toList.zipIdx:=fun j o h=>by
  rw[UC];exact⟨j,by simp[UE,h]⟩
 have tA:∀(i j:Nat) oi oj,all[i]? =some oi->all[j]? =some oj->i<j->lf all ws fs m q wt (bD all.toList []) oi oj i j=true:=fun i j oi oj h1 h2 aC=>by
  have:=jR _ (eE j oj h2) _ (eE i oi h1);simpa[aC]using this
 have tB:∀(i j:Nat) oi oj d,all[i]? =some oi->all[j]? =some oj->i<j->oi.dst=some d->oj.dst≠some d:=fun i j oi oj d h1 h2 aC h3 h4=>by
  have:=tA i j oi oj h1 h2 aC;simp only[lf,dK,h3,h4]at this;split at this<;>simp at this
 refine⟨by simpa using GB,gm,fun j o h e he hb=>?_,fun i j oi oj h1 h2 h0 h3 h4=>?_,fun i j oi oj d h1 h2 cN h3 h4=>?_⟩
 ·have:=ij _ (eE j o h) e (UM.2 he);simpa[hb]using this
 ·have:=tA i j oi oj h1 h2 (by omega);rw[lf,if_neg (show¬(j=q/\wt.contains i=true) by omega)]at this;simp only[UH]at this;simpa[h0,h3,h4]using this.2
 ·rcases Nat.lt_or_gt_of_ne cN with h|h
  ·exact tB i j oi oj d h1 h2 h h3 h4
  ·exact tB j i oj oi d h2 h1 h h4 h3
theorem zB.MX {all:Array Oper} {ow:Nat->Bool} {ws fs:List Nat} {m q:Nat} {wt:List Nat} {σ:Nat->St} (hd:jJ all ws fs m q wt=true) {d:Nat} {row:List CV} {cs:Array Value} {ty:TypeId} {oq:Oper} (hk:zC P all ow σ q d row cs ty oq)
  (hw:∀(j:Nat) o,all[j]? =some o->j∈ws\/((σ (j+1)).V=(σ j).V/\(σ (j+1)).A=(σ j).A))
  {ai:Array Bool} {k0 b:Nat} (h:zB all ws σ n w0 g0 q d row cs ty ai k0 b g a w) (dc:∀i∈wt,i<q->ai[i]? =some true):∃g',CI all ws σ n w0 g0 ai (q+1) g' a w:=by
 obtain⟨GB,gm,dQ,DA,wz⟩:=Dz hd;have EM:q<all.size:=(UK.1 hk.at_).1;have cb:∀i,i≠q->(ai.setIfInBounds q false)[i]? =ai[i]? :=fun i hi=>UL (fun e=>hi e.symm)
 have Ql:q<ai.size:=(UK.1 h.IY).1;have MY:(ai.setIfInBounds q false)[q]? =some false:=by simp[Ql]
 have fx:∀i,q<i->ai[i]? ≠some true:=fun i hi hl=>by
  have cr:i<all.size:=by
   have:=(UK.1 hl).1;have e:=h.base.fc;simp at e;omega
  have bG:all[i]? =some all[i]:=UJ cr;have:=rk dQ h.base.closed i _ bG (h.base.closed i _ bG (by rw[cb i (by omega)];exact hl)) q (DA q i _ _ hk.at_ bG (gm q GB) (Uk _) hi);rw[MY]at this;simp at this
 have iT:k0<=q:=by
  rcases h.base.kw with e|⟨i,hi,e⟩
  ·omega
  ·rcases Uj i q with h1|h1
   ·omega
   ·have:=h.base.pZ;have h2:=(h.base.fe i hi (by omega)).2 (by omega);rcases Nat.eq_or_lt_of_le h1 with h3|h3
    ·subst h3;rw[MY]at h2;simp at h2
    ·rw[cb i (by omega)]at h2;exact absurd h2 (fx i h3)
 have xW:∀c,k0<=c->c<=q->(σ c).V=(σ k0).V/\(σ c).A=(σ k0).A:=by
  intro c;induction c with
  |zero=>intro h1 _;obtain rfl:k0=0:=by omega
         exact⟨rfl,rfl⟩
  |succ c ih=>
   intro h1 h2;by_cases e:k0=c+1
   ·subst e;exact⟨rfl,rfl⟩
   ·obtain⟨h3,h4⟩:=ih (by omega) (by omega);rcases hw c _ (UJ (by omega))with h5|⟨h5,h6⟩
    ·have:=(h.base.fe c h5 (by omega)).1 (by rw[cb c (by omega)];exact dc c (gm c h5) (by omega));omega
    ·exact⟨h5.trans h3,h6.trans h4⟩
 obtain⟨lH,jv⟩:=xW q iT (Uk _);obtain⟨hI,hx,hb⟩:=h.base.inv.HH h.mem hk.size hk.cells h.ob h.gC h.im;have Qm:(σ (q+1)).V=(σ k0).V++[row]:=by rw[hk.next,<-lH];rfl
 have MZ:(σ (q+1)).A=(σ k0).A:=by rw[hk.next,<-jv];rfl
 refine⟨{g with ob:=g.ob++[b]},by rw[Qm,MZ];exact hI,h.base.fr.HH h.new,h.base.size,h.base.defers,by simpa using h.base.fc,fun i o t x ho hl c8 jc=>?_,fun t x M0 jc=>?_,fun i hi cr=>?_,by omega,.inr ⟨q,GB,rfl⟩,fun i o ho hl e he eJ=>?_⟩
 ·rw[MZ];by_cases e:i=q
  ·subst e;rw[hk.at_]at ho;cases ho
   rw[hk.dst]at c8;cases c8
   rw[hk.next]at jc;simp only[St.put,look,if_true]at jc;cases jc
   exact⟨_,h.slot,b,by rw[lH];exact hb,rfl⟩
  ·obtain⟨u,h1,h2⟩:=h.base.iq i o t x ho (by rw[cb i e];exact hl) c8 jc;exact⟨u,h1,aU.ext hx h2⟩
 ·rw[MZ];obtain⟨u,h1,h2⟩:=h.base.ir t x (fun i o ho hl=>by
   by_cases e:i=q
   ·subst e;rw[MY]at hl;simp at hl
   ·rw[cb i e]at hl;exact M0 i o ho hl) jc
  exact⟨u,h1,aU.ext hx h2⟩
 ·constructor
  ·intro hl;rcases Uj q i with h1|h1
   ·exact absurd hl (fx i h1)
   ·omega
  ·intro aC;by_cases e:i=q
   ·subst e;exact h.IY
   ·exact dc i (gm i hi) (by omega)
 ·have aC:=dQ i o ho e he eJ;by_cases e':i=q
  ·subst e';exact h.closed i o ho hl e he eJ
  ·by_cases e2:e.on=q
   ·rw[e2];exact h.IY
   ·have:=h.base.closed i o ho (by rw[cb i e'];exact hl) e he eJ;rwa[cb _ e2]at this
set_option maxHeartbeats 1000000 in
theorem yg {all:Array Oper} {ow:Nat->Bool} {ws fs:List Nat} {m q:Nat} {wt:List Nat} {ex:List Nat} {V0:List (List CV)} {A0:List bp} {σ:Nat->St} {K:St->Prop} {Q:Exit->Act->World->Prop} (hd:jJ all ws fs m q wt=true) (gn:fh n all.toList=true)
  (nG:∀(j:Nat) o,all[j]? =some o->Dt P all (ow j) fs j ex V0 A0 o (σ j) (σ (j+1))/\(j∈ws\/((σ (j+1)).V=(σ j).V/\(σ (j+1)).A=(σ j).A))/\(j<m->Hz ex V0 A0 (σ (j+1))\/((σ (j+1)).V=(σ j).V/\(σ (j+1)).A=(σ j).A))) (Gv:(σ 0).V=V0/\(σ 0).A=A0)
  {d:Nat} {row:List CV} {cs:Array Value} {ty:TypeId} {oq:Oper} (hk:zC P all ow σ q d row cs ty oq)
  (hK:K (σ all.size)) (hQ:∀s' g' a' w',K s'->Rp n w0 g0 s' g' a' w'->Q .normal a' w'):
  ∀(fuel:Nat) (ai:Array Bool) (k0:Nat) (g:Gh) (a:Act) (w:World),((Uq all.size).filter fun i=> !ai.getD i true).length<=fuel->
   ((CI all ws σ n w0 g0 ai k0 g a w/\(ai[q]? =some true->∀i∈wt,i<q->ai[i]? =some true))\/((∃i∈wt,i<q/\ai[i]? ≠some true)/\∃b,zB all ws σ n w0 g0 q d row cs ty ai k0 b g a w))->wpAny P .any all Q fuel ai a w:=by
 obtain⟨GB,gm,dQ,DA,wz⟩:=Dz hd;have EM:q<all.size:=(UK.1 hk.at_).1;have wD:∀{ai:Array Bool},Region.ready .any all ai=[]->ai.size=all.size->∀i,i<all.size->ai[i]? =some true:=by
  intro ai hr y5 i;induction i using Ul with
  |_ i ih=>
   intro hi;have ho:all[i]? =some all[i]:=UJ hi;have cg:i<ai.size:=by omega
   cases hl:ai[i]with
   |true=>rw[UJ cg,hl]
   |false=>
    exfalso
    have:i∈Region.ready .any all ai:=mem_ready.2 ⟨by simp[cg,hl],_,ho,fun e he hb=>dH.2 (ih e.on (dQ i _ ho e he hb) (by have:=dQ i _ ho e he hb;omega))⟩;rw[hr]at this;simp at this
 have qk:∀{ai:Array Bool} {k0:Nat} {g:Gh} {a:Act} {w:World},((CI all ws σ n w0 g0 ai k0 g a w/\(ai[q]? =some true->∀i∈wt,i<q->ai[i]? =some true))\/((∃i∈wt,i<q/\ai[i]? ≠some true)/\∃b,zB all ws σ n w0 g0 q d row cs ty ai k0 b g a w))->
   Region.ready .any all ai=[]->Q .normal a w:=by
  intro ai k0 g a w hD hr;rcases hD with⟨hD,_⟩|⟨⟨i,_,hi,hl⟩,b,hD⟩
  rotate_left
  ·have e:=hD.base.fc;simp at e;exact absurd (wD hr e i (by omega)) hl
  have dc:=wD hr hD.fc;have mj:∀(j:Nat) o t,all[j]? =some o->o.dst≠some t->look (σ (j+1)).fr t=look (σ j).fr t:=fun j o t h1 h2=>by
   obtain⟨⟨_,h3⟩,_⟩:=nG j o h1;have ml:∀(x:AV) V A,look ((σ j).put o.dst x V A).fr t=look (σ j).fr t:=fun x V A=>by
    simp only[St.put];cases uJ:o.dst with
    |none=>rfl
    |some d=>simp only[look];rw[if_neg (fun e=>h2 (by rw[uJ,e]))]
   rcases h3 with⟨_,x,V,A,h4,_,_⟩|⟨_,h4⟩
   ·rw[h4];exact ml x V A
   ·rw[h4];exact ml _ _ _
  have s9:∀(j t:Nat),j<=all.size->(∀(i:Nat) o,i<j->all[i]? =some o->o.dst≠some t)->look (σ j).fr t=look (σ 0).fr t:=by
   intro j;induction j with
   |zero=>intro t _ _;rfl
   |succ j ih=>
    intro t hj fx;have ho:all[j]? =some all[j]:=UJ (by omega);rw[mj j _ t ho (fx j _ (by omega) ho)];exact ih t (by omega) (fun i o hi=>fx i o (by omega))
  have tc:∀(j i:Nat) oi t,j<=all.size->i<j->all[i]? =some oi->oi.dst=some t->look (σ j).fr t=look (σ (i+1)).fr t:=by
   intro j;induction j with
   |zero=>intro i oi t _ h;omega
   |succ j ih=>
    intro i oi t hj nS bG c8;by_cases e:i=j
    ·subst e;rfl
    ·have ho:all[j]? =some all[j]:=UJ (by omega);rw[mj j _ t ho (wz i j oi _ t bG ho (by omega) c8)];exact ih i oi t (by omega) (by omega) bG c8
  have xW:∀c,k0<=c->c<=all.size->(σ c).V=(σ k0).V/\(σ c).A=(σ k0).A:=by
   intro c;induction c with
   |zero=>intro h1 _;obtain rfl:k0=0:=by omega
          exact⟨rfl,rfl⟩
   |succ c ih=>
    intro h1 h2;by_cases e:k0=c+1
    ·subst e;exact⟨rfl,rfl⟩
    ·obtain⟨h3,h4⟩:=ih (by omega) (by omega);rcases(nG c _ (UJ (by omega))).2.1 with h5|⟨h5,h6⟩
     ·have:=(hD.fe c h5 (by omega)).1 (dc c (by omega));omega
     ·exact⟨h5.trans h3,h6.trans h4⟩
  have mS:=xW all.size hD.pZ (Uk _);refine hQ _ g a w hK ⟨by rw[mS.1,mS.2];exact hD.inv,hD.fr,hD.size,hD.defers,fun t x hx=>?_⟩;rw[mS.2];by_cases hex:∃(i:Nat) (o:Oper),all[i]? =some o/\o.dst=some t
  ·obtain⟨i,o,ho,c8⟩:=hex;have hi:=(UK.1 ho).1;rw[tc all.size i o t (Uk _) hi ho c8]at hx;exact hD.iq i o t x ho (dc i hi) c8 hx
  ·rw[s9 all.size t (Uk _) (fun i o _ ho c8=>hex ⟨i,o,ho,c8⟩)]at hx;exact hD.ir t x (fun i o ho _ c8=>hex ⟨i,o,ho,c8⟩) hx
 intro fuel;induction fuel with
 |zero=>
  intro ai k0 g a w hf hD;have ql:Region.ready .any all ai=[]:=by
   have h0:((Uq all.size).filter fun i=> !ai.getD i true)=[]:=List.eq_nil_of_length_eq_zero (by omega);rcases hr:Region.ready .any all ai with _|⟨j,r⟩
   ·rfl
   ·have hj:j∈Region.ready .any all ai:=by rw[hr];simp
    obtain⟨h1,o,h2,_⟩:=mem_ready.1 hj;have:j∈((Uq all.size).filter fun i=> !ai.getD i true):=by
     rw[List.mem_filter,UB];exact⟨(UK.1 h2).1,by simp[h1]⟩
    rw[h0]at this;simp at this
  exact⟨ql,qk hD ql⟩
 |succ fuel ih=>
  intro ai k0 g a w hf hD;refine⟨fun hr=>qk hD hr,fun j hj=>?_⟩;obtain⟨p7,o,ho,dI⟩:=mem_ready.1 hj;have sk:=fW p7;have zn:j<all.size:=(UK.1 ho).1;have y5:ai.size=all.size:=by
   rcases hD with⟨hD,_⟩|⟨_,b,hD⟩
   ·exact hD.fc
   ·simpa using hD.base.fc
  have kf:j<ai.size:=by omega
  have cb:∀i,(ai.setIfInBounds j true)[i]? =if i=j then some true else ai[i]? :=fun i=>by
   by_cases e:i=j
   ·subst e;simp[kf]
   ·rw[if_neg e,UL (fun h=>e h.symm)]
  have dN:((Uq all.size).filter fun i=> !(ai.setIfInBounds j true).getD i true).length<=fuel:=by
   have aC:((Uq all.size).filter fun i=> !(ai.setIfInBounds j true).getD i true).length<((Uq all.size).filter fun i=> !ai.getD i true).length:=by
    have gm:∀i,(!(ai.setIfInBounds j true).getD i true)=true->(!ai.getD i true)=true:=fun i h=>by
     by_cases e:i=j
     ·subst e;simp[kf]at h
     ·have:(ai.setIfInBounds j true).getD i true=ai.getD i true:=by
       simp only[UO,cb,if_neg e]
      rwa[this]at h
    exact filter_lt gm (UB.2 zn) (by simp[p7]) (by simp[kf])
   omega
  have du:∀e∈o.after,Region.binds .any e=true->ai[e.on]? =some true:=fun e he hb=>dH.1 (dI e he hb)
  rcases hD with⟨hD,hL⟩|⟨⟨i0,HJ,IM,EG⟩,b,hD⟩
  ·by_cases CJ:j=q/\∃i∈wt,i<q/\ai[i]? ≠some true
   ·-- the allocation, before its turn
    obtain⟨rfl,hex⟩:=CJ;obtain rfl:o=oq:=by have:=hk.at_;rw[ho]at this;exact Option.some.inj this
    unfold wpOp;simp only[ho];rw[if_pos (by simp[Region.wanted,hk.guard])];refine .inl ?_;unfold Oper.wp;rw[hk.run];obtain⟨g1,ve,eK,cJ⟩:=hD.inv.dG (.cells cs ty) 0;have ju:=(Fr.refl hD.fr.now).dG (.cells cs ty) 0;rw[<-ve]at ju;have ml:∀t,t≠d->(a.put o.dst (.pointer (some ⟨w.heap.size,0,none⟩))).tmps[t]? =a.tmps[t]? :=fun t ht=>by
     rw[hk.dst];simp only[Act.put];rw[UL (fun e=>ht e.symm)]
    have BF:d<n:=by
     have:=Uu.1 gn o (by rw[UM];exact UN ho);simpa[hk.dst]using this
    refine ih _ k0 g1 _ _ dN (.inr ⟨?_,w.heap.size,⟨by rw[cb,if_pos rfl],?_,?_,heap_alloc_new w _,fun hm=>?_,fun hm=>?_,by rw[ve];simp,hD.fr.size,by simp,fun i oi bG cg e he hb=>?_⟩⟩)
    ·obtain⟨i,hw,hi,hl⟩:=hex;exact⟨i,hw,hi,by rw[cb,if_neg (by omega)];exact hl⟩
    ·rw[HI ai j (by rw[sk];simp) kf];refine⟨eK,hD.fr.ye ju,by rw[hk.dst];simp[Act.put,hD.size],by rw[hk.dst];simp[Act.put,hD.defers],hD.fc,fun i oi t x bG cg c8 hx=>?_,fun t x fx hx=>?_,hD.fe,hD.pZ,hD.kw,hD.closed⟩
     ·have nS:i≠j:=fun e=>by subst e;rw[sk]at cg;simp at cg
      have M3:t≠d:=fun e=>by
       subst e;exact wz i j oi o t bG ho nS c8 hk.dst
      obtain⟨u,h1,h2⟩:=hD.iq i oi t x bG cg c8 hx;exact⟨u,by rw[ml t M3];exact h1,aU.ext cJ h2⟩
     ·have M3:t≠d:=fun e=>by
       subst e;rw[hk.s0]at hx;simp at hx
      obtain⟨u,h1,h2⟩:=hD.ir t x fx hx;exact⟨u,by rw[ml t M3];exact h1,aU.ext cJ h2⟩
    ·have:d<a.tmps.size:=by rw[hD.size];exact BF
     rw[hk.dst];simp[Act.put,this]
    ·rw[ve]at hm;obtain⟨l,hl⟩:=List.getElem?_of_mem hm;have:=hD.inv.oU hl;omega
    ·rw[ve]at hm;obtain⟨k,v',q1,q2⟩:=Gh.eG (g:=g) (by simpa[Gh.gC]using hm);have:=hD.inv.kN q1 q2;omega
    ·rw[cb]at cg⊢;have:ai[e.on]? =some true:=by
      by_cases e':i=j
      ·subst e';obtain rfl:o=oi:=by rw[ho]at bG;exact Option.some.inj bG
       exact du e he hb
      ·rw[if_neg e']at cg;exact hD.closed i oi bG cg e he hb
     by_cases e':e.on=j
     ·rw[if_pos e']
     ·rw[if_neg e'];exact this
   ·refine vA hd gn nG Gv hD hL hj (fun e i hw hi=>?_) fun k1 o' g' a' w' yW gH JS hF=>ih _ k1 g' a' w' dN (.inl ⟨JS,fun hl i hw hi=>?_⟩)
    ·by_cases hc:ai[i]? =some true
     ·exact hc
     ·exact absurd ⟨e,i,hw,hi,hc⟩ CJ
    ·rw[cb];by_cases e:i=j
     ·rw[if_pos e]
     ·rw[if_neg e];by_cases e':j=q
      ·by_cases hc:ai[i]? =some true
       ·exact hc
       ·exact absurd ⟨e',i,hw,hi,hc⟩ CJ
      ·rw[cb,if_neg (fun h=>e' h.symm)]at hl;exact hL hl i hw hi
  ·-- with the block at hand
   have CJ:j≠q:=fun e=>by subst e;rw[hD.IY]at sk;simp at sk
   have Qn:j<q:=by
    rcases Uo j q with h|h|h
    ·exact h
    ·exact absurd h CJ
    ·exact absurd (rk dQ hD.closed j o ho du i0 (DA i0 j _ o (UJ (by omega)) ho HJ (by omega) h)) EG
   have Fq:j∈Region.ready .any all (ai.setIfInBounds q false):=by
    refine mem_ready.2 ⟨?_,o,ho,fun e he hb=>dH.2 ?_⟩
    ·have:(ai.setIfInBounds q false)[j]? =some false:=by rw[UL (fun h=>CJ h.symm)];exact sk
     simp[UO,this]
    ·have aC:=dQ j o ho e he hb;rw[UL (by omega)];exact du e he hb
   have Qo:q<ai.size:=by omega
   refine vA hd gn nG Gv hD.base (fun hl=>by simp[Qo]at hl) Fq (fun e=>absurd e CJ) fun k1 o' g' a' w' yW gH JS hF=>?_
   have GD:=hD.step CJ (gH d fun e=>wz j q o' oq d yW hk.at_ CJ e hk.dst) JS hF (fun i oi bG cg e he hb=>by
    rw[cb]at cg⊢;have:ai[e.on]? =some true:=by
     by_cases e':i=j
     ·subst e';obtain rfl:o=oi:=by rw[ho]at bG;exact Option.some.inj bG
      exact du e he hb
     ·rw[if_neg e']at cg;exact hD.closed i oi bG cg e he hb
    by_cases e':e.on=j
    ·rw[if_pos e']
    ·rw[if_neg e'];exact this)
   by_cases hx:∃i∈wt,i<q/\(ai.setIfInBounds j true)[i]? ≠some true
   ·exact ih _ k1 g' a' w' dN (.inr ⟨hx,b,GD⟩)
   ·have dc:∀i∈wt,i<q->(ai.setIfInBounds j true)[i]? =some true:=fun i hw hi=>by
     by_cases hc:(ai.setIfInBounds j true)[i]? =some true
     ·exact hc
     ·exact absurd ⟨i,hw,hi,hc⟩ hx
    obtain⟨g'',hD''⟩:=GD.MX hd hk (fun j o ho=>(nG j o ho).2.1) dc;exact ih _ (q+1) g'' a' w' dN (.inl ⟨hD'',fun _=>dc⟩)
theorem T.wE {id:Nat} {ops:Array Oper} (hm:P.follows .mixedOrders=true) (ow:Nat->Bool) (ws fs:List Nat) (m:Nat) (ex:List Nat) (q:Nat) (wt:List Nat) (d:Nat) {e:TypeId} {D:TD} {row:List CV} {oq:Oper} (hd:jJ ops ws fs m q wt=true)
  (hq:ops[q]? =some oq) (jf:oq.op=.alloc e) (hg:oq.guard=none) (Ls:oq.dst=some d) (ht:td P e=some D) (hz:D.zero=some row) (EK:look s.fr d=none)
  (h:lJ P ops ow ws fs m ex s.V s.A (fun s'=>Q .normal s') 0 ops.toList s):T P n (.region id ops true) Q s:=by
 intro eC w0 g0 g a w hR;obtain⟨σ,h0,hK,nG⟩:=jH ops.toList 0 s h;obtain⟨hI,hx⟩:=hR.inv.heap (w':={w with drawn:=w.drawn+1}) rfl;obtain⟨inf,hi,_,_,Qp⟩:=eY ht;obtain⟨v,hv,hc⟩:=Qp _ hz;have JT:∀(j:Nat) o,ops[j]? =some o->Dt P ops (ow j) fs j ex s.V s.A o (σ j) (σ (j+1))/\(j∈ws\/((σ (j+1)).V=(σ j).V/\(σ (j+1)).A=(σ j).A))/\(j<m->Hz ex s.V s.A (σ (j+1))\/((σ (j+1)).V=(σ j).V/\(σ (j+1)).A=(σ j).A)):=fun j o ho=>by
  have:=nG j o (by simpa using ho);simpa only[Un]using this
 have dB:σ (q+1)=(σ q).put (some d) (.c (.ptr (σ q).V.length 0)) ((σ q).V++[row]) (σ q).A:=by
  rcases(JT q oq hq).1.2 with⟨_,x,V,A,h1,h2,_⟩|⟨h1,_⟩
  ·have h3:=h2 (fun y V' A'=>y=x/\V'=V/\A'=A) ⟨rfl,rfl,rfl⟩;simp only[bJ,jf,dF,bE,ht,hz]at h3;obtain⟨rfl,rfl,rfl⟩:=h3;rw[h1,Ls]
  ·simp[gw,hg]at h1
 have sA:zC P ops ow σ q d row v.cells e oq:=by
  refine⟨hq,hg,Ls,by rw[h0];exact EK,?_,fun j c u h1 h2 g w A=>?_,dB,fun a w=>?_⟩
  ·have:=gI hc;simpa using this
  ·exact kO (l7 hc j c u h1 (by simpa using h2))
  ·simp[execOp,jf,Instr.alloc,zeroValue,typeInfo,hi,hv,newVar,gJ]
 refine wp_region_any hm (yg (ex:=ex) (K:=fun s'=>Q .normal s') (w0:=w0) (g0:=g0) (n:=n) (σ:=σ) (ow:=ow) hd eC JT ⟨by rw[h0],by rw[h0]⟩ sA ?_ (fun s' g' a' w' h1 h2=>⟨s',g',h1,h2⟩) ops.size (Array.replicate ops.size false) 0 g a _ ?_ (.inl ⟨?_,fun hl=>?_⟩))
 ·simpa using hK
 ·exact Um (List.length_filter_le _ _) (by simp)
 ·refine⟨by rw[h0];exact hI,hR.fr.heap rfl rfl rfl rfl,hR.size,hR.defers,by simp,fun i o t x ho hl=>?_,fun t x _ jc=>?_,fun i _ cr=>?_,Nat.zero_le _,.inl rfl,fun i o ho hl=>?_⟩
  ·have hi:=(UK.1 ho).1;simp[hi]at hl
  ·rw[h0]at jc⊢;obtain⟨u,h1,h2⟩:=hR.slot t x jc;exact⟨u,h1,aU.ext hx h2⟩
  ·simp[cr]
  ·have hi:=(UK.1 ho).1;simp[hi]at hl
 ·have hi:=(UK.1 hq).1;simp[hi]at hl
theorem T.Lt {id:Nat} {l:List Oper} {y:Code} (hm:P.follows .mixedOrders=true) (ow:Nat->Bool) (ws fs:List Nat) (m:Nat) (ex:List Nat) (q:Nat) (wt:List Nat) (d:Nat) {e:TypeId} {D:TD} {row:List CV} {oq:Oper} (hd:jJ l.toArray ws fs m q wt=true)
  (hq:l.toArray[q]? =some oq) (jf:oq.op=.alloc e) (hg:oq.guard=none) (Ls:oq.dst=some d) (ht:td P e=some D) (hz:D.zero=some row) (EK:look s.fr d=none)
  (h:∀K:St->Prop,(∀s',T P n y Q s'->K s')->pq P l.toArray ow ws fs m ex s.V s.A K 0 l s):T P n (.seq (.region id l.toArray true) y) Q s:=
 T.seq (T.wE hm ow ws fs m ex q wt d hd hq jf hg Ls ht hz EK (h _ fun _ h=>h).run)
end
end Go.Av
namespace Go.Av
attribute [-simp] Go.Av.bJ Go.Av.dF Go.Av.fT Go.Av.bE Go.Av.bA Go.Av.fz Go.Av.jP Go.Av.oX Go.Av.j8 Go.Av.wk Go.Av.rowsOf Go.Av.look Go.Av.qb Go.Av.St.put Go.Av.eX Go.Av.Bw Go.Av.bH Go.Av.wi Go.Av.E0 Go.Av.oW Go.Av.oV Go.Av.AB Go.Av.AV.plain Go.Av.AV.cells Go.Av.CV.hM Go.Av.lS Go.Av.fK Go.Av.iC Go.Av.er Go.Av.bC Go.Av.fA Go.Av.AV.iI Go.Av.CV.iI Go.Av.kR Go.Av.AV.ej Go.Av.CV.ej Go.Av.bq Go.Av.fL Go.Av.ie Go.Av.lG Go.Av.cG Go.Av.eD Go.Av.qY Go.Av.AV.nF Go.Av.CV.res Go.Av.me Go.Av.pos? Go.Av.sV Go.Av.s5 Go.Av.eZ Go.Av.Sub Go.Av.iu Go.Av.iJ Go.Av.fX Go.Av.e7 Go.Av.fY Go.Av.e8 Go.Av.aH.bT Go.Av.aH.bU Go.Av.an.bT Go.Av.an.jG Go.Av.an.ou Go.Av.an.re Go.Av.an.rf Go.Av.an.jh Go.Av.an.bU Go.Av.cW Go.Av.rh Go.Av.eU Go.Av.fP Go.Av.b7
open Go
def Qq:Op->Bool
 |.call {callee:=.value _,.. }=>true
 |_=>false
def M4 (o:Op):Bool:=Lo o||Qq o
def Fs (all:Array Oper) (wv wa fs:List Nat) (m:Nat) (ms:List Nat) (oi oj:Oper) (i j:Nat):Bool:=
 (oi.dst.isNone||oi.dst !=oj.dst)&&((!eh all oi oj && !eh all oj oi &&
  !((wv.contains i||wa.contains i)&& !cG oj.op && !(fs.contains j && decide (i<m))&& !(wv.contains i && wa.contains j)&& !(wa.contains i && wv.contains j))&&
  !((wv.contains j||wa.contains j)&& !cG oi.op && !(fs.contains i && decide (j<m))&& !(wv.contains j && wa.contains i)&& !(wa.contains j && wv.contains i)))||(ms.getD j 0).testBit i)
def Lu (all:Array Oper) (wv wa fs:List Nat) (m:Nat):Bool:=
 let l:=all.toList.zipIdx
 let ms:=bD all.toList []
 (l.all fun(o,j)=>o.after.toList.all fun e=> !Region.binds .any e||decide (e.on<j))&&
 (l.all fun(oj,j)=>l.all fun(oi,i)=> !(decide (i<j))||Fs all wv wa fs m ms oi oj i j)&&
 (l.all fun(o,j)=>(!wv.contains j|| !cG o.op)&&(!wa.contains j||M4 o.op))&&(fs.all fun j=> !wv.contains j && !wa.contains j)&&
 (fs.all fun j=>(wv++wa).all fun i=>decide (i<m)||decide (j<i))&&(wv.all fun j=> !wa.contains j)
def DB (P:Program) (all:Array Oper) (ow:Nat->Bool) (wv wa fs:List Nat) (m:Nat) (ex:List Nat) (V0:List (List CV)) (A0:List bp) (K:St->Prop):Nat->List Oper->St->Prop
 |_,[],s=>K s
 |i,o::rest,s=>fT all s o (bJ P s (ow i) o fun x V A=>((i∈wv\/V=s.V)/\(i∈wa\/A=s.A))/\(i∈wv\/i∈wa->i<m->V.take V0.length=rh ex (fun i=>V.getD i []) V0/\A.take A0.length=A0)/\(i∈fs->cW P s (ow i) o ex V0 A0 x)/\
   (i∈wv->∀A2,bJ P ⟨s.fr,s.V,A2⟩ (ow i) o fun y V' A'=>y=x/\V'=V/\A'=A2)/\(i∈wa->Lo o.op=false->∀V2,bJ P ⟨s.fr,V2,s.A⟩ (ow i) o fun y V' A'=>y=x/\V'=V2/\A'=A)/\DB P all ow wv wa fs m ex V0 A0 K (i+1) rest (s.put o.dst x V A)) (DB P all ow wv wa fs m ex V0 A0 K (i+1) rest (s.put o.dst (.c .undef) s.V s.A))
section
variable {P:Program} {n:Nat} {Q Q':Exit->St->Prop} {s s':St} {w0:World} {g0 g g':Gh} {a:Act} {w w':World} {V:List (List CV)} {A A':List bp}
def Qr (P:Program) (all:Array Oper) (ow:Bool) (wv wa fs:List Nat) (j:Nat) (ex:List Nat) (V0:List (List CV)) (A0:List bp) (o:Oper) (s s':St):Prop:=
 fT all s o True True/\((gw all s o=true/\∃x V A,s'=s.put o.dst x V A/\(∀K:AV->List (List CV)->List bp->Prop,K x V A->bJ P s ow o K)/\(j∈fs->cW P s ow o ex V0 A0 x)/\
  (j∈wv->∀A2,bJ P ⟨s.fr,s.V,A2⟩ ow o fun y V' A'=>y=x/\V'=V/\A'=A2)/\(j∈wa->Lo o.op=false->∀V2,bJ P ⟨s.fr,V2,s.A⟩ ow o fun y V' A'=>y=x/\V'=V2/\A'=A))\/(gw all s o=false/\s'=s.put o.dst (.c .undef) s.V s.A))
structure RE (all:Array Oper) (wv wa:List Nat) (σ:Nat->St) (n:Nat) (w0:World) (g0:Gh) (ai:Array Bool) (kv ka:Nat) (g:Gh) (a:Act) (w:World):Prop where
 inv:Inv g w (σ kv).V (σ ka).A
 fr:Fr w0 g0 w g
 size:a.tmps.size=n
 defers:a.defers=[]
 fc:ai.size=all.size
 iq:∀(i:Nat) o t x,all[i]? =some o->ai[i]? =some true->o.dst=some t->look (σ (i+1)).fr t=some x->∃u,a.tmps[t]? =some u/\aU g w (σ ka).A x u
 ir:∀t x,(∀(i:Nat) o,all[i]? =some o->ai[i]? =some true->o.dst≠some t)->look (σ 0).fr t=some x->∃u,a.tmps[t]? =some u/\aU g w (σ ka).A x u
 JQ:∀i∈wv,i<all.size->(ai[i]? =some true↔i<kv)
 JR:∀i∈wa,i<all.size->(ai[i]? =some true↔i<ka)
 Qi:kv<=all.size
 Qj:ka<=all.size
 vw:kv=0\/∃i∈wv,kv=i+1
 aw:ka=0\/∃i∈wa,ka=i+1
 closed:∀(i:Nat) o,all[i]? =some o->ai[i]? =some true->∀e∈o.after,Region.binds .any e=true->ai[e.on]? =some true
end
end Go.Av
