/- A part. -/
import Derived.Test.YtloolmchekcmeaaGreatXE2
set_option linter.unusedVariables false
set_option linter.unusedSimpArgs false
open Int renaming emod_eq_of_lt->XY
open Option renaming bind_some->XZ
open Nat renaming lt_or_ge->X0,le_refl->X1,strongRecOn->X2,le_trans->X3,zero_add->X4,lt_trichotomy->X5,lt_of_lt_of_le->X6
open List renaming range->X7,mem_append->X8,length_nil->X9,getD->Ya,all_eq_true->Yb,map_cons->Yc,length_cons->Yd,map_append->Ye,getElem?_eq_some_iff->Yf,getElem?_append_left->Yg,take_append_drop->Yh,mem_range->Yi,mem_iff_getElem?->Yj,map_nil->Yk,getElem?_zipIdx->Yl,contains_eq_mem->Ym,append_assoc->Yn
open Bool renaming and_eq_true->Yo,or_eq_true->Yp
open Array renaming getElem?_eq_getElem->Yq,getElem?_eq_some_iff->Yr,getElem?_setIfInBounds_ne->Ys,mem_toList_iff->Yt,mem_of_getElem?->Yu,getD_eq_getD_getElem?->Yv
namespace Go.Av
attribute [-simp] Go.Av.aE.b4 Go.Av.aE.bQ Go.Av.ao.b4 Go.Av.ao.lX Go.Av.ao.q7 Go.Av.ao.sd Go.Av.ao.se Go.Av.ao.lp Go.Av.ao.bQ
open Go
section
variable {P:Program} {n:Nat} {Q:Exit->St->Prop} {s s':St} {y:Code}
structure si (P:Program) (all:Array Oper) (ow:Nat->Bool) (ws fs:List Nat) (m:Nat) (ex:List Nat) (V0:List (List CV)) (A0:List bu) (K:St->Prop) (i:Nat) (ops:List Oper) (s:St):Prop where
 mk::
 run:oG P all ow ws fs m ex V0 A0 K i ops s
theorem bO {all:Array Oper} {ow:Nat->Bool} {ws fs:List Nat} {m:Nat} {ex:List Nat} {V0:List (List CV)} {A0:List bu} {K:St->Prop} {i:Nat} {o:Oper} {rest:List Oper}
  (h:gX all s o (bH P s (ow i) o fun x V A=>(i∈ws\/(V=s.V/\A=s.A))/\(i∈ws->i<m->V.take V0.length=rN ex (fun i=>V.getD i []) V0/\A.take A0.length=A0)/\(i∈fs->dw P s (ow i) o ex V0 A0 x)/\si P all ow ws fs m ex V0 A0 K (i+1) rest (s.put o.dst x V A)) (si P all ow ws fs m ex V0 A0 K (i+1) rest (s.put o.dst (.c .undef) s.V s.A))):si P all ow ws fs m ex V0 A0 K i (o::rest) s:=
 ⟨nI (fun h=>fV (fun _ _ _ h=>⟨h.1,h.2.1,h.2.2.1,h.2.2.2.run⟩) h) (fun h=>h.run) h⟩
theorem bz {all:Array Oper} {ow:Nat->Bool} {ws fs:List Nat} {m:Nat} {ex:List Nat} {V0:List (List CV)} {A0:List bu} {K:St->Prop} {i:Nat} (h:K s):si P all ow ws fs m ex V0 A0 K i [] s:=⟨h⟩
theorem T.pB {id:Nat} {l:List Oper} (hm:P.follows .mixedOrders=true) (ow:Nat->Bool) (ws fs:List Nat) (m:Nat) (ex:List Nat) (hd:iu l.toArray ws fs m=true) (h:∀K:St->Prop,(∀s',T P n y Q s'->K s')->si P l.toArray ow ws fs m ex s.V s.A K 0 l s):T P n (.seq (.region id l.toArray true) y) Q s:=
 T.seq (T.sh hm ow ws fs m ex hd (h _ fun _ h=>h).run)
theorem T.Df {id:Nat} {l:List Oper} (hm:P.follows .mixedOrders=true) (ow:Nat->Bool) (ws fs:List Nat) (m:Nat) (ex:List Nat) (hd:iu l.toArray ws fs m=true) (h:∀K:St->Prop,(∀s',Q .normal s'->K s')->si P l.toArray ow ws fs m ex s.V s.A K 0 l s):T P n (.region id l.toArray true) Q s:=
 T.sh hm ow ws fs m ex hd (h _ fun _ h=>h).run
@[congr] theorem Lu {all:Array Oper} {ow:Nat->Bool} {ws fs:List Nat} {m:Nat} {ex:List Nat} {V0:List (List CV)} {A0:List bu} {K:St->Prop} {i i':Nat} {ops:List Oper} (hi:i=i') (h:s=s'):si P all ow ws fs m ex V0 A0 K i ops s=si P all ow ws fs m ex V0 A0 K i' ops s':=by rw[h,hi]
theorem si.gen {all:Array Oper} {ow:Nat->Bool} {ws fs:List Nat} {m:Nat} {ex:List Nat} {V0:List (List CV)} {A0:List bu} {K:St->Prop} {i:Nat} {ops:List Oper} {d:Nat} {b:Bool} {fr:List (Nat×AV)} {V:List (List CV)} {A:List bu}
  (h:∀q:Bool,b=q->si P all ow ws fs m ex V0 A0 K i ops ⟨(d,.c (.d (.bool q)))::fr,V,A⟩):si P all ow ws fs m ex V0 A0 K i ops ⟨(d,.c (.d (.bool b)))::fr,V,A⟩:=h b rfl
end
section
variable {P:Program} {s:St} {r:AV}
theorem aD.wK (l:Nat) {fn:Func} {e:Exit} {row:List DV} (he:e=.normal\/e=.ret) (hr:(e8 P s fn.results.toList).bind (aF s.A [l] [])=some [r]) (hV:s.V[l]? =some (row.map CV.d)):aD P fn 0 r (dV [row]) [] e s:=by
 cases hx:e8 P s fn.results.toList with
 |none=>rw[hx]at hr;simp at hr
 |some xs=>
  rw[hx]at hr;refine⟨he,[l],[],xs,[r],hx,List.nodup_nil,by simp,by simp,hr,rfl,?_,rfl⟩;refine wb [l] [row] rfl ?_;intro j l' row' h1 h2
  match j with
  |0=>simp at h1 h2;subst h1;subst h2;exact hV
  |j+1=>simp at h1
end
attribute [simp] dw rN
end Go.Av
namespace Go.Av
open Go
def rB (b:List Int):List (List DV):=b.map fun n=>[.int .u8 n]
def okB (b:List Int):Prop:=(∀n∈b,0<=n/\n<=255)/\b.length<=2000
abbrev rd (b:List Int) (p:Nat):List DV:=[.sl (rB b),.i p]
theorem gP (b:List Int):(rB b).length=b.length:=by simp[rB]
theorem NM {b:List Int} {i:Nat} (h:i<b.length):(rB b)[i]? =some [.int .u8 b[i]]:=by simp[rB,h]
theorem Ae {b:List Int} {i:Nat} (h:i<(rB b).length):(rB b)[i]=[.int .u8 (b[i]'(by simpa[rB]using h))]:=by simp[rB]
theorem Ew {a n:Int} (ha:0<=a) (hn:0<n):0<=a.tmod n/\a.tmod n<n:=by
 rw[Int.tmod_eq_emod_of_nonneg ha];exact⟨Int.emod_nonneg _ (by omega),Int.emod_lt_of_pos _ hn⟩
theorem tdiv_le {a n:Int} (ha:0<=a) (hn:0<n):0<=a.tdiv n/\a.tdiv n<=a:=by
 rw[Int.tdiv_eq_ediv_of_nonneg ha];exact⟨Int.ediv_nonneg ha (by omega),Int.ediv_le_self _ ha⟩
theorem FA {x y:Int} (hx:0<=x) (gp:x<4611686018427387904) (hy:0<=y) (Px:y<4611686018427387904):0<=A4 .xor .i64 x y/\A4 .xor .i64 x y<4611686018427387904:=by
 have h1:(BitVec.ofInt 64 x).toNat=x.toNat:=by
  rw[BitVec.toNat_ofInt,XY hx (by omega)]
 have h2:(BitVec.ofInt 64 y).toNat=y.toNat:=by
  rw[BitVec.toNat_ofInt,XY hy (by omega)]
 have h3:(BitVec.ofInt 64 x ^^^ BitVec.ofInt 64 y).toNat=x.toNat ^^^ y.toNat:=by rw[BitVec.toNat_xor,h1,h2]
 have h4:x.toNat ^^^ y.toNat<2 ^ 62:=Nat.xor_lt_two_pow (by omega) (by omega);have h5:A4 .xor .i64 x y=IntKind.i64.wrap ((x.toNat ^^^ y.toNat:Nat):Int):=by
  show IntKind.i64.wrap ((BitVec.ofInt 64 x ^^^ BitVec.ofInt 64 y).toNat:Int)=_;rw[h3]
 rw[h5,wrap64 (by omega) (by omega)];omega
section
variable {P:Program} {s:St}
theorem tI {all:Array Oper} {o:Oper} {y n:Prop} (h:gX all s o True True) (hy:gw all s o=true->y) (hn:gw all s o=false->n):gX all s o y n:=by
 unfold gX at h⊢;unfold gw at hy hn;cases hg:o.guard with
 |none=>rw[hg]at hy;exact hy rfl
 |some p=>
  obtain⟨j,want⟩:=p;rw[hg]at h hy hn;refine aj h fun oj h1 h2=>aj h2 fun t h3 h4=>aj h4 fun x h5 h6=>?_
  simp only[h1,XZ,h3,h5]at hy hn;show bS (all[j]?) _;rw[h1];show bS oj.dst _;rw[h3];show bS (look s.fr t) _;rw[h5];simp only[bS];split at h6
  ·rename_i b;simp only[beq_iff_eq,beq_eq_false_iff_ne]at hy hn;exact⟨fun e=>hy e,fun e=>hn (by subst e;cases want<;>decide)⟩
  ·exact hn rfl
  ·exact h6.elim
theorem sj {all:Array Oper} {ow:Nat->Bool}:∀(ops:List Oper) (i:Nat) (s:St) {K:St->Prop},wM P all ow K i ops s->∃s',K s'/\∀K':St->Prop,K' s'->wM P all ow K' i ops s
 |[],i,s,K,h=>⟨s,h,fun K' h=>h⟩
 |o::rest,i,s,K,h=>by
  simp only[wM]at h;obtain⟨h0,hg⟩:=fO h;rcases h0 with⟨h1,h2⟩|⟨h1,h2⟩
  ·obtain⟨x,V,A,h3,h4⟩:=fU h2;obtain⟨s',h5,h6⟩:=sj rest (i+1) _ h3;refine⟨s',h5,fun K' zd=>?_⟩;simp only[wM];exact tI hg (fun _=>h4 _ (h6 K' zd)) (fun e=>by rw[h1]at e;cases e)
  ·obtain⟨s',h5,h6⟩:=sj rest (i+1) _ h2;refine⟨s',h5,fun K' zd=>?_⟩;simp only[wM];exact tI hg (fun e=>by rw[h1]at e;cases e) (fun _=>h6 K' zd)
theorem qa {all:Array Oper} {ow:Nat->Bool} {ws:List Nat}:∀(ops:List Oper) (i:Nat) (s:St) {K:St->Prop},pk P all ow ws K i ops s->∃s',K s'/\∀K':St->Prop,K' s'->pk P all ow ws K' i ops s
 |[],i,s,K,h=>⟨s,h,fun K' h=>h⟩
 |o::rest,i,s,K,h=>by
  simp only[pk]at h;obtain⟨h0,hg⟩:=fO h;rcases h0 with⟨h1,h2⟩|⟨h1,h2⟩
  ·obtain⟨x,V,A,⟨h3,s5⟩,h4⟩:=fU h2;obtain⟨s',h5,h6⟩:=qa rest (i+1) _ s5;refine⟨s',h5,fun K' zd=>?_⟩;simp only[pk];exact tI hg (fun _=>h4 _ ⟨h3,h6 K' zd⟩) (fun e=>by rw[h1]at e;cases e)
  ·obtain⟨s',h5,h6⟩:=qa rest (i+1) _ h2;refine⟨s',h5,fun K' zd=>?_⟩;simp only[pk];exact tI hg (fun e=>by rw[h1]at e;cases e) (fun _=>h6 K' zd)
theorem qb {all:Array Oper} {ow:Nat->Bool} {ws fs:List Nat} {m:Nat} {ex:List Nat} {V0:List (List CV)} {A0:List bu}:∀(ops:List Oper) (i:Nat) (s:St) {K:St->Prop},oG P all ow ws fs m ex V0 A0 K i ops s->∃s',K s'/\∀K':St->Prop,K' s'->oG P all ow ws fs m ex V0 A0 K' i ops s
 |[],i,s,K,h=>⟨s,h,fun K' h=>h⟩
 |o::rest,i,s,K,h=>by
  simp only[oG]at h;obtain⟨h0,hg⟩:=fO h;rcases h0 with⟨h1,h2⟩|⟨h1,h2⟩
  ·obtain⟨x,V,A,⟨h3,s5,h3'',Uf⟩,h4⟩:=fU h2;obtain⟨s',h5,h6⟩:=qb rest (i+1) _ Uf;refine⟨s',h5,fun K' zd=>?_⟩;simp only[oG];exact tI hg (fun _=>h4 _ ⟨h3,s5,h3'',h6 K' zd⟩) (fun e=>by rw[h1]at e;cases e)
  ·obtain⟨s',h5,h6⟩:=qb rest (i+1) _ h2;refine⟨s',h5,fun K' zd=>?_⟩;simp only[oG];exact tI hg (fun e=>by rw[h1]at e;cases e) (fun _=>h6 K' zd)
end
section
variable {P:Program} {n:Nat} {ι:Type} {Q:ι->Exit->St->Prop} {s s':St}
def TX (P:Program) (n:Nat) (c:Code) (Q:ι->Exit->St->Prop) (s:St):Prop:=∃x,T P n c (Q x) s
def EX (Q:ι->Exit->St->Prop) (e:Exit) (s:St):Prop:=∃x,Q x e s
theorem TX.seq {x y:Code} (h:TX P n x (fun i=>wN P n y (Q i)) s):TX P n (.seq x y) Q s:=h.imp fun _ h=>T.seq h
theorem TX.skip (h:EX Q .normal s):TX P n .skip Q s:=h.imp fun _ h=>T.skip h
theorem TX.exit {id:Nat} (h:EX Q (.exit id) s):TX P n (.exit id) Q s:=h.imp fun _ h=>T.exit h
theorem TX.ret (h:EX Q .ret s):TX P n .ret Q s:=h.imp fun _ h=>T.ret h
theorem TX.block {id:Nat} {c:Code} (h:TX P n c (fun i=>gC id (Q i)) s):TX P n (.block id c) Q s:=h.imp fun _ h=>T.block h
theorem TX.cond {c:Operand} {x y:Code} {b:Bool} (hc:bE s c=some (.c (.d (.bool b)))) (ht:b=true->TX P n x Q s) (hf:b=false->TX P n y Q s):TX P n (.cond c x y) Q s:=by
 cases b
 ·exact(hf rfl).imp fun _ h=>T.cond hc (fun e=>by cases e) (fun _=>h)
 ·exact(ht rfl).imp fun _ h=>T.cond hc (fun _=>h) (fun e=>by cases e)
section
variable {id:Nat} {l:List Oper} {y:Code}
theorem TX.rs (ow:Nat->Bool) (h:∀K:St->Prop,(∀s',TX P n y Q s'->K s')->CO P l.toArray ow K 0 l s):TX P n (.seq (.region id l.toArray false) y) Q s:=by
 obtain⟨s',⟨x,hx⟩,h2⟩:=sj l 0 s (h (fun s'=>TX P n y Q s') fun _ h=>h).run;exact⟨x,T.rs ow fun K hK=>⟨h2 _ (hK _ hx)⟩⟩
theorem TX.eH (ow:Nat->Bool) (h:∀K:St->Prop,(∀s',EX Q .normal s'->K s')->CO P l.toArray ow K 0 l s):TX P n (.region id l.toArray false) Q s:=by
 obtain⟨s',⟨x,hx⟩,h2⟩:=sj l 0 s (h (fun s'=>EX Q .normal s') fun _ h=>h).run;exact⟨x,T.eH ow fun K hK=>⟨h2 _ (hK _ hx)⟩⟩
theorem TX.rd (hm:P.follows .mixedOrders=true) (ow:Nat->Bool) (ws:List Nat) (hd:ej l.toArray ws=true) (h:∀K:St->Prop,(∀s',TX P n y Q s'->K s')->tG P l.toArray ow ws K 0 l s):TX P n (.seq (.region id l.toArray true) y) Q s:=by
 obtain⟨s',⟨x,hx⟩,h2⟩:=qa l 0 s (h (fun s'=>TX P n y Q s') fun _ h=>h).run;exact⟨x,T.rd hm ow ws hd fun K hK=>⟨h2 _ (hK _ hx)⟩⟩
theorem TX.yi (hm:P.follows .mixedOrders=true) (ow:Nat->Bool) (ws:List Nat) (hd:ej l.toArray ws=true) (h:∀K:St->Prop,(∀s',EX Q .normal s'->K s')->tG P l.toArray ow ws K 0 l s):TX P n (.region id l.toArray true) Q s:=by
 obtain⟨s',⟨x,hx⟩,h2⟩:=qa l 0 s (h (fun s'=>EX Q .normal s') fun _ h=>h).run;exact⟨x,T.yi hm ow ws hd fun K hK=>⟨h2 _ (hK _ hx)⟩⟩
theorem TX.pB (hm:P.follows .mixedOrders=true) (ow:Nat->Bool) (ws fs:List Nat) (m:Nat) (ex:List Nat) (hd:iu l.toArray ws fs m=true) (h:∀K:St->Prop,(∀s',TX P n y Q s'->K s')->si P l.toArray ow ws fs m ex s.V s.A K 0 l s):TX P n (.seq (.region id l.toArray true) y) Q s:=by
 obtain⟨s',⟨x,hx⟩,h2⟩:=qb l 0 s (h (fun s'=>TX P n y Q s') fun _ h=>h).run;exact⟨x,T.pB hm ow ws fs m ex hd fun K hK=>⟨h2 _ (hK _ hx)⟩⟩
theorem TX.Df (hm:P.follows .mixedOrders=true) (ow:Nat->Bool) (ws fs:List Nat) (m:Nat) (ex:List Nat) (hd:iu l.toArray ws fs m=true) (h:∀K:St->Prop,(∀s',EX Q .normal s'->K s')->si P l.toArray ow ws fs m ex s.V s.A K 0 l s):TX P n (.region id l.toArray true) Q s:=by
 obtain⟨s',⟨x,hx⟩,h2⟩:=qb l 0 s (h (fun s'=>EX Q .normal s') fun _ h=>h).run;exact⟨x,T.Df hm ow ws fs m ex hd fun K hK=>⟨h2 _ (hK _ hx)⟩⟩
end
theorem EX.ij {c:Code} (h:TX P n c Q s):EX (fun i=>wN P n c (Q i)) .normal s:=h
theorem EX.il {c:Code} (h:EX Q .ret s):EX (fun i=>wN P n c (Q i)) .ret s:=h
theorem EX.oH {c:Code} {id:Nat} (h:EX Q (.exit id) s):EX (fun i=>wN P n c (Q i)) (.exit id) s:=h
theorem EX.gQ {id:Nat} (h:EX Q .normal s):EX (fun i=>gC id (Q i)) .normal s:=h
theorem EX.eV {id:Nat} (h:EX Q .ret s):EX (fun i=>gC id (Q i)) .ret s:=h
theorem EX.kE {id:Nat} (h:EX Q .normal s):EX (fun i=>gC id (Q i)) (.exit id) s:=h.imp fun _ h=>by simpa[gC]using h
def wV {α:Type} (S:α->St) (m:α->Nat) (H:α->Prop) (k:Nat) (Q:ι->Exit->St->Prop):{a:α // m a<k/\H a}⊕ι->Exit->St->Prop
 |.inl a,e,s=>e=.normal/\Sub (S a.1) s
 |.inr x,e,s=>e≠.normal/\Q x e s
theorem EX.next {α:Type} {S:α->St} {m:α->Nat} {H:α->Prop} {k:Nat} (a:α) (hm:m a<k) (hH:H a) (hs:Sub (S a) s):EX (wV S m H k Q) .normal s:=⟨.inl ⟨a,hm,hH⟩,rfl,hs⟩
theorem EX.mq {α:Type} {S:α->St} {m:α->Nat} {H:α->Prop} {k:Nat} (h:EX Q .ret s):EX (wV S m H k Q) .ret s:=h.elim fun x h=>⟨.inr x,by simp,h⟩
theorem EX.FB {α:Type} {S:α->St} {m:α->Nat} {H:α->Prop} {k id:Nat} (h:EX Q (.exit id) s):EX (wV S m H k Q) (.exit id) s:=h.elim fun x h=>⟨.inr x,by simp,h⟩
theorem Iter.sub {c:Code} {Q:Exit->St->Prop} {k:Nat} {s s':St} (h:Iter P n c Q k s) (hs:Sub s s'):Iter P n c Q k s':=by
 cases k with
 |zero=>exact h.elim
 |succ k=>exact T.sub h hs
theorem TX.iI {α:Type} {c:Code} (S:α->St) (m:α->Nat) (H:α->Prop) (h:∀a,H a->TX P n c (wV S m H (m a) Q) (S a)) (a:α) (ha:H a) (hs:Sub (S a) s):TX P n (.loop c) Q s:=by
 have key:∀k a,m a=k->H a->∃x j,Iter P n c (Q x) j (S a):=by
  intro k;induction k using X2 with
  |_ k ih=>
   intro a hk ha;obtain⟨y,hy⟩:=h a ha;cases y with
   |inl b=>
    obtain⟨x,j,hx⟩:=ih (m b.1) (by have:=b.2.1;omega) b.1 rfl b.2.2;refine⟨x,j+1,T.mono hy fun e s' h1=>?_⟩;obtain⟨rfl,h2⟩:=h1;exact hx.sub h2
   |inr x=>
    refine⟨x,1,T.mono hy fun e s' h1=>?_⟩;obtain⟨h1,h2⟩:=h1;cases e<;>first|exact absurd rfl h1|exact h2
 obtain⟨x,j,hx⟩:=key _ a rfl ha;exact⟨x,T.mK (hx.sub hs)⟩
end
section
variable {P:Program} {f:FuncId} {fn:Func} {c:Code} {s:St} {e:Exit} {b:List Int}
def bR (P:Program) (f:FuncId) (as:List AV) (V:List (List CV)) (R:AV->List (List CV)->List bu->Prop):Prop:=∃v V' A',R v V' A'/\ah P f as V v V' A'
abbrev QP (R:AV->List (List CV)->List bu->Prop):Type:={x:AV×List (List CV)×List bu // R x.1 x.2.1 x.2.2}
abbrev u6 (P:Program) (fn:Func) (m:Nat) (R:AV->List (List CV)->List bu->Prop) (x:QP R):Exit->St->Prop:=aD P fn m x.1.1 x.1.2.1 x.1.2.2
theorem bR.cx {as:List AV} {V:List (List CV)} {R:AV->List (List CV)->List bu->Prop} (hf:P.funcs[f]? =some fn) (j0:(fn.name== "runtime.NumGoroutine")=false) (hb:fn.body=some c) (eK:codeOk fn.ntmps c=true) (hn:as.length<=fn.ntmps)
  (hV:∀v V' A',R v V' A'->V.length<=V'.length) (h:TX P fn.ntmps c (u6 P fn V.length R) ⟨kL as,V,[]⟩):bR P f as V R:=by
 obtain⟨x,hx⟩:=h;exact⟨_,_,_,x.2,ah.cx hf j0 hb eK hn (hV _ _ _ x.2) hx⟩
theorem aD.gen {m:Nat} {r:AV} {V':List (List CV)} {A':List bu} (ext ks:List Nat) {ys:List AV} (he:e=.normal\/e=.ret) (mL:(e8 P s fn.results.toList).bind (aF s.A (X7 m++ext) ks)=some ys) (hr:one ys=r)
  (hV:fg s.A s.V (X7 m++ext) ks (X7 m++ext)=some V') (hA:dQ s.A ks=some A') (ml:ks.Nodup) (Jw:ext.Nodup) (hm:∀l∈ext,m<=l):aD P fn m r V' A' e s:=by
 cases hx:e8 P s fn.results.toList with
 |none=>rw[hx]at mL;simp at mL
 |some xs=>rw[hx]at mL;exact⟨he,ext,ks,xs,ys,hx,ml,Jw,hm,mL,hr.symm,hV,hA⟩
theorem aD.Hv {r:AV} {a:bu} (k:Nat) {ys:List AV} (he:e=.normal\/e=.ret) (mL:(e8 P s fn.results.toList).bind (aF s.A [] [k])=some ys) (hr:one ys=r) (hA:s.A[k]? =some a):aD P fn 0 r [] [a] e s:=
 aD.gen [] [k] he (by simpa using mL) hr rfl (by simp[dQ,hA]) (by simp) (by simp) (by simp)
def bw (P:Program) (f:FuncId) (as:List AV) (b:List Int) (p N:Nat) (R:AV->List bu->Prop):Prop:=
 bR P f (.c (.ptr 0 0)::as) (dV [rd b p]) fun v V' A'=>∃p',V'=dV [rd b p']/\p<=p'/\p'<=p+N/\R v A'
theorem EX.draw {p N p':Nat} {R:AV->List bu->Prop} (ks:List Nat) {ys:List AV} {A':List bu} (he:e=.normal\/e=.ret) (mL:(e8 P s fn.results.toList).bind (aF s.A [0] ks)=some ys) (hV:s.V[0]? =some ((rd b p').map CV.d)) (hA:dQ s.A ks=some A') (ml:ks.Nodup)
  (h1:p<=p') (h2:p'<=p+N) (hR:R (one ys) A'):EX (u6 P fn 1 (fun v V' A'=>∃p',V'=dV [rd b p']/\p<=p'/\p'<=p+N/\R v A')) e s:=by
 refine⟨⟨(one ys,dV [rd b p'],A'),p',rfl,h1,h2,hR⟩,?_⟩;refine aD.gen [] ks he (by simpa using mL) rfl ?_ hA ml (by simp) (by simp);refine wb [0] [rd b p'] rfl ?_;intro j l' row' h1 h2
 match j with
 |0=>simp at h1 h2;subst h1;subst h2;exact hV
 |j+1=>simp at h1
theorem Bu (l:Nat) {p N:Nat} {R:AV->List bu->Prop} {xs as:List AV} {K:AV->List (List CV)->List bu->Prop} (dK:s.V[l]? =some ((rd b p).map CV.d)) (bZ:ib s.A [l] xs=some (.c (.ptr 0 0)::as)) (hd:bw P f as b p N R)
  (hK:∀v A' p',R v A'->p<=p'->p'<=p+N->K (v.fN [l] s.V.length s.A.length) (s.V.set l ((rd b p').map CV.d)) (bT s.A (bB xs)++A')):gM P s f xs K:=by
 obtain⟨v,V',A',⟨p',rfl,h1,h2,hR⟩,hc⟩:=hd;refine .inl ⟨[l],_,dV [rd b p],v,dV [rd b p'],A',by simp,bZ,v8 [l] [rd b p] rfl ?_,hc,?_⟩
 ·intro j l' row'' h1 h2
  match j with
  |0=>simp at h1 h2;subst h1;subst h2;exact dK
  |j+1=>simp at h1
 ·obtain⟨ds,vZ⟩:=nJ (V:=s.V) [l] [rd b p] rfl (by
   intro j l' row'' h1 h2
   match j with
   |0=>simp at h1 h2;subst h1;subst h2;exact dK
   |j+1=>simp at h1)
  rw[vZ,mo,r9];have hp:cc s.A.length s.V.length [l] s.V [l] (dV [rd b p'])=s.V.set l ((rd b p').map CV.d):=by
   simp only[dV,Yc,Yk,cc,List.append_nil]
   rfl
  rw[hp];exact hK v A' p' hR h1 h2
theorem jt {xs as:List AV} {r:AV} {A':List bu} {K:AV->List (List CV)->List bu->Prop} (bZ:ib s.A [] xs=some as) (hc:ah P f as [] r [] A') (hK:K (r.fN [] s.V.length s.A.length) s.V (bT s.A (bB xs)++A')):gM P s f xs K:=by
 refine .inl ⟨[],as,[],r,[],A',by simp,bZ,rfl,hc,?_⟩;simpa[cc,bK]using hK
abbrev RV {α:Type} (enc:α->AV) (arr:α->List bu) (good:α->Prop):AV->List bu->Prop:=fun v A'=>∃x,(v=enc x/\A'=arr x)/\good x
abbrev wc {α:Type}:α->List bu:=fun _=>[]
theorem aB (l:Nat) {α:Type} {enc:α->AV} {arr:α->List bu} {good:α->Prop} {p N:Nat} {xs as:List AV} {K:AV->List (List CV)->List bu->Prop} (dK:s.V[l]? =some ((rd b p).map CV.d)) (bZ:ib s.A [l] xs=some (.c (.ptr 0 0)::as)) (hd:bw P f as b p N (RV enc arr good))
  (hK:∀x p',good x->p<=p'->p'<=p+N->K ((enc x).fN [l] s.V.length s.A.length) (s.V.set l ((rd b p').map CV.d)) (bT s.A (bB xs)++arr x)):gM P s f xs K:=
 Bu l dK bZ hd fun _ _ p' h h1 h2=>by obtain⟨x,⟨rfl,rfl⟩,hg⟩:=h;exact hK x p' hg h1 h2
theorem EX.dr {α:Type} {enc:α->AV} {arr:α->List bu} {good:α->Prop} {p N p':Nat} (ks:List Nat) (x:α) {ys:List AV} (he:e=.normal\/e=.ret) (mL:(e8 P s fn.results.toList).bind (aF s.A [0] ks)=some ys) (hx:one ys=enc x) (hV:s.V[0]? =some ((rd b p').map CV.d)) (hA:dQ s.A ks=some (arr x)) (ml:ks.Nodup)
  (h1:p<=p') (h2:p'<=p+N) (hg:good x):EX (u6 P fn 1 (fun v V' A'=>∃p',V'=dV [rd b p']/\p<=p'/\p'<=p+N/\RV enc arr good v A')) e s:=
 EX.draw ks he mL hV hA ml h1 h2 ⟨x,⟨hx,rfl⟩,hg⟩
theorem bw.mk {α:Type} {enc:α->AV} {arr:α->List bu} {good:α->Prop} {p p' N:Nat} {as:List AV} (x:α) (hg:good x) (h1:p<=p') (h2:p'<=p+N) (hc:ah P f (.c (.ptr 0 0)::as) (dV [rd b p]) (enc x) (dV [rd b p']) (arr x)):bw P f as b p N (RV enc arr good):=
 ⟨_,_,_,⟨p',rfl,h1,h2,x,⟨rfl,rfl⟩,hg⟩,hc⟩
theorem bw.mono {α:Type} {enc:α->AV} {arr:α->List bu} {good good':α->Prop} {p N N':Nat} {as:List AV} (h:bw P f as b p N (RV enc arr good)) (hN:N<=N') (hg:∀x,good x->good' x):bw P f as b p N' (RV enc arr good'):=by
 obtain⟨v,V',A',⟨p',h1,h2,h3,x,h4,h5⟩,hc⟩:=h;exact⟨v,V',A',⟨p',h1,h2,by omega,x,h4,hg x h5⟩,hc⟩
theorem bw.cx {p N:Nat} {as:List AV} {R:AV->List bu->Prop} (hf:P.funcs[f]? =some fn) (j0:(fn.name== "runtime.NumGoroutine")=false) (hb:fn.body=some c) (eK:codeOk fn.ntmps c=true) (hn:as.length+1<=fn.ntmps)
  (h:TX P fn.ntmps c (u6 P fn 1 (fun v V' A'=>∃p',V'=dV [rd b p']/\p<=p'/\p'<=p+N/\R v A')) ⟨kL (.c (.ptr 0 0)::as),dV [rd b p],[]⟩):bw P f as b p N R:=
 bR.cx hf j0 hb eK hn (by rintro v V' A' ⟨p',rfl,-⟩;simp) h
def dh (P:Program) (f:FuncId) (as:List AV) (R:AV->List bu->Prop):Prop:=bR P f as [] fun v V' A'=>V'=[]/\R v A'
theorem dh.cx {as:List AV} {R:AV->List bu->Prop} (hf:P.funcs[f]? =some fn) (j0:(fn.name== "runtime.NumGoroutine")=false) (hb:fn.body=some c) (eK:codeOk fn.ntmps c=true) (hn:as.length<=fn.ntmps)
  (h:TX P fn.ntmps c (u6 P fn 0 (fun v V' A'=>V'=[]/\R v A')) ⟨kL as,[],[]⟩):dh P f as R:=
 bR.cx hf j0 hb eK hn (by rintro v V' A' ⟨rfl,-⟩;simp) h
theorem EX.sm {α:Type} {enc:α->AV} {arr:α->List bu} {good:α->Prop} (ks:List Nat) (x:α) {ys:List AV} (he:e=.normal\/e=.ret) (mL:(e8 P s fn.results.toList).bind (aF s.A [] ks)=some ys) (hx:one ys=enc x) (hA:dQ s.A ks=some (arr x)) (ml:ks.Nodup) (hg:good x):
  EX (u6 P fn 0 (fun v V' A'=>V'=[]/\RV enc arr good v A')) e s:=by
 refine⟨⟨(one ys,[],arr x),rfl,x,⟨hx,rfl⟩,hg⟩,?_⟩;exact aD.gen [] ks he (by simpa using mL) rfl rfl hA ml (by simp) (by simp)
theorem Bv {row:List DV} {xs as:List AV} {r:AV} {K:AV->List (List CV)->List bu->Prop} (bZ:ib s.A [] xs=some as) (hc:ah P f as [] r (dV [row]) []) (hK:K (r.fN [] s.V.length s.A.length) (s.V++[row.map CV.d]) (bT s.A (bB xs))):gM P s f xs K:=by
 refine .inl ⟨[],as,[],r,dV [row],[],by simp,bZ,rfl,hc,?_⟩;have hm:(row.map CV.d).map (CV.fN [] s.V.length s.A.length)=row.map CV.d:=by
  rw[List.map_map];rfl
 have hp:cc s.A.length s.V.length [] s.V [] (dV [row])=s.V++[row.map CV.d]:=by
  simp only[dV,Yc,Yk,cc,hm]
 rw[hp];simpa[bK]using hK
end
section
variable {P:Program} {n:Nat} {ι:Type} {Q:ι->Exit->St->Prop} {s s':St} {c:Code}
def LX (P:Program) (n:Nat) (c:Code) (Q:ι->Exit->St->Prop) (s:St):Prop:=∃x j,Iter P n c (Q x) j s
def FC (P:Program) (n:Nat) (c:Code) (Q:ι->Exit->St->Prop):ι×Nat->Exit->St->Prop
 |(x,j),.normal,s=>Iter P n c (Q x) j s
 |(x,_),e,s=>Q x e s
theorem LX.nN (h:TX P n c (FC P n c Q) s):LX P n c Q s:=by
 obtain⟨⟨x,j⟩,h⟩:=h;exact⟨x,j+1,T.mono h fun e s' h1=>by cases e<;>exact h1⟩
theorem TX.nN (h:TX P n c (FC P n c Q) s):TX P n (.loop c) Q s:=by
 obtain⟨x,j,h⟩:=LX.nN h;exact⟨x,T.mK h⟩
theorem EX.Af (h:TX P n c (FC P n c Q) s):EX (FC P n c Q) .normal s:=by
 obtain⟨x,j,h⟩:=LX.nN h;exact⟨(x,j),h⟩
theorem EX.mr (h:EX Q .ret s):EX (FC P n c Q) .ret s:=h.imp' (fun x=>(x,0)) fun _ h=>h
theorem EX.FD {id:Nat} (h:EX Q (.exit id) s):EX (FC P n c Q) (.exit id) s:=h.imp' (fun x=>(x,0)) fun _ h=>h
end
section
variable {P:Program} {n:Nat} {s:St} {c:Code}
def gv:List Nat->List (Nat×AV)->List (Nat×AV)
 |[],_=>[]
 |t::r,fr=>match look fr t with
  |some x=>(t,x)::gv r fr
  |none=>gv r fr
def gi:List (Nat×List CV)->List (List CV)->List (List CV)
 |[],V=>V
 |p::r,V=>gi r (V.set p.1 p.2)
attribute [simp] gv gi
end
end Go.Av
namespace Go.Av
open Go
def eE (r:List DV) (t:aE):Prop:=r=cA t
def bf (rs:List (List DV)) (ts:List aE):Prop:=rs=ts.map cA
def cU (r:List DV) (e:ao):Prop:=r=gA e
def bc (rs:List (List DV)) (es:List ao):Prop:=rs=es.map gA
structure ec (k:Int) (rs:List (List DV)) (t:aE):Prop where
 k:k=t.kind
 rs:rs=t.kids.map cA
theorem ec.var (t:aE):ec t.kind (t.kids.map cA) t:=⟨rfl,rfl⟩
theorem ec.node {k:Int} {rs:List (List DV)} {ts:List aE} (h:bf rs ts):ec k rs (.mk k ts):=⟨rfl,h⟩
theorem eE.of {k:Int} {rs:List (List DV)} {t:aE} (h:ec k rs t):eE [.int .i64 k,.sl rs] t:=by rw[eE,aQ,<-h.k,<-h.rs]
theorem eE.row (t:aE):eE (cA t) t:=rfl
theorem bf.map (l:List aE):bf (l.map cA) l:=rfl
theorem bf.nil:bf [] []:=rfl
theorem bf.cons {r:List DV} {rs:List (List DV)} {t:aE} {ts:List aE} (h:eE r t) (hs:bf rs ts):bf (r::rs) (t::ts):=by rw[bf,Yc,<-hs,<-h]
theorem bf.app {rs rs':List (List DV)} {ts ts':List aE} (h:bf rs ts) (h':bf rs' ts'):bf (rs++rs') (ts++ts'):=by rw[bf,Ye,<-h,<-h']
theorem cU.row (e:ao):cU (gA e) e:=rfl
theorem cU.var (e:ao):cU [.int .i64 e.kind,.str e.name,.int .i64 e.num,.int .i64 e.ty.kind,.sl (e.ty.kids.map cA),.int .i64 e.fr.kind,.sl (e.fr.kids.map cA),.int .i64 e.label,.sl (e.kids.map gA)] e:=by rw[cU,ax]
theorem cU.node {k n k1 k2 lb:Int} {s:List UInt8} {r1 r2 r3:List (List DV)} {t f:aE} {es:List ao} (h1:ec k1 r1 t) (h2:ec k2 r2 f) (h3:bc r3 es):
  cU [.int .i64 k,.str s,.int .i64 n,.int .i64 k1,.sl r1,.int .i64 k2,.sl r2,.int .i64 lb,.sl r3] (.mk k s n t f lb es):=by
 rw[cU,ax,h1.k,h1.rs,h2.k,h2.rs,h3];rfl
theorem bc.map (l:List ao):bc (l.map gA) l:=rfl
theorem bc.nil:bc [] []:=rfl
theorem bc.cons {r:List DV} {rs:List (List DV)} {t:ao} {ts:List ao} (h:cU r t) (hs:bc rs ts):bc (r::rs) (t::ts):=by rw[bc,Yc,<-hs,<-h]
theorem bc.app {rs rs':List (List DV)} {ts ts':List ao} (h:bc rs ts) (h':bc rs' ts'):bc (rs++rs') (ts++ts'):=by rw[bc,Ye,<-h,<-h']
def bn {α:Type} (enc:α->AV) (v:AV) (x:α):Prop:=v=enc x
theorem bn.ty {k:Int} {rs:List (List DV)} {t:aE} (h:ec k rs t):bn eu (.agg [.d (.int .i64 k),.d (.sl rs)]) t:=by rw[bn,h.k,h.rs]
theorem bn.yD (e:ao):bn c6 (.agg [.d (.int .i64 e.kind),.d (.str e.name),.d (.int .i64 e.num),.d (.int .i64 e.ty.kind),.d (.sl (e.ty.kids.map cA)),.d (.int .i64 e.fr.kind),.d (.sl (e.fr.kids.map cA)),.d (.int .i64 e.label),.d (.sl (e.kids.map gA))]) e:=rfl
theorem bn.tm {k n k1 k2 lb:Int} {s:List UInt8} {r1 r2 r3:List (List DV)} {t f:aE} {es:List ao} (h1:ec k1 r1 t) (h2:ec k2 r2 f) (h3:bc r3 es):
  bn c6 (.agg [.d (.int .i64 k),.d (.str s),.d (.int .i64 n),.d (.int .i64 k1),.d (.sl r1),.d (.int .i64 k2),.d (.sl r2),.d (.int .i64 lb),.d (.sl r3)]) (.mk k s n t f lb es):=by
 rw[bn,c6,h1.k,h1.rs,h2.k,h2.rs,h3];rfl
abbrev aP {α β:Type} (f:α->AV) (g:β->AV):α×β->AV:=fun x=>.bq [f x.1,g x.2]
abbrev Ug {α β γ:Type} (f:α->AV) (g:β->AV) (h:γ->AV):α×β×γ->AV:=fun x=>.bq [f x.1,g x.2.1,h x.2.2]
theorem bn.p2 {α β:Type} {f:α->AV} {g:β->AV} {v u:AV} {a:α} {b:β} (h:bn f v a) (h':bn g u b):bn (aP f g) (.bq [v,u]) (a,b):=by rw[bn,h,h']
theorem bn.p3 {α β γ:Type} {f:α->AV} {g:β->AV} {i:γ->AV} {v u w:AV} {a:α} {b:β} {c:γ} (h:bn f v a) (h':bn g u b) (h'':bn i w c):bn (Ug f g i) (.bq [v,u,w]) (a,b,c):=by rw[bn,h,h',h'']
abbrev Lv (l:List aE):AV:=.l (l.map cA)
abbrev QQ (l:List ao):AV:=.l (l.map gA)
abbrev kS (l:List ea):AV:=.l (l.map jP)
theorem bn.yk {rs:List (List DV)} {ts:List aE} (h:bf rs ts):bn Lv (.c (.d (.sl rs))) ts:=by rw[bn,h]
theorem bn.yE {rs:List (List DV)} {ts:List ao} (h:bc rs ts):bn QQ (.c (.d (.sl rs))) ts:=by rw[bn,h]
def bg (rs:List (List DV)) (ts:List ea):Prop:=rs=ts.map jP
theorem bg.map (l:List ea):bg (l.map jP) l:=rfl
theorem bg.nil:bg [] []:=rfl
theorem bg.cons {s:List UInt8} {k:Int} {r1 rs:List (List DV)} {t:aE} {ts:List ea} (h:ec k r1 t) (hs:bg rs ts):bg ([.str s,.int .i64 k,.sl r1]::rs) (⟨s,t⟩::ts):=by rw[bg,Yc,<-hs,jP,h.k,h.rs]
theorem bg.app {rs rs':List (List DV)} {ts ts':List ea} (h:bg rs ts) (h':bg rs' ts'):bg (rs++rs') (ts++ts'):=by rw[bg,Ye,<-h,<-h']
theorem bn.yF {rs:List (List DV)} {ts:List ea} (h:bg rs ts):bn kS (.c (.d (.sl rs))) ts:=by rw[bn,h]
theorem bn.int (n:Int):bn (fun n:Int=>.i n) (.c (.d (.int .i64 n))) n:=rfl
theorem bn.str (s:List UInt8):bn (fun s:List UInt8=>.s s) (.c (.d (.str s))) s:=rfl
theorem bn.bool (s:Bool):bn (fun s:Bool=>.b s) (.c (.d (.bool s))) s:=rfl
section
variable {P:Program} {f:FuncId} {fn:Func} {c:Code} {s:St} {e:Exit} {b:List Int}
theorem EX.ze {α:Type} {enc:α->AV} {arr:α->List bu} {good:α->Prop} {p N p':Nat} (ks:List Nat) {x:α} {ys:List AV} {v:AV} (he:e=.normal\/e=.ret) (mL:(e8 P s fn.results.toList).bind (aF s.A [0] ks)=some ys) (hv:one ys=v) (hx:bn enc v x) (hV:s.V[0]? =some ((rd b p').map CV.d)) (hA:dQ s.A ks=some (arr x)) (ml:ks.Nodup)
  (h1:p<=p') (h2:p'<=p+N) (hg:good x):EX (u6 P fn 1 (fun v V' A'=>∃p',V'=dV [rd b p']/\p<=p'/\p'<=p+N/\RV enc arr good v A')) e s:=
 EX.dr ks x he mL (hv.trans hx) hV hA ml h1 h2 hg
theorem EX.NN {α:Type} {enc:α->AV} {arr:α->List bu} {good:α->Prop} (ks:List Nat) {x:α} {ys:List AV} {v:AV} (he:e=.normal\/e=.ret) (mL:(e8 P s fn.results.toList).bind (aF s.A [] ks)=some ys) (hv:one ys=v) (hx:bn enc v x) (hA:dQ s.A ks=some (arr x)) (ml:ks.Nodup) (hg:good x):
  EX (u6 P fn 0 (fun v V' A'=>V'=[]/\RV enc arr good v A')) e s:=
 EX.sm ks x he mL (hv.trans hx) hA ml hg
end
theorem sk (d:Nat) (k:Int) (l:List aE):ak (d+1) (.mk k l)=(decide (cF k=l.length)&& l.all (ak d)):=rfl
def lM (c:UInt8):List UInt8->List UInt8
 |[]=>[c]
 |x::r=>if x<c then x::lM c r else if x=c then x::r else c::x::r
theorem wW (c:UInt8):∀(s:List UInt8),(lM c s).length<=s.length+1
 |[]=>by simp[lM]
 |x::r=>by
  have:=wW c r;simp only[lM];split
  ·simp;omega
  ·split<;>simp
theorem yG (x c:UInt8):Op.bytesLess [x] [c]=decide (x<c):=by
 simp only[Op.bytesLess];by_cases h:x<c
 ·simp[h]
 ·by_cases h2:x=c
  ·subst h2;simp
  ·simp[h,h2]
theorem sn:∀(l m:List aE),cY (l++m)=cY l+cY m
 |[],m=>by simp[cY]
 |x::l,m=>by simp[cY,sn l m];omega
theorem cH (k:Int) (l:List aE):gl (.mk k l)=cY l:=by simp[gl]
theorem eW (k:Int) (s:List UInt8) (n:Int) (t f:aE) (b:Int) (l:List ao):fy (.mk k s n t f b l)=s.length+gl t+gl f+eQ l:=by simp[fy]
theorem tJ {α:Type} {s:List α} {k:Nat} (h:k<s.length):(s.take (k+1)).drop k=[s[k]]:=by
 rw[List.take_add_one,List.getElem?_eq_getElem h,List.drop_append_of_le_length (by simp;omega)];simp
@[simp] theorem cP {α:Type} (G X:List α) (k:Nat):(G++X).take (G.length+k)=G++X.take k:=by
 rw[List.take_append,List.take_of_length_le (by omega),show G.length+k-G.length=k by omega]
theorem tK:ak 4 bP=true:=rfl
theorem wX:ak 4 c3=true:=rfl
theorem Dg:ak 4 bx=false:=rfl
mutual
def ez:aE->aE->Bool
 |.mk k l,.mk k' l'=>decide (k=k')&& jR l l'
def jR:List aE->List aE->Bool
 |[],[]=>true
 |x::xs,y::ys=>ez x y && jR xs ys
 |_,_=>false
end
theorem so:∀(l m:List aE),jR l m=iT ez l m
 |[],[]=>rfl
 |x::xs,y::ys=>by simp[jR,iT,so xs ys]
 |[],_::_=>rfl
 |_::_,[]=>rfl
theorem Dh (a b:aE):ez a b=(decide (a.kind=b.kind)&& iT ez a.kids b.kids):=by
 cases a;cases b;simp only[ez,so];rfl
mutual
theorem tL:∀(a b:aE),ez a b=true->a=b
 |.mk k l,.mk k' l',h=>by
  simp only[ez,Yo,decide_eq_true_eq]at h;obtain⟨rfl,h⟩:=h;rw[wY l l' h]
theorem wY:∀(l m:List aE),jR l m=true->l=m
 |[],[],_=>rfl
 |x::xs,y::ys,h=>by
  simp only[jR,Yo]at h;rw[tL x y h.1,wY xs ys h.2]
 |[],_::_,h=>by simp[jR]at h
 |_::_,[],h=>by simp[jR]at h
end
mutual
theorem u7:∀(a:aE),ez a a=true
 |.mk k l=>by simp[ez,sr l]
theorem sr:∀(l:List aE),jR l l=true
 |[]=>rfl
 |x::xs=>by simp[jR,u7 x,sr xs]
end
def qK (n:Int) (e:ao) (f t:aE):ao×Int:=if ez f t=true then(e,n)else(.mk 14 [] 0 t f (n+1) [e],n+1)
def cw (ctx:List ea) (k:Int) (name:List UInt8) (ty:aE) (ts:List aE):Option (List aE×aE):=
 if k=1 then(cX ctx name).map fun t=>([],t)
 else if k=2 then some ([],bP)
 else if k=3\/k=4 then some ([],c3)
 else match ts with
  |[a]=>
   if k=5 then some ([],.mk 4 [ty,a])
   else if k=11 then(dO 5 a).map fun p=>([.mk 5 [p.1,p.2]],p.1)
   else if k=12 then(dO 5 a).map fun p=>([.mk 5 [p.1,p.2]],p.2)
   else if k=13 then if aM a ty=true then some ([ty],ty)else none
   else none
  |[a,b]=>
   if k=6 then match dO 4 a with
    |some (x,y)=>if aM b x=true then some ([.mk 4 [x,y],x],y)else none
    |none=>none
   else if k=7 then if aM a bP=true/\aM b bP=true then some ([bP,bP],bP)else none
   else if k=8 then if aM a bP=true/\aM b bP=true then some ([bP,bP],c3)else none
   else if k=10 then some ([],.mk 5 [a,b])
   else none
  |[a,b,c]=>if k=9 then if aM a c3=true/\aM b c=true then some ([c3,cG b c,cG b c],cG b c)else none else none
  |_=>none
def iL:Int->List ao->List aE->List aE->List ao×Int
 |n,e::es,h::hs,w::ws=>let(e',m):=qK n e h w;let(r,m'):=iL m es hs ws;(e'::r,m')
 |n,es,_,_=>(es,n)
def nO (ctx:List ea) (k:Int) (name:List UInt8) (num:Int) (ty fr:aE) (lb:Int):Option (List ao×List aE)×Int->Option (ao×aE)×Int
 |(none,n)=>(none,n)
 |(some (es,ts),n)=>match cw ctx k name ty ts with
  |none=>(none,n)
  |some (ws,t)=>if ak 4 t=true then
   let(es',m):=iL n es ts ws
   if k=13 then(es'.head?.map fun x=>(x,t),m)else(some (.mk k name num ty fr lb es',t),m)
   else(none,n)
def pC:Option (ao×aE)×Int->(Int->Option (List ao×List aE)×Int)->Option (List ao×List aE)×Int
 |(none,n),_=>(none,n)
 |(some (e,t),n),f=>match f n with
  |(none,m)=>(none,m)
  |(some (es,ts),m)=>(some (e::es,t::ts),m)
mutual
def gd:List ea->ao->Int->Option (ao×aE)×Int
 |ctx,.mk k s n t f b l,c=>nO ctx k s n t f b (eF (if k=5 then ctx++[⟨s,t⟩]else ctx) l c)
def eF:List ea->List ao->Int->Option (List ao×List aE)×Int
 |_,[],c=>(some ([],[]),c)
 |ctx,e::r,c=>pC (gd ctx e c) (eF ctx r)
end
theorem tM (ctx:List ea) (e:ao) (c:Int):gd ctx e c=nO ctx e.kind e.name e.num e.ty e.fr e.label (eF (cB ctx e) e.kids c):=by
 cases e;simp only[gd];rfl
theorem FE {ctx:List ea} {e:ao} {ts:List aE} (hc:kO ctx) (he:cr e.kind=true->ak 4 e.ty=true) (b7:∀u∈ts,ak 4 u=true):
  eb ctx e.kind e.name e.ty ts=(cw ctx e.kind e.name e.ty ts).bind fun p=>if ak 4 p.2=true then some p.2 else none:=by
 have hI:ak 4 bP=true:=rfl;have hB:ak 4 c3=true:=rfl;simp only[eb,cw];split
 ·cases hl:cX ctx e.name with
  |none=>rfl
  |some t=>
   obtain⟨b,h1,h2,_⟩:=pz hl;have:ak 4 t=true:=by rw[<-h2];exact hc b h1
   simp[this]
 split
 ·simp[hI]
 split
 ·simp[hB]
 split
 ·rename_i a;have ha:=b7 a (by simp);split
  ·simp[Ab]
  split
  ·cases hm:dO 5 a with
   |none=>simp[hm]
   |some p=>obtain⟨x,y⟩:=p;simp[hm,(eR hm ha).1]
  split
  ·cases hm:dO 5 a with
   |none=>simp[hm]
   |some p=>obtain⟨x,y⟩:=p;simp[hm,(eR hm ha).2]
  split
  ·rename_i dt;by_cases hq:aM a e.ty=true
   ·simp[hq,he (by simp[cr,dt])]
   ·simp[hq]
  ·rfl
 ·rename_i a b;have ha:=b7 a (by simp);have hb:=b7 b (by simp);split
  ·cases hm:dO 4 a with
   |none=>simp[hm]
   |some p=>
    obtain⟨x,y⟩:=p;by_cases hq:aM b x=true
    ·simp[hm,hq,(eR hm ha).2]
    ·simp[hm,hq]
  split
  ·by_cases hq:aM a bP=true/\aM b bP=true
   ·simp[hq,hI]
   ·simp[hq]
  split
  ·by_cases hq:aM a bP=true/\aM b bP=true
   ·simp[hq,hB]
   ·simp[hq]
  split
  ·simp[Ab]
  ·rfl
 ·rename_i a b c;split
  ·by_cases h1:aM b c=true
   ·by_cases h2:aM a c3=true
    ·simp[h1,h2,nL 4 b c (b7 b (by simp)) (b7 c (by simp)) h1]
    ·simp[h1,h2]
   ·simp[h1]
  ·rfl
 ·first|rfl|(split<;>first|rfl|(exfalso;simp_all))
theorem zf:∀(n:Int) (es:List ao) (hs ws:List aE),(iL n es hs ws).1.length=es.length
 |n,[],hs,ws=>by cases hs<;>cases ws<;>rfl
 |n,e::es,[],ws=>by cases ws<;>rfl
 |n,e::es,h::hs,[]=>rfl
 |n,e::es,h::hs,w::ws=>by simp[iL,zf _ es hs ws]
theorem tN:∀{ctx:List ea} {l:List ao} {c:Int} {es:List ao} {ts:List aE} {m:Int},eF ctx l c=(some (es,ts),m)->es.length=l.length/\ts.length=l.length
 |ctx,[],c,es,ts,m,h=>by simp[eF]at h;obtain⟨⟨rfl,rfl⟩,rfl⟩:=h;simp
 |ctx,e::r,c,es,ts,m,h=>by
  simp only[eF]at h;cases he:gd ctx e c with
  |mk o n=>
   rw[he]at h;cases o with
   |none=>simp[pC]at h
   |some p=>
    obtain⟨x,t⟩:=p;simp only[pC]at h;cases hr:eF ctx r n with
    |mk o2 n2=>
     rw[hr]at h;cases o2 with
     |none=>simp at h
     |some q=>
      obtain⟨xs,us⟩:=q;simp at h;obtain⟨⟨rfl,rfl⟩,rfl⟩:=h;have:=tN hr;simp[this.1,this.2]
theorem zg:∀(e:ao) (d:Nat) (ctx:List ea) (c:Int),bj 14 d e=true->kO ctx->(gd ctx e c).1.map (·.2)=cO ctx e:=by
 intro e;induction e using ao.ind with
 |h e ih=>
  intro d ctx c hs hc;obtain⟨d',_,_,hlen,dS,lx⟩:=gH hs;have bZ:kO (cB ctx e):=by
   simp only[cB];split
   ·rename_i h5;intro b hb;simp only[X8,List.mem_singleton]at hb;rcases hb with hb|rfl
    ·exact hc b hb
    ·exact js dS (by simp[cr,h5])
   ·exact hc
  rw[tM,zc];have hl:∀(l:List ao),(∀u∈l,u∈e.kids)->∀c,(eF (cB ctx e) l c).1.map (·.2)=gO (cB ctx e) l/\∀es ts m,eF (cB ctx e) l c=(some (es,ts),m)->∀u∈ts,ak 4 u=true:=by
   intro l;induction l with
   |nil=>intro _ c;exact⟨rfl,fun es ts m h=>by simp[eF]at h;obtain⟨⟨rfl,rfl⟩,rfl⟩:=h;simp⟩
   |cons x r ihl=>
    intro hm c;have hx:=ih x (hm x (by simp)) d' (cB ctx e) c (lx x (hm x (by simp))) bZ;simp only[eF,gO];cases he:gd (cB ctx e) x c with
    |mk o n=>
     rw[he]at hx;cases o with
     |none=>
      simp at hx;rw[<-hx];exact⟨rfl,fun es ts m h=>by simp[pC]at h⟩
     |some p=>
      obtain⟨y,t⟩:=p;simp at hx;rw[<-hx];have ht:=lY x d' 14 _ t (lx x (hm x (by simp))) bZ hx.symm;obtain⟨h1,h2⟩:=ihl (fun u hu=>hm u (by simp[hu])) n;simp only[pC];cases hr:eF (cB ctx e) r n with
      |mk o2 n2=>
       rw[hr]at h1 h2;cases o2 with
       |none=>
        simp at h1;rw[<-h1];exact⟨rfl,fun es ts m h=>by simp at h⟩
       |some q=>
        obtain⟨xs,us⟩:=q;simp at h1;rw[<-h1];refine⟨rfl,fun es ts m h=>?_⟩;simp at h;obtain⟨⟨rfl,rfl⟩,rfl⟩:=h;intro u hu;simp only[List.mem_cons]at hu;rcases hu with rfl|hu
        ·exact ht
        ·exact h2 xs us n2 rfl u hu
  obtain⟨h1,h2⟩:=hl e.kids (fun _ h=>h) c;cases hr:eF (cB ctx e) e.kids c with
  |mk o n=>
   rw[hr]at h1 h2;cases o with
   |none=>simp at h1;rw[<-h1];rfl
   |some p=>
    obtain⟨es,ts⟩:=p;simp at h1;rw[<-h1];have jh:=h2 es ts n rfl;have hw:=FE (ctx:=ctx) (e:=e) (ts:=ts) hc (js dS) jh;simp only[nO];rw[hw];cases VB:cw ctx e.kind e.name e.ty ts with
    |none=>rfl
    |some q=>
     obtain⟨ws,t⟩:=q;simp only[Option.bind];by_cases kn:ak 4 t=true
     ·rw[if_pos kn,if_pos kn];have kJ:=zf n es ts ws;have tz:=(tN hr).1;by_cases dt:e.kind=13
      ·rw[if_pos dt];have oD:e.kids.length=1:=by rw[dt]at hlen;simp[cD]at hlen;omega
       cases yg:(iL n es ts ws).1 with
       |nil=>rw[yg]at kJ;simp at kJ;omega
       |cons x r=>simp
      ·rw[if_neg dt];simp
     ·rw[if_neg kn,if_neg kn];rfl
inductive mu:Nat->aE->Prop
 |any (d:Nat):mu (d+1) kD
 |int (d:Nat):mu (d+1) bP
 |bool (d:Nat):mu (d+1) c3
 |fn {d:Nat} {a b:aE}:mu d a->mu d b->mu (d+1) (.mk 4 [a,b])
 |pair {d:Nat} {a b:aE}:mu d a->mu d b->mu (d+1) (.mk 5 [a,b])
theorem mu.of:∀{d:Nat} {t:aE},ak d t=true->mu d t
 |0,t,h=>by simp[ak]at h
 |d+1,.mk k l,h=>by
  simp only[ak,Yo,decide_eq_true_eq,Yb]at h;simp only[aE.b4,aE.bQ]at h;obtain⟨h1,h2⟩:=h
  match l,h1,h2 with
  |[],h1,_=>
   simp only[cF,X9]at h1;split at h1
   ·rename_i h;rcases h with rfl|rfl|rfl
    ·exact .any d
    ·exact .int d
    ·exact .bool d
   ·split at h1<;>simp at h1
  |[a],h1,_=>
   simp only[cF]at h1;split at h1
   ·simp at h1
   ·split at h1<;>simp at h1
  |[a,b],h1,h2=>
   simp only[cF]at h1;split at h1
   ·simp at h1
   ·split at h1
    ·rename_i h;rcases h with rfl|rfl
     ·exact .fn (mu.of (h2 a (by simp))) (mu.of (h2 b (by simp)))
     ·exact .pair (mu.of (h2 a (by simp))) (mu.of (h2 b (by simp)))
    ·simp at h1
  |a::b::c::r,h1,_=>
   simp only[cF,Yd]at h1;split at h1
   ·omega
   ·split at h1<;>omega
theorem mu.shape {d:Nat} {t:aE} (h:mu d t):ak d t=true:=by
 induction h with
 |any d=>simp[ak,cF]
 |int d=>simp[ak,cF]
 |bool d=>simp[ak,cF]
 |fn _ _ h1 h2=>simp[ak,cF,h1,h2]
 |pair _ _ h1 h2=>simp[ak,cF,h1,h2]
abbrev q8 (s:List UInt8):ao:=.mk 1 s 0 bx bx 0 []
abbrev tO (n:Int):ao:=.mk 2 [] n bx bx 0 []
abbrev mR:ao:=.mk 3 [] 0 bx bx 0 []
abbrev ju:ao:=.mk 4 [] 0 bx bx 0 []
abbrev pD (s:List UInt8) (t:aE) (b:ao):ao:=.mk 5 s 0 t bx 0 [b]
abbrev Di (k:Int) (a:ao):ao:=.mk k [] 0 bx bx 0 [a]
abbrev Ag (k:Int) (a b:ao):ao:=.mk k [] 0 bx bx 0 [a,b]
abbrev Ex (a b c:ao):ao:=.mk 9 [] 0 bx bx 0 [a,b,c]
abbrev MW (a:ao) (t:aE):ao:=.mk 13 [] 0 t bx 0 [a]
abbrev Ey (a:ao) (f t:aE) (l:Int):ao:=.mk 14 [] 0 t f l [a]
inductive kP (nt:Int):Nat->ao->Prop
 |var {d:Nat} {s:List UInt8}:nt≠1->eh s=true->kP nt (d+1) (q8 s)
 |num {d:Nat} {n:Int}:nt≠2->0<=n->n<=999->kP nt (d+1) (tO n)
 |tP {d:Nat}:nt≠3->kP nt (d+1) mR
 |tQ {d:Nat}:nt≠4->kP nt (d+1) ju
 |lam {d:Nat} {s:List UInt8} {t:aE} {b:ao}:nt≠5->eh s=true->ak 4 t=true->kP nt d b->kP nt (d+1) (pD s t b)
 |n2 {d:Nat} {k:Int} {a b:ao}:nt≠k->k=6\/k=7\/k=8\/k=10->kP nt d a->kP nt d b->kP nt (d+1) (Ag k a b)
 |ite {d:Nat} {a b c:ao}:nt≠9->kP nt d a->kP nt d b->kP nt d c->kP nt (d+1) (Ex a b c)
 |n1 {d:Nat} {k:Int} {a:ao}:nt≠k->k=11\/k=12->kP nt d a->kP nt (d+1) (Di k a)
 |asc {d:Nat} {t:aE} {a:ao}:nt≠13->ak 4 t=true->kP nt d a->kP nt (d+1) (MW a t)
 |cast {d:Nat} {f t:aE} {l:Int} {a:ao}:nt≠14->ak 4 f=true->ak 4 t=true->aM f t=true->Db l=true->kP nt d a->kP nt (d+1) (Ey a f t l)
theorem iv {t:aE} (h:dR t=true):t=bx:=by
 obtain⟨k,l⟩:=t;simp only[dR,Yo,decide_eq_true_eq]at h;obtain⟨h1,h2⟩:=h;cases h1;cases h2;rfl
theorem kP.of {nt:Int}:∀{d:Nat} {e:ao},bj nt d e=true->kP nt d e
 |0,e,h=>by simp[bj]at h
 |d+1,.mk k s n t f b l,h=>by
  simp only[bj,ga,Yo,decide_eq_true_eq,Yb]at h;simp only[ao.b4,ao.bQ]at h;obtain⟨⟨hk,h1,h2⟩,h3⟩:=h;have Lp:=h2;have h2:(if dN k then eh s else decide (s=[]))=true/\(nk n 0 (if k=2 then 999 else 0))=true/\(if cr k then ak 4 t else dR t)=true/\(if k=14 then py (.mk k s n t f b l)else dR f && decide (b=0))=true:=by
   simp only[e9,Yo]at h2;exact⟨h2.1.1.1,h2.1.1.2,h2.1.2,h2.2⟩
  simp only[nk,Yo,decide_eq_true_eq]at h2;obtain⟨g1,g2,g3,g4⟩:=h2;have kp:nt≠k:=fun e=>hk e.symm
  match l,h1,h3 with
  |[],h1,_=>
   have:k=1\/k=2\/k=3\/k=4:=by
    simp only[cD,X9]at h1;split at h1
    ·assumption
    ·split at h1
     ·omega
     ·split at h1
      ·omega
      ·split at h1<;>omega
   rcases this with rfl|rfl|rfl|rfl<;>simp[dN,cr]at g1 g2 g3 g4<;>obtain⟨g4,rfl⟩:=g4<;>obtain rfl:=iv g3<;>obtain rfl:=iv g4
   ·obtain rfl:n=0:=by omega
    exact .var kp g1
   ·subst g1;exact .num kp g2.1 g2.2
   ·subst g1;obtain rfl:n=0:=by omega
    exact .tP kp
   ·subst g1;obtain rfl:n=0:=by omega
    exact .tQ kp
  |[a],h1,h3=>
   have:k=5\/k=11\/k=12\/k=13\/k=14:=by
    simp only[cD,Yd,X9]at h1;split at h1
    ·omega
    ·split at h1
     ·assumption
     ·split at h1
      ·omega
      ·split at h1<;>omega
   have ha:=kP.of (h3 a (by simp));rcases this with rfl|rfl|rfl|rfl|rfl<;>simp[dN,cr]at g1 g2 g3 g4
   ·obtain⟨g4,rfl⟩:=g4;obtain rfl:=iv g4;obtain rfl:n=0:=by omega
    exact .lam kp g1 g3 ha
   ·obtain⟨g4,rfl⟩:=g4;obtain rfl:=iv g4;obtain rfl:=iv g3;subst g1;obtain rfl:n=0:=by omega
    exact .n1 kp (.inl rfl) ha
   ·obtain⟨g4,rfl⟩:=g4;obtain rfl:=iv g4;obtain rfl:=iv g3;subst g1;obtain rfl:n=0:=by omega
    exact .n1 kp (.inr rfl) ha
   ·obtain⟨g4,rfl⟩:=g4;obtain rfl:=iv g4;subst g1;obtain rfl:n=0:=by omega
    exact .asc kp g3 ha
   ·subst g1;obtain rfl:n=0:=by omega
    simp only[py,Yo]at g4;exact .cast kp g4.1.1.1 g3 g4.1.2 g4.2 ha
  |[a,b'],h1,h3=>
   have:k=6\/k=7\/k=8\/k=10:=by
    simp only[cD,Yd,X9]at h1;split at h1
    ·omega
    ·split at h1
     ·omega
     ·split at h1
      ·assumption
      ·split at h1<;>omega
   have ha:=kP.of (h3 a (by simp));have hb:=kP.of (h3 b' (by simp));have e1:dN k=false:=by rcases this with rfl|rfl|rfl|rfl<;>rfl
   have e2:cr k=false:=by rcases this with rfl|rfl|rfl|rfl<;>rfl
   have e3:¬k=14:=by omega
   have e4:¬k=2:=by omega
   simp[e1,e2,e3,e4]at g1 g2 g3 g4;obtain⟨g4,rfl⟩:=g4;obtain rfl:=iv g4;obtain rfl:=iv g3;subst g1;obtain rfl:n=0:=by omega
   exact .n2 kp this ha hb
  |[a,b',c],h1,h3=>
   have:k=9:=by
    simp only[cD,Yd,X9]at h1;split at h1
    ·omega
    ·split at h1
     ·omega
     ·split at h1
      ·omega
      ·split at h1<;>omega
   have ha:=kP.of (h3 a (by simp));have hb:=kP.of (h3 b' (by simp));have hc:=kP.of (h3 c (by simp));subst this;simp[dN,cr]at g1 g2 g3 g4;obtain⟨g4,rfl⟩:=g4;obtain rfl:=iv g4;obtain rfl:=iv g3;subst g1;obtain rfl:n=0:=by omega
   exact .ite kp ha hb hc
  |a::b'::c::x::r,h1,_=>
   exfalso
   have:=wU k;simp only[Yd]at h1;omega
theorem kP.shape {nt:Int} {d:Nat} {e:ao} (h:kP nt d e):bj nt d e=true:=by
 induction h with
 |var h1 h2=>simp[bj,ga,e9,cD,dN,cr,nk,dR,h1.symm,h2]
 |num h1 h2 h3=>simp[bj,ga,e9,cD,dN,cr,nk,dR,h1.symm,h2,h3]
 |tP h1=>simp[bj,ga,e9,cD,dN,cr,nk,dR,h1.symm]
 |tQ h1=>simp[bj,ga,e9,cD,dN,cr,nk,dR,h1.symm]
 |lam h1 h2 h3 _ h4=>simp[bj,ga,e9,cD,dN,cr,nk,dR,h1.symm,h2,h3,h4]
 |n2 h1 h2 _ _ h3 h4=>
  rcases h2 with rfl|rfl|rfl|rfl<;>simp[bj,ga,e9,cD,dN,cr,nk,dR,h1.symm,h3,h4]
 |ite h1 _ _ _ h2 h3 h4=>simp[bj,ga,e9,cD,dN,cr,nk,dR,h1.symm,h2,h3,h4]
 |n1 h1 h2 _ h3=>
  rcases h2 with rfl|rfl<;>simp[bj,ga,e9,cD,dN,cr,nk,dR,h1.symm,h3]
 |asc h1 h2 _ h3=>simp[bj,ga,e9,cD,dN,cr,nk,dR,h1.symm,h2,h3]
 |cast h1 h2 h3 h4 h5 _ h6=>simp[bj,ga,e9,cD,dN,cr,nk,dR,py,h1.symm,h2,h3,h4,h5,h6]
section
variable {nt:Int} {d:Nat}
theorem kP.mono {nt:Int} {d:Nat} {e:ao} (h:kP nt d e):∀{m:Nat},d<=m->kP nt m e:=by
 induction h with
 |var h1 h2=>intro m hm;obtain⟨m,rfl⟩:∃j,m=j+1:=⟨m-1,by omega⟩;exact .var h1 h2
 |num h1 h2 h3=>intro m hm;obtain⟨m,rfl⟩:∃j,m=j+1:=⟨m-1,by omega⟩;exact .num h1 h2 h3
 |tP h1=>intro m hm;obtain⟨m,rfl⟩:∃j,m=j+1:=⟨m-1,by omega⟩;exact .tP h1
 |tQ h1=>intro m hm;obtain⟨m,rfl⟩:∃j,m=j+1:=⟨m-1,by omega⟩;exact .tQ h1
 |lam h1 h2 h3 _ ih=>intro m hm;obtain⟨m,rfl⟩:∃j,m=j+1:=⟨m-1,by omega⟩;exact .lam h1 h2 h3 (ih (by omega))
 |n2 h1 h2 _ _ ih1 ih2=>intro m hm;obtain⟨m,rfl⟩:∃j,m=j+1:=⟨m-1,by omega⟩;exact .n2 h1 h2 (ih1 (by omega)) (ih2 (by omega))
 |ite h1 _ _ _ ih1 ih2 ih3=>intro m hm;obtain⟨m,rfl⟩:∃j,m=j+1:=⟨m-1,by omega⟩;exact .ite h1 (ih1 (by omega)) (ih2 (by omega)) (ih3 (by omega))
 |n1 h1 h2 _ ih=>intro m hm;obtain⟨m,rfl⟩:∃j,m=j+1:=⟨m-1,by omega⟩;exact .n1 h1 h2 (ih (by omega))
 |asc h1 h2 _ ih=>intro m hm;obtain⟨m,rfl⟩:∃j,m=j+1:=⟨m-1,by omega⟩;exact .asc h1 h2 (ih (by omega))
 |cast h1 h2 h3 h4 h5 _ ih=>intro m hm;obtain⟨m,rfl⟩:∃j,m=j+1:=⟨m-1,by omega⟩;exact .cast h1 h2 h3 h4 h5 (ih (by omega))
end
section
variable (ctx:List ea) (s:List UInt8) (n:Int) (t:aE) (a b c:ao)
theorem FF:cO ctx (q8 s)=cX ctx s:=by simp[cO,gO,eb]
theorem FG:cO ctx (tO n)=some bP:=by simp[cO,gO,eb]
theorem Dj:cO ctx mR=some c3:=by simp[cO,gO,eb]
theorem Bw:cO ctx ju=some c3:=by simp[cO,gO,eb]
theorem FH:cO ctx (pD s t b)=(cO (ctx++[⟨s,t⟩]) b).bind (Ab 4 t):=by
 simp only[cO,gO,if_true];cases cO (ctx++[⟨s,t⟩]) b<;>simp[eb]
theorem Hw {k:Int} (hk:k=11\/k=12):cO ctx (Di k a)=(cO ctx a).bind fun x=>eb ctx k [] bx [x]:=by
 have h5:¬k=5:=by omega
 simp only[cO,gO,if_neg h5];cases cO ctx a<;>rfl
theorem Hx {k:Int} (hk:k≠5):cO ctx (Ag k a b)=(cO ctx a).bind fun x=>(cO ctx b).bind fun y=>eb ctx k [] bx [x,y]:=by
 simp only[cO,gO,if_neg hk];cases cO ctx a<;>cases cO ctx b<;>rfl
theorem Hy:cO ctx (Ex a b c)=(cO ctx a).bind fun x=>(cO ctx b).bind fun y=>(cO ctx c).bind fun z=>if aM y z=true/\aM x c3=true then some (cG y z)else none:=by
 simp only[cO,gO,show¬(9:Int)=5 by omega,if_false];cases cO ctx a<;>cases cO ctx b<;>cases cO ctx c<;>simp[eb]
end
theorem zh:∀(l m:List ea) (s:List UInt8),cX (l++m) s=match cX m s with|some t=>some t|none=>cX l s
 |[],m,s=>by cases h:cX m s<;>simp[cX,h]
 |b::l,m,s=>by
  simp only[List.cons_append,cX,zh l m s];cases cX m s<;>rfl
def QR (c c':List ea):Prop:=∀s t,cX c s=some t->cX c' s=some t
mutual
def Ah (x:List UInt8) (v:ao):ao->ao
 |.mk k s n t f b l=>if k=1/\s=x then v else if k=5/\s=x then .mk k s n t f b l else .mk k s n t f b (Hz x v l)
def Hz (x:List UInt8) (v:ao):List ao->List ao
 |[]=>[]
 |e::r=>Ah x v e::Hz x v r
end
def SI (c c':List ea):Prop:=∀s,cX c s=cX c' s
mutual
def Dk:aE->aE->Bool
 |.mk k l,.mk k' l'=>decide (k'=1)||(decide (k=k')&& Ez l l')
def Ez:List aE->List aE->Bool
 |[],[]=>true
 |x::xs,y::ys=>Dk x y && Ez xs ys
 |_,_=>false
end
def bD (k:Int):Bool:=decide (k=5)||decide (k=13)
mutual
def Lw (q:aE->aE->Bool):ao->ao->Bool
 |.mk k s n t _ _ l,.mk k' s' n' t' _ _ l'=> !(bD k && decide (k=k')&& !q t t')&&(decide (k=k')&&(decide (s=s')&&(decide (n=n')&& HA q l l')))
def HA (q:aE->aE->Bool):List ao->List ao->Bool
 |[],[]=>true
 |x::xs,y::ys=>Lw q x y && HA q xs ys
 |_,_=>false
end
theorem Bx {k:Int} (hk:k≠1) {a b a' b':aE}:aM (.mk k [a,b]) (.mk k [a',b'])=(aM a a' && aM b b'):=by
 rw[nK];simp[hk,iT]
theorem By {k:Int} (hk:k≠1) {a b a' b':aE}:cG (.mk k [a,b]) (.mk k [a',b'])=.mk k [cG a a',cG b b']:=by
 rw[lu];simp[hk]
def JC:List ea->List ea->Prop
 |[],[]=>True
 |b::r,b'::r'=>b.name=b'.name/\Dk b.ty b'.ty=true/\JC r r'
 |_,_=>False
theorem kO.app {c:List ea} (h:kO c) {s:List UInt8} {t:aE} (ht:ak 4 t=true):kO (c++[⟨s,t⟩]):=by
 intro b hb;rcases X8.1 hb with h'|h'
 ·exact h b h'
 ·simp at h';subst h';exact ht
inductive Bz (q:aE->aE->Bool):ao->ao->Prop
 |var (s:List UInt8):Bz q (q8 s) (q8 s)
 |num (n:Int):Bz q (tO n) (tO n)
 |tP:Bz q mR mR
 |tQ:Bz q ju ju
 |lam {s:List UInt8} {t t':aE} {b b':ao}:q t t'=true->Bz q b b'->Bz q (pD s t b) (pD s t' b')
 |n2 {k:Int} {a b a' b':ao}:Bz q a a'->Bz q b b'->Bz q (Ag k a b) (Ag k a' b')
 |ite {a b c a' b' c':ao}:Bz q a a'->Bz q b b'->Bz q c c'->Bz q (Ex a b c) (Ex a' b' c')
 |n1 {k:Int} {a a':ao}:Bz q a a'->Bz q (Di k a) (Di k a')
 |asc {t t':aE} {a a':ao}:q t t'=true->Bz q a a'->Bz q (MW a t) (MW a' t')
section
variable {P:Program} {n:Nat} {ι:Type} {Q:Exit->St->Prop} {QX:ι->Exit->St->Prop} {s s':St} {c:Code}
theorem j4.app:∀{l m fr:List (Nat×AV)},j4 l fr->j4 m fr->j4 (l++m) fr
 |[],m,fr,_,h=>h
 |(t,x)::r,m,fr,h,h'=>⟨h.1,j4.app h.2 h'⟩
theorem q9:∀(ks:List Nat) {fr cM:List (Nat×AV)},(∀t x,look fr t=some x->look cM t=some x)->j4 (gv ks fr) cM
 |[],_,_,_=>trivial
 |k::r,fr,cM,h=>by
  simp only[gv];cases hk:look fr k with
  |some x=>exact⟨h k x hk,q9 r h⟩
  |none=>exact q9 r h
theorem tR (ks:List Nat) (fr:List (Nat×AV)):j4 (gv ks fr) fr:=q9 ks fun _ _ h=>h
theorem T.dA {α:Type} (ks:List Nat) (ph:α->List (Nat×AV)) (ob:α->List (Nat×List CV)) (G:α->List (List CV)) (ar:α->List bu->List bu) (m:α->Nat) (H:α->Prop) {fr0:List (Nat×AV)} (hk:gv ks s.fr=fr0)
  (h:∀a,H a->T P n c (Round (fun a=>⟨ph a++fr0,gi (ob a) s.V++G a,ar a s.A⟩) m H (m a) Q) ⟨ph a++fr0,gi (ob a) s.V++G a,ar a s.A⟩) (a:α) (ha:H a) (hV:gi (ob a) s.V++G a=s.V) (hA:ar a s.A=s.A) (hp:j4 (ph a) s.fr):T P n (.loop c) Q s:=by
 subst hk;exact T.iI (fun a=>⟨ph a++gv ks s.fr,gi (ob a) s.V++G a,ar a s.A⟩) m H h a ha ⟨hV,hA,hp.app (tR ks s.fr)⟩
theorem TX.dA {α:Type} (ks:List Nat) (ph:α->List (Nat×AV)) (ob:α->List (Nat×List CV)) (G:α->List (List CV)) (ar:α->List bu->List bu) (m:α->Nat) (H:α->Prop) {fr0:List (Nat×AV)} (hk:gv ks s.fr=fr0)
  (h:∀a,H a->TX P n c (wV (fun a=>⟨ph a++fr0,gi (ob a) s.V++G a,ar a s.A⟩) m H (m a) QX) ⟨ph a++fr0,gi (ob a) s.V++G a,ar a s.A⟩) (a:α) (ha:H a) (hV:gi (ob a) s.V++G a=s.V) (hA:ar a s.A=s.A) (hp:j4 (ph a) s.fr):TX P n (.loop c) QX s:=by
 subst hk;exact TX.iI (fun a=>⟨ph a++gv ks s.fr,gi (ob a) s.V++G a,ar a s.A⟩) m H h a ha ⟨hV,hA,hp.app (tR ks s.fr)⟩
end
end Go.Av
namespace Go.Av
attribute [-simp] Go.Av.bH Go.Av.eD Go.Av.gX Go.Av.bS Go.Av.bE Go.Av.hM Go.Av.mi Go.Av.rS Go.Av.mF Go.Av.zW Go.Av.rowsOf Go.Av.look Go.Av.th Go.Av.St.put Go.Av.gB Go.Av.Fl Go.Av.b6 Go.Av.zU Go.Av.Jk Go.Av.rR Go.Av.rQ Go.Av.Ek Go.Av.AV.plain Go.Av.AV.cells Go.Av.CV.jM Go.Av.nw Go.Av.iy Go.Av.kB Go.Av.fB Go.Av.bT Go.Av.ib Go.Av.AV.kK Go.Av.CV.kK Go.Av.qz Go.Av.AV.fN Go.Av.CV.fN Go.Av.bB Go.Av.iz Go.Av.jY Go.Av.oC Go.Av.cL Go.Av.e8 Go.Av.uU Go.Av.AV.qB Go.Av.CV.res Go.Av.rZ Go.Av.pos? Go.Av.wG Go.Av.wN Go.Av.gC Go.Av.Sub Go.Av.j4 Go.Av.kL Go.Av.iJ Go.Av.gE Go.Av.iK Go.Av.gF Go.Av.aE.b4 Go.Av.aE.bQ Go.Av.ao.b4 Go.Av.ao.lX Go.Av.ao.q7 Go.Av.ao.sd Go.Av.ao.se Go.Av.ao.lp Go.Av.ao.bQ Go.Av.dw Go.Av.rN Go.Av.gv Go.Av.gi Go.Av.cP
open Go
def Py:Op->Bool
 |.buildSlice _ _ _=>true
 |.call {callee:=.builtin .append,.. }=>true
 |_=>false
def JD (all:Array Oper) (wv wa fs:List Nat) (m:Nat) (ms:List Nat) (oi oj:Oper) (i j:Nat):Bool:=
 (oi.dst.isNone||oi.dst !=oj.dst)&&((!dq all oi oj && !dq all oj oi &&
  !((wv.contains i||wa.contains i)&& !cL oj.op && !(fs.contains j && decide (i<m))&& !(wv.contains i && wa.contains j)&& !(wa.contains i && wv.contains j))&&
  !((wv.contains j||wa.contains j)&& !cL oi.op && !(fs.contains i && decide (j<m))&& !(wv.contains j && wa.contains i)&& !(wa.contains j && wv.contains i)))||(ms.getD j 0).testBit i)
def Pz (all:Array Oper) (wv wa fs:List Nat) (m:Nat):Bool:=
 let l:=all.toList.zipIdx
 let ms:=a7 all.toList []
 (l.all fun(o,j)=>o.after.toList.all fun e=> !Region.binds .any e||decide (e.on<j))&&
 (l.all fun(oj,j)=>l.all fun(oi,i)=> !(decide (i<j))||JD all wv wa fs m ms oi oj i j)&&
 (l.all fun(o,j)=>(!wv.contains j|| !cL o.op)&&(!wa.contains j||Py o.op))&&(fs.all fun j=> !wv.contains j && !wa.contains j)&&
 (fs.all fun j=>(wv++wa).all fun i=>decide (i<m)||decide (j<i))&&(wv.all fun j=> !wa.contains j)
def HB (P:Program) (all:Array Oper) (ow:Nat->Bool) (wv wa fs:List Nat) (m:Nat) (ex:List Nat) (V0:List (List CV)) (A0:List bu) (K:St->Prop):Nat->List Oper->St->Prop
 |_,[],s=>K s
 |i,o::rest,s=>gX all s o (bH P s (ow i) o fun x V A=>((i∈wv\/V=s.V)/\(i∈wa\/A=s.A))/\(i∈wv\/i∈wa->i<m->V.take V0.length=rN ex (fun i=>V.getD i []) V0/\A.take A0.length=A0)/\(i∈fs->dw P s (ow i) o ex V0 A0 x)/\
   (i∈wv->∀A2,bH P ⟨s.fr,s.V,A2⟩ (ow i) o fun y V' A'=>y=x/\V'=V/\A'=A2)/\HB P all ow wv wa fs m ex V0 A0 K (i+1) rest (s.put o.dst x V A)) (HB P all ow wv wa fs m ex V0 A0 K (i+1) rest (s.put o.dst (.c .undef) s.V s.A))
section
variable {P:Program} {n:Nat} {Q Q':Exit->St->Prop} {s s':St} {w0:World} {g0 g g':Gh} {a:Act} {w w':World} {V:List (List CV)} {A A':List bu}
def Uh (P:Program) (all:Array Oper) (ow:Bool) (wv fs:List Nat) (j:Nat) (ex:List Nat) (V0:List (List CV)) (A0:List bu) (o:Oper) (s s':St):Prop:=
 gX all s o True True/\((gw all s o=true/\∃x V A,s'=s.put o.dst x V A/\(∀K:AV->List (List CV)->List bu->Prop,K x V A->bH P s ow o K)/\(j∈fs->dw P s ow o ex V0 A0 x)/\
  (j∈wv->∀A2,bH P ⟨s.fr,s.V,A2⟩ ow o fun y V' A'=>y=x/\V'=V/\A'=A2))\/(gw all s o=false/\s'=s.put o.dst (.c .undef) s.V s.A))
structure VC (all:Array Oper) (wv wa:List Nat) (σ:Nat->St) (n:Nat) (w0:World) (g0:Gh) (ae:Array Bool) (kv ka:Nat) (g:Gh) (a:Act) (w:World):Prop where
 inv:Inv g w (σ kv).V (σ ka).A
 fr:Fr w0 g0 w g
 size:a.tmps.size=n
 defers:a.defers=[]
 ey:ae.size=all.size
 fP:∀(i:Nat) o t x,all[i]? =some o->ae[i]? =some true->o.dst=some t->look (σ (i+1)).fr t=some x->∃u,a.tmps[t]? =some u/\aV g w (σ ka).A x u
 fQ:∀t x,(∀(i:Nat) o,all[i]? =some o->ae[i]? =some true->o.dst≠some t)->look (σ 0).fr t=some x->∃u,a.tmps[t]? =some u/\aV g w (σ ka).A x u
 NO:∀i∈wv,i<all.size->(ae[i]? =some true↔i<kv)
 NQ:∀i∈wa,i<all.size->(ae[i]? =some true↔i<ka)
 Ui:kv<=all.size
 Uj:ka<=all.size
 vw:kv=0\/∃i∈wv,kv=i+1
 aw:ka=0\/∃i∈wa,ka=i+1
 closed:∀(i:Nat) o,all[i]? =some o->ae[i]? =some true->∀e∈o.after,Region.binds .any e=true->ae[e.on]? =some true
end
end Go.Av
namespace Go.Av
attribute [-simp] Go.Av.cP
open Go
def JE (all:Array Oper) (ws fs:List Nat) (m q:Nat) (ms:List Nat) (oi oj:Oper) (i j:Nat):Bool:=
 if j=q then oi.dst.isNone||oi.dst !=oj.dst else cC all ws fs m ms oi oj i j &&(!(decide (i<=q)&& decide (q<j))||(ms.getD j 0).testBit i)
def PA (all:Array Oper) (ws fs:List Nat) (m q:Nat):Bool:=
 let l:=all.toList.zipIdx
 let ms:=a7 all.toList []
 (l.all fun(o,j)=>o.after.toList.all fun e=> !Region.binds .any e||decide (e.on<j))&&
 (l.all fun(oj,j)=>l.all fun(oi,i)=> !(decide (i<j))||JE all ws fs m q ms oi oj i j)&&
 (l.all fun(o,j)=> !ws.contains j|| !cL o.op)&&(fs.all fun j=> !ws.contains j)&&(fs.all fun j=>ws.all fun i=>decide (i<m)||decide (j<i))&& ws.contains q
section
variable {P:Program} {n:Nat} {Q Q':Exit->St->Prop} {s s':St} {w0:World} {g0 g g':Gh} {a:Act} {w w':World} {V:List (List CV)} {A A':List bu}
structure Uk (all:Array Oper) (ws:List Nat) (σ:Nat->St) (n:Nat) (w0:World) (g0:Gh) (q d:Nat) (row:List CV) (cs:Array Value) (ty:TypeId) (ae:Array Bool) (k0:Nat) (b:Nat) (g:Gh) (a:Act) (w:World):Prop where
 MX:ae[q]? =some true
 base:yj all ws σ n w0 g0 (ae.setIfInBounds q false) k0 g a w
 slot:a.tmps[d]? =some (.pointer (some ⟨b,0,none⟩))
 mem:w.heap[b]? =some (.cells cs ty)
 ob:b∉g.ob
 jg:b∉g.jg
 im:g.im b=0
 new:w0.heap.size<=b
 lt:b<w.heap.size
 closed:∀(i:Nat) o,all[i]? =some o->ae[i]? =some true->∀e∈o.after,Region.binds .any e=true->ae[e.on]? =some true
structure QS (P:Program) (all:Array Oper) (ow:Nat->Bool) (σ:Nat->St) (q d:Nat) (row:List CV) (cs:Array Value) (ty:TypeId) (oq:Oper):Prop where
 at_:all[q]? =some oq
 guard:oq.guard=none
 dst:oq.dst=some d
 s0:look (σ 0).fr d=none
 size:cs.size=row.length
 cells:∀(j:Nat) c u,row[j]? =some c->cs[j]? =some u->∀g w A,bm g w A c u
 next:σ (q+1)=(σ q).put (some d) (.c (.ptr (σ q).V.length 0)) ((σ q).V++[row]) (σ q).A
 run:∀(a:Act) (w:World),(execOp a.eval oq).run P w=.ok (.value (.pointer (some ⟨w.heap.size,0,none⟩))) (w.alloc (.cells cs ty))
theorem nP {all:Array Oper} (cZ:∀(j:Nat) o,all[j]? =some o->∀e∈o.after,Region.binds .any e=true->e.on<j) {ae:Array Bool} (kJ:∀(i:Nat) o,all[i]? =some o->ae[i]? =some true->∀e∈o.after,Region.binds .any e=true->ae[e.on]? =some true):
  ∀(i:Nat) o,all[i]? =some o->(∀e∈o.after,Region.binds .any e=true->ae[e.on]? =some true)->∀k,((a7 all.toList []).getD i 0).testBit k=true->ae[k]? =some true:=by
 obtain⟨GJ,_,Bn⟩:=eU all.toList [];intro i;induction i using X2 with
 |_ i ih=>
  intro o ho cz k hk;obtain⟨pre,h1,h2,h3⟩:=Bn i o (by simpa using ho);simp only[X9,X4]at h1 h3;have h4:(a7 all.toList []).getD i 0=mN pre o:=by simp[Ya,h3]
  rw[h4]at hk;obtain⟨e,he,hb,h5⟩:=fF hk;have s7:=cz e he hb;rcases h5 with rfl|h5
  ·exact s7
  ·have az:=cZ i o ho e he hb;have h6:pre.getD e.on 0=(a7 all.toList []).getD e.on 0:=by simp only[Ya,h2 e.on (by omega)]
   rw[h6]at h5;have eM:e.on<all.size:=by have:=(Yr.1 ho).1;omega
   have uY:all[e.on]? =some all[e.on]:=Yq eM;exact ih e.on az _ uY (kJ e.on _ uY s7) k h5
end
section
variable {P:Program} {n:Nat} {Q:Exit->St->Prop} {s:St}
theorem T.Lx {c:Code} (l j:Nat) {row:List CV} (hl:s.V[l]? =some row) (hj:row[j]? =some .nil) (h:T P n c Q ⟨s.fr,s.V.set l (row.set j (.d (.sl []))),s.A⟩):T P n c Q s:=by
 intro eK w0 g0 g a w hR;have eZ:=hR.inv;refine h eK w0 g0 g a w ⟨?_,hR.fr,hR.size,hR.defers,fun t' x hx=>hR.slot t' x hx⟩;refine⟨by simpa using eZ.oP,eZ.lF,fun l' row' b h1 h2=>?_,eZ.arr,eZ.kA,eZ.iS,eZ.iX,eZ.fresh⟩;have lH:(s.V.set l (row.set j (.d (.sl []))))[l']? =some row':=h1;rw[dk hl]at lH;by_cases e':l'=l
 ·subst e';simp at lH;subst lH;obtain⟨h3,cs,ty,h4,h5,h6⟩:=eZ.obj l' row b hl h2;refine⟨h3,cs,ty,h4,by simpa using h5,fun i c u h7 h8=>?_⟩;rw[dk hj]at h7;by_cases e'':i=j
  ·subst e'';simp at h7;subst h7;have h9:=h6 i _ u hj h8;simp only[bm]at h9;subst h9;simp only[bm,bh];exact⟨none,0,rfl,X1 _,by simp⟩
  ·rw[if_neg e'']at h7;exact h6 i c u h7 h8
 ·rw[if_neg e']at lH;exact eZ.obj l' row' b lH h2
end
def JF (all:Array Oper) (ws fs:List Nat) (m q:Nat) (ms:List Nat) (oi oj:Oper) (i j:Nat):Bool:=
 if j=q/\ws.contains i=true then oi.dst.isNone||oi.dst !=oj.dst else cC all ws fs m ms oi oj i j &&(!(decide (i<=q)&& decide (q<j)&& ws.contains i)||(ms.getD j 0).testBit i)
def PB (all:Array Oper) (ws fs:List Nat) (m q:Nat):Bool:=
 let l:=all.toList.zipIdx
 let ms:=a7 all.toList []
 (l.all fun(o,j)=>o.after.toList.all fun e=> !Region.binds .any e||decide (e.on<j))&&
 (l.all fun(oj,j)=>l.all fun(oi,i)=> !(decide (i<j))||JF all ws fs m q ms oi oj i j)&&
 (l.all fun(o,j)=> !ws.contains j|| !cL o.op)&&(fs.all fun j=> !ws.contains j)&&(fs.all fun j=>ws.all fun i=>decide (i<m)||decide (j<i))&& ws.contains q
section
variable {P:Program} {n:Nat} {Q Q':Exit->St->Prop} {s s':St} {w0:World} {g0 g g':Gh} {a:Act} {w w':World} {V:List (List CV)} {A A':List bu}
theorem Fr.BA (h:Fr w0 g0 w g) (k:Fr w g w' g'):Fr w0 g0 w' g':=by
 have EA:∀b,b<w0.heap.size->b∉g0.ob->b∉g.ob:=fun b hb h1 hm=>by
  obtain⟨new,e,hn⟩:=h.ob;rw[e]at hm;rcases X8.1 hm with q|q
  ·exact h1 q
  ·exact absurd (hn b q) (by omega)
 have tS:∀b,b<w0.heap.size->b∉g0.jg->b∉g.jg:=fun b hb h1 hm=>by
  obtain⟨k,v,q1,q2⟩:=Gh.fD hm;rcases h.ar k v b q1 q2 with q|q
  ·omega
  ·exact h1 q
 refine⟨k.os.trans h.os,k.tape.trans h.tape,k.output.trans h.output,X3 h.size k.size,fun b h1 h2 h3=>?_,fun b h1 h2=>?_,?_,fun i v b h1 h2=>?_,fun i v h1=>?_,h.yp⟩
 ·rw[k.qF b (X6 h1 h.size) (EA b h1 h2) (tS b h1 h3)];exact h.qF b h1 h2 h3
 ·rw[k.iY b (X6 h1 h.size) (tS b h1 h2)];exact h.iY b h1 h2
 ·obtain⟨new,e,hn⟩:=h.ob;obtain⟨new',e',MF⟩:=k.ob;refine⟨new++new',by rw[e',e,Yn],fun b hb=>?_⟩;rcases X8.1 hb with q|q
  ·exact hn b q
  ·exact X3 h.size (MF b q)
 ·rcases k.ar i v b h1 h2 with q|q
  ·exact .inl (X3 h.size q)
  ·obtain⟨j,v',q1,q2⟩:=Gh.fD q;exact h.ar j v' b q1 q2
 ·obtain⟨v1,q1,q2,q3⟩:=h.wq i v h1;obtain⟨v2,q4,q5,q6⟩:=k.wq i v1 q1;exact⟨v2,q4,X3 q2 q5,fun e=>(q6 (by omega)).trans (q3 (by omega))⟩
theorem Fr.Ly (h:Fr w0 g0 w g) {b:Nat} (hb:w0.heap.size<=b):Fr w0 g0 w {g with ob:=g.ob++[b]}:=by
 refine⟨h.os,h.tape,h.output,h.size,h.qF,h.iY,?_,h.ar,h.wq,h.yp⟩;obtain⟨new,e,hn⟩:=h.ob;refine⟨new++[b],by show g.ob++[b]=_;rw[e,Yn],fun c hc=>?_⟩;rcases X8.1 hc with q|q
 ·exact hn c q
 ·simp at q;omega
theorem Inv.Ly (hi:Inv g w V A) {b:Nat} {cs:Array Value} {ty:TypeId} {row:List CV} (hb:w.heap[b]? =some (.cells cs ty)) (hs:cs.size=row.length) (hr:∀(j:Nat) c u,row[j]? =some c->cs[j]? =some u->∀g w A,bm g w A c u)
  (h1:b∉g.ob) (h2:b∉g.jg) (h3:g.im b=0):Inv {g with ob:=g.ob++[b]} w (V++[row]) A/\Ext g w A {g with ob:=g.ob++[b]} w A/\(g.ob++[b])[V.length]? =some b:=by
 have ji:Ext g w A {g with ob:=g.ob++[b]} w A:=
  ⟨fun l c hc=>by show(g.ob++[b])[l]? =some c;rw[Yg (Yf.1 hc).1];exact hc,.refl _ _,fun _ r h=>⟨r,h,rfl,X1 _,fun _=>rfl⟩⟩
 have df:∀(l c:Nat),(g.ob++[b])[l]? =some c->(g.ob[l]? =some c/\c≠b)\/(l=V.length/\c=b):=fun l c hc=>by
  rcases X0 l g.ob.length with h|h
  ·rw[Yg h]at hc;exact .inl ⟨hc,fun e=>h1 (e▸List.mem_of_getElem? hc)⟩
  ·rw[List.getElem?_append_right h]at hc;have h0:l-g.ob.length=0:=by
    have:=(Yf.1 hc).1;simp at this;omega
   rw[h0]at hc;simp at hc;exact .inr ⟨by rw[<-hi.oP];omega,hc.symm⟩
 refine⟨⟨by simp[hi.oP],hi.lF,fun l row' c q1 q2=>?_,fun k r v q1 q2=>?_,fun l l' c q1 q2=>?_,hi.iS,fun l k v c q1 q2=>?_,hi.fresh⟩,ji,?_⟩
 ·rcases df l c q2 with⟨h4,_⟩|⟨h4,h5⟩
  ·have h5:V[l]? =some row':=by
    have:l<V.length:=by rw[<-hi.oP];exact(Yf.1 h4).1
    rwa[Yg this]at q1
   exact hi.fb ji h5 h4 rfl (hi.obj l row' c h5 h4).1
  ·subst h4;subst h5;simp at q1;subst q1;exact⟨h3,cs,ty,hb,hs,fun j c u h6 h7=>hr j c u h6 h7 _ _ _⟩
 ·exact hi.fc ji q1 q2 (fun _ _=>rfl) (fun _ _=>rfl)
 ·rcases df l c q1 with⟨h4,h5⟩|⟨h4,h5⟩<;>rcases df l' c q2 with⟨h6,h7⟩|⟨h6,h7⟩
  ·exact hi.kA l l' c h4 h6
  ·exact absurd h7 h5
  ·exact absurd h5 h7
  ·omega
 ·rcases df l c q1 with⟨h4,h5⟩|⟨h4,h5⟩
  ·exact hi.iX l k v c h4 q2
  ·subst h5;exact fun e=>h2 (Gh.jN q2 e)
 ·rw[<-hi.oP];simp
structure Dl (all:Array Oper) (ws:List Nat) (σ:Nat->St) (n:Nat) (w0:World) (g0:Gh) (q d:Nat) (row:List CV) (cs:Array Value) (ty:TypeId) (ae:Array Bool) (k0:Nat) (b:Nat) (g:Gh) (a:Act) (w:World):Prop where
 MX:ae[q]? =some true
 base:yj all ws σ n w0 g0 (ae.setIfInBounds q false) k0 g a w
 slot:a.tmps[d]? =some (.pointer (some ⟨b,0,none⟩))
 mem:w.heap[b]? =some (.cells cs ty)
 ob:b∉g.ob
 jg:b∉g.jg
 im:g.im b=0
 new:w0.heap.size<=b
 lt:b<w.heap.size
 closed:∀(i:Nat) o,all[i]? =some o->ae[i]? =some true->∀e∈o.after,Region.binds .any e=true->ae[e.on]? =some true
theorem Dl.step {all:Array Oper} {ws:List Nat} {σ:Nat->St} {q d:Nat} {row:List CV} {cs:Array Value} {ty:TypeId} {ae:Array Bool} {k0 k1 b:Nat} {a':Act} (h:Dl all ws σ n w0 g0 q d row cs ty ae k0 b g a w) {j:Nat} (GK:j≠q) (ha:a'.tmps[d]? =a.tmps[d]?)
  (hD:yj all ws σ n w0 g0 ((ae.setIfInBounds q false).setIfInBounds j true) k1 g' a' w') (hF:Fr w g w' g') (kJ:∀(i:Nat) o,all[i]? =some o->(ae.setIfInBounds j true)[i]? =some true->∀e∈o.after,Region.binds .any e=true->(ae.setIfInBounds j true)[e.on]? =some true):Dl all ws σ n w0 g0 q d row cs ty (ae.setIfInBounds j true) k1 b g' a' w':=by
 refine⟨by rw[Ys GK];exact h.MX,?_,by rw[ha];exact h.slot,by rw[hF.qF b h.lt h.ob h.jg];exact h.mem,fun hm=>?_,fun hm=>?_,by rw[hF.iY b h.lt h.jg];exact h.im,h.new,X6 h.lt hF.size,kJ⟩
 ·rw[Array.setIfInBounds_comm _ _ GK];exact hD
 ·obtain⟨new,e,hn⟩:=hF.ob;rw[e]at hm;rcases X8.1 hm with p|p
  ·exact h.ob p
  ·have:=hn b p;have:=h.lt;omega
 ·obtain⟨k,v,q1,q2⟩:=Gh.fD hm;rcases hF.ar k v b q1 q2 with p|p
  ·have:=h.lt;omega
  ·exact h.jg p
structure Dm (P:Program) (all:Array Oper) (ow:Nat->Bool) (σ:Nat->St) (q d:Nat) (row:List CV) (cs:Array Value) (ty:TypeId) (oq:Oper):Prop where
 at_:all[q]? =some oq
 guard:oq.guard=none
 dst:oq.dst=some d
 s0:look (σ 0).fr d=none
 size:cs.size=row.length
 cells:∀(j:Nat) c u,row[j]? =some c->cs[j]? =some u->∀g w A,bm g w A c u
 next:σ (q+1)=(σ q).put (some d) (.c (.ptr (σ q).V.length 0)) ((σ q).V++[row]) (σ q).A
 run:∀(a:Act) (w:World),(execOp a.eval oq).run P w=.ok (.value (.pointer (some ⟨w.heap.size,0,none⟩))) (w.alloc (.cells cs ty))
theorem Lz (l:Array Bool) (q:Nat) (h:l[q]? ≠some true) (hq:q<l.size):(l.setIfInBounds q true).setIfInBounds q false=l:=by
 apply Array.ext_getElem?;intro i;rw[Array.getElem?_setIfInBounds];by_cases e:q=i
 ·subst e;have:l[q]=false:=by
   rw[Yq hq]at h;cases hx:l[q]<;>simp_all
  simp[hq,this]
 ·rw[if_neg e,Ys e]
theorem u9 {all:Array Oper} (cZ:∀(j:Nat) o,all[j]? =some o->∀e∈o.after,Region.binds .any e=true->e.on<j) {ae:Array Bool} (kJ:∀(i:Nat) o,all[i]? =some o->ae[i]? =some true->∀e∈o.after,Region.binds .any e=true->ae[e.on]? =some true):
  ∀(i:Nat) o,all[i]? =some o->(∀e∈o.after,Region.binds .any e=true->ae[e.on]? =some true)->∀k,((a7 all.toList []).getD i 0).testBit k=true->ae[k]? =some true:=by
 obtain⟨GJ,_,Bn⟩:=eU all.toList [];intro i;induction i using X2 with
 |_ i ih=>
  intro o ho cz k hk;obtain⟨pre,h1,h2,h3⟩:=Bn i o (by simpa using ho);simp only[X9,X4]at h1 h3;have h4:(a7 all.toList []).getD i 0=mN pre o:=by simp[Ya,h3]
  rw[h4]at hk;obtain⟨e,he,hb,h5⟩:=fF hk;have s7:=cz e he hb;rcases h5 with rfl|h5
  ·exact s7
  ·have az:=cZ i o ho e he hb;have h6:pre.getD e.on 0=(a7 all.toList []).getD e.on 0:=by simp only[Ya,h2 e.on (by omega)]
   rw[h6]at h5;have eM:e.on<all.size:=by have:=(Yr.1 ho).1;omega
   have uY:all[e.on]? =some all[e.on]:=Yq eM;exact ih e.on az _ uY (kJ e.on _ uY s7) k h5
end
def nQ (all:Array Oper) (ws fs:List Nat) (m q:Nat) (wt:List Nat) (ms:List Nat) (oi oj:Oper) (i j:Nat):Bool:=
 if j=q/\wt.contains i=true then oi.dst.isNone||oi.dst !=oj.dst else cC all ws fs m ms oi oj i j &&(!(decide (i<=q)&& decide (q<j)&& wt.contains i)||(ms.getD j 0).testBit i)
def l8 (all:Array Oper) (ws fs:List Nat) (m q:Nat) (wt:List Nat):Bool:=
 let l:=all.toList.zipIdx
 let ms:=a7 all.toList []
 (l.all fun(o,j)=>o.after.toList.all fun e=> !Region.binds .any e||decide (e.on<j))&&
 (l.all fun(oj,j)=>l.all fun(oi,i)=> !(decide (i<j))||nQ all ws fs m q wt ms oi oj i j)&&
 (l.all fun(o,j)=> !ws.contains j|| !cL o.op)&&(fs.all fun j=> !ws.contains j)&&(fs.all fun j=>ws.all fun i=>decide (i<m)||decide (j<i))&& ws.contains q &&(ws.all fun i=>wt.contains i)
section
variable {P:Program} {n:Nat} {Q Q':Exit->St->Prop} {s s':St} {w0:World} {g0 g g':Gh} {a:Act} {w w':World} {V:List (List CV)} {A A':List bu}
theorem zi {all:Array Oper} {ow:Nat->Bool} {ws fs:List Nat} {m q:Nat} {wt:List Nat} {ex:List Nat} {V0:List (List CV)} {A0:List bu} {σ:Nat->St} (hd:l8 all ws fs m q wt=true) (eT:c7 n all.toList=true)
  (lK:∀(j:Nat) o,all[j]? =some o->Ht P all (ow j) fs j ex V0 A0 o (σ j) (σ (j+1))/\(j∈ws\/((σ (j+1)).V=(σ j).V/\(σ (j+1)).A=(σ j).A))/\(j<m->KN ex V0 A0 (σ (j+1))\/((σ (j+1)).V=(σ j).V/\(σ (j+1)).A=(σ j).A))) (Hu:(σ 0).V=V0/\(σ 0).A=A0)
  {ae:Array Bool} {k0:Nat} (hD:yj all ws σ n w0 g0 ae k0 g a w) (hL:ae[q]? =some true->∀i∈wt,i<q->ae[i]? =some true) {j:Nat} (hj:j∈Region.ready .any all ae) (hq:j=q->∀i∈wt,i<q->ae[i]? =some true)
  {next:Act->World->Prop} {Q:Exit->Act->World->Prop} (ih:∀k1 o g' a' w',all[j]? =some o->(∀t,o.dst≠some t->a'.tmps[t]? =a.tmps[t]?)->yj all ws σ n w0 g0 (ae.setIfInBounds j true) k1 g' a' w'->Fr w g w' g'->next a' w'):wpOp P all Q j next a w:=by
 simp only[l8,Yo,Yb]at hd;obtain⟨⟨⟨⟨⟨⟨hP,jm⟩,oX⟩,I5⟩,I6⟩,KP⟩,we⟩:=hd;have gq:∀i∈ws,i∈wt:=fun i hi=>by simpa using we i hi
 have KP:q∈ws:=by simpa using KP
 have cQ:∀(j:Nat) o,all[j]? =some o->(o,j)∈all.toList.zipIdx:=fun j o h=>by
  rw[Yj];exact⟨j,by simp[Yl,h]⟩
 have cZ:∀(j:Nat) o,all[j]? =some o->∀e∈o.after,Region.binds .any e=true->e.on<j:=fun j o h e he hb=>by
  have:=hP _ (cQ j o h) e (Yt.2 he);simpa[hb]using this
 have wZ:∀(i j:Nat) oi oj,all[i]? =some oi->all[j]? =some oj->i<j->nQ all ws fs m q wt (a7 all.toList []) oi oj i j=true:=fun i j oi oj h1 h2 az=>by
  have:=jm _ (cQ j oj h2) _ (cQ i oi h1);simpa[az]using this
 have fI:∀(i j:Nat) oi oj,all[i]? =some oi->all[j]? =some oj->i<j->¬(j=q/\i∈wt)->cC all ws fs m (a7 all.toList []) oi oj i j=true:=fun i j oi oj h1 h2 az dc=>by
  have:=wZ i j oi oj h1 h2 az;rw[nQ,if_neg (by simpa using dc)]at this;simp only[Yo]at this;exact this.1
 have bY:∀(i j:Nat) oi oj,all[i]? =some oi->all[j]? =some oj->i<j->¬(j=q/\i∈wt)->i∉fs->j∉fs->br all ws (a7 all.toList []) oi oj i j=true:=fun i j oi oj h1 h2 az dc hi hj=>by
  have:=fI i j oi oj h1 h2 az dc;simpa[cC,br,hi,hj]using this
 have l7:∀i,i∈ws->i∉fs:=fun i hi hf=>by
  have:=I5 i hf;simp[hi]at this
 have Dd:∀k,k<=m->k<=all.size->KN ex V0 A0 (σ k):=by
  intro k;induction k with
  |zero=>
   intro _ _;refine⟨?_,by rw[Hu.2];simp⟩;rw[Hu.1,pA];simp
  |succ k ih=>
   intro h1 h2;have ho:all[k]? =some all[k]:=Yq (by omega);rcases(lK k _ ho).2.2 (by omega)with h3|⟨h3,h4⟩
   ·exact h3
   ·have:=ih (by omega) (by omega);exact⟨by rw[h3];exact this.1,by rw[h4];exact this.2⟩
 have uX:∀(j:Nat) o,all[j]? =some o->j∈ws->cL o.op=false:=fun j o h hj=>by
  have:=oX _ (cQ j o h);simpa[hj]using this
 have fG:∀(i j:Nat) oi oj d,all[i]? =some oi->all[j]? =some oj->i<j->oi.dst=some d->oj.dst≠some d:=fun i j oi oj d h1 h2 az h3 h4=>by
  have:=wZ i j oi oj h1 h2 az;simp only[nQ,cC,h3,h4]at this;split at this<;>simp at this
 have q0:∀(i j:Nat) oi oj d,all[i]? =some oi->all[j]? =some oj->oi.dst=some d->oj.dst=some d->i=j:=fun i j oi oj d h1 h2 h3 h4=>by
  rcases X5 i j with h|h|h
  ·exact absurd h4 (fG i j oi oj d h1 h2 h h3)
  ·exact h
  ·exact absurd h3 (fG j i oj oi d h2 h1 h h4)
 have z8:∀(j:Nat) o d,all[j]? =some o->o.dst=some d->d<n:=fun j o d h1 h2=>by
  have:=Yb.1 eT o (by rw[Yt];exact Yu h1);simpa[h2]using this
 obtain⟨GJ,_,Bn⟩:=eU all.toList []
 have mO:∀{ae:Array Bool},(∀(i:Nat) o,all[i]? =some o->ae[i]? =some true->∀e∈o.after,Region.binds .any e=true->ae[e.on]? =some true)->
   ∀(i:Nat) o,all[i]? =some o->(∀e∈o.after,Region.binds .any e=true->ae[e.on]? =some true)->∀k,((a7 all.toList []).getD i 0).testBit k=true->ae[k]? =some true:=by
  intro ae kJ i;induction i using X2 with
  |_ i ih=>
   intro o ho cz k hk;obtain⟨pre,h1,h2,h3⟩:=Bn i o (by simpa using ho);simp only[X9,X4]at h1 h3;have h4:(a7 all.toList []).getD i 0=mN pre o:=by simp[Ya,h3]
   rw[h4]at hk;obtain⟨e,he,hb,h5⟩:=fF hk;have s7:=cz e he hb;rcases h5 with rfl|h5
   ·exact s7
   ·have az:=cZ i o ho e he hb;have h6:pre.getD e.on 0=(a7 all.toList []).getD e.on 0:=by simp only[Ya,h2 e.on (by omega)]
    rw[h6]at h5;have eM:e.on<all.size:=by have:=(Yr.1 ho).1;omega
    have uY:all[e.on]? =some all[e.on]:=Yq eM;exact ih e.on az _ uY (kJ e.on _ uY s7) k h5
 have lV:∀(j:Nat) o t,all[j]? =some o->o.dst≠some t->look (σ (j+1)).fr t=look (σ j).fr t:=fun j o t h1 h2=>by
  obtain⟨⟨_,h3⟩,_⟩:=lK j o h1;have j3:∀(x:AV) V A,look ((σ j).put o.dst x V A).fr t=look (σ j).fr t:=fun x V A=>by
   simp only[St.put];cases rI:o.dst with
   |none=>rfl
   |some d=>simp only[look];rw[if_neg (fun e=>h2 (by rw[rI,e]))]
  rcases h3 with⟨_,x,V,A,h4,_,_⟩|⟨_,h4⟩
  ·rw[h4];exact j3 x V A
  ·rw[h4];exact j3 _ _ _
 have oR:∀(j t:Nat),j<=all.size->(∀(i:Nat) o,i<j->all[i]? =some o->o.dst≠some t)->look (σ j).fr t=look (σ 0).fr t:=by
  intro j;induction j with
  |zero=>intro t _ _;rfl
  |succ j ih=>
   intro t hj fe;have ho:all[j]? =some all[j]:=Yq (by omega);rw[lV j _ t ho (fe j _ (by omega) ho)];exact ih t (by omega) (fun i o hi=>fe i o (by omega))
 have oS:∀(j i:Nat) oi t,j<=all.size->i<j->all[i]? =some oi->oi.dst=some t->look (σ j).fr t=look (σ (i+1)).fr t:=by
  intro j;induction j with
  |zero=>intro i oi t _ h;omega
  |succ j ih=>
   intro i oi t hj kq aZ cg;by_cases e:i=j
   ·subst e;rfl
   ·have ho:all[j]? =some all[j]:=Yq (by omega);rw[lV j _ t ho (fG i j oi _ t aZ ho (by omega) cg)];exact ih i oi t (by omega) (by omega) aZ cg
 have tE:∀(b a:Nat),a<=b->b<=all.size->(∀i,a<=i->i<b->i∉ws)->(σ b).V=(σ a).V/\(σ b).A=(σ a).A:=by
  intro b;induction b with
  |zero=>
   intro a h _ _;obtain rfl:a=0:=by omega
   exact⟨rfl,rfl⟩
  |succ b ih=>
   intro a Pw hb fe;by_cases e:a=b+1
   ·subst e;exact⟨rfl,rfl⟩
   ·have ho:all[b]? =some all[b]:=Yq (by omega);obtain⟨h1,h2⟩:=ih a (by omega) (by omega) (fun i hi Fh=>fe i hi (by omega));rcases(lK b _ ho).2.1 with h3|⟨h3,h4⟩
    ·exact absurd h3 (fe b (by omega) (by omega))
    ·exact⟨h3.trans h1,h4.trans h2⟩
 obtain⟨mP,o,ho,cz⟩:=mem_ready.1 hj;have mQ:=dZ mP;have rK:j<all.size:=(Yr.1 ho).1;have iZ:j<ae.size:=by rw[hD.ey];exact rK
 have dc:∀i,j<i->ae[i]? =some true->¬(i=q/\j∈wt):=fun i h hl e=>by
  obtain⟨rfl,e⟩:=e;have:=hL hl j e h;rw[mQ]at this;simp at this
 have cn:∀e∈o.after,Region.binds .any e=true->ae[e.on]? =some true:=fun e he hb=>cy.1 (cz e he hb)
 have ck:∀k,((a7 all.toList []).getD j 0).testBit k=true->ae[k]? =some true:=mO hD.closed j o ho cn;have bV:∀(i:Nat) oi,all[i]? =some oi->ae[i]? =some true->((a7 all.toList []).getD i 0).testBit j=false:=fun i oi aZ bC=>by
  cases hb:((a7 all.toList []).getD i 0).testBit j with
  |false=>rfl
  |true=>have:=mO hD.closed i oi aZ (hD.closed i oi aZ bC) j hb;rw[mQ]at this;simp at this
 have jr:∀t∈o.looksAt all,∀x,look (σ j).fr t=some x->∃u,a.tmps[t]? =some u/\aV g w (σ k0).A x u:=by
  intro t ht x hx;by_cases hex:∃(i:Nat) (oi:Oper),i<j/\all[i]? =some oi/\oi.dst=some t
  ·obtain⟨i,oi,kq,aZ,cg⟩:=hex;rw[oS j i oi t (by omega) kq aZ cg]at hx;have bC:ae[i]? =some true:=by
    by_cases e:j=q/\i∈wt
    ·exact hq e.1 i e.2 (by omega)
    ·have hp:=fI i j oi o aZ ho kq e;have tF:dq all oi o=true:=by simp only[dq,cg];simpa using ht
     simp only[cC,tF,Yo,Yp]at hp;have hb:((a7 all.toList []).getD j 0).testBit i=true:=by simpa using hp.2
     exact ck i hb
   exact hD.fP i oi t x aZ bC cg hx
  ·rw[oR j t (by omega) (fun i oi kq aZ cg=>hex ⟨i,oi,kq,aZ,cg⟩)]at hx;refine hD.fQ t x (fun i oi aZ bC cg=>?_) hx;rcases X5 i j with h|h|h
   ·exact hex ⟨i,oi,h,aZ,cg⟩
   ·subst h;rw[mQ]at bC;simp at bC
   ·have hp:=fI j i o oi ho aZ h (dc i h bC);have tF:dq all oi o=true:=by simp only[dq,cg];simpa using ht
    have hb:=bV i oi aZ bC;simp only[cC,tF,hb,Yo,Yp]at hp;simp at hp
 let cM:=(σ j).fr.filter fun p=>(o.looksAt all).contains p.1
 have mD:∀t,look cM t=if(o.looksAt all).contains t then look (σ j).fr t else none:=fun t=>eP (fun t=>(o.looksAt all).contains t) (σ j).fr t
 have hS:∀(V:List (List CV)),ia g w ⟨cM,V,(σ k0).A⟩ a:=fun V t x hx=>by
  simp only[mD]at hx;split at hx
  ·rename_i hc;exact jr t (by simpa using hc) x hx
  ·cases hx
 have gu:∀(V V':List (List CV)) (A A':List bu),∀x∈o.op.operands.toList,bE ⟨cM,V,A⟩ x=bE ⟨(σ j).fr,V',A'⟩ x:=fun V V' A A' x hx=>by
  cases x with
  |tmp t=>
   simp only[bE,mD];rw[if_pos];simp only[Oper.looksAt,Ym,decide_eq_true_eq,X8,List.mem_filterMap];exact .inl ⟨.tmp t,hx,rfl⟩
  |_=>rfl
 have gD:Rp n w0 g0 ⟨cM,(σ k0).V,(σ k0).A⟩ g a w:=⟨hD.inv,hD.fr,hD.size,hD.defers,hS _⟩;obtain⟨⟨uT,kn⟩,Da,_⟩:=lK j o ho;have oT:gX all ⟨cM,(σ k0).V,(σ k0).A⟩ o True True/\gw all ⟨cM,(σ k0).V,(σ k0).A⟩ o=gw all (σ j) o:=by
  unfold gX gw at*;cases nG:o.guard with
  |none=>simp
  |some jw=>
   obtain⟨q,want⟩:=jw;simp only[nG]at uT⊢;obtain⟨oq,h1,h2⟩:=cv uT;obtain⟨t,h3,h4⟩:=cv h2;have:look cM t=look (σ j).fr t:=by
    rw[mD,if_pos];simp only[Oper.looksAt,nG,Ym,decide_eq_true_eq,X8];exact .inr (by simp[h1,h3])
   simp only[h1,bS,h3,XZ,this]at h4⊢;exact⟨h4,trivial⟩
 have ll:Region.wanted o (yielded all a.tmps)=gw all (σ j) o:=by
  rw[<-oT.2];have h0:=fO oT.1;have h1:=oT.1;unfold gX at h1;unfold gw;cases nG:o.guard with
  |none=>simp[Region.wanted,nG]
  |some jw=>
   obtain⟨q,want⟩:=jw;simp only[nG]at h1⊢;obtain⟨oq,h2,h3⟩:=cv h1;obtain⟨t,h4,h5⟩:=cv h3;obtain⟨x,h6,h7⟩:=cv h5;obtain⟨h8,h9⟩:=jq gD h2 h4 h6;simp only[h2,XZ,h4,h6];split at h7
   ·rename_i b;simp[Region.wanted,nG,h8 b rfl]
   ·simp[Region.wanted,nG,h9 rfl]
   ·exact h7.elim
 have bN:∀i,(ae.setIfInBounds j true)[i]? =if i=j then some true else ae[i]? :=fun i=>by
  by_cases e:i=j
  ·subst e;simp[iZ]
  ·rw[if_neg e,Ys (fun h=>e h.symm)]
 have gm:∀(v:Value) (t:Nat),o.dst≠some t->(a.put o.dst v).tmps[t]? =a.tmps[t]? :=fun v t dc=>by
  cases rI:o.dst with
  |none=>rfl
  |some d=>
   simp only[Act.put];rw[Ys (fun e=>dc (by rw[rI,e]))]
 have cJ:∀(k1:Nat) (x:AV) (v:Value) (w':World) (g':Gh),look (σ (j+1)).fr=look ((σ j).put o.dst x [] []).fr->aV g' w' (σ k1).A x v->Inv g' w' (σ k1).V (σ k1).A->Ext g w (σ k0).A g' w' (σ k1).A->Fr w0 g0 w' g'->k1<=all.size->(k1=0\/∃i∈ws,k1=i+1)->
   (∀i∈ws,i<all.size->((ae.setIfInBounds j true)[i]? =some true↔i<k1))->yj all ws σ n w0 g0 (ae.setIfInBounds j true) k1 g' (a.put o.dst v) w':=by
  intro k1 x v w' g' CN yy hI hx hF hk Lt Fw;have iH:∀t u,o.dst≠some t->a.tmps[t]? =some u->(a.put o.dst v).tmps[t]? =some u:=fun t u dc hu=>by
   cases rI:o.dst with
   |none=>exact hu
   |some d=>
    simp only[Act.put];rw[Ys (fun e=>dc (by rw[rI,e]))];exact hu
  refine⟨hI,hF,?_,?_,by simp[hD.ey],fun i oi t y aZ bC cg hy=>?_,fun t y fe hy=>?_,Fw,hk,Lt,fun i oi aZ bC e he hb=>?_⟩
  ·cases o.dst<;>simp[Act.put,hD.size]
  ·cases o.dst<;>simp[Act.put,hD.defers]
  ·rw[bN]at bC;by_cases e:i=j
   ·subst e;obtain rfl:o=oi:=by rw[ho]at aZ;exact Option.some.inj aZ
    rw[CN]at hy;simp only[St.put,cg,look,if_true]at hy;cases hy
    refine⟨v,?_,yy⟩;have:t<a.tmps.size:=by rw[hD.size];exact z8 i o t ho cg
    simp[Act.put,cg,this]
   ·rw[if_neg e]at bC;obtain⟨u,h1,h2⟩:=hD.fP i oi t y aZ bC cg hy;exact⟨u,iH t u (fun h=>e (q0 i j oi o t aZ ho cg h)) h1,aV.ext hx h2⟩
  ·have dc:o.dst≠some t:=fe j o ho (by rw[bN,if_pos rfl]);obtain⟨u,h1,h2⟩:=hD.fQ t y (fun i oi aZ bC=>fe i oi aZ (by
    rw[bN];by_cases e:i=j
    ·rw[if_pos e]
    ·rw[if_neg e];exact bC)) hy
   exact⟨u,iH t u dc h1,aV.ext hx h2⟩
  ·rw[bN]at bC⊢;have:ae[e.on]? =some true:=by
    by_cases e':i=j
    ·subst e';obtain rfl:o=oi:=by rw[ho]at aZ;exact Option.some.inj aZ
     exact cn e he hb
    ·rw[if_neg e']at bC;exact hD.closed i oi aZ bC e he hb
   by_cases e':e.on=j
   ·rw[if_pos e']
   ·rw[if_neg e'];exact this
 have gN:j∉ws->∀i∈ws,i<all.size->((ae.setIfInBounds j true)[i]? =some true↔i<k0):=fun ef i hi bZ=>by
  rw[bN,if_neg (fun e=>ef (by rw[<-e];exact hi))];exact hD.dY i hi bZ
 have kM:cL o.op=false->j∉fs->(σ j).V=(σ k0).V/\(σ j).A=(σ k0).A:=by
  intro fx nM;rcases Nat.le_total j k0 with h|h
  ·have:=tE k0 j h hD.nF (fun i h1 h2 h3=>by
    have bZ:i<all.size:=by have:=hD.nF;omega
    have bC:=(hD.dY i h3 bZ).2 h2;have aZ:all[i]? =some all[i]:=Yq bZ;rcases X0 j i with h4|h4
    ·have hp:=bY j i o _ ho aZ h4 (dc i h4 bC) nM (l7 i h3);have hb:=bV i _ aZ bC;simp only[br,hb,Yo,Yp]at hp;simp[h3,fx,-cL]at hp
    ·obtain rfl:i=j:=by omega
     rw[mQ]at bC;simp at bC)
   exact⟨this.1.symm,this.2.symm⟩
  ·exact tE j k0 h (by omega) (fun i h1 h2 h3=>by
    have bZ:i<all.size:=by omega
    have aZ:all[i]? =some all[i]:=Yq bZ;have bC:ae[i]? =some true:=by
     by_cases e:j=q
     ·exact hq e i (gq i h3) (by omega)
     ·have hp:=bY i j _ o aZ ho h2 (fun h=>e h.1) (l7 i h3) nM;simp only[br,Yo,Yp]at hp;rcases hp.2 with h4|h4
      ·simp[h3,fx,-cL]at h4
      ·exact ck i h4
    have:=(hD.dY i h3 bZ).1 bC;omega)
 unfold wpOp;simp only[ho];rcases kn with⟨h1,x,V,A,h2,h3,Fz⟩|⟨h1,h2⟩
 ·rw[if_pos (by rw[ll,h1])];refine .inl ?_;by_cases hs:cL o.op=true
  ·-- slots alone
   have ef:j∉ws:=fun h=>by have:=uX j o ho h;rw[hs]at this;simp at this
   have h4:bH P ⟨cM,(σ k0).V,(σ k0).A⟩ (ow j) o (fun y V' A'=>y=x/\V'=(σ k0).V/\A'=(σ k0).A):=nE (s:=σ j) (s':=⟨cM,(σ k0).V,(σ k0).A⟩) hs (gu _ _ _ _) h3 ⟨rfl,rfl,rfl⟩;obtain⟨y,V',A',⟨rfl,rfl,rfl⟩,h5⟩:=db gD.inv (Fr.refl gD.fr.now) gD.slot h4;refine h5 _ _ fun v w' g' h6 h7 h8 h9=>ih k0 o g' _ w' ho (gm v) (cJ k0 y v w' g' (by rw[h2];rfl) h6 h7 h8 (hD.fr.BA h9) hD.nF hD.kw (gN ef)) h9
  ·have fx:cL o.op=false:=by simpa using hs
   by_cases nM:j∈fs
   ·have ef:j∉ws:=fun h=>l7 j h nM
    have De:k0<=m:=by
     rcases hD.kw with h|⟨i,hi,hk⟩
     ·omega
     ·rcases X0 i m with h|h
      ·omega
      ·exfalso
       have bZ:i<all.size:=by have:=hD.nF;omega
       have aZ:all[i]? =some all[i]:=Yq bZ;have bC:=(hD.dY i hi bZ).2 (by omega);have KO:j<i:=by
        have:=I6 j nM i hi;simp at this;omega
       have hp:=fI j i o _ ho aZ KO (dc i KO bC);have hb:=bV i _ aZ bC;have s9:¬i<m:=by omega
       simp only[cC,hb,Yo,Yp]at hp;simp[-cL,hi,fx,s9,nM,ef]at hp
    obtain⟨dG,Ad⟩:=Dd k0 De hD.nF;have h4:bH P ⟨cM,(σ k0).V,(σ k0).A⟩ (ow j) o (fun y V' A'=>y=x/\V'=(σ k0).V/\A'=(σ k0).A):=by
     have h5:=Fz nM (fun i=>(σ k0).V.getD i []) ((σ k0).V.drop V0.length) ((σ k0).A.drop A0.length);have e1:rN ex (fun i=>(σ k0).V.getD i []) V0++(σ k0).V.drop V0.length=(σ k0).V:=by
      rw[<-dG];exact Yh _ _
     have e2:A0++(σ k0).A.drop A0.length=(σ k0).A:=by conv=>lhs;arg 1;rw[<-Ad]
                                                      exact Yh _ _
     rw[e1,e2]at h5;exact dX (fr:=(σ j).fr) (gu _ _ _ _) h5
    obtain⟨y,V',A',⟨rfl,rfl,rfl⟩,h5⟩:=db gD.inv (Fr.refl gD.fr.now) gD.slot h4;exact h5 _ _ fun v w' g' h6 h7 h8 h9=>ih k0 o g' _ w' ho (gm v) (cJ k0 y v w' g' (by rw[h2];rfl) h6 h7 h8 (hD.fr.BA h9) hD.nF hD.kw (gN ef)) h9
   obtain⟨kC,gY⟩:=kM fx nM;have h4:bH P ⟨cM,(σ k0).V,(σ k0).A⟩ (ow j) o (fun y V' A'=>y=x/\V'=V/\A'=A):=by
    rw[<-kC,<-gY];exact dX (fr:=(σ j).fr) (gu _ _ _ _) (h3 _ ⟨rfl,rfl,rfl⟩)
   obtain⟨y,V',A',⟨rfl,rfl,rfl⟩,h5⟩:=db gD.inv (Fr.refl gD.fr.now) gD.slot h4;have s8:(σ (j+1)).V=V':=by rw[h2];rfl
   have iW:(σ (j+1)).A=A':=by rw[h2];rfl
   by_cases ef:j∈ws
   ·refine h5 _ _ fun v w' g' h6 h7 h8 h9=>ih (j+1) o g' _ w' ho (gm v) (cJ (j+1) y v w' g' (by rw[h2];rfl) (by rw[iW];exact h6) (by rw[s8,iW];exact h7) (by rw[iW];exact h8) (hD.fr.BA h9) (by omega) (.inr ⟨j,ef,rfl⟩) (fun i hi bZ=>?_)) h9
    have aZ:all[i]? =some all[i]:=Yq bZ;rw[bN];by_cases e:i=j
    ·subst e;simp
    ·rw[if_neg e];constructor
     ·intro bC;rcases X0 j i with h|h
      ·have hp:=bY j i o _ ho aZ h (dc i h bC) (l7 j ef) (l7 i hi);have hb:=bV i _ aZ bC;simp only[br,hb,Yo,Yp]at hp;simp[hi,fx,-cL]at hp
      ·omega
     ·intro az;by_cases e:j=q
      ·exact hq e i (gq i hi) (by omega)
      have hp:=bY i j _ o aZ ho (by omega) (fun h=>e h.1) (l7 i hi) (l7 j ef);simp only[br,Yo,Yp]at hp;rcases hp.2 with h|h
      ·simp[hi,fx,-cL]at h
      ·exact ck i h
   ·rcases Da with Da|⟨pZ,mC⟩
    ·exact absurd Da ef
    ·refine h5 _ _ fun v w' g' h6 h7 h8 h9=>ih k0 o g' _ w' ho (gm v) (cJ k0 y v w' g' (by rw[h2];rfl) ?_ ?_ ?_ (hD.fr.BA h9) hD.nF hD.kw (gN ef)) h9
     ·rw[<-gY,<-mC,iW];exact h6
     ·rw[<-kC,<-gY,<-pZ,<-mC,s8,iW];exact h7
     ·have e1:(σ k0).A=A':=by rw[<-gY,<-mC,iW]
      rw[e1]at h8⊢;exact h8
 ·rw[if_neg (by rw[ll,h1];simp)];have s8:(σ (j+1)).V=(σ j).V:=by rw[h2];rfl
  have iW:(σ (j+1)).A=(σ j).A:=by rw[h2];rfl
  by_cases ef:j∈ws
  ·have fx:=uX j o ho ef;obtain⟨kC,gY⟩:=kM fx (l7 j ef);refine ih (j+1) o g _ w ho (gm undef) (cJ (j+1) (.c .undef) undef w g (by rw[h2];rfl) rfl ?_ ?_ hD.fr (by omega) (.inr ⟨j,ef,rfl⟩) (fun i hi bZ=>?_)) (.refl hD.fr.now)
   ·rw[s8,iW,kC,gY];exact hD.inv
   ·rw[iW,gY];exact .refl _ _ _
   ·have aZ:all[i]? =some all[i]:=Yq bZ;rw[bN];by_cases e:i=j
    ·subst e;simp
    ·rw[if_neg e];constructor
     ·intro bC;rcases X0 j i with h|h
      ·have hp:=bY j i o _ ho aZ h (dc i h bC) (l7 j ef) (l7 i hi);have hb:=bV i _ aZ bC;simp only[br,hb,Yo,Yp]at hp;simp[hi,fx,-cL]at hp
      ·omega
     ·intro az;by_cases e:j=q
      ·exact hq e i (gq i hi) (by omega)
      have hp:=bY i j _ o aZ ho (by omega) (fun h=>e h.1) (l7 i hi) (l7 j ef);simp only[br,Yo,Yp]at hp;rcases hp.2 with h|h
      ·simp[hi,fx,-cL]at h
      ·exact ck i h
  ·exact ih k0 o g _ w ho (gm undef) (cJ k0 (.c .undef) undef w g (by rw[h2];rfl) rfl hD.inv (.refl _ _ _) hD.fr hD.nF hD.kw (gN ef)) (.refl hD.fr.now)
theorem HC {all:Array Oper} {ws fs:List Nat} {m q:Nat} {wt:List Nat} (hd:l8 all ws fs m q wt=true):q∈ws/\(∀i∈ws,i∈wt)/\(∀(j:Nat) o,all[j]? =some o->∀e∈o.after,Region.binds .any e=true->e.on<j)/\
  (∀(i j:Nat) oi oj,all[i]? =some oi->all[j]? =some oj->i∈wt->i<=q->q<j->((a7 all.toList []).getD j 0).testBit i=true)/\(∀(i j:Nat) oi oj d,all[i]? =some oi->all[j]? =some oj->i≠j->oi.dst=some d->oj.dst≠some d):=by
 simp only[l8,Yo,Yb]at hd;obtain⟨⟨⟨⟨⟨⟨hP,jm⟩,oX⟩,I5⟩,I6⟩,KP⟩,we⟩:=hd;have gq:∀i∈ws,i∈wt:=fun i hi=>by simpa using we i hi
 have cQ:∀(j:Nat) o,all[j]? =some o->(o,j)∈all.toList.zipIdx:=fun j o h=>by
  rw[Yj];exact⟨j,by simp[Yl,h]⟩
 have wZ:∀(i j:Nat) oi oj,all[i]? =some oi->all[j]? =some oj->i<j->nQ all ws fs m q wt (a7 all.toList []) oi oj i j=true:=fun i j oi oj h1 h2 az=>by
  have:=jm _ (cQ j oj h2) _ (cQ i oi h1);simpa[az]using this
 have w6:∀(i j:Nat) oi oj d,all[i]? =some oi->all[j]? =some oj->i<j->oi.dst=some d->oj.dst≠some d:=fun i j oi oj d h1 h2 az h3 h4=>by
  have:=wZ i j oi oj h1 h2 az;simp only[nQ,cC,h3,h4]at this;split at this<;>simp at this
 refine⟨by simpa using KP,gq,fun j o h e he hb=>?_,fun i j oi oj h1 h2 h0 h3 h4=>?_,fun i j oi oj d h1 h2 dc h3 h4=>?_⟩
 ·have:=hP _ (cQ j o h) e (Yt.2 he);simpa[hb]using this
 ·have:=wZ i j oi oj h1 h2 (by omega);rw[nQ,if_neg (show¬(j=q/\wt.contains i=true) by omega)]at this;simp only[Yo]at this;simpa[h0,h3,h4]using this.2
 ·rcases Nat.lt_or_gt_of_ne dc with h|h
  ·exact w6 i j oi oj d h1 h2 h h3 h4
  ·exact w6 j i oj oi d h2 h1 h h4 h3
theorem Dl.QT {all:Array Oper} {ow:Nat->Bool} {ws fs:List Nat} {m q:Nat} {wt:List Nat} {σ:Nat->St} (hd:l8 all ws fs m q wt=true) {d:Nat} {row:List CV} {cs:Array Value} {ty:TypeId} {oq:Oper} (hk:Dm P all ow σ q d row cs ty oq)
  (hw:∀(j:Nat) o,all[j]? =some o->j∈ws\/((σ (j+1)).V=(σ j).V/\(σ (j+1)).A=(σ j).A))
  {ae:Array Bool} {k0 b:Nat} (h:Dl all ws σ n w0 g0 q d row cs ty ae k0 b g a w) (df:∀i∈wt,i<q->ae[i]? =some true):∃g',yj all ws σ n w0 g0 ae (q+1) g' a w:=by
 obtain⟨KP,gq,cZ,HD,q0⟩:=HC hd;have I7:q<all.size:=(Yr.1 hk.at_).1;have bN:∀i,i≠q->(ae.setIfInBounds q false)[i]? =ae[i]? :=fun i hi=>Ys (fun e=>hi e.symm)
 have Ul:q<ae.size:=(Yr.1 h.MX).1;have QU:(ae.setIfInBounds q false)[q]? =some false:=by simp[Ul]
 have fe:∀i,q<i->ae[i]? ≠some true:=fun i hi hl=>by
  have bZ:i<all.size:=by
   have:=(Yr.1 hl).1;have e:=h.base.ey;simp at e;omega
  have aZ:all[i]? =some all[i]:=Yq bZ;have:=u9 cZ h.base.closed i _ aZ (h.base.closed i _ aZ (by rw[bN i (by omega)];exact hl)) q (HD q i _ _ hk.at_ aZ (gq q KP) (X1 _) hi);rw[QU]at this;simp at this
 have gx:k0<=q:=by
  rcases h.base.kw with e|⟨i,hi,e⟩
  ·omega
  ·rcases X0 i q with h1|h1
   ·omega
   ·have:=h.base.nF;have h2:=(h.base.dY i hi (by omega)).2 (by omega);rcases Nat.eq_or_lt_of_le h1 with h3|h3
    ·subst h3;rw[QU]at h2;simp at h2
    ·rw[bN i (by omega)]at h2;exact absurd h2 (fe i h3)
 have tE:∀c,k0<=c->c<=q->(σ c).V=(σ k0).V/\(σ c).A=(σ k0).A:=by
  intro c;induction c with
  |zero=>intro h1 _;obtain rfl:k0=0:=by omega
         exact⟨rfl,rfl⟩
  |succ c ih=>
   intro h1 h2;by_cases e:k0=c+1
   ·subst e;exact⟨rfl,rfl⟩
   ·obtain⟨h3,h4⟩:=ih (by omega) (by omega);rcases hw c _ (Yq (by omega))with h5|⟨h5,h6⟩
    ·have:=(h.base.dY c h5 (by omega)).1 (by rw[bN c (by omega)];exact df c (gq c h5) (by omega));omega
    ·exact⟨h5.trans h3,h6.trans h4⟩
 obtain⟨kC,gY⟩:=tE q gx (X1 _);obtain⟨hI,hx,hb⟩:=h.base.inv.Ly h.mem hk.size hk.cells h.ob h.jg h.im;have Um:(σ (q+1)).V=(σ k0).V++[row]:=by rw[hk.next,<-kC];rfl
 have QV:(σ (q+1)).A=(σ k0).A:=by rw[hk.next,<-gY];rfl
 refine⟨{g with ob:=g.ob++[b]},by rw[Um,QV];exact hI,h.base.fr.Ly h.new,h.base.size,h.base.defers,by simpa using h.base.ey,fun i o t x ho hl cg gp=>?_,fun t x QW gp=>?_,fun i hi bZ=>?_,by omega,.inr ⟨q,KP,rfl⟩,fun i o ho hl e he eG=>?_⟩
 ·rw[QV];by_cases e:i=q
  ·subst e;rw[hk.at_]at ho;cases ho
   rw[hk.dst]at cg;cases cg
   rw[hk.next]at gp;simp only[St.put,look,if_true]at gp;cases gp
   exact⟨_,h.slot,b,by rw[kC];exact hb,rfl⟩
  ·obtain⟨u,h1,h2⟩:=h.base.fP i o t x ho (by rw[bN i e];exact hl) cg gp;exact⟨u,h1,aV.ext hx h2⟩
 ·rw[QV];obtain⟨u,h1,h2⟩:=h.base.fQ t x (fun i o ho hl=>by
   by_cases e:i=q
   ·subst e;rw[QU]at hl;simp at hl
   ·rw[bN i e]at hl;exact QW i o ho hl) gp
  exact⟨u,h1,aV.ext hx h2⟩
 ·constructor
  ·intro hl;rcases X0 q i with h1|h1
   ·exact absurd hl (fe i h1)
   ·omega
  ·intro az;by_cases e:i=q
   ·subst e;exact h.MX
   ·exact df i (gq i hi) (by omega)
 ·have az:=cZ i o ho e he eG;by_cases e':i=q
  ·subst e';exact h.closed i o ho hl e he eG
  ·by_cases e2:e.on=q
   ·rw[e2];exact h.MX
   ·have:=h.base.closed i o ho (by rw[bN i e'];exact hl) e he eG;rwa[bN _ e2]at this
set_option maxHeartbeats 1000000 in
theorem BB {all:Array Oper} {ow:Nat->Bool} {ws fs:List Nat} {m q:Nat} {wt:List Nat} {ex:List Nat} {V0:List (List CV)} {A0:List bu} {σ:Nat->St} {K:St->Prop} {Q:Exit->Act->World->Prop} (hd:l8 all ws fs m q wt=true) (eT:c7 n all.toList=true)
  (lK:∀(j:Nat) o,all[j]? =some o->Ht P all (ow j) fs j ex V0 A0 o (σ j) (σ (j+1))/\(j∈ws\/((σ (j+1)).V=(σ j).V/\(σ (j+1)).A=(σ j).A))/\(j<m->KN ex V0 A0 (σ (j+1))\/((σ (j+1)).V=(σ j).V/\(σ (j+1)).A=(σ j).A))) (Hu:(σ 0).V=V0/\(σ 0).A=A0)
  {d:Nat} {row:List CV} {cs:Array Value} {ty:TypeId} {oq:Oper} (hk:Dm P all ow σ q d row cs ty oq)
  (hK:K (σ all.size)) (hQ:∀s' g' a' w',K s'->Rp n w0 g0 s' g' a' w'->Q .normal a' w'):
  ∀(fuel:Nat) (ae:Array Bool) (k0:Nat) (g:Gh) (a:Act) (w:World),((X7 all.size).filter fun i=> !ae.getD i true).length<=fuel->
   ((yj all ws σ n w0 g0 ae k0 g a w/\(ae[q]? =some true->∀i∈wt,i<q->ae[i]? =some true))\/((∃i∈wt,i<q/\ae[i]? ≠some true)/\∃b,Dl all ws σ n w0 g0 q d row cs ty ae k0 b g a w))->wpAny P .any all Q fuel ae a w:=by
 obtain⟨KP,gq,cZ,HD,q0⟩:=HC hd;have I7:q<all.size:=(Yr.1 hk.at_).1;have pE:∀{ae:Array Bool},Region.ready .any all ae=[]->ae.size=all.size->∀i,i<all.size->ae[i]? =some true:=by
  intro ae hr vO i;induction i using X2 with
  |_ i ih=>
   intro hi;have ho:all[i]? =some all[i]:=Yq hi;have bC:i<ae.size:=by omega
   cases hl:ae[i]with
   |true=>rw[Yq bC,hl]
   |false=>
    exfalso
    have:i∈Region.ready .any all ae:=mem_ready.2 ⟨by simp[bC,hl],_,ho,fun e he hb=>cy.2 (ih e.on (cZ i _ ho e he hb) (by have:=cZ i _ ho e he hb;omega))⟩;rw[hr]at this;simp at this
 have lJ:∀{ae:Array Bool} {k0:Nat} {g:Gh} {a:Act} {w:World},((yj all ws σ n w0 g0 ae k0 g a w/\(ae[q]? =some true->∀i∈wt,i<q->ae[i]? =some true))\/((∃i∈wt,i<q/\ae[i]? ≠some true)/\∃b,Dl all ws σ n w0 g0 q d row cs ty ae k0 b g a w))->
   Region.ready .any all ae=[]->Q .normal a w:=by
  intro ae k0 g a w hD hr;rcases hD with⟨hD,_⟩|⟨⟨i,_,hi,hl⟩,b,hD⟩
  rotate_left
  ·have e:=hD.base.ey;simp at e;exact absurd (pE hr e i (by omega)) hl
  have df:=pE hr hD.ey;have lV:∀(j:Nat) o t,all[j]? =some o->o.dst≠some t->look (σ (j+1)).fr t=look (σ j).fr t:=fun j o t h1 h2=>by
   obtain⟨⟨_,h3⟩,_⟩:=lK j o h1;have j3:∀(x:AV) V A,look ((σ j).put o.dst x V A).fr t=look (σ j).fr t:=fun x V A=>by
    simp only[St.put];cases rI:o.dst with
    |none=>rfl
    |some d=>simp only[look];rw[if_neg (fun e=>h2 (by rw[rI,e]))]
   rcases h3 with⟨_,x,V,A,h4,_,_⟩|⟨_,h4⟩
   ·rw[h4];exact j3 x V A
   ·rw[h4];exact j3 _ _ _
  have oR:∀(j t:Nat),j<=all.size->(∀(i:Nat) o,i<j->all[i]? =some o->o.dst≠some t)->look (σ j).fr t=look (σ 0).fr t:=by
   intro j;induction j with
   |zero=>intro t _ _;rfl
   |succ j ih=>
    intro t hj fe;have ho:all[j]? =some all[j]:=Yq (by omega);rw[lV j _ t ho (fe j _ (by omega) ho)];exact ih t (by omega) (fun i o hi=>fe i o (by omega))
  have oS:∀(j i:Nat) oi t,j<=all.size->i<j->all[i]? =some oi->oi.dst=some t->look (σ j).fr t=look (σ (i+1)).fr t:=by
   intro j;induction j with
   |zero=>intro i oi t _ h;omega
   |succ j ih=>
    intro i oi t hj kq aZ cg;by_cases e:i=j
    ·subst e;rfl
    ·have ho:all[j]? =some all[j]:=Yq (by omega);rw[lV j _ t ho (q0 i j oi _ t aZ ho (by omega) cg)];exact ih i oi t (by omega) (by omega) aZ cg
  have tE:∀c,k0<=c->c<=all.size->(σ c).V=(σ k0).V/\(σ c).A=(σ k0).A:=by
   intro c;induction c with
   |zero=>intro h1 _;obtain rfl:k0=0:=by omega
          exact⟨rfl,rfl⟩
   |succ c ih=>
    intro h1 h2;by_cases e:k0=c+1
    ·subst e;exact⟨rfl,rfl⟩
    ·obtain⟨h3,h4⟩:=ih (by omega) (by omega);rcases(lK c _ (Yq (by omega))).2.1 with h5|⟨h5,h6⟩
     ·have:=(hD.dY c h5 (by omega)).1 (df c (by omega));omega
     ·exact⟨h5.trans h3,h6.trans h4⟩
  have kM:=tE all.size hD.nF (X1 _);refine hQ _ g a w hK ⟨by rw[kM.1,kM.2];exact hD.inv,hD.fr,hD.size,hD.defers,fun t x hx=>?_⟩;rw[kM.2];by_cases hex:∃(i:Nat) (o:Oper),all[i]? =some o/\o.dst=some t
  ·obtain⟨i,o,ho,cg⟩:=hex;have hi:=(Yr.1 ho).1;rw[oS all.size i o t (X1 _) hi ho cg]at hx;exact hD.fP i o t x ho (df i hi) cg hx
  ·rw[oR all.size t (X1 _) (fun i o _ ho cg=>hex ⟨i,o,ho,cg⟩)]at hx;exact hD.fQ t x (fun i o ho _ cg=>hex ⟨i,o,ho,cg⟩) hx
 intro fuel;induction fuel with
 |zero=>
  intro ae k0 g a w hf hD;have lL:Region.ready .any all ae=[]:=by
   have h0:((X7 all.size).filter fun i=> !ae.getD i true)=[]:=List.eq_nil_of_length_eq_zero (by omega);rcases hr:Region.ready .any all ae with _|⟨j,r⟩
   ·rfl
   ·have hj:j∈Region.ready .any all ae:=by rw[hr];simp
    obtain⟨h1,o,h2,_⟩:=mem_ready.1 hj;have:j∈((X7 all.size).filter fun i=> !ae.getD i true):=by
     rw[List.mem_filter,Yi];exact⟨(Yr.1 h2).1,by simp[h1]⟩
    rw[h0]at this;simp at this
  exact⟨lL,lJ hD lL⟩
 |succ fuel ih=>
  intro ae k0 g a w hf hD;refine⟨fun hr=>lJ hD hr,fun j hj=>?_⟩;obtain⟨mP,o,ho,cz⟩:=mem_ready.1 hj;have mQ:=dZ mP;have rK:j<all.size:=(Yr.1 ho).1;have vO:ae.size=all.size:=by
   rcases hD with⟨hD,_⟩|⟨_,b,hD⟩
   ·exact hD.ey
   ·simpa using hD.base.ey
  have iZ:j<ae.size:=by omega
  have bN:∀i,(ae.setIfInBounds j true)[i]? =if i=j then some true else ae[i]? :=fun i=>by
   by_cases e:i=j
   ·subst e;simp[iZ]
   ·rw[if_neg e,Ys (fun h=>e h.symm)]
  have cW:((X7 all.size).filter fun i=> !(ae.setIfInBounds j true).getD i true).length<=fuel:=by
   have az:((X7 all.size).filter fun i=> !(ae.setIfInBounds j true).getD i true).length<((X7 all.size).filter fun i=> !ae.getD i true).length:=by
    have gq:∀i,(!(ae.setIfInBounds j true).getD i true)=true->(!ae.getD i true)=true:=fun i h=>by
     by_cases e:i=j
     ·subst e;simp[iZ]at h
     ·have:(ae.setIfInBounds j true).getD i true=ae.getD i true:=by
       simp only[Yv,bN,if_neg e]
      rwa[this]at h
    exact filter_lt gq (Yi.2 rK) (by simp[mP]) (by simp[iZ])
   omega
  have cn:∀e∈o.after,Region.binds .any e=true->ae[e.on]? =some true:=fun e he hb=>cy.1 (cz e he hb)
  rcases hD with⟨hD,hL⟩|⟨⟨i0,LA,ML,I1⟩,b,hD⟩
  ·by_cases GK:j=q/\∃i∈wt,i<q/\ae[i]? ≠some true
   ·-- the allocation, before its turn
    obtain⟨rfl,hex⟩:=GK;obtain rfl:o=oq:=by have:=hk.at_;rw[ho]at this;exact Option.some.inj this
    unfold wpOp;simp only[ho];rw[if_pos (by simp[Region.wanted,hk.guard])];refine .inl ?_;unfold Oper.wp;rw[hk.run];obtain⟨g1,vF,eZ,dn⟩:=hD.inv.dW (.cells cs ty) 0;have km:=(Fr.refl hD.fr.now).dW (.cells cs ty) 0;rw[<-vF]at km;have j3:∀t,t≠d->(a.put o.dst (.pointer (some ⟨w.heap.size,0,none⟩))).tmps[t]? =a.tmps[t]? :=fun t ht=>by
     rw[hk.dst];simp only[Act.put];rw[Ys (fun e=>ht e.symm)]
    have z8:d<n:=by
     have:=Yb.1 eT o (by rw[Yt];exact Yu ho);simpa[hk.dst]using this
    refine ih _ k0 g1 _ _ cW (.inr ⟨?_,w.heap.size,⟨by rw[bN,if_pos rfl],?_,?_,heap_alloc_new w _,fun hm=>?_,fun hm=>?_,by rw[vF];simp,hD.fr.size,by simp,fun i oi aZ bC e he hb=>?_⟩⟩)
    ·obtain⟨i,hw,hi,hl⟩:=hex;exact⟨i,hw,hi,by rw[bN,if_neg (by omega)];exact hl⟩
    ·rw[Lz ae j (by rw[mQ];simp) iZ];refine⟨eZ,hD.fr.BA km,by rw[hk.dst];simp[Act.put,hD.size],by rw[hk.dst];simp[Act.put,hD.defers],hD.ey,fun i oi t x aZ bC cg hx=>?_,fun t x fe hx=>?_,hD.dY,hD.nF,hD.kw,hD.closed⟩
     ·have kq:i≠j:=fun e=>by subst e;rw[mQ]at bC;simp at bC
      have QY:t≠d:=fun e=>by
       subst e;exact q0 i j oi o t aZ ho kq cg hk.dst
      obtain⟨u,h1,h2⟩:=hD.fP i oi t x aZ bC cg hx;exact⟨u,by rw[j3 t QY];exact h1,aV.ext dn h2⟩
     ·have QY:t≠d:=fun e=>by
       subst e;rw[hk.s0]at hx;simp at hx
      obtain⟨u,h1,h2⟩:=hD.fQ t x fe hx;exact⟨u,by rw[j3 t QY];exact h1,aV.ext dn h2⟩
    ·have:d<a.tmps.size:=by rw[hD.size];exact z8
     rw[hk.dst];simp[Act.put,this]
    ·rw[vF]at hm;obtain⟨l,hl⟩:=List.getElem?_of_mem hm;have:=hD.inv.qR hl;omega
    ·rw[vF]at hm;obtain⟨k,v',q1,q2⟩:=Gh.fD (g:=g) (by simpa[Gh.jg]using hm);have:=hD.inv.mE q1 q2;omega
    ·rw[bN]at bC⊢;have:ae[e.on]? =some true:=by
      by_cases e':i=j
      ·subst e';obtain rfl:o=oi:=by rw[ho]at aZ;exact Option.some.inj aZ
       exact cn e he hb
      ·rw[if_neg e']at bC;exact hD.closed i oi aZ bC e he hb
     by_cases e':e.on=j
     ·rw[if_pos e']
     ·rw[if_neg e'];exact this
   ·refine zi hd eT lK Hu hD hL hj (fun e i hw hi=>?_) fun k1 o' g' a' w' s4 gm JG hF=>ih _ k1 g' a' w' cW (.inl ⟨JG,fun hl i hw hi=>?_⟩)
    ·by_cases hc:ae[i]? =some true
     ·exact hc
     ·exact absurd ⟨e,i,hw,hi,hc⟩ GK
    ·rw[bN];by_cases e:i=j
     ·rw[if_pos e]
     ·rw[if_neg e];by_cases e':j=q
      ·by_cases hc:ae[i]? =some true
       ·exact hc
       ·exact absurd ⟨e',i,hw,hi,hc⟩ GK
      ·rw[bN,if_neg (fun h=>e' h.symm)]at hl;exact hL hl i hw hi
  ·-- with the block at hand
   have GK:j≠q:=fun e=>by subst e;rw[hD.MX]at mQ;simp at mQ
   have Un:j<q:=by
    rcases X5 j q with h|h|h
    ·exact h
    ·exact absurd h GK
    ·exact absurd (u9 cZ hD.closed j o ho cn i0 (HD i0 j _ o (Yq (by omega)) ho LA (by omega) h)) I1
   have JH:j∈Region.ready .any all (ae.setIfInBounds q false):=by
    refine mem_ready.2 ⟨?_,o,ho,fun e he hb=>cy.2 ?_⟩
    ·have:(ae.setIfInBounds q false)[j]? =some false:=by rw[Ys (fun h=>GK h.symm)];exact mQ
     simp[Yv,this]
    ·have az:=cZ j o ho e he hb;rw[Ys (by omega)];exact cn e he hb
   have Uo:q<ae.size:=by omega
   refine zi hd eT lK Hu hD.base (fun hl=>by simp[Uo]at hl) JH (fun e=>absurd e GK) fun k1 o' g' a' w' s4 gm JG hF=>?_
   have KQ:=hD.step GK (gm d fun e=>q0 j q o' oq d s4 hk.at_ GK e hk.dst) JG hF (fun i oi aZ bC e he hb=>by
    rw[bN]at bC⊢;have:ae[e.on]? =some true:=by
     by_cases e':i=j
     ·subst e';obtain rfl:o=oi:=by rw[ho]at aZ;exact Option.some.inj aZ
      exact cn e he hb
     ·rw[if_neg e']at bC;exact hD.closed i oi aZ bC e he hb
    by_cases e':e.on=j
    ·rw[if_pos e']
    ·rw[if_neg e'];exact this)
   by_cases hx:∃i∈wt,i<q/\(ae.setIfInBounds j true)[i]? ≠some true
   ·exact ih _ k1 g' a' w' cW (.inr ⟨hx,b,KQ⟩)
   ·have df:∀i∈wt,i<q->(ae.setIfInBounds j true)[i]? =some true:=fun i hw hi=>by
     by_cases hc:(ae.setIfInBounds j true)[i]? =some true
     ·exact hc
     ·exact absurd ⟨i,hw,hi,hc⟩ hx
    obtain⟨g'',hD''⟩:=KQ.QT hd hk (fun j o ho=>(lK j o ho).2.1) df;exact ih _ (q+1) g'' a' w' cW (.inl ⟨hD'',fun _=>df⟩)
theorem T.Ai {id:Nat} {ops:Array Oper} (hm:P.follows .mixedOrders=true) (ow:Nat->Bool) (ws fs:List Nat) (m:Nat) (ex:List Nat) (q:Nat) (wt:List Nat) (d:Nat) {e:TypeId} {D:TD} {row:List CV} {oq:Oper} (hd:l8 ops ws fs m q wt=true)
  (hq:ops[q]? =some oq) (gu:oq.op=.alloc e) (hg:oq.guard=none) (PC:oq.dst=some d) (ht:td P e=some D) (hz:D.zero=some row) (I4:look s.fr d=none)
  (h:oG P ops ow ws fs m ex s.V s.A (fun s'=>Q .normal s') 0 ops.toList s):T P n (.region id ops true) Q s:=by
 intro eK w0 g0 g a w hR;obtain⟨σ,h0,hK,lK⟩:=lZ ops.toList 0 s h;obtain⟨hI,hx⟩:=hR.inv.heap (w':={w with drawn:=w.drawn+1}) rfl;obtain⟨inf,hi,_,_,Up⟩:=fZ ht;obtain⟨v,hv,hc⟩:=Up _ hz;have NR:∀(j:Nat) o,ops[j]? =some o->Ht P ops (ow j) fs j ex s.V s.A o (σ j) (σ (j+1))/\(j∈ws\/((σ (j+1)).V=(σ j).V/\(σ (j+1)).A=(σ j).A))/\(j<m->KN ex s.V s.A (σ (j+1))\/((σ (j+1)).V=(σ j).V/\(σ (j+1)).A=(σ j).A)):=fun j o ho=>by
  have:=lK j o (by simpa using ho);simpa only[X4]using this
 have cJ:σ (q+1)=(σ q).put (some d) (.c (.ptr (σ q).V.length 0)) ((σ q).V++[row]) (σ q).A:=by
  rcases(NR q oq hq).1.2 with⟨_,x,V,A,h1,h2,_⟩|⟨h1,_⟩
  ·have h3:=h2 (fun y V' A'=>y=x/\V'=V/\A'=A) ⟨rfl,rfl,rfl⟩;simp only[bH,gu,eD,bS,ht,hz]at h3;obtain⟨rfl,rfl,rfl⟩:=h3;rw[h1,PC]
  ·simp[gw,hg]at h1
 have wg:Dm P ops ow σ q d row v.cells e oq:=by
  refine⟨hq,hg,PC,by rw[h0];exact I4,?_,fun j c u h1 h2 g w A=>?_,cJ,fun a w=>?_⟩
  ·have:=iF hc;simpa using this
  ·exact ny (o5 hc j c u h1 (by simpa using h2))
  ·simp[execOp,gu,Instr.alloc,zeroValue,typeInfo,hi,hv,newVar,jn]
 refine wp_region_any hm (BB (ex:=ex) (K:=fun s'=>Q .normal s') (w0:=w0) (g0:=g0) (n:=n) (σ:=σ) (ow:=ow) hd eK NR ⟨by rw[h0],by rw[h0]⟩ wg ?_ (fun s' g' a' w' h1 h2=>⟨s',g',h1,h2⟩) ops.size (Array.replicate ops.size false) 0 g a _ ?_ (.inl ⟨?_,fun hl=>?_⟩))
 ·simpa using hK
 ·exact X3 (List.length_filter_le _ _) (by simp)
 ·refine⟨by rw[h0];exact hI,hR.fr.heap rfl rfl rfl rfl,hR.size,hR.defers,by simp,fun i o t x ho hl=>?_,fun t x _ gp=>?_,fun i _ bZ=>?_,Nat.zero_le _,.inl rfl,fun i o ho hl=>?_⟩
  ·have hi:=(Yr.1 ho).1;simp[hi]at hl
  ·rw[h0]at gp⊢;obtain⟨u,h1,h2⟩:=hR.slot t x gp;exact⟨u,h1,aV.ext hx h2⟩
  ·simp[bZ]
  ·have hi:=(Yr.1 ho).1;simp[hi]at hl
 ·have hi:=(Yr.1 hq).1;simp[hi]at hl
theorem T.PD {id:Nat} {l:List Oper} {y:Code} (hm:P.follows .mixedOrders=true) (ow:Nat->Bool) (ws fs:List Nat) (m:Nat) (ex:List Nat) (q:Nat) (wt:List Nat) (d:Nat) {e:TypeId} {D:TD} {row:List CV} {oq:Oper} (hd:l8 l.toArray ws fs m q wt=true)
  (hq:l.toArray[q]? =some oq) (gu:oq.op=.alloc e) (hg:oq.guard=none) (PC:oq.dst=some d) (ht:td P e=some D) (hz:D.zero=some row) (I4:look s.fr d=none)
  (h:∀K:St->Prop,(∀s',T P n y Q s'->K s')->si P l.toArray ow ws fs m ex s.V s.A K 0 l s):T P n (.seq (.region id l.toArray true) y) Q s:=
 T.seq (T.Ai hm ow ws fs m ex q wt d hd hq gu hg PC ht hz I4 (h _ fun _ h=>h).run)
end
end Go.Av
namespace Go.Av
attribute [-simp] Go.Av.bH Go.Av.eD Go.Av.gX Go.Av.bS Go.Av.bE Go.Av.hM Go.Av.mi Go.Av.rS Go.Av.mF Go.Av.zW Go.Av.rowsOf Go.Av.look Go.Av.th Go.Av.St.put Go.Av.gB Go.Av.Fl Go.Av.b6 Go.Av.zU Go.Av.Jk Go.Av.rR Go.Av.rQ Go.Av.Ek Go.Av.AV.plain Go.Av.AV.cells Go.Av.CV.jM Go.Av.nw Go.Av.iy Go.Av.kB Go.Av.fB Go.Av.bT Go.Av.ib Go.Av.AV.kK Go.Av.CV.kK Go.Av.qz Go.Av.AV.fN Go.Av.CV.fN Go.Av.bB Go.Av.iz Go.Av.jY Go.Av.oC Go.Av.cL Go.Av.e8 Go.Av.uU Go.Av.AV.qB Go.Av.CV.res Go.Av.rZ Go.Av.pos? Go.Av.wG Go.Av.wN Go.Av.gC Go.Av.Sub Go.Av.j4 Go.Av.kL Go.Av.iJ Go.Av.gE Go.Av.iK Go.Av.gF Go.Av.aE.b4 Go.Av.aE.bQ Go.Av.ao.b4 Go.Av.ao.lX Go.Av.ao.q7 Go.Av.ao.sd Go.Av.ao.se Go.Av.ao.lp Go.Av.ao.bQ Go.Av.dw Go.Av.rN Go.Av.gv Go.Av.gi Go.Av.cP
open Go
def Uq:Op->Bool
 |.call {callee:=.value _,.. }=>true
 |_=>false
def QZ (o:Op):Bool:=Py o||Uq o
def JI (all:Array Oper) (wv wa fs:List Nat) (m:Nat) (ms:List Nat) (oi oj:Oper) (i j:Nat):Bool:=
 (oi.dst.isNone||oi.dst !=oj.dst)&&((!dq all oi oj && !dq all oj oi &&
  !((wv.contains i||wa.contains i)&& !cL oj.op && !(fs.contains j && decide (i<m))&& !(wv.contains i && wa.contains j)&& !(wa.contains i && wv.contains j))&&
  !((wv.contains j||wa.contains j)&& !cL oi.op && !(fs.contains i && decide (j<m))&& !(wv.contains j && wa.contains i)&& !(wa.contains j && wv.contains i)))||(ms.getD j 0).testBit i)
def PE (all:Array Oper) (wv wa fs:List Nat) (m:Nat):Bool:=
 let l:=all.toList.zipIdx
 let ms:=a7 all.toList []
 (l.all fun(o,j)=>o.after.toList.all fun e=> !Region.binds .any e||decide (e.on<j))&&
 (l.all fun(oj,j)=>l.all fun(oi,i)=> !(decide (i<j))||JI all wv wa fs m ms oi oj i j)&&
 (l.all fun(o,j)=>(!wv.contains j|| !cL o.op)&&(!wa.contains j||QZ o.op))&&(fs.all fun j=> !wv.contains j && !wa.contains j)&&
 (fs.all fun j=>(wv++wa).all fun i=>decide (i<m)||decide (j<i))&&(wv.all fun j=> !wa.contains j)
def HE (P:Program) (all:Array Oper) (ow:Nat->Bool) (wv wa fs:List Nat) (m:Nat) (ex:List Nat) (V0:List (List CV)) (A0:List bu) (K:St->Prop):Nat->List Oper->St->Prop
 |_,[],s=>K s
 |i,o::rest,s=>gX all s o (bH P s (ow i) o fun x V A=>((i∈wv\/V=s.V)/\(i∈wa\/A=s.A))/\(i∈wv\/i∈wa->i<m->V.take V0.length=rN ex (fun i=>V.getD i []) V0/\A.take A0.length=A0)/\(i∈fs->dw P s (ow i) o ex V0 A0 x)/\
   (i∈wv->∀A2,bH P ⟨s.fr,s.V,A2⟩ (ow i) o fun y V' A'=>y=x/\V'=V/\A'=A2)/\(i∈wa->Py o.op=false->∀V2,bH P ⟨s.fr,V2,s.A⟩ (ow i) o fun y V' A'=>y=x/\V'=V2/\A'=A)/\HE P all ow wv wa fs m ex V0 A0 K (i+1) rest (s.put o.dst x V A)) (HE P all ow wv wa fs m ex V0 A0 K (i+1) rest (s.put o.dst (.c .undef) s.V s.A))
section
variable {P:Program} {n:Nat} {Q Q':Exit->St->Prop} {s s':St} {w0:World} {g0 g g':Gh} {a:Act} {w w':World} {V:List (List CV)} {A A':List bu}
def Ur (P:Program) (all:Array Oper) (ow:Bool) (wv wa fs:List Nat) (j:Nat) (ex:List Nat) (V0:List (List CV)) (A0:List bu) (o:Oper) (s s':St):Prop:=
 gX all s o True True/\((gw all s o=true/\∃x V A,s'=s.put o.dst x V A/\(∀K:AV->List (List CV)->List bu->Prop,K x V A->bH P s ow o K)/\(j∈fs->dw P s ow o ex V0 A0 x)/\
  (j∈wv->∀A2,bH P ⟨s.fr,s.V,A2⟩ ow o fun y V' A'=>y=x/\V'=V/\A'=A2)/\(j∈wa->Py o.op=false->∀V2,bH P ⟨s.fr,V2,s.A⟩ ow o fun y V' A'=>y=x/\V'=V2/\A'=A))\/(gw all s o=false/\s'=s.put o.dst (.c .undef) s.V s.A))
structure VD (all:Array Oper) (wv wa:List Nat) (σ:Nat->St) (n:Nat) (w0:World) (g0:Gh) (ae:Array Bool) (kv ka:Nat) (g:Gh) (a:Act) (w:World):Prop where
 inv:Inv g w (σ kv).V (σ ka).A
 fr:Fr w0 g0 w g
 size:a.tmps.size=n
 defers:a.defers=[]
 ey:ae.size=all.size
 fP:∀(i:Nat) o t x,all[i]? =some o->ae[i]? =some true->o.dst=some t->look (σ (i+1)).fr t=some x->∃u,a.tmps[t]? =some u/\aV g w (σ ka).A x u
 fQ:∀t x,(∀(i:Nat) o,all[i]? =some o->ae[i]? =some true->o.dst≠some t)->look (σ 0).fr t=some x->∃u,a.tmps[t]? =some u/\aV g w (σ ka).A x u
 NO:∀i∈wv,i<all.size->(ae[i]? =some true↔i<kv)
 NQ:∀i∈wa,i<all.size->(ae[i]? =some true↔i<ka)
 Ui:kv<=all.size
 Uj:ka<=all.size
 vw:kv=0\/∃i∈wv,kv=i+1
 aw:ka=0\/∃i∈wa,ka=i+1
 closed:∀(i:Nat) o,all[i]? =some o->ae[i]? =some true->∀e∈o.after,Region.binds .any e=true->ae[e.on]? =some true
end
end Go.Av
