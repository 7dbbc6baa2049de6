/- A part. -/
import Derived.Test.YtloolmchekcmeaaGreatXF2
set_option linter.unusedVariables false
set_option linter.unusedSimpArgs false
open Int renaming emod_eq_of_lt->X6
open Option renaming bind_some->X7
open Nat renaming lt_or_ge->X8,le_refl->X9,strongRecOn->Ya,le_trans->Yb,zero_add->Yc,lt_trichotomy->Yd,lt_of_lt_of_le->Ye
open List renaming range->Yf,mem_append->Yg,length_nil->Yh,getD->Yi,all_eq_true->Yj,map_cons->Yk,length_cons->Yl,map_append->Ym,getElem?_eq_some_iff->Yn,getElem?_append_left->Yo,take_append_drop->Yp,mem_range->Yq,mem_iff_getElem?->Yr,map_nil->Ys,getElem?_zipIdx->Yt,contains_eq_mem->Yu,append_assoc->Yv
open Bool renaming and_eq_true->Yw,or_eq_true->Yx
open Array renaming getElem?_eq_getElem->Yy,getElem?_eq_some_iff->Yz,getElem?_setIfInBounds_ne->YA,mem_toList_iff->YB,mem_of_getElem?->YC,getD_eq_getD_getElem?->YD
namespace Go.Av
attribute [-simp] Go.Av.aI.bX Go.Av.aI.bQ Go.Av.ao.bX Go.Av.ao.lf Go.Av.ao.pD Go.Av.ao.oH Go.Av.ao.qJ Go.Av.ao.km Go.Av.ao.bQ
open Go
section
variable {P:Program} {n:Nat} {Q:Exit->St->Prop} {s s':St} {y:Code}
structure sf (P:Program) (all:Array Oper) (ow:Nat->Bool) (ws fs:List Nat) (m:Nat) (ex:List Nat) (V0:List (List CV)) (A0:List bz) (K:St->Prop) (i:Nat) (ops:List Oper) (s:St):Prop where
 mk::
 run:oI P all ow ws fs m ex V0 A0 K i ops s
theorem bB {all:Array Oper} {ow:Nat->Bool} {ws fs:List Nat} {m:Nat} {ex:List Nat} {V0:List (List CV)} {A0:List bz} {K:St->Prop} {i:Nat} {o:Oper} {rest:List Oper}
  (h:iA all s o (bJ P s (ow i) o fun x V A=>(i∈ws\/(V=s.V/\A=s.A))/\(i∈ws->i<m->V.take V0.length=rJ ex (fun i=>V.getD i []) V0/\A.take A0.length=A0)/\(i∈fs->dI P s (ow i) o ex V0 A0 x)/\sf P all ow ws fs m ex V0 A0 K (i+1) rest (s.put o.dst x V A)) (sf P all ow ws fs m ex V0 A0 K (i+1) rest (s.put o.dst (.c .undef) s.V s.A))):sf P all ow ws fs m ex V0 A0 K i (o::rest) s:=
 ⟨nS (fun h=>gg (fun _ _ _ h=>⟨h.1,h.2.1,h.2.2.1,h.2.2.2.run⟩) h) (fun h=>h.run) h⟩
theorem bj {all:Array Oper} {ow:Nat->Bool} {ws fs:List Nat} {m:Nat} {ex:List Nat} {V0:List (List CV)} {A0:List bz} {K:St->Prop} {i:Nat} (h:K s):sf P all ow ws fs m ex V0 A0 K i [] s:=⟨h⟩
theorem T.mL {id:Nat} {l:List Oper} (hm:P.follows .mixedOrders=true) (ow:Nat->Bool) (ws fs:List Nat) (m:Nat) (ex:List Nat) (hd:iK l.toArray ws fs m=true) (h:∀K:St->Prop,(∀s',T P n y Q s'->K s')->sf P l.toArray ow ws fs m ex s.V s.A K 0 l s):T P n (.seq (.region id l.toArray true) y) Q s:=
 T.seq (T.se hm ow ws fs m ex hd (h _ fun _ h=>h).run)
theorem T.CS {id:Nat} {l:List Oper} (hm:P.follows .mixedOrders=true) (ow:Nat->Bool) (ws fs:List Nat) (m:Nat) (ex:List Nat) (hd:iK l.toArray ws fs m=true) (h:∀K:St->Prop,(∀s',Q .normal s'->K s')->sf P l.toArray ow ws fs m ex s.V s.A K 0 l s):T P n (.region id l.toArray true) Q s:=
 T.se hm ow ws fs m ex hd (h _ fun _ h=>h).run
@[congr] theorem LB {all:Array Oper} {ow:Nat->Bool} {ws fs:List Nat} {m:Nat} {ex:List Nat} {V0:List (List CV)} {A0:List bz} {K:St->Prop} {i i':Nat} {ops:List Oper} (hi:i=i') (h:s=s'):sf P all ow ws fs m ex V0 A0 K i ops s=sf P all ow ws fs m ex V0 A0 K i' ops s':=by rw[h,hi]
theorem sf.gen {all:Array Oper} {ow:Nat->Bool} {ws fs:List Nat} {m:Nat} {ex:List Nat} {V0:List (List CV)} {A0:List bz} {K:St->Prop} {i:Nat} {ops:List Oper} {d:Nat} {b:Bool} {fr:List (Nat×AV)} {V:List (List CV)} {A:List bz}
  (h:∀q:Bool,b=q->sf P all ow ws fs m ex V0 A0 K i ops ⟨(d,.c (.d (.bool q)))::fr,V,A⟩):sf P all ow ws fs m ex V0 A0 K i ops ⟨(d,.c (.d (.bool b)))::fr,V,A⟩:=h b rfl
end
section
variable {P:Program} {s:St} {r:AV}
theorem aB.E7 (l:Nat) {fn:Func} {e:Exit} {row:List DV} (he:e=.normal\/e=.ret) (hr:(ft P s fn.results.toList).bind (aA s.A [l] [])=some [r]) (hV:s.V[l]? =some (row.map CV.d)):aB P fn 0 r (dV [row]) [] e s:=by
 cases hx:ft P s fn.results.toList with
 |none=>rw[hx]at hr;simp at hr
 |some xs=>
  rw[hx]at hr;refine⟨he,[l],[],xs,[r],hx,List.nodup_nil,by simp,by simp,hr,rfl,?_,rfl⟩;refine vG [l] [row] rfl ?_;intro j l' row' h1 h2
  match j with
  |0=>simp at h1 h2;subst h1;subst h2;exact hV
  |j+1=>simp at h1
end
attribute [simp] dI rJ
end Go.Av
namespace Go.Av
open Go
def rB (b:List Int):List (List DV):=b.map fun n=>[.int .u8 n]
def okB (b:List Int):Prop:=(∀n∈b,0<=n/\n<=255)/\b.length<=2000
abbrev rd (b:List Int) (p:Nat):List DV:=[.sl (rB b),.i p]
theorem cH (b:List Int):(rB b).length=b.length:=by simp[rB]
theorem NR {b:List Int} {i:Nat} (h:i<b.length):(rB b)[i]? =some [.int .u8 b[i]]:=by simp[rB,h]
theorem zL {b:List Int} {i:Nat} (h:i<(rB b).length):(rB b)[i]=[.int .u8 (b[i]'(by simpa[rB]using h))]:=by simp[rB]
theorem Ec {a n:Int} (ha:0<=a) (hn:0<n):0<=a.tmod n/\a.tmod n<n:=by
 rw[Int.tmod_eq_emod_of_nonneg ha];exact⟨Int.emod_nonneg _ (by omega),Int.emod_lt_of_pos _ hn⟩
theorem tdiv_le {a n:Int} (ha:0<=a) (hn:0<n):0<=a.tdiv n/\a.tdiv n<=a:=by
 rw[Int.tdiv_eq_ediv_of_nonneg ha];exact⟨Int.ediv_nonneg ha (by omega),Int.ediv_le_self _ ha⟩
theorem Ff {x y:Int} (hx:0<=x) (gD:x<4611686018427387904) (hy:0<=y) (PI:y<4611686018427387904):0<=AL .xor .i64 x y/\AL .xor .i64 x y<4611686018427387904:=by
 have h1:(BitVec.ofInt 64 x).toNat=x.toNat:=by
  rw[BitVec.toNat_ofInt,X6 hx (by omega)]
 have h2:(BitVec.ofInt 64 y).toNat=y.toNat:=by
  rw[BitVec.toNat_ofInt,X6 hy (by omega)]
 have h3:(BitVec.ofInt 64 x ^^^ BitVec.ofInt 64 y).toNat=x.toNat ^^^ y.toNat:=by rw[BitVec.toNat_xor,h1,h2]
 have h4:x.toNat ^^^ y.toNat<2 ^ 62:=Nat.xor_lt_two_pow (by omega) (by omega);have h5:AL .xor .i64 x y=IntKind.i64.wrap ((x.toNat ^^^ y.toNat:Nat):Int):=by
  show IntKind.i64.wrap ((BitVec.ofInt 64 x ^^^ BitVec.ofInt 64 y).toNat:Int)=_;rw[h3]
 rw[h5,wrap64 (by omega) (by omega)];omega
section
variable {P:Program} {s:St}
theorem tH {all:Array Oper} {o:Oper} {y n:Prop} (h:iA all s o True True) (hy:gw all s o=true->y) (hn:gw all s o=false->n):iA all s o y n:=by
 unfold iA at h⊢;unfold gw at hy hn;cases hg:o.guard with
 |none=>rw[hg]at hy;exact hy rfl
 |some p=>
  obtain⟨j,want⟩:=p;rw[hg]at h hy hn;refine aj h fun oj h1 h2=>aj h2 fun t h3 h4=>aj h4 fun x h5 h6=>?_
  simp only[h1,X7,h3,h5]at hy hn;show bU (all[j]?) _;rw[h1];show bU oj.dst _;rw[h3];show bU (look s.fr t) _;rw[h5];simp only[bU];split at h6
  ·rename_i b;simp only[beq_iff_eq,beq_eq_false_iff_ne]at hy hn;exact⟨fun e=>hy e,fun e=>hn (by subst e;cases want<;>decide)⟩
  ·exact hn rfl
  ·exact h6.elim
theorem sh {all:Array Oper} {ow:Nat->Bool}:∀(ops:List Oper) (i:Nat) (s:St) {K:St->Prop},wh P all ow K i ops s->∃s',K s'/\∀K':St->Prop,K' s'->wh P all ow K' i ops s
 |[],i,s,K,h=>⟨s,h,fun K' h=>h⟩
 |o::rest,i,s,K,h=>by
  simp only[wh]at h;obtain⟨h0,hg⟩:=fT h;rcases h0 with⟨h1,h2⟩|⟨h1,h2⟩
  ·obtain⟨x,V,A,h3,h4⟩:=gd h2;obtain⟨s',h5,h6⟩:=sh rest (i+1) _ h3;refine⟨s',h5,fun K' yG=>?_⟩;simp only[wh];exact tH hg (fun _=>h4 _ (h6 K' yG)) (fun e=>by rw[h1]at e;cases e)
  ·obtain⟨s',h5,h6⟩:=sh rest (i+1) _ h2;refine⟨s',h5,fun K' yG=>?_⟩;simp only[wh];exact tH hg (fun e=>by rw[h1]at e;cases e) (fun _=>h6 K' yG)
theorem qe {all:Array Oper} {ow:Nat->Bool} {ws:List Nat}:∀(ops:List Oper) (i:Nat) (s:St) {K:St->Prop},pA P all ow ws K i ops s->∃s',K s'/\∀K':St->Prop,K' s'->pA P all ow ws K' i ops s
 |[],i,s,K,h=>⟨s,h,fun K' h=>h⟩
 |o::rest,i,s,K,h=>by
  simp only[pA]at h;obtain⟨h0,hg⟩:=fT h;rcases h0 with⟨h1,h2⟩|⟨h1,h2⟩
  ·obtain⟨x,V,A,⟨h3,sZ⟩,h4⟩:=gd h2;obtain⟨s',h5,h6⟩:=qe rest (i+1) _ sZ;refine⟨s',h5,fun K' yG=>?_⟩;simp only[pA];exact tH hg (fun _=>h4 _ ⟨h3,h6 K' yG⟩) (fun e=>by rw[h1]at e;cases e)
  ·obtain⟨s',h5,h6⟩:=qe rest (i+1) _ h2;refine⟨s',h5,fun K' yG=>?_⟩;simp only[pA];exact tH hg (fun e=>by rw[h1]at e;cases e) (fun _=>h6 K' yG)
theorem qf {all:Array Oper} {ow:Nat->Bool} {ws fs:List Nat} {m:Nat} {ex:List Nat} {V0:List (List CV)} {A0:List bz}:∀(ops:List Oper) (i:Nat) (s:St) {K:St->Prop},oI P all ow ws fs m ex V0 A0 K i ops s->∃s',K s'/\∀K':St->Prop,K' s'->oI P all ow ws fs m ex V0 A0 K' i ops s
 |[],i,s,K,h=>⟨s,h,fun K' h=>h⟩
 |o::rest,i,s,K,h=>by
  simp only[oI]at h;obtain⟨h0,hg⟩:=fT h;rcases h0 with⟨h1,h2⟩|⟨h1,h2⟩
  ·obtain⟨x,V,A,⟨h3,sZ,h3'',Uu⟩,h4⟩:=gd h2;obtain⟨s',h5,h6⟩:=qf rest (i+1) _ Uu;refine⟨s',h5,fun K' yG=>?_⟩;simp only[oI];exact tH hg (fun _=>h4 _ ⟨h3,sZ,h3'',h6 K' yG⟩) (fun e=>by rw[h1]at e;cases e)
  ·obtain⟨s',h5,h6⟩:=qf rest (i+1) _ h2;refine⟨s',h5,fun K' yG=>?_⟩;simp only[oI];exact tH hg (fun e=>by rw[h1]at e;cases e) (fun _=>h6 K' yG)
end
section
variable {P:Program} {n:Nat} {ι:Type} {Q:ι->Exit->St->Prop} {s s':St}
def TX (P:Program) (n:Nat) (c:Code) (Q:ι->Exit->St->Prop) (s:St):Prop:=∃x,T P n c (Q x) s
def EX (Q:ι->Exit->St->Prop) (e:Exit) (s:St):Prop:=∃x,Q x e s
theorem TX.seq {x y:Code} (h:TX P n x (fun i=>wi P n y (Q i)) s):TX P n (.seq x y) Q s:=h.imp fun _ h=>T.seq h
theorem TX.skip (h:EX Q .normal s):TX P n .skip Q s:=h.imp fun _ h=>T.skip h
theorem TX.exit {id:Nat} (h:EX Q (.exit id) s):TX P n (.exit id) Q s:=h.imp fun _ h=>T.exit h
theorem TX.ret (h:EX Q .ret s):TX P n .ret Q s:=h.imp fun _ h=>T.ret h
theorem TX.block {id:Nat} {c:Code} (h:TX P n c (fun i=>gW id (Q i)) s):TX P n (.block id c) Q s:=h.imp fun _ h=>T.block h
theorem TX.cond {c:Operand} {x y:Code} {b:Bool} (hc:bH s c=some (.c (.d (.bool b)))) (ht:b=true->TX P n x Q s) (hf:b=false->TX P n y Q s):TX P n (.cond c x y) Q s:=by
 cases b
 ·exact(hf rfl).imp fun _ h=>T.cond hc (fun e=>by cases e) (fun _=>h)
 ·exact(ht rfl).imp fun _ h=>T.cond hc (fun _=>h) (fun e=>by cases e)
section
variable {id:Nat} {l:List Oper} {y:Code}
theorem TX.rs (ow:Nat->Bool) (h:∀K:St->Prop,(∀s',TX P n y Q s'->K s')->Cv P l.toArray ow K 0 l s):TX P n (.seq (.region id l.toArray false) y) Q s:=by
 obtain⟨s',⟨x,hx⟩,h2⟩:=sh l 0 s (h (fun s'=>TX P n y Q s') fun _ h=>h).run;exact⟨x,T.rs ow fun K hK=>⟨h2 _ (hK _ hx)⟩⟩
theorem TX.eQ (ow:Nat->Bool) (h:∀K:St->Prop,(∀s',EX Q .normal s'->K s')->Cv P l.toArray ow K 0 l s):TX P n (.region id l.toArray false) Q s:=by
 obtain⟨s',⟨x,hx⟩,h2⟩:=sh l 0 s (h (fun s'=>EX Q .normal s') fun _ h=>h).run;exact⟨x,T.eQ ow fun K hK=>⟨h2 _ (hK _ hx)⟩⟩
theorem TX.rd (hm:P.follows .mixedOrders=true) (ow:Nat->Bool) (ws:List Nat) (hd:ey l.toArray ws=true) (h:∀K:St->Prop,(∀s',TX P n y Q s'->K s')->tE P l.toArray ow ws K 0 l s):TX P n (.seq (.region id l.toArray true) y) Q s:=by
 obtain⟨s',⟨x,hx⟩,h2⟩:=qe l 0 s (h (fun s'=>TX P n y Q s') fun _ h=>h).run;exact⟨x,T.rd hm ow ws hd fun K hK=>⟨h2 _ (hK _ hx)⟩⟩
theorem TX.yd (hm:P.follows .mixedOrders=true) (ow:Nat->Bool) (ws:List Nat) (hd:ey l.toArray ws=true) (h:∀K:St->Prop,(∀s',EX Q .normal s'->K s')->tE P l.toArray ow ws K 0 l s):TX P n (.region id l.toArray true) Q s:=by
 obtain⟨s',⟨x,hx⟩,h2⟩:=qe l 0 s (h (fun s'=>EX Q .normal s') fun _ h=>h).run;exact⟨x,T.yd hm ow ws hd fun K hK=>⟨h2 _ (hK _ hx)⟩⟩
theorem TX.mL (hm:P.follows .mixedOrders=true) (ow:Nat->Bool) (ws fs:List Nat) (m:Nat) (ex:List Nat) (hd:iK l.toArray ws fs m=true) (h:∀K:St->Prop,(∀s',TX P n y Q s'->K s')->sf P l.toArray ow ws fs m ex s.V s.A K 0 l s):TX P n (.seq (.region id l.toArray true) y) Q s:=by
 obtain⟨s',⟨x,hx⟩,h2⟩:=qf l 0 s (h (fun s'=>TX P n y Q s') fun _ h=>h).run;exact⟨x,T.mL hm ow ws fs m ex hd fun K hK=>⟨h2 _ (hK _ hx)⟩⟩
theorem TX.CS (hm:P.follows .mixedOrders=true) (ow:Nat->Bool) (ws fs:List Nat) (m:Nat) (ex:List Nat) (hd:iK l.toArray ws fs m=true) (h:∀K:St->Prop,(∀s',EX Q .normal s'->K s')->sf P l.toArray ow ws fs m ex s.V s.A K 0 l s):TX P n (.region id l.toArray true) Q s:=by
 obtain⟨s',⟨x,hx⟩,h2⟩:=qf l 0 s (h (fun s'=>EX Q .normal s') fun _ h=>h).run;exact⟨x,T.CS hm ow ws fs m ex hd fun K hK=>⟨h2 _ (hK _ hx)⟩⟩
end
theorem EX.iG {c:Code} (h:TX P n c Q s):EX (fun i=>wi P n c (Q i)) .normal s:=h
theorem EX.il {c:Code} (h:EX Q .ret s):EX (fun i=>wi P n c (Q i)) .ret s:=h
theorem EX.oJ {c:Code} {id:Nat} (h:EX Q (.exit id) s):EX (fun i=>wi P n c (Q i)) (.exit id) s:=h
theorem EX.iv {id:Nat} (h:EX Q .normal s):EX (fun i=>gW id (Q i)) .normal s:=h
theorem EX.e0 {id:Nat} (h:EX Q .ret s):EX (fun i=>gW id (Q i)) .ret s:=h
theorem EX.kK {id:Nat} (h:EX Q .normal s):EX (fun i=>gW id (Q i)) (.exit id) s:=h.imp fun _ h=>by simpa[gW]using h
def wy {α:Type} (S:α->St) (m:α->Nat) (H:α->Prop) (k:Nat) (Q:ι->Exit->St->Prop):{a:α // m a<k/\H a}⊕ι->Exit->St->Prop
 |.inl a,e,s=>e=.normal/\Sub (S a.1) s
 |.inr x,e,s=>e≠.normal/\Q x e s
theorem EX.next {α:Type} {S:α->St} {m:α->Nat} {H:α->Prop} {k:Nat} (a:α) (hm:m a<k) (hH:H a) (hs:Sub (S a) s):EX (wy S m H k Q) .normal s:=⟨.inl ⟨a,hm,hH⟩,rfl,hs⟩
theorem EX.lU {α:Type} {S:α->St} {m:α->Nat} {H:α->Prop} {k:Nat} (h:EX Q .ret s):EX (wy S m H k Q) .ret s:=h.elim fun x h=>⟨.inr x,by simp,h⟩
theorem EX.Fg {α:Type} {S:α->St} {m:α->Nat} {H:α->Prop} {k id:Nat} (h:EX Q (.exit id) s):EX (wy S m H k Q) (.exit id) s:=h.elim fun x h=>⟨.inr x,by simp,h⟩
theorem Iter.sub {c:Code} {Q:Exit->St->Prop} {k:Nat} {s s':St} (h:Iter P n c Q k s) (hs:Sub s s'):Iter P n c Q k s':=by
 cases k with
 |zero=>exact h.elim
 |succ k=>exact T.sub h hs
theorem TX.fW {α:Type} {c:Code} (S:α->St) (m:α->Nat) (H:α->Prop) (h:∀a,H a->TX P n c (wy S m H (m a) Q) (S a)) (a:α) (ha:H a) (hs:Sub (S a) s):TX P n (.loop c) Q s:=by
 have key:∀k a,m a=k->H a->∃x j,Iter P n c (Q x) j (S a):=by
  intro k;induction k using Ya with
  |_ k ih=>
   intro a hk ha;obtain⟨y,hy⟩:=h a ha;cases y with
   |inl b=>
    obtain⟨x,j,hx⟩:=ih (m b.1) (by have:=b.2.1;omega) b.1 rfl b.2.2;refine⟨x,j+1,T.mono hy fun e s' h1=>?_⟩;obtain⟨rfl,h2⟩:=h1;exact hx.sub h2
   |inr x=>
    refine⟨x,1,T.mono hy fun e s' h1=>?_⟩;obtain⟨h1,h2⟩:=h1;cases e<;>first|exact absurd rfl h1|exact h2
 obtain⟨x,j,hx⟩:=key _ a rfl ha;exact⟨x,T.mV (hx.sub hs)⟩
end
section
variable {P:Program} {f:FuncId} {fn:Func} {c:Code} {s:St} {e:Exit} {b:List Int}
def bV (P:Program) (f:FuncId) (as:List AV) (V:List (List CV)) (R:AV->List (List CV)->List bz->Prop):Prop:=∃v V' A',R v V' A'/\ah P f as V v V' A'
abbrev QW (R:AV->List (List CV)->List bz->Prop):Type:={x:AV×List (List CV)×List bz // R x.1 x.2.1 x.2.2}
abbrev uJ (P:Program) (fn:Func) (m:Nat) (R:AV->List (List CV)->List bz->Prop) (x:QW R):Exit->St->Prop:=aB P fn m x.1.1 x.1.2.1 x.1.2.2
theorem bV.cD {as:List AV} {V:List (List CV)} {R:AV->List (List CV)->List bz->Prop} (hf:P.funcs[f]? =some fn) (kg:(fn.name== "runtime.NumGoroutine")=false) (hb:fn.body=some c) (eP:codeOk fn.ntmps c=true) (hn:as.length<=fn.ntmps)
  (hV:∀v V' A',R v V' A'->V.length<=V'.length) (h:TX P fn.ntmps c (uJ P fn V.length R) ⟨kU as,V,[]⟩):bV P f as V R:=by
 obtain⟨x,hx⟩:=h;exact⟨_,_,_,x.2,ah.cD hf kg hb eP hn (hV _ _ _ x.2) hx⟩
theorem aB.gen {m:Nat} {r:AV} {V':List (List CV)} {A':List bz} (ext ks:List Nat) {ys:List AV} (he:e=.normal\/e=.ret) (mK:(ft P s fn.results.toList).bind (aA s.A (Yf m++ext) ks)=some ys) (hr:one ys=r)
  (hV:fD s.A s.V (Yf m++ext) ks (Yf m++ext)=some V') (hA:dW s.A ks=some A') (l3:ks.Nodup) (Jq:ext.Nodup) (hm:∀l∈ext,m<=l):aB P fn m r V' A' e s:=by
 cases hx:ft P s fn.results.toList with
 |none=>rw[hx]at mK;simp at mK
 |some xs=>rw[hx]at mK;exact⟨he,ext,ks,xs,ys,hx,l3,Jq,hm,mK,hr.symm,hV,hA⟩
theorem aB.CT {r:AV} {a:bz} (k:Nat) {ys:List AV} (he:e=.normal\/e=.ret) (mK:(ft P s fn.results.toList).bind (aA s.A [] [k])=some ys) (hr:one ys=r) (hA:s.A[k]? =some a):aB P fn 0 r [] [a] e s:=
 aB.gen [] [k] he (by simpa using mK) hr rfl (by simp[dW,hA]) (by simp) (by simp) (by simp)
def bC (P:Program) (f:FuncId) (as:List AV) (b:List Int) (p N:Nat) (R:AV->List bz->Prop):Prop:=
 bV P f (.c (.ptr 0 0)::as) (dV [rd b p]) fun v V' A'=>∃p',V'=dV [rd b p']/\p<=p'/\p'<=p+N/\R v A'
theorem EX.draw {p N p':Nat} {R:AV->List bz->Prop} (ks:List Nat) {ys:List AV} {A':List bz} (he:e=.normal\/e=.ret) (mK:(ft P s fn.results.toList).bind (aA s.A [0] ks)=some ys) (hV:s.V[0]? =some ((rd b p').map CV.d)) (hA:dW s.A ks=some A') (l3:ks.Nodup)
  (h1:p<=p') (h2:p'<=p+N) (hR:R (one ys) A'):EX (uJ P fn 1 (fun v V' A'=>∃p',V'=dV [rd b p']/\p<=p'/\p'<=p+N/\R v A')) e s:=by
 refine⟨⟨(one ys,dV [rd b p'],A'),p',rfl,h1,h2,hR⟩,?_⟩;refine aB.gen [] ks he (by simpa using mK) rfl ?_ hA l3 (by simp) (by simp);refine vG [0] [rd b p'] rfl ?_;intro j l' row' h1 h2
 match j with
 |0=>simp at h1 h2;subst h1;subst h2;exact hV
 |j+1=>simp at h1
theorem Bd (l:Nat) {p N:Nat} {R:AV->List bz->Prop} {xs as:List AV} {K:AV->List (List CV)->List bz->Prop} (ef:s.V[l]? =some ((rd b p).map CV.d)) (b8:ig s.A [l] xs=some (.c (.ptr 0 0)::as)) (hd:bC P f as b p N R)
  (hK:∀v A' p',R v A'->p<=p'->p'<=p+N->K (v.fN [l] s.V.length s.A.length) (s.V.set l ((rd b p').map CV.d)) (bT s.A (bD xs)++A')):gE P s f xs K:=by
 obtain⟨v,V',A',⟨p',rfl,h1,h2,hR⟩,hc⟩:=hd;refine .inl ⟨[l],_,dV [rd b p],v,dV [rd b p'],A',by simp,b8,vF [l] [rd b p] rfl ?_,hc,?_⟩
 ·intro j l' row'' h1 h2
  match j with
  |0=>simp at h1 h2;subst h1;subst h2;exact ef
  |j+1=>simp at h1
 ·obtain⟨ds,vD⟩:=nT (V:=s.V) [l] [rd b p] rfl (by
   intro j l' row'' h1 h2
   match j with
   |0=>simp at h1 h2;subst h1;subst h2;exact ef
   |j+1=>simp at h1)
  rw[vD,mw,rZ];have hp:cl s.A.length s.V.length [l] s.V [l] (dV [rd b p'])=s.V.set l ((rd b p').map CV.d):=by
   simp only[dV,Yk,Ys,cl,List.append_nil]
   rfl
  rw[hp];exact hK v A' p' hR h1 h2
theorem ff {xs as:List AV} {r:AV} {A':List bz} {K:AV->List (List CV)->List bz->Prop} (b8:ig s.A [] xs=some as) (hc:ah P f as [] r [] A') (hK:K (r.fN [] s.V.length s.A.length) s.V (bT s.A (bD xs)++A')):gE P s f xs K:=by
 refine .inl ⟨[],as,[],r,[],A',by simp,b8,rfl,hc,?_⟩;simpa[cl,bO]using hK
abbrev RV {α:Type} (enc:α->AV) (arr:α->List bz) (good:α->Prop):AV->List bz->Prop:=fun v A'=>∃x,(v=enc x/\A'=arr x)/\good x
abbrev vp {α:Type}:α->List bz:=fun _=>[]
theorem aE (l:Nat) {α:Type} {enc:α->AV} {arr:α->List bz} {good:α->Prop} {p N:Nat} {xs as:List AV} {K:AV->List (List CV)->List bz->Prop} (ef:s.V[l]? =some ((rd b p).map CV.d)) (b8:ig s.A [l] xs=some (.c (.ptr 0 0)::as)) (hd:bC P f as b p N (RV enc arr good))
  (hK:∀x p',good x->p<=p'->p'<=p+N->K ((enc x).fN [l] s.V.length s.A.length) (s.V.set l ((rd b p').map CV.d)) (bT s.A (bD xs)++arr x)):gE P s f xs K:=
 Bd l ef b8 hd fun _ _ p' h h1 h2=>by obtain⟨x,⟨rfl,rfl⟩,hg⟩:=h;exact hK x p' hg h1 h2
theorem EX.dr {α:Type} {enc:α->AV} {arr:α->List bz} {good:α->Prop} {p N p':Nat} (ks:List Nat) (x:α) {ys:List AV} (he:e=.normal\/e=.ret) (mK:(ft P s fn.results.toList).bind (aA s.A [0] ks)=some ys) (hx:one ys=enc x) (hV:s.V[0]? =some ((rd b p').map CV.d)) (hA:dW s.A ks=some (arr x)) (l3:ks.Nodup)
  (h1:p<=p') (h2:p'<=p+N) (hg:good x):EX (uJ P fn 1 (fun v V' A'=>∃p',V'=dV [rd b p']/\p<=p'/\p'<=p+N/\RV enc arr good v A')) e s:=
 EX.draw ks he mK hV hA l3 h1 h2 ⟨x,⟨hx,rfl⟩,hg⟩
theorem bC.mk {α:Type} {enc:α->AV} {arr:α->List bz} {good:α->Prop} {p p' N:Nat} {as:List AV} (x:α) (hg:good x) (h1:p<=p') (h2:p'<=p+N) (hc:ah P f (.c (.ptr 0 0)::as) (dV [rd b p]) (enc x) (dV [rd b p']) (arr x)):bC P f as b p N (RV enc arr good):=
 ⟨_,_,_,⟨p',rfl,h1,h2,x,⟨rfl,rfl⟩,hg⟩,hc⟩
theorem bC.mono {α:Type} {enc:α->AV} {arr:α->List bz} {good good':α->Prop} {p N N':Nat} {as:List AV} (h:bC P f as b p N (RV enc arr good)) (hN:N<=N') (hg:∀x,good x->good' x):bC P f as b p N' (RV enc arr good'):=by
 obtain⟨v,V',A',⟨p',h1,h2,h3,x,h4,h5⟩,hc⟩:=h;exact⟨v,V',A',⟨p',h1,h2,by omega,x,h4,hg x h5⟩,hc⟩
theorem bC.cD {p N:Nat} {as:List AV} {R:AV->List bz->Prop} (hf:P.funcs[f]? =some fn) (kg:(fn.name== "runtime.NumGoroutine")=false) (hb:fn.body=some c) (eP:codeOk fn.ntmps c=true) (hn:as.length+1<=fn.ntmps)
  (h:TX P fn.ntmps c (uJ P fn 1 (fun v V' A'=>∃p',V'=dV [rd b p']/\p<=p'/\p'<=p+N/\R v A')) ⟨kU (.c (.ptr 0 0)::as),dV [rd b p],[]⟩):bC P f as b p N R:=
 bV.cD hf kg hb eP hn (by rintro v V' A' ⟨p',rfl,-⟩;simp) h
def dk (P:Program) (f:FuncId) (as:List AV) (R:AV->List bz->Prop):Prop:=bV P f as [] fun v V' A'=>V'=[]/\R v A'
theorem dk.cD {as:List AV} {R:AV->List bz->Prop} (hf:P.funcs[f]? =some fn) (kg:(fn.name== "runtime.NumGoroutine")=false) (hb:fn.body=some c) (eP:codeOk fn.ntmps c=true) (hn:as.length<=fn.ntmps)
  (h:TX P fn.ntmps c (uJ P fn 0 (fun v V' A'=>V'=[]/\R v A')) ⟨kU as,[],[]⟩):dk P f as R:=
 bV.cD hf kg hb eP hn (by rintro v V' A' ⟨rfl,-⟩;simp) h
theorem EX.sm {α:Type} {enc:α->AV} {arr:α->List bz} {good:α->Prop} (ks:List Nat) (x:α) {ys:List AV} (he:e=.normal\/e=.ret) (mK:(ft P s fn.results.toList).bind (aA s.A [] ks)=some ys) (hx:one ys=enc x) (hA:dW s.A ks=some (arr x)) (l3:ks.Nodup) (hg:good x):
  EX (uJ P fn 0 (fun v V' A'=>V'=[]/\RV enc arr good v A')) e s:=by
 refine⟨⟨(one ys,[],arr x),rfl,x,⟨hx,rfl⟩,hg⟩,?_⟩;exact aB.gen [] ks he (by simpa using mK) rfl rfl hA l3 (by simp) (by simp)
theorem Be {α:Type} {enc:α->AV} {arr:α->List bz} {good:α->Prop} {xs as:List AV} {K:AV->List (List CV)->List bz->Prop} (b8:ig s.A [] xs=some as) (hd:dk P f as (RV enc arr good))
  (hK:∀x,good x->K ((enc x).fN [] s.V.length s.A.length) s.V (bT s.A (bD xs)++arr x)):gE P s f xs K:=by
 obtain⟨v,V',A',⟨rfl,x,⟨rfl,rfl⟩,hg⟩,hc⟩:=hd;exact ff b8 hc (hK x hg)
theorem Bf {row:List DV} {xs as:List AV} {r:AV} {K:AV->List (List CV)->List bz->Prop} (b8:ig s.A [] xs=some as) (hc:ah P f as [] r (dV [row]) []) (hK:K (r.fN [] s.V.length s.A.length) (s.V++[row.map CV.d]) (bT s.A (bD xs))):gE P s f xs K:=by
 refine .inl ⟨[],as,[],r,dV [row],[],by simp,b8,rfl,hc,?_⟩;have hm:(row.map CV.d).map (CV.fN [] s.V.length s.A.length)=row.map CV.d:=by
  rw[List.map_map];rfl
 have hp:cl s.A.length s.V.length [] s.V [] (dV [row])=s.V++[row.map CV.d]:=by
  simp only[dV,Yk,Ys,cl,hm]
 rw[hp];simpa[bO]using hK
end
section
variable {P:Program} {n:Nat} {ι:Type} {Q:ι->Exit->St->Prop} {s s':St} {c:Code}
def LX (P:Program) (n:Nat) (c:Code) (Q:ι->Exit->St->Prop) (s:St):Prop:=∃x j,Iter P n c (Q x) j s
def Fh (P:Program) (n:Nat) (c:Code) (Q:ι->Exit->St->Prop):ι×Nat->Exit->St->Prop
 |(x,j),.normal,s=>Iter P n c (Q x) j s
 |(x,_),e,s=>Q x e s
theorem LX.nY (h:TX P n c (Fh P n c Q) s):LX P n c Q s:=by
 obtain⟨⟨x,j⟩,h⟩:=h;exact⟨x,j+1,T.mono h fun e s' h1=>by cases e<;>exact h1⟩
theorem TX.nY (h:TX P n c (Fh P n c Q) s):TX P n (.loop c) Q s:=by
 obtain⟨x,j,h⟩:=LX.nY h;exact⟨x,T.mV h⟩
theorem EX.zM (h:TX P n c (Fh P n c Q) s):EX (Fh P n c Q) .normal s:=by
 obtain⟨x,j,h⟩:=LX.nY h;exact⟨(x,j),h⟩
theorem EX.lV (h:EX Q .ret s):EX (Fh P n c Q) .ret s:=h.imp' (fun x=>(x,0)) fun _ h=>h
theorem EX.Fi {id:Nat} (h:EX Q (.exit id) s):EX (Fh P n c Q) (.exit id) s:=h.imp' (fun x=>(x,0)) fun _ h=>h
end
section
variable {P:Program} {n:Nat} {s:St} {c:Code}
def gJ:List Nat->List (Nat×AV)->List (Nat×AV)
 |[],_=>[]
 |t::r,fr=>match look fr t with
  |some x=>(t,x)::gJ r fr
  |none=>gJ r fr
def gy:List (Nat×List CV)->List (List CV)->List (List CV)
 |[],V=>V
 |p::r,V=>gy r (V.set p.1 p.2)
attribute [simp] gJ gy
end
end Go.Av
namespace Go.Av
open Go
def eH (r:List DV) (t:aI):Prop:=r=ck t
def bg (rs:List (List DV)) (ts:List aI):Prop:=rs=ts.map ck
def cT (r:List DV) (e:ao):Prop:=r=gp e
def bf (rs:List (List DV)) (es:List ao):Prop:=rs=es.map gp
structure eb (k:Int) (rs:List (List DV)) (t:aI):Prop where
 k:k=t.kind
 rs:rs=t.kids.map ck
theorem eb.var (t:aI):eb t.kind (t.kids.map ck) t:=⟨rfl,rfl⟩
theorem eb.node {k:Int} {rs:List (List DV)} {ts:List aI} (h:bg rs ts):eb k rs (.mk k ts):=⟨rfl,h⟩
theorem eH.of {k:Int} {rs:List (List DV)} {t:aI} (h:eb k rs t):eH [.int .i64 k,.sl rs] t:=by rw[eH,aJ,<-h.k,<-h.rs]
theorem eH.row (t:aI):eH (ck t) t:=rfl
theorem bg.map (l:List aI):bg (l.map ck) l:=rfl
theorem bg.nil:bg [] []:=rfl
theorem bg.cons {r:List DV} {rs:List (List DV)} {t:aI} {ts:List aI} (h:eH r t) (hs:bg rs ts):bg (r::rs) (t::ts):=by rw[bg,Yk,<-hs,<-h]
theorem bg.app {rs rs':List (List DV)} {ts ts':List aI} (h:bg rs ts) (h':bg rs' ts'):bg (rs++rs') (ts++ts'):=by rw[bg,Ym,<-h,<-h']
theorem cT.row (e:ao):cT (gp e) e:=rfl
theorem cT.var (e:ao):cT [.int .i64 e.kind,.str e.name,.int .i64 e.num,.int .i64 e.ty.kind,.sl (e.ty.kids.map ck),.int .i64 e.fr.kind,.sl (e.fr.kids.map ck),.int .i64 e.label,.sl (e.kids.map gp)] e:=by rw[cT,al]
theorem cT.node {k n k1 k2 lb:Int} {s:List UInt8} {r1 r2 r3:List (List DV)} {t f:aI} {es:List ao} (h1:eb k1 r1 t) (h2:eb k2 r2 f) (h3:bf r3 es):
  cT [.int .i64 k,.str s,.int .i64 n,.int .i64 k1,.sl r1,.int .i64 k2,.sl r2,.int .i64 lb,.sl r3] (.mk k s n t f lb es):=by
 rw[cT,al,h1.k,h1.rs,h2.k,h2.rs,h3];rfl
theorem bf.map (l:List ao):bf (l.map gp) l:=rfl
theorem bf.nil:bf [] []:=rfl
theorem bf.cons {r:List DV} {rs:List (List DV)} {t:ao} {ts:List ao} (h:cT r t) (hs:bf rs ts):bf (r::rs) (t::ts):=by rw[bf,Yk,<-hs,<-h]
theorem bf.app {rs rs':List (List DV)} {ts ts':List ao} (h:bf rs ts) (h':bf rs' ts'):bf (rs++rs') (ts++ts'):=by rw[bf,Ym,<-h,<-h']
def bp {α:Type} (enc:α->AV) (v:AV) (x:α):Prop:=v=enc x
theorem bp.ty {k:Int} {rs:List (List DV)} {t:aI} (h:eb k rs t):bp dE (.agg [.d (.int .i64 k),.d (.sl rs)]) t:=by rw[bp,h.k,h.rs]
theorem bp.xN (e:ao):bp cM (.agg [.d (.int .i64 e.kind),.d (.str e.name),.d (.int .i64 e.num),.d (.int .i64 e.ty.kind),.d (.sl (e.ty.kids.map ck)),.d (.int .i64 e.fr.kind),.d (.sl (e.fr.kids.map ck)),.d (.int .i64 e.label),.d (.sl (e.kids.map gp))]) e:=rfl
theorem bp.tm {k n k1 k2 lb:Int} {s:List UInt8} {r1 r2 r3:List (List DV)} {t f:aI} {es:List ao} (h1:eb k1 r1 t) (h2:eb k2 r2 f) (h3:bf r3 es):
  bp cM (.agg [.d (.int .i64 k),.d (.str s),.d (.int .i64 n),.d (.int .i64 k1),.d (.sl r1),.d (.int .i64 k2),.d (.sl r2),.d (.int .i64 lb),.d (.sl r3)]) (.mk k s n t f lb es):=by
 rw[bp,cM,h1.k,h1.rs,h2.k,h2.rs,h3];rfl
abbrev aP {α β:Type} (f:α->AV) (g:β->AV):α×β->AV:=fun x=>.a8 [f x.1,g x.2]
abbrev Uv {α β γ:Type} (f:α->AV) (g:β->AV) (h:γ->AV):α×β×γ->AV:=fun x=>.a8 [f x.1,g x.2.1,h x.2.2]
theorem bp.p2 {α β:Type} {f:α->AV} {g:β->AV} {v u:AV} {a:α} {b:β} (h:bp f v a) (h':bp g u b):bp (aP f g) (.a8 [v,u]) (a,b):=by rw[bp,h,h']
theorem bp.p3 {α β γ:Type} {f:α->AV} {g:β->AV} {i:γ->AV} {v u w:AV} {a:α} {b:β} {c:γ} (h:bp f v a) (h':bp g u b) (h'':bp i w c):bp (Uv f g i) (.a8 [v,u,w]) (a,b,c):=by rw[bp,h,h',h'']
abbrev LC (l:List aI):AV:=.l (l.map ck)
abbrev QY (l:List ao):AV:=.l (l.map gp)
abbrev kL (l:List dF):AV:=.l (l.map iE)
theorem bp.wz {rs:List (List DV)} {ts:List aI} (h:bg rs ts):bp LC (.c (.d (.sl rs))) ts:=by rw[bp,h]
theorem bp.xO {rs:List (List DV)} {ts:List ao} (h:bf rs ts):bp QY (.c (.d (.sl rs))) ts:=by rw[bp,h]
def bh (rs:List (List DV)) (ts:List dF):Prop:=rs=ts.map iE
theorem bh.map (l:List dF):bh (l.map iE) l:=rfl
theorem bh.nil:bh [] []:=rfl
theorem bh.cons {s:List UInt8} {k:Int} {r1 rs:List (List DV)} {t:aI} {ts:List dF} (h:eb k r1 t) (hs:bh rs ts):bh ([.str s,.int .i64 k,.sl r1]::rs) (⟨s,t⟩::ts):=by rw[bh,Yk,<-hs,iE,h.k,h.rs]
theorem bh.app {rs rs':List (List DV)} {ts ts':List dF} (h:bh rs ts) (h':bh rs' ts'):bh (rs++rs') (ts++ts'):=by rw[bh,Ym,<-h,<-h']
theorem bp.xP {rs:List (List DV)} {ts:List dF} (h:bh rs ts):bp kL (.c (.d (.sl rs))) ts:=by rw[bp,h]
theorem bp.int (n:Int):bp (fun n:Int=>.i n) (.c (.d (.int .i64 n))) n:=rfl
theorem bp.str (s:List UInt8):bp (fun s:List UInt8=>.s s) (.c (.d (.str s))) s:=rfl
theorem bp.bool (s:Bool):bp (fun s:Bool=>.b s) (.c (.d (.bool s))) s:=rfl
section
variable {P:Program} {f:FuncId} {fn:Func} {c:Code} {s:St} {e:Exit} {b:List Int}
theorem EX.yH {α:Type} {enc:α->AV} {arr:α->List bz} {good:α->Prop} {p N p':Nat} (ks:List Nat) {x:α} {ys:List AV} {v:AV} (he:e=.normal\/e=.ret) (mK:(ft P s fn.results.toList).bind (aA s.A [0] ks)=some ys) (hv:one ys=v) (hx:bp enc v x) (hV:s.V[0]? =some ((rd b p').map CV.d)) (hA:dW s.A ks=some (arr x)) (l3:ks.Nodup)
  (h1:p<=p') (h2:p'<=p+N) (hg:good x):EX (uJ P fn 1 (fun v V' A'=>∃p',V'=dV [rd b p']/\p<=p'/\p'<=p+N/\RV enc arr good v A')) e s:=
 EX.dr ks x he mK (hv.trans hx) hV hA l3 h1 h2 hg
theorem EX.KQ {α:Type} {enc:α->AV} {arr:α->List bz} {good:α->Prop} (ks:List Nat) {x:α} {ys:List AV} {v:AV} (he:e=.normal\/e=.ret) (mK:(ft P s fn.results.toList).bind (aA s.A [] ks)=some ys) (hv:one ys=v) (hx:bp enc v x) (hA:dW s.A ks=some (arr x)) (l3:ks.Nodup) (hg:good x):
  EX (uJ P fn 0 (fun v V' A'=>V'=[]/\RV enc arr good v A')) e s:=
 EX.sm ks x he mK (hv.trans hx) hA l3 hg
end
theorem si (d:Nat) (k:Int) (l:List aI):ak (d+1) (.mk k l)=(decide (cz k=l.length)&& l.all (ak d)):=rfl
def lW (c:UInt8):List UInt8->List UInt8
 |[]=>[c]
 |x::r=>if x<c then x::lW c r else if x=c then x::r else c::x::r
theorem wA (c:UInt8):∀(s:List UInt8),(lW c s).length<=s.length+1
 |[]=>by simp[lW]
 |x::r=>by
  have:=wA c r;simp only[lW];split
  ·simp;omega
  ·split<;>simp
theorem ye (x c:UInt8):Op.bytesLess [x] [c]=decide (x<c):=by
 simp only[Op.bytesLess];by_cases h:x<c
 ·simp[h]
 ·by_cases h2:x=c
  ·subst h2;simp
  ·simp[h,h2]
theorem sj:∀(l m:List aI),cP (l++m)=cP l+cP m
 |[],m=>by simp[cP]
 |x::l,m=>by simp[cP,sj l m];omega
theorem cA (k:Int) (l:List aI):fA (.mk k l)=cP l:=by simp[fA]
theorem fg (k:Int) (s:List UInt8) (n:Int) (t f:aI) (b:Int) (l:List ao):eR (.mk k s n t f b l)=s.length+fA t+fA f+eW l:=by simp[eR]
theorem yI {α:Type} {s:List α} {k:Nat} (h:k<s.length):(s.take (k+1)).drop k=[s[k]]:=by
 rw[List.take_add_one,List.getElem?_eq_getElem h,List.drop_append_of_le_length (by simp;omega)];simp
@[simp] theorem cW {α:Type} (G X:List α) (k:Nat):(G++X).take (G.length+k)=G++X.take k:=by
 rw[List.take_append,List.take_of_length_le (by omega),show G.length+k-G.length=k by omega]
theorem tI:ak 4 bw=true:=rfl
theorem wB:ak 4 cF=true:=rfl
theorem CU:ak 4 bk=false:=rfl
mutual
def dS:aI->aI->Bool
 |.mk k l,.mk k' l'=>decide (k=k')&& j0 l l'
def j0:List aI->List aI->Bool
 |[],[]=>true
 |x::xs,y::ys=>dS x y && j0 xs ys
 |_,_=>false
end
theorem sk:∀(l m:List aI),j0 l m=gk dS l m
 |[],[]=>rfl
 |x::xs,y::ys=>by simp[j0,gk,sk xs ys]
 |[],_::_=>rfl
 |_::_,[]=>rfl
theorem CW (a b:aI):dS a b=(decide (a.kind=b.kind)&& gk dS a.kids b.kids):=by
 cases a;cases b;simp only[dS,sk];rfl
mutual
theorem tJ:∀(a b:aI),dS a b=true->a=b
 |.mk k l,.mk k' l',h=>by
  simp only[dS,Yw,decide_eq_true_eq]at h;obtain⟨rfl,h⟩:=h;rw[wC l l' h]
theorem wC:∀(l m:List aI),j0 l m=true->l=m
 |[],[],_=>rfl
 |x::xs,y::ys,h=>by
  simp only[j0,Yw]at h;rw[tJ x y h.1,wC xs ys h.2]
 |[],_::_,h=>by simp[j0]at h
 |_::_,[],h=>by simp[j0]at h
end
mutual
theorem kn:∀(a:aI),dS a a=true
 |.mk k l=>by simp[dS,sn l]
theorem sn:∀(l:List aI),j0 l l=true
 |[]=>rfl
 |x::xs=>by simp[j0,kn x,sn xs]
end
def qK (n:Int) (e:ao) (f t:aI):ao×Int:=if dS f t=true then(e,n)else(.mk 14 [] 0 t f (n+1) [e],n+1)
def cJ (ctx:List dF) (k:Int) (name:List UInt8) (ty:aI) (ts:List aI):Option (List aI×aI):=
 if k=1 then(dY ctx name).map fun t=>([],t)
 else if k=2 then some ([],bw)
 else if k=3\/k=4 then some ([],cF)
 else match ts with
  |[a]=>
   if k=5 then some ([],.mk 4 [ty,a])
   else if k=11 then(db 5 a).map fun p=>([.mk 5 [p.1,p.2]],p.1)
   else if k=12 then(db 5 a).map fun p=>([.mk 5 [p.1,p.2]],p.2)
   else if k=13 then if aG a ty=true then some ([ty],ty)else none
   else none
  |[a,b]=>
   if k=6 then match db 4 a with
    |some (x,y)=>if aG b x=true then some ([.mk 4 [x,y],x],y)else none
    |none=>none
   else if k=7 then if aG a bw=true/\aG b bw=true then some ([bw,bw],bw)else none
   else if k=8 then if aG a bw=true/\aG b bw=true then some ([bw,bw],cF)else none
   else if k=10 then some ([],.mk 5 [a,b])
   else none
  |[a,b,c]=>if k=9 then if aG a cF=true/\aG b c=true then some ([cF,bN b c,bN b c],bN b c)else none else none
  |_=>none
def jc:Int->List ao->List aI->List aI->List ao×Int
 |n,e::es,h::hs,w::ws=>let(e',m):=qK n e h w;let(r,m'):=jc m es hs ws;(e'::r,m')
 |n,es,_,_=>(es,n)
def nZ (ctx:List dF) (k:Int) (name:List UInt8) (num:Int) (ty fr:aI) (lb:Int):Option (List ao×List aI)×Int->Option (ao×aI)×Int
 |(none,n)=>(none,n)
 |(some (es,ts),n)=>match cJ ctx k name ty ts with
  |none=>(none,n)
  |some (ws,t)=>if ak 4 t=true then
   let(es',m):=jc n es ts ws
   if k=13 then(es'.head?.map fun x=>(x,t),m)else(some (.mk k name num ty fr lb es',t),m)
   else(none,n)
def pI:Option (ao×aI)×Int->(Int->Option (List ao×List aI)×Int)->Option (List ao×List aI)×Int
 |(none,n),_=>(none,n)
 |(some (e,t),n),f=>match f n with
  |(none,m)=>(none,m)
  |(some (es,ts),m)=>(some (e::es,t::ts),m)
mutual
def gu:List dF->ao->Int->Option (ao×aI)×Int
 |ctx,.mk k s n t f b l,c=>nZ ctx k s n t f b (eT (if k=5 then ctx++[⟨s,t⟩]else ctx) l c)
def eT:List dF->List ao->Int->Option (List ao×List aI)×Int
 |_,[],c=>(some ([],[]),c)
 |ctx,e::r,c=>pI (gu ctx e c) (eT ctx r)
end
theorem tK (ctx:List dF) (e:ao) (c:Int):gu ctx e c=nZ ctx e.kind e.name e.num e.ty e.fr e.label (eT (cx ctx e) e.kids c):=by
 cases e;simp only[gu];rfl
theorem Fj {ctx:List dF} {e:ao} {ts:List aI} (hc:iF ctx) (he:cg e.kind=true->ak 4 e.ty=true) (bZ:∀u∈ts,ak 4 u=true):
  dp ctx e.kind e.name e.ty ts=(cJ ctx e.kind e.name e.ty ts).bind fun p=>if ak 4 p.2=true then some p.2 else none:=by
 have hI:ak 4 bw=true:=rfl;have hB:ak 4 cF=true:=rfl;simp only[dp,cJ];split
 ·cases hl:dY ctx e.name with
  |none=>rfl
  |some t=>
   obtain⟨b,h1,h2,_⟩:=pG hl;have:ak 4 t=true:=by rw[<-h2];exact hc b h1
   simp[this]
 split
 ·simp[hI]
 split
 ·simp[hB]
 split
 ·rename_i a;have ha:=bZ a (by simp);split
  ·simp[r9]
  split
  ·cases hm:db 5 a with
   |none=>simp[hm]
   |some p=>obtain⟨x,y⟩:=p;simp[hm,(eN hm ha).1]
  split
  ·cases hm:db 5 a with
   |none=>simp[hm]
   |some p=>obtain⟨x,y⟩:=p;simp[hm,(eN hm ha).2]
  split
  ·rename_i dG;by_cases hq:aG a e.ty=true
   ·simp[hq,he (by simp[cg,dG])]
   ·simp[hq]
  ·rfl
 ·rename_i a b;have ha:=bZ a (by simp);have hb:=bZ b (by simp);split
  ·cases hm:db 4 a with
   |none=>simp[hm]
   |some p=>
    obtain⟨x,y⟩:=p;by_cases hq:aG b x=true
    ·simp[hm,hq,(eN hm ha).2]
    ·simp[hm,hq]
  split
  ·by_cases hq:aG a bw=true/\aG b bw=true
   ·simp[hq,hI]
   ·simp[hq]
  split
  ·by_cases hq:aG a bw=true/\aG b bw=true
   ·simp[hq,hB]
   ·simp[hq]
  split
  ·simp[r9]
  ·rfl
 ·rename_i a b c;split
  ·by_cases h1:aG b c=true
   ·by_cases h2:aG a cF=true
    ·simp[h1,h2,nW 4 b c (bZ b (by simp)) (bZ c (by simp)) h1]
    ·simp[h1,h2]
   ·simp[h1]
  ·rfl
 ·first|rfl|(split<;>first|rfl|(exfalso;simp_all))
theorem yJ:∀(n:Int) (es:List ao) (hs ws:List aI),(jc n es hs ws).1.length=es.length
 |n,[],hs,ws=>by cases hs<;>cases ws<;>rfl
 |n,e::es,[],ws=>by cases ws<;>rfl
 |n,e::es,h::hs,[]=>rfl
 |n,e::es,h::hs,w::ws=>by simp[jc,yJ _ es hs ws]
theorem tL:∀{ctx:List dF} {l:List ao} {c:Int} {es:List ao} {ts:List aI} {m:Int},eT ctx l c=(some (es,ts),m)->es.length=l.length/\ts.length=l.length
 |ctx,[],c,es,ts,m,h=>by simp[eT]at h;obtain⟨⟨rfl,rfl⟩,rfl⟩:=h;simp
 |ctx,e::r,c,es,ts,m,h=>by
  simp only[eT]at h;cases he:gu ctx e c with
  |mk o n=>
   rw[he]at h;cases o with
   |none=>simp[pI]at h
   |some p=>
    obtain⟨x,t⟩:=p;simp only[pI]at h;cases hr:eT ctx r n with
    |mk o2 n2=>
     rw[hr]at h;cases o2 with
     |none=>simp at h
     |some q=>
      obtain⟨xs,us⟩:=q;simp at h;obtain⟨⟨rfl,rfl⟩,rfl⟩:=h;have:=tL hr;simp[this.1,this.2]
theorem yK:∀(e:ao) (d:Nat) (ctx:List dF) (c:Int),bm 14 d e=true->iF ctx->(gu ctx e c).1.map (·.2)=eM ctx e:=by
 intro e;induction e using ao.ind with
 |h e ih=>
  intro d ctx c hs hc;obtain⟨d',_,_,hlen,dQ,jb⟩:=fQ hs;have b8:iF (cx ctx e):=by
   simp only[cx];split
   ·rename_i h5;intro b hb;simp only[Yg,List.mem_singleton]at hb;rcases hb with hb|rfl
    ·exact hc b hb
    ·exact hM dQ (by simp[cg,h5])
   ·exact hc
  rw[tK,na];have hl:∀(l:List ao),(∀u∈l,u∈e.kids)->∀c,(eT (cx ctx e) l c).1.map (·.2)=ez (cx ctx e) l/\∀es ts m,eT (cx ctx e) l c=(some (es,ts),m)->∀u∈ts,ak 4 u=true:=by
   intro l;induction l with
   |nil=>intro _ c;exact⟨rfl,fun es ts m h=>by simp[eT]at h;obtain⟨⟨rfl,rfl⟩,rfl⟩:=h;simp⟩
   |cons x r ihl=>
    intro hm c;have hx:=ih x (hm x (by simp)) d' (cx ctx e) c (jb x (hm x (by simp))) b8;simp only[eT,ez];cases he:gu (cx ctx e) x c with
    |mk o n=>
     rw[he]at hx;cases o with
     |none=>
      simp at hx;rw[<-hx];exact⟨rfl,fun es ts m h=>by simp[pI]at h⟩
     |some p=>
      obtain⟨y,t⟩:=p;simp at hx;rw[<-hx];have ht:=gI x d' 14 _ t (jb x (hm x (by simp))) b8 hx.symm;obtain⟨h1,h2⟩:=ihl (fun u hu=>hm u (by simp[hu])) n;simp only[pI];cases hr:eT (cx ctx e) r n with
      |mk o2 n2=>
       rw[hr]at h1 h2;cases o2 with
       |none=>
        simp at h1;rw[<-h1];exact⟨rfl,fun es ts m h=>by simp at h⟩
       |some q=>
        obtain⟨xs,us⟩:=q;simp at h1;rw[<-h1];refine⟨rfl,fun es ts m h=>?_⟩;simp at h;obtain⟨⟨rfl,rfl⟩,rfl⟩:=h;intro u hu;simp only[List.mem_cons]at hu;rcases hu with rfl|hu
        ·exact ht
        ·exact h2 xs us n2 rfl u hu
  obtain⟨h1,h2⟩:=hl e.kids (fun _ h=>h) c;cases hr:eT (cx ctx e) e.kids c with
  |mk o n=>
   rw[hr]at h1 h2;cases o with
   |none=>simp at h1;rw[<-h1];rfl
   |some p=>
    obtain⟨es,ts⟩:=p;simp at h1;rw[<-h1];have jY:=h2 es ts n rfl;have hw:=Fj (ctx:=ctx) (e:=e) (ts:=ts) hc (hM dQ) jY;simp only[nZ];rw[hw];cases VJ:cJ ctx e.kind e.name e.ty ts with
    |none=>rfl
    |some q=>
     obtain⟨ws,t⟩:=q;simp only[Option.bind];by_cases jG:ak 4 t=true
     ·rw[if_pos jG,if_pos jG];have kS:=yJ n es ts ws;have tq:=(tL hr).1;by_cases dG:e.kind=13
      ·rw[if_pos dG];have jn:e.kids.length=1:=by rw[dG]at hlen;simp[cm]at hlen;omega
       cases xJ:(jc n es ts ws).1 with
       |nil=>rw[xJ]at kS;simp at kS;omega
       |cons x r=>simp
      ·rw[if_neg dG];simp
     ·rw[if_neg jG,if_neg jG];rfl
inductive n0:Nat->aI->Prop
 |any (d:Nat):n0 (d+1) lg
 |int (d:Nat):n0 (d+1) bw
 |bool (d:Nat):n0 (d+1) cF
 |fn {d:Nat} {a b:aI}:n0 d a->n0 d b->n0 (d+1) (.mk 4 [a,b])
 |pair {d:Nat} {a b:aI}:n0 d a->n0 d b->n0 (d+1) (.mk 5 [a,b])
theorem n0.of:∀{d:Nat} {t:aI},ak d t=true->n0 d t
 |0,t,h=>by simp[ak]at h
 |d+1,.mk k l,h=>by
  simp only[ak,Yw,decide_eq_true_eq,Yj]at h;simp only[aI.bX,aI.bQ]at h;obtain⟨h1,h2⟩:=h
  match l,h1,h2 with
  |[],h1,_=>
   simp only[cz,Yh]at h1;split at h1
   ·rename_i h;rcases h with rfl|rfl|rfl
    ·exact .any d
    ·exact .int d
    ·exact .bool d
   ·split at h1<;>simp at h1
  |[a],h1,_=>
   simp only[cz]at h1;split at h1
   ·simp at h1
   ·split at h1<;>simp at h1
  |[a,b],h1,h2=>
   simp only[cz]at h1;split at h1
   ·simp at h1
   ·split at h1
    ·rename_i h;rcases h with rfl|rfl
     ·exact .fn (n0.of (h2 a (by simp))) (n0.of (h2 b (by simp)))
     ·exact .pair (n0.of (h2 a (by simp))) (n0.of (h2 b (by simp)))
    ·simp at h1
  |a::b::c::r,h1,_=>
   simp only[cz,Yl]at h1;split at h1
   ·omega
   ·split at h1<;>omega
theorem n0.shape {d:Nat} {t:aI} (h:n0 d t):ak d t=true:=by
 induction h with
 |any d=>simp[ak,cz]
 |int d=>simp[ak,cz]
 |bool d=>simp[ak,cz]
 |fn _ _ h1 h2=>simp[ak,cz,h1,h2]
 |pair _ _ h1 h2=>simp[ak,cz,h1,h2]
abbrev vq (s:List UInt8):ao:=.mk 1 s 0 bk bk 0 []
abbrev yf (n:Int):ao:=.mk 2 [] n bk bk 0 []
abbrev qL:ao:=.mk 3 [] 0 bk bk 0 []
abbrev my:ao:=.mk 4 [] 0 bk bk 0 []
abbrev so (s:List UInt8) (t:aI) (b:ao):ao:=.mk 5 s 0 t bk 0 [b]
abbrev Ed (k:Int) (a:ao):ao:=.mk k [] 0 bk bk 0 [a]
abbrev AG (k:Int) (a b:ao):ao:=.mk k [] 0 bk bk 0 [a,b]
abbrev Fk (a b c:ao):ao:=.mk 9 [] 0 bk bk 0 [a,b,c]
abbrev MZ (a:ao) (t:aI):ao:=.mk 13 [] 0 t bk 0 [a]
abbrev Ee (a:ao) (f t:aI) (l:Int):ao:=.mk 14 [] 0 t f l [a]
inductive kG (nt:Int):Nat->ao->Prop
 |var {d:Nat} {s:List UInt8}:nt≠1->dX s=true->kG nt (d+1) (vq s)
 |num {d:Nat} {n:Int}:nt≠2->0<=n->n<=999->kG nt (d+1) (yf n)
 |uK {d:Nat}:nt≠3->kG nt (d+1) qL
 |uL {d:Nat}:nt≠4->kG nt (d+1) my
 |lam {d:Nat} {s:List UInt8} {t:aI} {b:ao}:nt≠5->dX s=true->ak 4 t=true->kG nt d b->kG nt (d+1) (so s t b)
 |n2 {d:Nat} {k:Int} {a b:ao}:nt≠k->k=6\/k=7\/k=8\/k=10->kG nt d a->kG nt d b->kG nt (d+1) (AG k a b)
 |ite {d:Nat} {a b c:ao}:nt≠9->kG nt d a->kG nt d b->kG nt d c->kG nt (d+1) (Fk a b c)
 |n1 {d:Nat} {k:Int} {a:ao}:nt≠k->k=11\/k=12->kG nt d a->kG nt (d+1) (Ed k a)
 |asc {d:Nat} {t:aI} {a:ao}:nt≠13->ak 4 t=true->kG nt d a->kG nt (d+1) (MZ a t)
 |cast {d:Nat} {f t:aI} {l:Int} {a:ao}:nt≠14->ak 4 f=true->ak 4 t=true->aG f t=true->CP l=true->kG nt d a->kG nt (d+1) (Ee a f t l)
theorem iL {t:aI} (h:ed t=true):t=bk:=by
 obtain⟨k,l⟩:=t;simp only[ed,Yw,decide_eq_true_eq]at h;obtain⟨h1,h2⟩:=h;cases h1;cases h2;rfl
theorem kG.of {nt:Int}:∀{d:Nat} {e:ao},bm nt d e=true->kG nt d e
 |0,e,h=>by simp[bm]at h
 |d+1,.mk k s n t f b l,h=>by
  simp only[bm,gq,Yw,decide_eq_true_eq,Yj]at h;simp only[ao.bX,ao.bQ]at h;obtain⟨⟨hk,h1,h2⟩,h3⟩:=h;have Lw:=h2;have h2:(if ea k then dX s else decide (s=[]))=true/\(nD n 0 (if k=2 then 999 else 0))=true/\(if cg k then ak 4 t else ed t)=true/\(if k=14 then pF (.mk k s n t f b l)else ed f && decide (b=0))=true:=by
   simp only[fu,Yw]at h2;exact⟨h2.1.1.1,h2.1.1.2,h2.1.2,h2.2⟩
  simp only[nD,Yw,decide_eq_true_eq]at h2;obtain⟨g1,g2,g3,g4⟩:=h2;have jo:nt≠k:=fun e=>hk e.symm
  match l,h1,h3 with
  |[],h1,_=>
   have:k=1\/k=2\/k=3\/k=4:=by
    simp only[cm,Yh]at h1;split at h1
    ·assumption
    ·split at h1
     ·omega
     ·split at h1
      ·omega
      ·split at h1<;>omega
   rcases this with rfl|rfl|rfl|rfl<;>simp[ea,cg]at g1 g2 g3 g4<;>obtain⟨g4,rfl⟩:=g4<;>obtain rfl:=iL g3<;>obtain rfl:=iL g4
   ·obtain rfl:n=0:=by omega
    exact .var jo g1
   ·subst g1;exact .num jo g2.1 g2.2
   ·subst g1;obtain rfl:n=0:=by omega
    exact .uK jo
   ·subst g1;obtain rfl:n=0:=by omega
    exact .uL jo
  |[a],h1,h3=>
   have:k=5\/k=11\/k=12\/k=13\/k=14:=by
    simp only[cm,Yl,Yh]at h1;split at h1
    ·omega
    ·split at h1
     ·assumption
     ·split at h1
      ·omega
      ·split at h1<;>omega
   have ha:=kG.of (h3 a (by simp));rcases this with rfl|rfl|rfl|rfl|rfl<;>simp[ea,cg]at g1 g2 g3 g4
   ·obtain⟨g4,rfl⟩:=g4;obtain rfl:=iL g4;obtain rfl:n=0:=by omega
    exact .lam jo g1 g3 ha
   ·obtain⟨g4,rfl⟩:=g4;obtain rfl:=iL g4;obtain rfl:=iL g3;subst g1;obtain rfl:n=0:=by omega
    exact .n1 jo (.inl rfl) ha
   ·obtain⟨g4,rfl⟩:=g4;obtain rfl:=iL g4;obtain rfl:=iL g3;subst g1;obtain rfl:n=0:=by omega
    exact .n1 jo (.inr rfl) ha
   ·obtain⟨g4,rfl⟩:=g4;obtain rfl:=iL g4;subst g1;obtain rfl:n=0:=by omega
    exact .asc jo g3 ha
   ·subst g1;obtain rfl:n=0:=by omega
    simp only[pF,Yw]at g4;exact .cast jo g4.1.1.1 g3 g4.1.2 g4.2 ha
  |[a,b'],h1,h3=>
   have:k=6\/k=7\/k=8\/k=10:=by
    simp only[cm,Yl,Yh]at h1;split at h1
    ·omega
    ·split at h1
     ·omega
     ·split at h1
      ·assumption
      ·split at h1<;>omega
   have ha:=kG.of (h3 a (by simp));have hb:=kG.of (h3 b' (by simp));have e1:ea k=false:=by rcases this with rfl|rfl|rfl|rfl<;>rfl
   have e2:cg k=false:=by rcases this with rfl|rfl|rfl|rfl<;>rfl
   have e3:¬k=14:=by omega
   have e4:¬k=2:=by omega
   simp[e1,e2,e3,e4]at g1 g2 g3 g4;obtain⟨g4,rfl⟩:=g4;obtain rfl:=iL g4;obtain rfl:=iL g3;subst g1;obtain rfl:n=0:=by omega
   exact .n2 jo this ha hb
  |[a,b',c],h1,h3=>
   have:k=9:=by
    simp only[cm,Yl,Yh]at h1;split at h1
    ·omega
    ·split at h1
     ·omega
     ·split at h1
      ·omega
      ·split at h1<;>omega
   have ha:=kG.of (h3 a (by simp));have hb:=kG.of (h3 b' (by simp));have hc:=kG.of (h3 c (by simp));subst this;simp[ea,cg]at g1 g2 g3 g4;obtain⟨g4,rfl⟩:=g4;obtain rfl:=iL g4;obtain rfl:=iL g3;subst g1;obtain rfl:n=0:=by omega
   exact .ite jo ha hb hc
  |a::b'::c::x::r,h1,_=>
   exfalso
   have:=sd k;simp only[Yl]at h1;omega
theorem kG.shape {nt:Int} {d:Nat} {e:ao} (h:kG nt d e):bm nt d e=true:=by
 induction h with
 |var h1 h2=>simp[bm,gq,fu,cm,ea,cg,nD,ed,h1.symm,h2]
 |num h1 h2 h3=>simp[bm,gq,fu,cm,ea,cg,nD,ed,h1.symm,h2,h3]
 |uK h1=>simp[bm,gq,fu,cm,ea,cg,nD,ed,h1.symm]
 |uL h1=>simp[bm,gq,fu,cm,ea,cg,nD,ed,h1.symm]
 |lam h1 h2 h3 _ h4=>simp[bm,gq,fu,cm,ea,cg,nD,ed,h1.symm,h2,h3,h4]
 |n2 h1 h2 _ _ h3 h4=>
  rcases h2 with rfl|rfl|rfl|rfl<;>simp[bm,gq,fu,cm,ea,cg,nD,ed,h1.symm,h3,h4]
 |ite h1 _ _ _ h2 h3 h4=>simp[bm,gq,fu,cm,ea,cg,nD,ed,h1.symm,h2,h3,h4]
 |n1 h1 h2 _ h3=>
  rcases h2 with rfl|rfl<;>simp[bm,gq,fu,cm,ea,cg,nD,ed,h1.symm,h3]
 |asc h1 h2 _ h3=>simp[bm,gq,fu,cm,ea,cg,nD,ed,h1.symm,h2,h3]
 |cast h1 h2 h3 h4 h5 _ h6=>simp[bm,gq,fu,cm,ea,cg,nD,ed,pF,h1.symm,h2,h3,h4,h5,h6]
section
variable {nt:Int} {d:Nat}
theorem kG.mono {nt:Int} {d:Nat} {e:ao} (h:kG nt d e):∀{m:Nat},d<=m->kG nt m e:=by
 induction h with
 |var h1 h2=>intro m hm;obtain⟨m,rfl⟩:∃j,m=j+1:=⟨m-1,by omega⟩;exact .var h1 h2
 |num h1 h2 h3=>intro m hm;obtain⟨m,rfl⟩:∃j,m=j+1:=⟨m-1,by omega⟩;exact .num h1 h2 h3
 |uK h1=>intro m hm;obtain⟨m,rfl⟩:∃j,m=j+1:=⟨m-1,by omega⟩;exact .uK h1
 |uL h1=>intro m hm;obtain⟨m,rfl⟩:∃j,m=j+1:=⟨m-1,by omega⟩;exact .uL h1
 |lam h1 h2 h3 _ ih=>intro m hm;obtain⟨m,rfl⟩:∃j,m=j+1:=⟨m-1,by omega⟩;exact .lam h1 h2 h3 (ih (by omega))
 |n2 h1 h2 _ _ ih1 ih2=>intro m hm;obtain⟨m,rfl⟩:∃j,m=j+1:=⟨m-1,by omega⟩;exact .n2 h1 h2 (ih1 (by omega)) (ih2 (by omega))
 |ite h1 _ _ _ ih1 ih2 ih3=>intro m hm;obtain⟨m,rfl⟩:∃j,m=j+1:=⟨m-1,by omega⟩;exact .ite h1 (ih1 (by omega)) (ih2 (by omega)) (ih3 (by omega))
 |n1 h1 h2 _ ih=>intro m hm;obtain⟨m,rfl⟩:∃j,m=j+1:=⟨m-1,by omega⟩;exact .n1 h1 h2 (ih (by omega))
 |asc h1 h2 _ ih=>intro m hm;obtain⟨m,rfl⟩:∃j,m=j+1:=⟨m-1,by omega⟩;exact .asc h1 h2 (ih (by omega))
 |cast h1 h2 h3 h4 h5 _ ih=>intro m hm;obtain⟨m,rfl⟩:∃j,m=j+1:=⟨m-1,by omega⟩;exact .cast h1 h2 h3 h4 h5 (ih (by omega))
end
section
variable (ctx:List dF) (s:List UInt8) (n:Int) (t:aI) (a b c:ao)
end
def QZ (c c':List dF):Prop:=∀s t,dY c s=some t->dY c' s=some t
mutual
def zN (x:List UInt8) (v:ao):ao->ao
 |.mk k s n t f b l=>if k=1/\s=x then v else if k=5/\s=x then .mk k s n t f b l else .mk k s n t f b (Hj x v l)
def Hj (x:List UInt8) (v:ao):List ao->List ao
 |[]=>[]
 |e::r=>zN x v e::Hj x v r
end
def SW (c c':List dF):Prop:=∀s,dY c s=dY c' s
mutual
def CX:aI->aI->Bool
 |.mk k l,.mk k' l'=>decide (k'=1)||(decide (k=k')&& Ef l l')
def Ef:List aI->List aI->Bool
 |[],[]=>true
 |x::xs,y::ys=>CX x y && Ef xs ys
 |_,_=>false
end
def bx (k:Int):Bool:=decide (k=5)||decide (k=13)
mutual
def LD (q:aI->aI->Bool):ao->ao->Bool
 |.mk k s n t _ _ l,.mk k' s' n' t' _ _ l'=> !(bx k && decide (k=k')&& !q t t')&&(decide (k=k')&&(decide (s=s')&&(decide (n=n')&& Hk q l l')))
def Hk (q:aI->aI->Bool):List ao->List ao->Bool
 |[],[]=>true
 |x::xs,y::ys=>LD q x y && Hk q xs ys
 |_,_=>false
end
theorem Bg {k:Int} (hk:k≠1) {a b a' b':aI}:aG (.mk k [a,b]) (.mk k [a',b'])=(aG a a' && aG b b'):=by
 rw[nU];simp[hk,gk]
theorem Bh {k:Int} (hk:k≠1) {a b a' b':aI}:bN (.mk k [a,b]) (.mk k [a',b'])=.mk k [bN a a',bN b b']:=by
 rw[gH];simp[hk]
def Jv:List dF->List dF->Prop
 |[],[]=>True
 |b::r,b'::r'=>b.name=b'.name/\CX b.ty b'.ty=true/\Jv r r'
 |_,_=>False
theorem iF.app {c:List dF} (h:iF c) {s:List UInt8} {t:aI} (ht:ak 4 t=true):iF (c++[⟨s,t⟩]):=by
 intro b hb;rcases Yg.1 hb with h'|h'
 ·exact h b h'
 ·simp at h';subst h';exact ht
inductive Bi (q:aI->aI->Bool):ao->ao->Prop
 |var (s:List UInt8):Bi q (vq s) (vq s)
 |num (n:Int):Bi q (yf n) (yf n)
 |uK:Bi q qL qL
 |uL:Bi q my my
 |lam {s:List UInt8} {t t':aI} {b b':ao}:q t t'=true->Bi q b b'->Bi q (so s t b) (so s t' b')
 |n2 {k:Int} {a b a' b':ao}:Bi q a a'->Bi q b b'->Bi q (AG k a b) (AG k a' b')
 |ite {a b c a' b' c':ao}:Bi q a a'->Bi q b b'->Bi q c c'->Bi q (Fk a b c) (Fk a' b' c')
 |n1 {k:Int} {a a':ao}:Bi q a a'->Bi q (Ed k a) (Ed k a')
 |asc {t t':aI} {a a':ao}:q t t'=true->Bi q a a'->Bi q (MZ a t) (MZ a' t')
section
variable {P:Program} {n:Nat} {ι:Type} {Q:Exit->St->Prop} {QX:ι->Exit->St->Prop} {s s':St} {c:Code}
theorem kj.app:∀{l m fr:List (Nat×AV)},kj l fr->kj m fr->kj (l++m) fr
 |[],m,fr,_,h=>h
 |(t,x)::r,m,fr,h,h'=>⟨h.1,kj.app h.2 h'⟩
theorem rh:∀(ks:List Nat) {fr cU:List (Nat×AV)},(∀t x,look fr t=some x->look cU t=some x)->kj (gJ ks fr) cU
 |[],_,_,_=>trivial
 |k::r,fr,cU,h=>by
  simp only[gJ];cases hk:look fr k with
  |some x=>exact⟨h k x hk,rh r h⟩
  |none=>exact rh r h
theorem tM (ks:List Nat) (fr:List (Nat×AV)):kj (gJ ks fr) fr:=rh ks fun _ _ h=>h
theorem T.dD {α:Type} (ks:List Nat) (ph:α->List (Nat×AV)) (ob:α->List (Nat×List CV)) (G:α->List (List CV)) (ar:α->List bz->List bz) (m:α->Nat) (H:α->Prop) {fr0:List (Nat×AV)} (hk:gJ ks s.fr=fr0)
  (h:∀a,H a->T P n c (Round (fun a=>⟨ph a++fr0,gy (ob a) s.V++G a,ar a s.A⟩) m H (m a) Q) ⟨ph a++fr0,gy (ob a) s.V++G a,ar a s.A⟩) (a:α) (ha:H a) (hV:gy (ob a) s.V++G a=s.V) (hA:ar a s.A=s.A) (hp:kj (ph a) s.fr):T P n (.loop c) Q s:=by
 subst hk;exact T.fW (fun a=>⟨ph a++gJ ks s.fr,gy (ob a) s.V++G a,ar a s.A⟩) m H h a ha ⟨hV,hA,hp.app (tM ks s.fr)⟩
theorem TX.dD {α:Type} (ks:List Nat) (ph:α->List (Nat×AV)) (ob:α->List (Nat×List CV)) (G:α->List (List CV)) (ar:α->List bz->List bz) (m:α->Nat) (H:α->Prop) {fr0:List (Nat×AV)} (hk:gJ ks s.fr=fr0)
  (h:∀a,H a->TX P n c (wy (fun a=>⟨ph a++fr0,gy (ob a) s.V++G a,ar a s.A⟩) m H (m a) QX) ⟨ph a++fr0,gy (ob a) s.V++G a,ar a s.A⟩) (a:α) (ha:H a) (hV:gy (ob a) s.V++G a=s.V) (hA:ar a s.A=s.A) (hp:kj (ph a) s.fr):TX P n (.loop c) QX s:=by
 subst hk;exact TX.fW (fun a=>⟨ph a++gJ ks s.fr,gy (ob a) s.V++G a,ar a s.A⟩) m H h a ha ⟨hV,hA,hp.app (tM ks s.fr)⟩
end
end Go.Av
namespace Go.Av
attribute [-simp] Go.Av.bJ Go.Av.eO Go.Av.iA Go.Av.bU Go.Av.bH Go.Av.iB Go.Av.mq Go.Av.rP Go.Av.mP Go.Av.zB Go.Av.rowsOf Go.Av.look Go.Av.tc Go.Av.St.put Go.Av.gV Go.Av.E3 Go.Av.ca Go.Av.zy Go.Av.Je Go.Av.rO Go.Av.rN Go.Av.D1 Go.Av.AV.plain Go.Av.AV.cells Go.Av.CV.jW Go.Av.nI Go.Av.iN Go.Av.kI Go.Av.fK Go.Av.bT Go.Av.ig Go.Av.AV.kT Go.Av.CV.kT Go.Av.qx Go.Av.AV.fN Go.Av.CV.fN Go.Av.bD Go.Av.iO Go.Av.j9 Go.Av.oE Go.Av.cS Go.Av.ft Go.Av.uB Go.Av.AV.qz Go.Av.CV.res Go.Av.rW Go.Av.pos? Go.Av.v8 Go.Av.wi Go.Av.gW Go.Av.Sub Go.Av.kj Go.Av.kU Go.Av.iY Go.Av.gY Go.Av.iZ Go.Av.gZ Go.Av.aI.bX Go.Av.aI.bQ Go.Av.ao.bX Go.Av.ao.lf Go.Av.ao.pD Go.Av.ao.oH Go.Av.ao.qJ Go.Av.ao.km Go.Av.ao.bQ Go.Av.dI Go.Av.rJ Go.Av.gJ Go.Av.gy Go.Av.cW
open Go
def PJ:Op->Bool
 |.buildSlice _ _ _=>true
 |.call {callee:=.builtin .append,.. }=>true
 |_=>false
def Jw (all:Array Oper) (wv wa fs:List Nat) (m:Nat) (ms:List Nat) (oi oj:Oper) (i j:Nat):Bool:=
 (oi.dst.isNone||oi.dst !=oj.dst)&&((!dC all oi oj && !dC all oj oi &&
  !((wv.contains i||wa.contains i)&& !cS oj.op && !(fs.contains j && decide (i<m))&& !(wv.contains i && wa.contains j)&& !(wa.contains i && wv.contains j))&&
  !((wv.contains j||wa.contains j)&& !cS oi.op && !(fs.contains i && decide (j<m))&& !(wv.contains j && wa.contains i)&& !(wa.contains j && wv.contains i)))||(ms.getD j 0).testBit i)
def PK (all:Array Oper) (wv wa fs:List Nat) (m:Nat):Bool:=
 let l:=all.toList.zipIdx
 let ms:=bc all.toList []
 (l.all fun(o,j)=>o.after.toList.all fun e=> !Region.binds .any e||decide (e.on<j))&&
 (l.all fun(oj,j)=>l.all fun(oi,i)=> !(decide (i<j))||Jw all wv wa fs m ms oi oj i j)&&
 (l.all fun(o,j)=>(!wv.contains j|| !cS o.op)&&(!wa.contains j||PJ o.op))&&(fs.all fun j=> !wv.contains j && !wa.contains j)&&
 (fs.all fun j=>(wv++wa).all fun i=>decide (i<m)||decide (j<i))&&(wv.all fun j=> !wa.contains j)
def Hl (P:Program) (all:Array Oper) (ow:Nat->Bool) (wv wa fs:List Nat) (m:Nat) (ex:List Nat) (V0:List (List CV)) (A0:List bz) (K:St->Prop):Nat->List Oper->St->Prop
 |_,[],s=>K s
 |i,o::rest,s=>iA all s o (bJ P s (ow i) o fun x V A=>((i∈wv\/V=s.V)/\(i∈wa\/A=s.A))/\(i∈wv\/i∈wa->i<m->V.take V0.length=rJ ex (fun i=>V.getD i []) V0/\A.take A0.length=A0)/\(i∈fs->dI P s (ow i) o ex V0 A0 x)/\
   (i∈wv->∀A2,bJ P ⟨s.fr,s.V,A2⟩ (ow i) o fun y V' A'=>y=x/\V'=V/\A'=A2)/\Hl P all ow wv wa fs m ex V0 A0 K (i+1) rest (s.put o.dst x V A)) (Hl P all ow wv wa fs m ex V0 A0 K (i+1) rest (s.put o.dst (.c .undef) s.V s.A))
section
variable {P:Program} {n:Nat} {Q Q':Exit->St->Prop} {s s':St} {w0:World} {g0 g g':Gh} {a:Act} {w w':World} {V:List (List CV)} {A A':List bz}
def Uw (P:Program) (all:Array Oper) (ow:Bool) (wv fs:List Nat) (j:Nat) (ex:List Nat) (V0:List (List CV)) (A0:List bz) (o:Oper) (s s':St):Prop:=
 iA all s o True True/\((gw all s o=true/\∃x V A,s'=s.put o.dst x V A/\(∀K:AV->List (List CV)->List bz->Prop,K x V A->bJ P s ow o K)/\(j∈fs->dI P s ow o ex V0 A0 x)/\
  (j∈wv->∀A2,bJ P ⟨s.fr,s.V,A2⟩ ow o fun y V' A'=>y=x/\V'=V/\A'=A2))\/(gw all s o=false/\s'=s.put o.dst (.c .undef) s.V s.A))
structure VK (all:Array Oper) (wv wa:List Nat) (σ:Nat->St) (n:Nat) (w0:World) (g0:Gh) (af:Array Bool) (kv ka:Nat) (g:Gh) (a:Act) (w:World):Prop where
 inv:Inv g w (σ kv).V (σ ka).A
 fr:Fr w0 g0 w g
 size:a.tmps.size=n
 defers:a.defers=[]
 eG:af.size=all.size
 fU:∀(i:Nat) o t x,all[i]? =some o->af[i]? =some true->o.dst=some t->look (σ (i+1)).fr t=some x->∃u,a.tmps[t]? =some u/\aW g w (σ ka).A x u
 fV:∀t x,(∀(i:Nat) o,all[i]? =some o->af[i]? =some true->o.dst≠some t)->look (σ 0).fr t=some x->∃u,a.tmps[t]? =some u/\aW g w (σ ka).A x u
 NS:∀i∈wv,i<all.size->(af[i]? =some true↔i<kv)
 NT:∀i∈wa,i<all.size->(af[i]? =some true↔i<ka)
 Ux:kv<=all.size
 Uy:ka<=all.size
 vw:kv=0\/∃i∈wv,kv=i+1
 aw:ka=0\/∃i∈wa,ka=i+1
 closed:∀(i:Nat) o,all[i]? =some o->af[i]? =some true->∀e∈o.after,Region.binds .any e=true->af[e.on]? =some true
end
end Go.Av
namespace Go.Av
attribute [-simp] Go.Av.cW
open Go
def Jx (all:Array Oper) (ws fs:List Nat) (m q:Nat) (ms:List Nat) (oi oj:Oper) (i j:Nat):Bool:=
 if j=q then oi.dst.isNone||oi.dst !=oj.dst else cN all ws fs m ms oi oj i j &&(!(decide (i<=q)&& decide (q<j))||(ms.getD j 0).testBit i)
def PL (all:Array Oper) (ws fs:List Nat) (m q:Nat):Bool:=
 let l:=all.toList.zipIdx
 let ms:=bc all.toList []
 (l.all fun(o,j)=>o.after.toList.all fun e=> !Region.binds .any e||decide (e.on<j))&&
 (l.all fun(oj,j)=>l.all fun(oi,i)=> !(decide (i<j))||Jx all ws fs m q ms oi oj i j)&&
 (l.all fun(o,j)=> !ws.contains j|| !cS o.op)&&(fs.all fun j=> !ws.contains j)&&(fs.all fun j=>ws.all fun i=>decide (i<m)||decide (j<i))&& ws.contains q
section
variable {P:Program} {n:Nat} {Q Q':Exit->St->Prop} {s s':St} {w0:World} {g0 g g':Gh} {a:Act} {w w':World} {V:List (List CV)} {A A':List bz}
structure Uz (all:Array Oper) (ws:List Nat) (σ:Nat->St) (n:Nat) (w0:World) (g0:Gh) (q d:Nat) (row:List CV) (cs:Array Value) (ty:TypeId) (af:Array Bool) (k0:Nat) (b:Nat) (g:Gh) (a:Act) (w:World):Prop where
 M0:af[q]? =some true
 base:xM all ws σ n w0 g0 (af.setIfInBounds q false) k0 g a w
 slot:a.tmps[d]? =some (.pointer (some ⟨b,0,none⟩))
 mem:w.heap[b]? =some (.cells cs ty)
 ob:b∉g.ob
 jB:b∉g.jB
 im:g.im b=0
 new:w0.heap.size<=b
 lt:b<w.heap.size
 closed:∀(i:Nat) o,all[i]? =some o->af[i]? =some true->∀e∈o.after,Region.binds .any e=true->af[e.on]? =some true
structure Q0 (P:Program) (all:Array Oper) (ow:Nat->Bool) (σ:Nat->St) (q d:Nat) (row:List CV) (cs:Array Value) (ty:TypeId) (oq:Oper):Prop where
 at_:all[q]? =some oq
 guard:oq.guard=none
 dst:oq.dst=some d
 s0:look (σ 0).fr d=none
 size:cs.size=row.length
 cells:∀(j:Nat) c u,row[j]? =some c->cs[j]? =some u->∀g w A,br g w A c u
 next:σ (q+1)=(σ q).put (some d) (.c (.ptr (σ q).V.length 0)) ((σ q).V++[row]) (σ q).A
 run:∀(a:Act) (w:World),(execOp a.eval oq).run P w=.ok (.value (.pointer (some ⟨w.heap.size,0,none⟩))) (w.alloc (.cells cs ty))
theorem od {all:Array Oper} (c8:∀(j:Nat) o,all[j]? =some o->∀e∈o.after,Region.binds .any e=true->e.on<j) {af:Array Bool} (kS:∀(i:Nat) o,all[i]? =some o->af[i]? =some true->∀e∈o.after,Region.binds .any e=true->af[e.on]? =some true):
  ∀(i:Nat) o,all[i]? =some o->(∀e∈o.after,Region.binds .any e=true->af[e.on]? =some true)->∀k,((bc all.toList []).getD i 0).testBit k=true->af[k]? =some true:=by
 obtain⟨Gs,_,A7⟩:=fe all.toList [];intro i;induction i using Ya with
 |_ i ih=>
  intro o ho cL k hk;obtain⟨pre,h1,h2,h3⟩:=A7 i o (by simpa using ho);simp only[Yh,Yc]at h1 h3;have h4:(bc all.toList []).getD i 0=mW pre o:=by simp[Yi,h3]
  rw[h4]at hk;obtain⟨e,he,hb,h5⟩:=fO hk;have s4:=cL e he hb;rcases h5 with rfl|h5
  ·exact s4
  ·have ay:=c8 i o ho e he hb;have h6:pre.getD e.on 0=(bc all.toList []).getD e.on 0:=by simp only[Yi,h2 e.on (by omega)]
   rw[h6]at h5;have fB:e.on<all.size:=by have:=(Yz.1 ho).1;omega
   have uF:all[e.on]? =some all[e.on]:=Yy fB;exact ih e.on ay _ uF (kS e.on _ uF s4) k h5
end
section
variable {P:Program} {n:Nat} {Q:Exit->St->Prop} {s:St}
theorem T.LF {c:Code} (l j:Nat) {row:List CV} (hl:s.V[l]? =some row) (hj:row[j]? =some .nil) (h:T P n c Q ⟨s.fr,s.V.set l (row.set j (.d (.sl []))),s.A⟩):T P n c Q s:=by
 intro eP w0 g0 g a w hR;have fj:=hR.inv;refine h eP w0 g0 g a w ⟨?_,hR.fr,hR.size,hR.defers,fun t' x hx=>hR.slot t' x hx⟩;refine⟨by simpa using fj.oT,fj.lQ,fun l' row' b h1 h2=>?_,fj.arr,fj.kH,fj.jj,fj.jr,fj.fresh⟩;have mu:(s.V.set l (row.set j (.d (.sl []))))[l']? =some row':=h1;rw[dw hl]at mu;by_cases e':l'=l
 ·subst e';simp at mu;subst mu;obtain⟨h3,cs,ty,h4,h5,h6⟩:=fj.obj l' row b hl h2;refine⟨h3,cs,ty,h4,by simpa using h5,fun i c u h7 h8=>?_⟩;rw[dw hj]at h7;by_cases e'':i=j
  ·subst e'';simp at h7;subst h7;have h9:=h6 i _ u hj h8;simp only[br]at h9;subst h9;simp only[br,bn];exact⟨none,0,rfl,X9 _,by simp⟩
  ·rw[if_neg e'']at h7;exact h6 i c u h7 h8
 ·rw[if_neg e']at mu;exact fj.obj l' row' b mu h2
end
def Jy (all:Array Oper) (ws fs:List Nat) (m q:Nat) (ms:List Nat) (oi oj:Oper) (i j:Nat):Bool:=
 if j=q/\ws.contains i=true then oi.dst.isNone||oi.dst !=oj.dst else cN all ws fs m ms oi oj i j &&(!(decide (i<=q)&& decide (q<j)&& ws.contains i)||(ms.getD j 0).testBit i)
def PM (all:Array Oper) (ws fs:List Nat) (m q:Nat):Bool:=
 let l:=all.toList.zipIdx
 let ms:=bc all.toList []
 (l.all fun(o,j)=>o.after.toList.all fun e=> !Region.binds .any e||decide (e.on<j))&&
 (l.all fun(oj,j)=>l.all fun(oi,i)=> !(decide (i<j))||Jy all ws fs m q ms oi oj i j)&&
 (l.all fun(o,j)=> !ws.contains j|| !cS o.op)&&(fs.all fun j=> !ws.contains j)&&(fs.all fun j=>ws.all fun i=>decide (i<m)||decide (j<i))&& ws.contains q
section
variable {P:Program} {n:Nat} {Q Q':Exit->St->Prop} {s s':St} {w0:World} {g0 g g':Gh} {a:Act} {w w':World} {V:List (List CV)} {A A':List bz}
theorem Fr.Bj (h:Fr w0 g0 w g) (k:Fr w g w' g'):Fr w0 g0 w' g':=by
 have Eg:∀b,b<w0.heap.size->b∉g0.ob->b∉g.ob:=fun b hb h1 hm=>by
  obtain⟨new,e,hn⟩:=h.ob;rw[e]at hm;rcases Yg.1 hm with q|q
  ·exact h1 q
  ·exact absurd (hn b q) (by omega)
 have tN:∀b,b<w0.heap.size->b∉g0.jB->b∉g.jB:=fun b hb h1 hm=>by
  obtain⟨k,v,q1,q2⟩:=Gh.fL hm;rcases h.ar k v b q1 q2 with q|q
  ·omega
  ·exact h1 q
 refine⟨k.os.trans h.os,k.tape.trans h.tape,k.output.trans h.output,Yb h.size k.size,fun b h1 h2 h3=>?_,fun b h1 h2=>?_,?_,fun i v b h1 h2=>?_,fun i v h1=>?_,h.xV⟩
 ·rw[k.qE b (Ye h1 h.size) (Eg b h1 h2) (tN b h1 h3)];exact h.qE b h1 h2 h3
 ·rw[k.js b (Ye h1 h.size) (tN b h1 h2)];exact h.js b h1 h2
 ·obtain⟨new,e,hn⟩:=h.ob;obtain⟨new',e',MJ⟩:=k.ob;refine⟨new++new',by rw[e',e,Yv],fun b hb=>?_⟩;rcases Yg.1 hb with q|q
  ·exact hn b q
  ·exact Yb h.size (MJ b q)
 ·rcases k.ar i v b h1 h2 with q|q
  ·exact .inl (Yb h.size q)
  ·obtain⟨j,v',q1,q2⟩:=Gh.fL q;exact h.ar j v' b q1 q2
 ·obtain⟨v1,q1,q2,q3⟩:=h.vO i v h1;obtain⟨v2,q4,q5,q6⟩:=k.vO i v1 q1;exact⟨v2,q4,Yb q2 q5,fun e=>(q6 (by omega)).trans (q3 (by omega))⟩
theorem Fr.LG (h:Fr w0 g0 w g) {b:Nat} (hb:w0.heap.size<=b):Fr w0 g0 w {g with ob:=g.ob++[b]}:=by
 refine⟨h.os,h.tape,h.output,h.size,h.qE,h.js,?_,h.ar,h.vO,h.xV⟩;obtain⟨new,e,hn⟩:=h.ob;refine⟨new++[b],by show g.ob++[b]=_;rw[e,Yv],fun c hc=>?_⟩;rcases Yg.1 hc with q|q
 ·exact hn c q
 ·simp at q;omega
theorem Inv.LG (hi:Inv g w V A) {b:Nat} {cs:Array Value} {ty:TypeId} {row:List CV} (hb:w.heap[b]? =some (.cells cs ty)) (hs:cs.size=row.length) (hr:∀(j:Nat) c u,row[j]? =some c->cs[j]? =some u->∀g w A,br g w A c u)
  (h1:b∉g.ob) (h2:b∉g.jB) (h3:g.im b=0):Inv {g with ob:=g.ob++[b]} w (V++[row]) A/\Ext g w A {g with ob:=g.ob++[b]} w A/\(g.ob++[b])[V.length]? =some b:=by
 have j8:Ext g w A {g with ob:=g.ob++[b]} w A:=
  ⟨fun l c hc=>by show(g.ob++[b])[l]? =some c;rw[Yo (Yn.1 hc).1];exact hc,.refl _ _,fun _ r h=>⟨r,h,rfl,X9 _,fun _=>rfl⟩⟩
 have dm:∀(l c:Nat),(g.ob++[b])[l]? =some c->(g.ob[l]? =some c/\c≠b)\/(l=V.length/\c=b):=fun l c hc=>by
  rcases X8 l g.ob.length with h|h
  ·rw[Yo h]at hc;exact .inl ⟨hc,fun e=>h1 (e▸List.mem_of_getElem? hc)⟩
  ·rw[List.getElem?_append_right h]at hc;have h0:l-g.ob.length=0:=by
    have:=(Yn.1 hc).1;simp at this;omega
   rw[h0]at hc;simp at hc;exact .inr ⟨by rw[<-hi.oT];omega,hc.symm⟩
 refine⟨⟨by simp[hi.oT],hi.lQ,fun l row' c q1 q2=>?_,fun k r v q1 q2=>?_,fun l l' c q1 q2=>?_,hi.jj,fun l k v c q1 q2=>?_,hi.fresh⟩,j8,?_⟩
 ·rcases dm l c q2 with⟨h4,_⟩|⟨h4,h5⟩
  ·have h5:V[l]? =some row':=by
    have:l<V.length:=by rw[<-hi.oT];exact(Yn.1 h4).1
    rwa[Yo this]at q1
   exact hi.fx j8 h5 h4 rfl (hi.obj l row' c h5 h4).1
  ·subst h4;subst h5;simp at q1;subst q1;exact⟨h3,cs,ty,hb,hs,fun j c u h6 h7=>hr j c u h6 h7 _ _ _⟩
 ·exact hi.fy j8 q1 q2 (fun _ _=>rfl) (fun _ _=>rfl)
 ·rcases dm l c q1 with⟨h4,h5⟩|⟨h4,h5⟩<;>rcases dm l' c q2 with⟨h6,h7⟩|⟨h6,h7⟩
  ·exact hi.kH l l' c h4 h6
  ·exact absurd h7 h5
  ·exact absurd h5 h7
  ·omega
 ·rcases dm l c q1 with⟨h4,h5⟩|⟨h4,h5⟩
  ·exact hi.jr l k v c h4 q2
  ·subst h5;exact fun e=>h2 (Gh.jX q2 e)
 ·rw[<-hi.oT];simp
structure CY (all:Array Oper) (ws:List Nat) (σ:Nat->St) (n:Nat) (w0:World) (g0:Gh) (q d:Nat) (row:List CV) (cs:Array Value) (ty:TypeId) (af:Array Bool) (k0:Nat) (b:Nat) (g:Gh) (a:Act) (w:World):Prop where
 M0:af[q]? =some true
 base:xM all ws σ n w0 g0 (af.setIfInBounds q false) k0 g a w
 slot:a.tmps[d]? =some (.pointer (some ⟨b,0,none⟩))
 mem:w.heap[b]? =some (.cells cs ty)
 ob:b∉g.ob
 jB:b∉g.jB
 im:g.im b=0
 new:w0.heap.size<=b
 lt:b<w.heap.size
 closed:∀(i:Nat) o,all[i]? =some o->af[i]? =some true->∀e∈o.after,Region.binds .any e=true->af[e.on]? =some true
theorem CY.step {all:Array Oper} {ws:List Nat} {σ:Nat->St} {q d:Nat} {row:List CV} {cs:Array Value} {ty:TypeId} {af:Array Bool} {k0 k1 b:Nat} {a':Act} (h:CY all ws σ n w0 g0 q d row cs ty af k0 b g a w) {j:Nat} (Gt:j≠q) (ha:a'.tmps[d]? =a.tmps[d]?)
  (hD:xM all ws σ n w0 g0 ((af.setIfInBounds q false).setIfInBounds j true) k1 g' a' w') (hF:Fr w g w' g') (kS:∀(i:Nat) o,all[i]? =some o->(af.setIfInBounds j true)[i]? =some true->∀e∈o.after,Region.binds .any e=true->(af.setIfInBounds j true)[e.on]? =some true):CY all ws σ n w0 g0 q d row cs ty (af.setIfInBounds j true) k1 b g' a' w':=by
 refine⟨by rw[YA Gt];exact h.M0,?_,by rw[ha];exact h.slot,by rw[hF.qE b h.lt h.ob h.jB];exact h.mem,fun hm=>?_,fun hm=>?_,by rw[hF.js b h.lt h.jB];exact h.im,h.new,Ye h.lt hF.size,kS⟩
 ·rw[Array.setIfInBounds_comm _ _ Gt];exact hD
 ·obtain⟨new,e,hn⟩:=hF.ob;rw[e]at hm;rcases Yg.1 hm with p|p
  ·exact h.ob p
  ·have:=hn b p;have:=h.lt;omega
 ·obtain⟨k,v,q1,q2⟩:=Gh.fL hm;rcases hF.ar k v b q1 q2 with p|p
  ·have:=h.lt;omega
  ·exact h.jB p
structure CZ (P:Program) (all:Array Oper) (ow:Nat->Bool) (σ:Nat->St) (q d:Nat) (row:List CV) (cs:Array Value) (ty:TypeId) (oq:Oper):Prop where
 at_:all[q]? =some oq
 guard:oq.guard=none
 dst:oq.dst=some d
 s0:look (σ 0).fr d=none
 size:cs.size=row.length
 cells:∀(j:Nat) c u,row[j]? =some c->cs[j]? =some u->∀g w A,br g w A c u
 next:σ (q+1)=(σ q).put (some d) (.c (.ptr (σ q).V.length 0)) ((σ q).V++[row]) (σ q).A
 run:∀(a:Act) (w:World),(execOp a.eval oq).run P w=.ok (.value (.pointer (some ⟨w.heap.size,0,none⟩))) (w.alloc (.cells cs ty))
theorem LH (l:Array Bool) (q:Nat) (h:l[q]? ≠some true) (hq:q<l.size):(l.setIfInBounds q true).setIfInBounds q false=l:=by
 apply Array.ext_getElem?;intro i;rw[Array.getElem?_setIfInBounds];by_cases e:q=i
 ·subst e;have:l[q]=false:=by
   rw[Yy hq]at h;cases hx:l[q]<;>simp_all
  simp[hq,this]
 ·rw[if_neg e,YA e]
theorem uM {all:Array Oper} (c8:∀(j:Nat) o,all[j]? =some o->∀e∈o.after,Region.binds .any e=true->e.on<j) {af:Array Bool} (kS:∀(i:Nat) o,all[i]? =some o->af[i]? =some true->∀e∈o.after,Region.binds .any e=true->af[e.on]? =some true):
  ∀(i:Nat) o,all[i]? =some o->(∀e∈o.after,Region.binds .any e=true->af[e.on]? =some true)->∀k,((bc all.toList []).getD i 0).testBit k=true->af[k]? =some true:=by
 obtain⟨Gs,_,A7⟩:=fe all.toList [];intro i;induction i using Ya with
 |_ i ih=>
  intro o ho cL k hk;obtain⟨pre,h1,h2,h3⟩:=A7 i o (by simpa using ho);simp only[Yh,Yc]at h1 h3;have h4:(bc all.toList []).getD i 0=mW pre o:=by simp[Yi,h3]
  rw[h4]at hk;obtain⟨e,he,hb,h5⟩:=fO hk;have s4:=cL e he hb;rcases h5 with rfl|h5
  ·exact s4
  ·have ay:=c8 i o ho e he hb;have h6:pre.getD e.on 0=(bc all.toList []).getD e.on 0:=by simp only[Yi,h2 e.on (by omega)]
   rw[h6]at h5;have fB:e.on<all.size:=by have:=(Yz.1 ho).1;omega
   have uF:all[e.on]? =some all[e.on]:=Yy fB;exact ih e.on ay _ uF (kS e.on _ uF s4) k h5
end
def oe (all:Array Oper) (ws fs:List Nat) (m q:Nat) (wt:List Nat) (ms:List Nat) (oi oj:Oper) (i j:Nat):Bool:=
 if j=q/\wt.contains i=true then oi.dst.isNone||oi.dst !=oj.dst else cN all ws fs m ms oi oj i j &&(!(decide (i<=q)&& decide (q<j)&& wt.contains i)||(ms.getD j 0).testBit i)
def me (all:Array Oper) (ws fs:List Nat) (m q:Nat) (wt:List Nat):Bool:=
 let l:=all.toList.zipIdx
 let ms:=bc all.toList []
 (l.all fun(o,j)=>o.after.toList.all fun e=> !Region.binds .any e||decide (e.on<j))&&
 (l.all fun(oj,j)=>l.all fun(oi,i)=> !(decide (i<j))||oe all ws fs m q wt ms oi oj i j)&&
 (l.all fun(o,j)=> !ws.contains j|| !cS o.op)&&(fs.all fun j=> !ws.contains j)&&(fs.all fun j=>ws.all fun i=>decide (i<m)||decide (j<i))&& ws.contains q &&(ws.all fun i=>wt.contains i)
section
variable {P:Program} {n:Nat} {Q Q':Exit->St->Prop} {s s':St} {w0:World} {g0 g g':Gh} {a:Act} {w w':World} {V:List (List CV)} {A A':List bz}
theorem yL {all:Array Oper} {ow:Nat->Bool} {ws fs:List Nat} {m q:Nat} {wt:List Nat} {ex:List Nat} {V0:List (List CV)} {A0:List bz} {σ:Nat->St} (hd:me all ws fs m q wt=true) (fc:da n all.toList=true)
  (lT:∀(j:Nat) o,all[j]? =some o->Hh P all (ow j) fs j ex V0 A0 o (σ j) (σ (j+1))/\(j∈ws\/((σ (j+1)).V=(σ j).V/\(σ (j+1)).A=(σ j).A))/\(j<m->KO ex V0 A0 (σ (j+1))\/((σ (j+1)).V=(σ j).V/\(σ (j+1)).A=(σ j).A))) (Hi:(σ 0).V=V0/\(σ 0).A=A0)
  {af:Array Bool} {k0:Nat} (hD:xM all ws σ n w0 g0 af k0 g a w) (hL:af[q]? =some true->∀i∈wt,i<q->af[i]? =some true) {j:Nat} (hj:j∈Region.ready .any all af) (hq:j=q->∀i∈wt,i<q->af[i]? =some true)
  {next:Act->World->Prop} {Q:Exit->Act->World->Prop} (ih:∀k1 o g' a' w',all[j]? =some o->(∀t,o.dst≠some t->a'.tmps[t]? =a.tmps[t]?)->xM all ws σ n w0 g0 (af.setIfInBounds j true) k1 g' a' w'->Fr w g w' g'->next a' w'):wpOp P all Q j next a w:=by
 simp only[me,Yw,Yj]at hd;obtain⟨⟨⟨⟨⟨⟨gR,jE⟩,o5⟩,IY⟩,IZ⟩,KR⟩,Bk⟩:=hd;have gF:∀i∈ws,i∈wt:=fun i hi=>by simpa using Bk i hi
 have KR:q∈ws:=by simpa using KR
 have cZ:∀(j:Nat) o,all[j]? =some o->(o,j)∈all.toList.zipIdx:=fun j o h=>by
  rw[Yr];exact⟨j,by simp[Yt,h]⟩
 have c8:∀(j:Nat) o,all[j]? =some o->∀e∈o.after,Region.binds .any e=true->e.on<j:=fun j o h e he hb=>by
  have:=gR _ (cZ j o h) e (YB.2 he);simpa[hb]using this
 have wD:∀(i j:Nat) oi oj,all[i]? =some oi->all[j]? =some oj->i<j->oe all ws fs m q wt (bc all.toList []) oi oj i j=true:=fun i j oi oj h1 h2 ay=>by
  have:=jE _ (cZ j oj h2) _ (cZ i oi h1);simpa[ay]using this
 have fR:∀(i j:Nat) oi oj,all[i]? =some oi->all[j]? =some oj->i<j->¬(j=q/\i∈wt)->cN all ws fs m (bc all.toList []) oi oj i j=true:=fun i j oi oj h1 h2 ay di=>by
  have:=wD i j oi oj h1 h2 ay;rw[oe,if_neg (by simpa using di)]at this;simp only[Yw]at this;exact this.1
 have b7:∀(i j:Nat) oi oj,all[i]? =some oi->all[j]? =some oj->i<j->¬(j=q/\i∈wt)->i∉fs->j∉fs->bu all ws (bc all.toList []) oi oj i j=true:=fun i j oi oj h1 h2 ay di hi hj=>by
  have:=fR i j oi oj h1 h2 ay di;simpa[cN,bu,hi,hj]using this
 have mc:∀i,i∈ws->i∉fs:=fun i hi hf=>by
  have:=IY i hf;simp[hi]at this
 have CQ:∀k,k<=m->k<=all.size->KO ex V0 A0 (σ k):=by
  intro k;induction k with
  |zero=>
   intro _ _;refine⟨?_,by rw[Hi.2];simp⟩;rw[Hi.1,pH];simp
  |succ k ih=>
   intro h1 h2;have ho:all[k]? =some all[k]:=Yy (by omega);rcases(lT k _ ho).2.2 (by omega)with h3|⟨h3,h4⟩
   ·exact h3
   ·have:=ih (by omega) (by omega);exact⟨by rw[h3];exact this.1,by rw[h4];exact this.2⟩
 have uE:∀(j:Nat) o,all[j]? =some o->j∈ws->cS o.op=false:=fun j o h hj=>by
  have:=o5 _ (cZ j o h);simpa[hj]using this
 have fP:∀(i j:Nat) oi oj d,all[i]? =some oi->all[j]? =some oj->i<j->oi.dst=some d->oj.dst≠some d:=fun i j oi oj d h1 h2 ay h3 h4=>by
  have:=wD i j oi oj h1 h2 ay;simp only[oe,cN,h3,h4]at this;split at this<;>simp at this
 have re:∀(i j:Nat) oi oj d,all[i]? =some oi->all[j]? =some oj->oi.dst=some d->oj.dst=some d->i=j:=fun i j oi oj d h1 h2 h3 h4=>by
  rcases Yd i j with h|h|h
  ·exact absurd h4 (fP i j oi oj d h1 h2 h h3)
  ·exact h
  ·exact absurd h3 (fP j i oj oi d h2 h1 h h4)
 have zG:∀(j:Nat) o d,all[j]? =some o->o.dst=some d->d<n:=fun j o d h1 h2=>by
  have:=Yj.1 fc o (by rw[YB];exact YC h1);simpa[h2]using this
 obtain⟨Gs,_,A7⟩:=fe all.toList []
 have mX:∀{af:Array Bool},(∀(i:Nat) o,all[i]? =some o->af[i]? =some true->∀e∈o.after,Region.binds .any e=true->af[e.on]? =some true)->
   ∀(i:Nat) o,all[i]? =some o->(∀e∈o.after,Region.binds .any e=true->af[e.on]? =some true)->∀k,((bc all.toList []).getD i 0).testBit k=true->af[k]? =some true:=by
  intro af kS i;induction i using Ya with
  |_ i ih=>
   intro o ho cL k hk;obtain⟨pre,h1,h2,h3⟩:=A7 i o (by simpa using ho);simp only[Yh,Yc]at h1 h3;have h4:(bc all.toList []).getD i 0=mW pre o:=by simp[Yi,h3]
   rw[h4]at hk;obtain⟨e,he,hb,h5⟩:=fO hk;have s4:=cL e he hb;rcases h5 with rfl|h5
   ·exact s4
   ·have ay:=c8 i o ho e he hb;have h6:pre.getD e.on 0=(bc all.toList []).getD e.on 0:=by simp only[Yi,h2 e.on (by omega)]
    rw[h6]at h5;have fB:e.on<all.size:=by have:=(Yz.1 ho).1;omega
    have uF:all[e.on]? =some all[e.on]:=Yy fB;exact ih e.on ay _ uF (kS e.on _ uF s4) k h5
 have l7:∀(j:Nat) o t,all[j]? =some o->o.dst≠some t->look (σ (j+1)).fr t=look (σ j).fr t:=fun j o t h1 h2=>by
  obtain⟨⟨_,h3⟩,_⟩:=lT j o h1;have kh:∀(x:AV) V A,look ((σ j).put o.dst x V A).fr t=look (σ j).fr t:=fun x V A=>by
   simp only[St.put];cases qZ:o.dst with
   |none=>rfl
   |some d=>simp only[look];rw[if_neg (fun e=>h2 (by rw[qZ,e]))]
  rcases h3 with⟨_,x,V,A,h4,_,_⟩|⟨_,h4⟩
  ·rw[h4];exact kh x V A
  ·rw[h4];exact kh _ _ _
 have oV:∀(j t:Nat),j<=all.size->(∀(i:Nat) o,i<j->all[i]? =some o->o.dst≠some t)->look (σ j).fr t=look (σ 0).fr t:=by
  intro j;induction j with
  |zero=>intro t _ _;rfl
  |succ j ih=>
   intro t hj fz;have ho:all[j]? =some all[j]:=Yy (by omega);rw[l7 j _ t ho (fz j _ (by omega) ho)];exact ih t (by omega) (fun i o hi=>fz i o (by omega))
 have oW:∀(j i:Nat) oi t,j<=all.size->i<j->all[i]? =some oi->oi.dst=some t->look (σ j).fr t=look (σ (i+1)).fr t:=by
  intro j;induction j with
  |zero=>intro i oi t _ h;omega
  |succ j ih=>
   intro i oi t hj lr a7 cn;by_cases e:i=j
   ·subst e;rfl
   ·have ho:all[j]? =some all[j]:=Yy (by omega);rw[l7 j _ t ho (fP i j oi _ t a7 ho (by omega) cn)];exact ih i oi t (by omega) (by omega) a7 cn
 have tC:∀(b a:Nat),a<=b->b<=all.size->(∀i,a<=i->i<b->i∉ws)->(σ b).V=(σ a).V/\(σ b).A=(σ a).A:=by
  intro b;induction b with
  |zero=>
   intro a h _ _;obtain rfl:a=0:=by omega
   exact⟨rfl,rfl⟩
  |succ b ih=>
   intro a PH hb fz;by_cases e:a=b+1
   ·subst e;exact⟨rfl,rfl⟩
   ·have ho:all[b]? =some all[b]:=Yy (by omega);obtain⟨h1,h2⟩:=ih a (by omega) (by omega) (fun i hi EZ=>fz i hi (by omega));rcases(lT b _ ho).2.1 with h3|⟨h3,h4⟩
    ·exact absurd h3 (fz b (by omega) (by omega))
    ·exact⟨h3.trans h1,h4.trans h2⟩
 obtain⟨mY,o,ho,cL⟩:=mem_ready.1 hj;have mZ:=ep mY;have rG:j<all.size:=(Yz.1 ho).1;have jk:j<af.size:=by rw[hD.eG];exact rG
 have di:∀i,j<i->af[i]? =some true->¬(i=q/\j∈wt):=fun i h hl e=>by
  obtain⟨rfl,e⟩:=e;have:=hL hl j e h;rw[mZ]at this;simp at this
 have cE:∀e∈o.after,Region.binds .any e=true->af[e.on]? =some true:=fun e he hb=>cK.1 (cL e he hb)
 have cw:∀k,((bc all.toList []).getD j 0).testBit k=true->af[k]? =some true:=mX hD.closed j o ho cE;have b4:∀(i:Nat) oi,all[i]? =some oi->af[i]? =some true->((bc all.toList []).getD i 0).testBit j=false:=fun i oi a7 bF=>by
  cases hb:((bc all.toList []).getD i 0).testBit j with
  |false=>rfl
  |true=>have:=mX hD.closed i oi a7 (hD.closed i oi a7 bF) j hb;rw[mZ]at this;simp at this
 have jJ:∀t∈o.looksAt all,∀x,look (σ j).fr t=some x->∃u,a.tmps[t]? =some u/\aW g w (σ k0).A x u:=by
  intro t ht x hx;by_cases hex:∃(i:Nat) (oi:Oper),i<j/\all[i]? =some oi/\oi.dst=some t
  ·obtain⟨i,oi,lr,a7,cn⟩:=hex;rw[oW j i oi t (by omega) lr a7 cn]at hx;have bF:af[i]? =some true:=by
    by_cases e:j=q/\i∈wt
    ·exact hq e.1 i e.2 (by omega)
    ·have hp:=fR i j oi o a7 ho lr e;have tD:dC all oi o=true:=by simp only[dC,cn];simpa using ht
     simp only[cN,tD,Yw,Yx]at hp;have hb:((bc all.toList []).getD j 0).testBit i=true:=by simpa using hp.2
     exact cw i hb
   exact hD.fU i oi t x a7 bF cn hx
  ·rw[oV j t (by omega) (fun i oi lr a7 cn=>hex ⟨i,oi,lr,a7,cn⟩)]at hx;refine hD.fV t x (fun i oi a7 bF cn=>?_) hx;rcases Yd i j with h|h|h
   ·exact hex ⟨i,oi,h,a7,cn⟩
   ·subst h;rw[mZ]at bF;simp at bF
   ·have hp:=fR j i o oi ho a7 h (di i h bF);have tD:dC all oi o=true:=by simp only[dC,cn];simpa using ht
    have hb:=b4 i oi a7 bF;simp only[cN,tD,hb,Yw,Yx]at hp;simp at hp
 let cU:=(σ j).fr.filter fun p=>(o.looksAt all).contains p.1
 have ld:∀t,look cU t=if(o.looksAt all).contains t then look (σ j).fr t else none:=fun t=>e9 (fun t=>(o.looksAt all).contains t) (σ j).fr t
 have hS:∀(V:List (List CV)),iC g w ⟨cU,V,(σ k0).A⟩ a:=fun V t x hx=>by
  simp only[ld]at hx;split at hx
  ·rename_i hc;exact jJ t (by simpa using hc) x hx
  ·cases hx
 have gG:∀(V V':List (List CV)) (A A':List bz),∀x∈o.op.operands.toList,bH ⟨cU,V,A⟩ x=bH ⟨(σ j).fr,V',A'⟩ x:=fun V V' A A' x hx=>by
  cases x with
  |tmp t=>
   simp only[bH,ld];rw[if_pos];simp only[Oper.looksAt,Yu,decide_eq_true_eq,Yg,List.mem_filterMap];exact .inl ⟨.tmp t,hx,rfl⟩
  |_=>rfl
 have gX:Rp n w0 g0 ⟨cU,(σ k0).V,(σ k0).A⟩ g a w:=⟨hD.inv,hD.fr,hD.size,hD.defers,hS _⟩;obtain⟨⟨uA,jG⟩,CO,_⟩:=lT j o ho;have oX:iA all ⟨cU,(σ k0).V,(σ k0).A⟩ o True True/\gw all ⟨cU,(σ k0).V,(σ k0).A⟩ o=gw all (σ j) o:=by
  unfold iA gw at*;cases nQ:o.guard with
  |none=>simp
  |some jw=>
   obtain⟨q,want⟩:=jw;simp only[nQ]at uA⊢;obtain⟨oq,h1,h2⟩:=cI uA;obtain⟨t,h3,h4⟩:=cI h2;have:look cU t=look (σ j).fr t:=by
    rw[ld,if_pos];simp only[Oper.looksAt,nQ,Yu,decide_eq_true_eq,Yg];exact .inr (by simp[h1,h3])
   simp only[h1,bU,h3,X7,this]at h4⊢;exact⟨h4,trivial⟩
 have lD:Region.wanted o (yielded all a.tmps)=gw all (σ j) o:=by
  rw[<-oX.2];have h0:=fT oX.1;have h1:=oX.1;unfold iA at h1;unfold gw;cases nQ:o.guard with
  |none=>simp[Region.wanted,nQ]
  |some jw=>
   obtain⟨q,want⟩:=jw;simp only[nQ]at h1⊢;obtain⟨oq,h2,h3⟩:=cI h1;obtain⟨t,h4,h5⟩:=cI h3;obtain⟨x,h6,h7⟩:=cI h5;obtain⟨h8,h9⟩:=jI gX h2 h4 h6;simp only[h2,X7,h4,h6];split at h7
   ·rename_i b;simp[Region.wanted,nQ,h8 b rfl]
   ·simp[Region.wanted,nQ,h9 rfl]
   ·exact h7.elim
 have bS:∀i,(af.setIfInBounds j true)[i]? =if i=j then some true else af[i]? :=fun i=>by
  by_cases e:i=j
  ·subst e;simp[jk]
  ·rw[if_neg e,YA (fun h=>e h.symm)]
 have gB:∀(v:Value) (t:Nat),o.dst≠some t->(a.put o.dst v).tmps[t]? =a.tmps[t]? :=fun v t di=>by
  cases qZ:o.dst with
  |none=>rfl
  |some d=>
   simp only[Act.put];rw[YA (fun e=>di (by rw[qZ,e]))]
 have cR:∀(k1:Nat) (x:AV) (v:Value) (w':World) (g':Gh),look (σ (j+1)).fr=look ((σ j).put o.dst x [] []).fr->aW g' w' (σ k1).A x v->Inv g' w' (σ k1).V (σ k1).A->Ext g w (σ k0).A g' w' (σ k1).A->Fr w0 g0 w' g'->k1<=all.size->(k1=0\/∃i∈ws,k1=i+1)->
   (∀i∈ws,i<all.size->((af.setIfInBounds j true)[i]? =some true↔i<k1))->xM all ws σ n w0 g0 (af.setIfInBounds j true) k1 g' (a.put o.dst v) w':=by
  intro k1 x v w' g' Cu x8 hI hx hF hk LA Fb;have iX:∀t u,o.dst≠some t->a.tmps[t]? =some u->(a.put o.dst v).tmps[t]? =some u:=fun t u di hu=>by
   cases qZ:o.dst with
   |none=>exact hu
   |some d=>
    simp only[Act.put];rw[YA (fun e=>di (by rw[qZ,e]))];exact hu
  refine⟨hI,hF,?_,?_,by simp[hD.eG],fun i oi t y a7 bF cn hy=>?_,fun t y fz hy=>?_,Fb,hk,LA,fun i oi a7 bF e he hb=>?_⟩
  ·cases o.dst<;>simp[Act.put,hD.size]
  ·cases o.dst<;>simp[Act.put,hD.defers]
  ·rw[bS]at bF;by_cases e:i=j
   ·subst e;obtain rfl:o=oi:=by rw[ho]at a7;exact Option.some.inj a7
    rw[Cu]at hy;simp only[St.put,cn,look,if_true]at hy;cases hy
    refine⟨v,?_,x8⟩;have:t<a.tmps.size:=by rw[hD.size];exact zG i o t ho cn
    simp[Act.put,cn,this]
   ·rw[if_neg e]at bF;obtain⟨u,h1,h2⟩:=hD.fU i oi t y a7 bF cn hy;exact⟨u,iX t u (fun h=>e (re i j oi o t a7 ho cn h)) h1,aW.ext hx h2⟩
  ·have di:o.dst≠some t:=fz j o ho (by rw[bS,if_pos rfl]);obtain⟨u,h1,h2⟩:=hD.fV t y (fun i oi a7 bF=>fz i oi a7 (by
    rw[bS];by_cases e:i=j
    ·rw[if_pos e]
    ·rw[if_neg e];exact bF)) hy
   exact⟨u,iX t u di h1,aW.ext hx h2⟩
  ·rw[bS]at bF⊢;have:af[e.on]? =some true:=by
    by_cases e':i=j
    ·subst e';obtain rfl:o=oi:=by rw[ho]at a7;exact Option.some.inj a7
     exact cE e he hb
    ·rw[if_neg e']at bF;exact hD.closed i oi a7 bF e he hb
   by_cases e':e.on=j
   ·rw[if_pos e']
   ·rw[if_neg e'];exact this
 have iu:j∉ws->∀i∈ws,i<all.size->((af.setIfInBounds j true)[i]? =some true↔i<k0):=fun eu i hi b8=>by
  rw[bS,if_neg (fun e=>eu (by rw[<-e];exact hi))];exact hD.eo i hi b8
 have kV:cS o.op=false->j∉fs->(σ j).V=(σ k0).V/\(σ j).A=(σ k0).A:=by
  intro fI nX;rcases Nat.le_total j k0 with h|h
  ·have:=tC k0 j h hD.nP (fun i h1 h2 h3=>by
    have b8:i<all.size:=by have:=hD.nP;omega
    have bF:=(hD.eo i h3 b8).2 h2;have a7:all[i]? =some all[i]:=Yy b8;rcases X8 j i with h4|h4
    ·have hp:=b7 j i o _ ho a7 h4 (di i h4 bF) nX (mc i h3);have hb:=b4 i _ a7 bF;simp only[bu,hb,Yw,Yx]at hp;simp[h3,fI,-cS]at hp
    ·obtain rfl:i=j:=by omega
     rw[mZ]at bF;simp at bF)
   exact⟨this.1.symm,this.2.symm⟩
  ·exact tC j k0 h (by omega) (fun i h1 h2 h3=>by
    have b8:i<all.size:=by omega
    have a7:all[i]? =some all[i]:=Yy b8;have bF:af[i]? =some true:=by
     by_cases e:j=q
     ·exact hq e i (gF i h3) (by omega)
     ·have hp:=b7 i j _ o a7 ho h2 (fun h=>e h.1) (mc i h3) nX;simp only[bu,Yw,Yx]at hp;rcases hp.2 with h4|h4
      ·simp[h3,fI,-cS]at h4
      ·exact cw i h4
    have:=(hD.eo i h3 b8).1 bF;omega)
 unfold wpOp;simp only[ho];rcases jG with⟨h1,x,V,A,h2,h3,Fe⟩|⟨h1,h2⟩
 ·rw[if_pos (by rw[lD,h1])];refine .inl ?_;by_cases hs:cS o.op=true
  ·-- slots alone
   have eu:j∉ws:=fun h=>by have:=uE j o ho h;rw[hs]at this;simp at this
   have h4:bJ P ⟨cU,(σ k0).V,(σ k0).A⟩ (ow j) o (fun y V' A'=>y=x/\V'=(σ k0).V/\A'=(σ k0).A):=nO (s:=σ j) (s':=⟨cU,(σ k0).V,(σ k0).A⟩) hs (gG _ _ _ _) h3 ⟨rfl,rfl,rfl⟩;obtain⟨y,V',A',⟨rfl,rfl,rfl⟩,h5⟩:=dj gX.inv (Fr.refl gX.fr.now) gX.slot h4;refine h5 _ _ fun v w' g' h6 h7 h8 h9=>ih k0 o g' _ w' ho (gB v) (cR k0 y v w' g' (by rw[h2];rfl) h6 h7 h8 (hD.fr.Bj h9) hD.nP hD.kw (iu eu)) h9
  ·have fI:cS o.op=false:=by simpa using hs
   by_cases nX:j∈fs
   ·have eu:j∉ws:=fun h=>mc j h nX
    have CR:k0<=m:=by
     rcases hD.kw with h|⟨i,hi,hk⟩
     ·omega
     ·rcases X8 i m with h|h
      ·omega
      ·exfalso
       have b8:i<all.size:=by have:=hD.nP;omega
       have a7:all[i]? =some all[i]:=Yy b8;have bF:=(hD.eo i hi b8).2 (by omega);have KP:j<i:=by
        have:=IZ j nX i hi;simp at this;omega
       have hp:=fR j i o _ ho a7 KP (di i KP bF);have hb:=b4 i _ a7 bF;have s6:¬i<m:=by omega
       simp only[cN,hb,Yw,Yx]at hp;simp[-cS,hi,fI,s6,nX,eu]at hp
    obtain⟨dO,zK⟩:=CQ k0 CR hD.nP;have h4:bJ P ⟨cU,(σ k0).V,(σ k0).A⟩ (ow j) o (fun y V' A'=>y=x/\V'=(σ k0).V/\A'=(σ k0).A):=by
     have h5:=Fe nX (fun i=>(σ k0).V.getD i []) ((σ k0).V.drop V0.length) ((σ k0).A.drop A0.length);have e1:rJ ex (fun i=>(σ k0).V.getD i []) V0++(σ k0).V.drop V0.length=(σ k0).V:=by
      rw[<-dO];exact Yp _ _
     have e2:A0++(σ k0).A.drop A0.length=(σ k0).A:=by conv=>lhs;arg 1;rw[<-zK]
                                                      exact Yp _ _
     rw[e1,e2]at h5;exact ej (fr:=(σ j).fr) (gG _ _ _ _) h5
    obtain⟨y,V',A',⟨rfl,rfl,rfl⟩,h5⟩:=dj gX.inv (Fr.refl gX.fr.now) gX.slot h4;exact h5 _ _ fun v w' g' h6 h7 h8 h9=>ih k0 o g' _ w' ho (gB v) (cR k0 y v w' g' (by rw[h2];rfl) h6 h7 h8 (hD.fr.Bj h9) hD.nP hD.kw (iu eu)) h9
   obtain⟨kJ,gn⟩:=kV fI nX;have h4:bJ P ⟨cU,(σ k0).V,(σ k0).A⟩ (ow j) o (fun y V' A'=>y=x/\V'=V/\A'=A):=by
    rw[<-kJ,<-gn];exact ej (fr:=(σ j).fr) (gG _ _ _ _) (h3 _ ⟨rfl,rfl,rfl⟩)
   obtain⟨y,V',A',⟨rfl,rfl,rfl⟩,h5⟩:=dj gX.inv (Fr.refl gX.fr.now) gX.slot h4;have s5:(σ (j+1)).V=V':=by rw[h2];rfl
   have jq:(σ (j+1)).A=A':=by rw[h2];rfl
   by_cases eu:j∈ws
   ·refine h5 _ _ fun v w' g' h6 h7 h8 h9=>ih (j+1) o g' _ w' ho (gB v) (cR (j+1) y v w' g' (by rw[h2];rfl) (by rw[jq];exact h6) (by rw[s5,jq];exact h7) (by rw[jq];exact h8) (hD.fr.Bj h9) (by omega) (.inr ⟨j,eu,rfl⟩) (fun i hi b8=>?_)) h9
    have a7:all[i]? =some all[i]:=Yy b8;rw[bS];by_cases e:i=j
    ·subst e;simp
    ·rw[if_neg e];constructor
     ·intro bF;rcases X8 j i with h|h
      ·have hp:=b7 j i o _ ho a7 h (di i h bF) (mc j eu) (mc i hi);have hb:=b4 i _ a7 bF;simp only[bu,hb,Yw,Yx]at hp;simp[hi,fI,-cS]at hp
      ·omega
     ·intro ay;by_cases e:j=q
      ·exact hq e i (gF i hi) (by omega)
      have hp:=b7 i j _ o a7 ho (by omega) (fun h=>e h.1) (mc i hi) (mc j eu);simp only[bu,Yw,Yx]at hp;rcases hp.2 with h|h
      ·simp[hi,fI,-cS]at h
      ·exact cw i h
   ·rcases CO with CO|⟨qa,mJ⟩
    ·exact absurd CO eu
    ·refine h5 _ _ fun v w' g' h6 h7 h8 h9=>ih k0 o g' _ w' ho (gB v) (cR k0 y v w' g' (by rw[h2];rfl) ?_ ?_ ?_ (hD.fr.Bj h9) hD.nP hD.kw (iu eu)) h9
     ·rw[<-gn,<-mJ,jq];exact h6
     ·rw[<-kJ,<-gn,<-qa,<-mJ,s5,jq];exact h7
     ·have e1:(σ k0).A=A':=by rw[<-gn,<-mJ,jq]
      rw[e1]at h8⊢;exact h8
 ·rw[if_neg (by rw[lD,h1];simp)];have s5:(σ (j+1)).V=(σ j).V:=by rw[h2];rfl
  have jq:(σ (j+1)).A=(σ j).A:=by rw[h2];rfl
  by_cases eu:j∈ws
  ·have fI:=uE j o ho eu;obtain⟨kJ,gn⟩:=kV fI (mc j eu);refine ih (j+1) o g _ w ho (gB undef) (cR (j+1) (.c .undef) undef w g (by rw[h2];rfl) rfl ?_ ?_ hD.fr (by omega) (.inr ⟨j,eu,rfl⟩) (fun i hi b8=>?_)) (.refl hD.fr.now)
   ·rw[s5,jq,kJ,gn];exact hD.inv
   ·rw[jq,gn];exact .refl _ _ _
   ·have a7:all[i]? =some all[i]:=Yy b8;rw[bS];by_cases e:i=j
    ·subst e;simp
    ·rw[if_neg e];constructor
     ·intro bF;rcases X8 j i with h|h
      ·have hp:=b7 j i o _ ho a7 h (di i h bF) (mc j eu) (mc i hi);have hb:=b4 i _ a7 bF;simp only[bu,hb,Yw,Yx]at hp;simp[hi,fI,-cS]at hp
      ·omega
     ·intro ay;by_cases e:j=q
      ·exact hq e i (gF i hi) (by omega)
      have hp:=b7 i j _ o a7 ho (by omega) (fun h=>e h.1) (mc i hi) (mc j eu);simp only[bu,Yw,Yx]at hp;rcases hp.2 with h|h
      ·simp[hi,fI,-cS]at h
      ·exact cw i h
  ·exact ih k0 o g _ w ho (gB undef) (cR k0 (.c .undef) undef w g (by rw[h2];rfl) rfl hD.inv (.refl _ _ _) hD.fr hD.nP hD.kw (iu eu)) (.refl hD.fr.now)
theorem Hm {all:Array Oper} {ws fs:List Nat} {m q:Nat} {wt:List Nat} (hd:me all ws fs m q wt=true):q∈ws/\(∀i∈ws,i∈wt)/\(∀(j:Nat) o,all[j]? =some o->∀e∈o.after,Region.binds .any e=true->e.on<j)/\
  (∀(i j:Nat) oi oj,all[i]? =some oi->all[j]? =some oj->i∈wt->i<=q->q<j->((bc all.toList []).getD j 0).testBit i=true)/\(∀(i j:Nat) oi oj d,all[i]? =some oi->all[j]? =some oj->i≠j->oi.dst=some d->oj.dst≠some d):=by
 simp only[me,Yw,Yj]at hd;obtain⟨⟨⟨⟨⟨⟨gR,jE⟩,o5⟩,IY⟩,IZ⟩,KR⟩,Bk⟩:=hd;have gF:∀i∈ws,i∈wt:=fun i hi=>by simpa using Bk i hi
 have cZ:∀(j:Nat) o,all[j]? =some o->(o,j)∈all.toList.zipIdx:=fun j o h=>by
  rw[Yr];exact⟨j,by simp[Yt,h]⟩
 have wD:∀(i j:Nat) oi oj,all[i]? =some oi->all[j]? =some oj->i<j->oe all ws fs m q wt (bc all.toList []) oi oj i j=true:=fun i j oi oj h1 h2 ay=>by
  have:=jE _ (cZ j oj h2) _ (cZ i oi h1);simpa[ay]using this
 have wE:∀(i j:Nat) oi oj d,all[i]? =some oi->all[j]? =some oj->i<j->oi.dst=some d->oj.dst≠some d:=fun i j oi oj d h1 h2 ay h3 h4=>by
  have:=wD i j oi oj h1 h2 ay;simp only[oe,cN,h3,h4]at this;split at this<;>simp at this
 refine⟨by simpa using KR,gF,fun j o h e he hb=>?_,fun i j oi oj h1 h2 h0 h3 h4=>?_,fun i j oi oj d h1 h2 di h3 h4=>?_⟩
 ·have:=gR _ (cZ j o h) e (YB.2 he);simpa[hb]using this
 ·have:=wD i j oi oj h1 h2 (by omega);rw[oe,if_neg (show¬(j=q/\wt.contains i=true) by omega)]at this;simp only[Yw]at this;simpa[h0,h3,h4]using this.2
 ·rcases Nat.lt_or_gt_of_ne di with h|h
  ·exact wE i j oi oj d h1 h2 h h3 h4
  ·exact wE j i oj oi d h2 h1 h h4 h3
theorem CY.Q1 {all:Array Oper} {ow:Nat->Bool} {ws fs:List Nat} {m q:Nat} {wt:List Nat} {σ:Nat->St} (hd:me all ws fs m q wt=true) {d:Nat} {row:List CV} {cs:Array Value} {ty:TypeId} {oq:Oper} (hk:CZ P all ow σ q d row cs ty oq)
  (hw:∀(j:Nat) o,all[j]? =some o->j∈ws\/((σ (j+1)).V=(σ j).V/\(σ (j+1)).A=(σ j).A))
  {af:Array Bool} {k0 b:Nat} (h:CY all ws σ n w0 g0 q d row cs ty af k0 b g a w) (dm:∀i∈wt,i<q->af[i]? =some true):∃g',xM all ws σ n w0 g0 af (q+1) g' a w:=by
 obtain⟨KR,gF,c8,Hn,re⟩:=Hm hd;have I0:q<all.size:=(Yz.1 hk.at_).1;have bS:∀i,i≠q->(af.setIfInBounds q false)[i]? =af[i]? :=fun i hi=>YA (fun e=>hi e.symm)
 have UA:q<af.size:=(Yz.1 h.M0).1;have Q2:(af.setIfInBounds q false)[q]? =some false:=by simp[UA]
 have fz:∀i,q<i->af[i]? ≠some true:=fun i hi hl=>by
  have b8:i<all.size:=by
   have:=(Yz.1 hl).1;have e:=h.base.eG;simp at e;omega
  have a7:all[i]? =some all[i]:=Yy b8;have:=uM c8 h.base.closed i _ a7 (h.base.closed i _ a7 (by rw[bS i (by omega)];exact hl)) q (Hn q i _ _ hk.at_ a7 (gF q KR) (X9 _) hi);rw[Q2]at this;simp at this
 have gv:k0<=q:=by
  rcases h.base.kw with e|⟨i,hi,e⟩
  ·omega
  ·rcases X8 i q with h1|h1
   ·omega
   ·have:=h.base.nP;have h2:=(h.base.eo i hi (by omega)).2 (by omega);rcases Nat.eq_or_lt_of_le h1 with h3|h3
    ·subst h3;rw[Q2]at h2;simp at h2
    ·rw[bS i (by omega)]at h2;exact absurd h2 (fz i h3)
 have tC:∀c,k0<=c->c<=q->(σ c).V=(σ k0).V/\(σ c).A=(σ k0).A:=by
  intro c;induction c with
  |zero=>intro h1 _;obtain rfl:k0=0:=by omega
         exact⟨rfl,rfl⟩
  |succ c ih=>
   intro h1 h2;by_cases e:k0=c+1
   ·subst e;exact⟨rfl,rfl⟩
   ·obtain⟨h3,h4⟩:=ih (by omega) (by omega);rcases hw c _ (Yy (by omega))with h5|⟨h5,h6⟩
    ·have:=(h.base.eo c h5 (by omega)).1 (by rw[bS c (by omega)];exact dm c (gF c h5) (by omega));omega
    ·exact⟨h5.trans h3,h6.trans h4⟩
 obtain⟨kJ,gn⟩:=tC q gv (X9 _);obtain⟨hI,hx,hb⟩:=h.base.inv.LG h.mem hk.size hk.cells h.ob h.jB h.im;have UB:(σ (q+1)).V=(σ k0).V++[row]:=by rw[hk.next,<-kJ];rfl
 have Q3:(σ (q+1)).A=(σ k0).A:=by rw[hk.next,<-gn];rfl
 refine⟨{g with ob:=g.ob++[b]},by rw[UB,Q3];exact hI,h.base.fr.LG h.new,h.base.size,h.base.defers,by simpa using h.base.eG,fun i o t x ho hl cn gD=>?_,fun t x Q4 gD=>?_,fun i hi b8=>?_,by omega,.inr ⟨q,KR,rfl⟩,fun i o ho hl e he eV=>?_⟩
 ·rw[Q3];by_cases e:i=q
  ·subst e;rw[hk.at_]at ho;cases ho
   rw[hk.dst]at cn;cases cn
   rw[hk.next]at gD;simp only[St.put,look,if_true]at gD;cases gD
   exact⟨_,h.slot,b,by rw[kJ];exact hb,rfl⟩
  ·obtain⟨u,h1,h2⟩:=h.base.fU i o t x ho (by rw[bS i e];exact hl) cn gD;exact⟨u,h1,aW.ext hx h2⟩
 ·rw[Q3];obtain⟨u,h1,h2⟩:=h.base.fV t x (fun i o ho hl=>by
   by_cases e:i=q
   ·subst e;rw[Q2]at hl;simp at hl
   ·rw[bS i e]at hl;exact Q4 i o ho hl) gD
  exact⟨u,h1,aW.ext hx h2⟩
 ·constructor
  ·intro hl;rcases X8 q i with h1|h1
   ·exact absurd hl (fz i h1)
   ·omega
  ·intro ay;by_cases e:i=q
   ·subst e;exact h.M0
   ·exact dm i (gF i hi) (by omega)
 ·have ay:=c8 i o ho e he eV;by_cases e':i=q
  ·subst e';exact h.closed i o ho hl e he eV
  ·by_cases e2:e.on=q
   ·rw[e2];exact h.M0
   ·have:=h.base.closed i o ho (by rw[bS i e'];exact hl) e he eV;rwa[bS _ e2]at this
set_option maxHeartbeats 1000000 in
theorem Bl {all:Array Oper} {ow:Nat->Bool} {ws fs:List Nat} {m q:Nat} {wt:List Nat} {ex:List Nat} {V0:List (List CV)} {A0:List bz} {σ:Nat->St} {K:St->Prop} {Q:Exit->Act->World->Prop} (hd:me all ws fs m q wt=true) (fc:da n all.toList=true)
  (lT:∀(j:Nat) o,all[j]? =some o->Hh P all (ow j) fs j ex V0 A0 o (σ j) (σ (j+1))/\(j∈ws\/((σ (j+1)).V=(σ j).V/\(σ (j+1)).A=(σ j).A))/\(j<m->KO ex V0 A0 (σ (j+1))\/((σ (j+1)).V=(σ j).V/\(σ (j+1)).A=(σ j).A))) (Hi:(σ 0).V=V0/\(σ 0).A=A0)
  {d:Nat} {row:List CV} {cs:Array Value} {ty:TypeId} {oq:Oper} (hk:CZ P all ow σ q d row cs ty oq)
  (hK:K (σ all.size)) (hQ:∀s' g' a' w',K s'->Rp n w0 g0 s' g' a' w'->Q .normal a' w'):
  ∀(fuel:Nat) (af:Array Bool) (k0:Nat) (g:Gh) (a:Act) (w:World),((Yf all.size).filter fun i=> !af.getD i true).length<=fuel->
   ((xM all ws σ n w0 g0 af k0 g a w/\(af[q]? =some true->∀i∈wt,i<q->af[i]? =some true))\/((∃i∈wt,i<q/\af[i]? ≠some true)/\∃b,CY all ws σ n w0 g0 q d row cs ty af k0 b g a w))->wpAny P .any all Q fuel af a w:=by
 obtain⟨KR,gF,c8,Hn,re⟩:=Hm hd;have I0:q<all.size:=(Yz.1 hk.at_).1;have pJ:∀{af:Array Bool},Region.ready .any all af=[]->af.size=all.size->∀i,i<all.size->af[i]? =some true:=by
  intro af hr sr i;induction i using Ya with
  |_ i ih=>
   intro hi;have ho:all[i]? =some all[i]:=Yy hi;have bF:i<af.size:=by omega
   cases hl:af[i]with
   |true=>rw[Yy bF,hl]
   |false=>
    exfalso
    have:i∈Region.ready .any all af:=mem_ready.2 ⟨by simp[bF,hl],_,ho,fun e he hb=>cK.2 (ih e.on (c8 i _ ho e he hb) (by have:=c8 i _ ho e he hb;omega))⟩;rw[hr]at this;simp at this
 have lS:∀{af:Array Bool} {k0:Nat} {g:Gh} {a:Act} {w:World},((xM all ws σ n w0 g0 af k0 g a w/\(af[q]? =some true->∀i∈wt,i<q->af[i]? =some true))\/((∃i∈wt,i<q/\af[i]? ≠some true)/\∃b,CY all ws σ n w0 g0 q d row cs ty af k0 b g a w))->
   Region.ready .any all af=[]->Q .normal a w:=by
  intro af k0 g a w hD hr;rcases hD with⟨hD,_⟩|⟨⟨i,_,hi,hl⟩,b,hD⟩
  rotate_left
  ·have e:=hD.base.eG;simp at e;exact absurd (pJ hr e i (by omega)) hl
  have dm:=pJ hr hD.eG;have l7:∀(j:Nat) o t,all[j]? =some o->o.dst≠some t->look (σ (j+1)).fr t=look (σ j).fr t:=fun j o t h1 h2=>by
   obtain⟨⟨_,h3⟩,_⟩:=lT j o h1;have kh:∀(x:AV) V A,look ((σ j).put o.dst x V A).fr t=look (σ j).fr t:=fun x V A=>by
    simp only[St.put];cases qZ:o.dst with
    |none=>rfl
    |some d=>simp only[look];rw[if_neg (fun e=>h2 (by rw[qZ,e]))]
   rcases h3 with⟨_,x,V,A,h4,_,_⟩|⟨_,h4⟩
   ·rw[h4];exact kh x V A
   ·rw[h4];exact kh _ _ _
  have oV:∀(j t:Nat),j<=all.size->(∀(i:Nat) o,i<j->all[i]? =some o->o.dst≠some t)->look (σ j).fr t=look (σ 0).fr t:=by
   intro j;induction j with
   |zero=>intro t _ _;rfl
   |succ j ih=>
    intro t hj fz;have ho:all[j]? =some all[j]:=Yy (by omega);rw[l7 j _ t ho (fz j _ (by omega) ho)];exact ih t (by omega) (fun i o hi=>fz i o (by omega))
  have oW:∀(j i:Nat) oi t,j<=all.size->i<j->all[i]? =some oi->oi.dst=some t->look (σ j).fr t=look (σ (i+1)).fr t:=by
   intro j;induction j with
   |zero=>intro i oi t _ h;omega
   |succ j ih=>
    intro i oi t hj lr a7 cn;by_cases e:i=j
    ·subst e;rfl
    ·have ho:all[j]? =some all[j]:=Yy (by omega);rw[l7 j _ t ho (re i j oi _ t a7 ho (by omega) cn)];exact ih i oi t (by omega) (by omega) a7 cn
  have tC:∀c,k0<=c->c<=all.size->(σ c).V=(σ k0).V/\(σ c).A=(σ k0).A:=by
   intro c;induction c with
   |zero=>intro h1 _;obtain rfl:k0=0:=by omega
          exact⟨rfl,rfl⟩
   |succ c ih=>
    intro h1 h2;by_cases e:k0=c+1
    ·subst e;exact⟨rfl,rfl⟩
    ·obtain⟨h3,h4⟩:=ih (by omega) (by omega);rcases(lT c _ (Yy (by omega))).2.1 with h5|⟨h5,h6⟩
     ·have:=(hD.eo c h5 (by omega)).1 (dm c (by omega));omega
     ·exact⟨h5.trans h3,h6.trans h4⟩
  have kV:=tC all.size hD.nP (X9 _);refine hQ _ g a w hK ⟨by rw[kV.1,kV.2];exact hD.inv,hD.fr,hD.size,hD.defers,fun t x hx=>?_⟩;rw[kV.2];by_cases hex:∃(i:Nat) (o:Oper),all[i]? =some o/\o.dst=some t
  ·obtain⟨i,o,ho,cn⟩:=hex;have hi:=(Yz.1 ho).1;rw[oW all.size i o t (X9 _) hi ho cn]at hx;exact hD.fU i o t x ho (dm i hi) cn hx
  ·rw[oV all.size t (X9 _) (fun i o _ ho cn=>hex ⟨i,o,ho,cn⟩)]at hx;exact hD.fV t x (fun i o ho _ cn=>hex ⟨i,o,ho,cn⟩) hx
 intro fuel;induction fuel with
 |zero=>
  intro af k0 g a w hf hD;have la:Region.ready .any all af=[]:=by
   have h0:((Yf all.size).filter fun i=> !af.getD i true)=[]:=List.eq_nil_of_length_eq_zero (by omega);rcases hr:Region.ready .any all af with _|⟨j,r⟩
   ·rfl
   ·have hj:j∈Region.ready .any all af:=by rw[hr];simp
    obtain⟨h1,o,h2,_⟩:=mem_ready.1 hj;have:j∈((Yf all.size).filter fun i=> !af.getD i true):=by
     rw[List.mem_filter,Yq];exact⟨(Yz.1 h2).1,by simp[h1]⟩
    rw[h0]at this;simp at this
  exact⟨la,lS hD la⟩
 |succ fuel ih=>
  intro af k0 g a w hf hD;refine⟨fun hr=>lS hD hr,fun j hj=>?_⟩;obtain⟨mY,o,ho,cL⟩:=mem_ready.1 hj;have mZ:=ep mY;have rG:j<all.size:=(Yz.1 ho).1;have sr:af.size=all.size:=by
   rcases hD with⟨hD,_⟩|⟨_,b,hD⟩
   ·exact hD.eG
   ·simpa using hD.base.eG
  have jk:j<af.size:=by omega
  have bS:∀i,(af.setIfInBounds j true)[i]? =if i=j then some true else af[i]? :=fun i=>by
   by_cases e:i=j
   ·subst e;simp[jk]
   ·rw[if_neg e,YA (fun h=>e h.symm)]
  have c5:((Yf all.size).filter fun i=> !(af.setIfInBounds j true).getD i true).length<=fuel:=by
   have ay:((Yf all.size).filter fun i=> !(af.setIfInBounds j true).getD i true).length<((Yf all.size).filter fun i=> !af.getD i true).length:=by
    have gF:∀i,(!(af.setIfInBounds j true).getD i true)=true->(!af.getD i true)=true:=fun i h=>by
     by_cases e:i=j
     ·subst e;simp[jk]at h
     ·have:(af.setIfInBounds j true).getD i true=af.getD i true:=by
       simp only[YD,bS,if_neg e]
      rwa[this]at h
    exact filter_lt gF (Yq.2 rG) (by simp[mY]) (by simp[jk])
   omega
  have cE:∀e∈o.after,Region.binds .any e=true->af[e.on]? =some true:=fun e he hb=>cK.1 (cL e he hb)
  rcases hD with⟨hD,hL⟩|⟨⟨i0,LI,MP,IS⟩,b,hD⟩
  ·by_cases Gt:j=q/\∃i∈wt,i<q/\af[i]? ≠some true
   ·-- the allocation, before its turn
    obtain⟨rfl,hex⟩:=Gt;obtain rfl:o=oq:=by have:=hk.at_;rw[ho]at this;exact Option.some.inj this
    unfold wpOp;simp only[ho];rw[if_pos (by simp[Region.wanted,hk.guard])];refine .inl ?_;unfold Oper.wp;rw[hk.run];obtain⟨g1,vf,fj,dB⟩:=hD.inv.ei (.cells cs ty) 0;have kF:=(Fr.refl hD.fr.now).ei (.cells cs ty) 0;rw[<-vf]at kF;have kh:∀t,t≠d->(a.put o.dst (.pointer (some ⟨w.heap.size,0,none⟩))).tmps[t]? =a.tmps[t]? :=fun t ht=>by
     rw[hk.dst];simp only[Act.put];rw[YA (fun e=>ht e.symm)]
    have zG:d<n:=by
     have:=Yj.1 fc o (by rw[YB];exact YC ho);simpa[hk.dst]using this
    refine ih _ k0 g1 _ _ c5 (.inr ⟨?_,w.heap.size,⟨by rw[bS,if_pos rfl],?_,?_,heap_alloc_new w _,fun hm=>?_,fun hm=>?_,by rw[vf];simp,hD.fr.size,by simp,fun i oi a7 bF e he hb=>?_⟩⟩)
    ·obtain⟨i,hw,hi,hl⟩:=hex;exact⟨i,hw,hi,by rw[bS,if_neg (by omega)];exact hl⟩
    ·rw[LH af j (by rw[mZ];simp) jk];refine⟨fj,hD.fr.Bj kF,by rw[hk.dst];simp[Act.put,hD.size],by rw[hk.dst];simp[Act.put,hD.defers],hD.eG,fun i oi t x a7 bF cn hx=>?_,fun t x fz hx=>?_,hD.eo,hD.nP,hD.kw,hD.closed⟩
     ·have lr:i≠j:=fun e=>by subst e;rw[mZ]at bF;simp at bF
      have Q5:t≠d:=fun e=>by
       subst e;exact re i j oi o t a7 ho lr cn hk.dst
      obtain⟨u,h1,h2⟩:=hD.fU i oi t x a7 bF cn hx;exact⟨u,by rw[kh t Q5];exact h1,aW.ext dB h2⟩
     ·have Q5:t≠d:=fun e=>by
       subst e;rw[hk.s0]at hx;simp at hx
      obtain⟨u,h1,h2⟩:=hD.fV t x fz hx;exact⟨u,by rw[kh t Q5];exact h1,aW.ext dB h2⟩
    ·have:d<a.tmps.size:=by rw[hD.size];exact zG
     rw[hk.dst];simp[Act.put,this]
    ·rw[vf]at hm;obtain⟨l,hl⟩:=List.getElem?_of_mem hm;have:=hD.inv.qU hl;omega
    ·rw[vf]at hm;obtain⟨k,v',q1,q2⟩:=Gh.fL (g:=g) (by simpa[Gh.jB]using hm);have:=hD.inv.mO q1 q2;omega
    ·rw[bS]at bF⊢;have:af[e.on]? =some true:=by
      by_cases e':i=j
      ·subst e';obtain rfl:o=oi:=by rw[ho]at a7;exact Option.some.inj a7
       exact cE e he hb
      ·rw[if_neg e']at bF;exact hD.closed i oi a7 bF e he hb
     by_cases e':e.on=j
     ·rw[if_pos e']
     ·rw[if_neg e'];exact this
   ·refine yL hd fc lT Hi hD hL hj (fun e i hw hi=>?_) fun k1 o' g' a' w' sY gB Jz hF=>ih _ k1 g' a' w' c5 (.inl ⟨Jz,fun hl i hw hi=>?_⟩)
    ·by_cases hc:af[i]? =some true
     ·exact hc
     ·exact absurd ⟨e,i,hw,hi,hc⟩ Gt
    ·rw[bS];by_cases e:i=j
     ·rw[if_pos e]
     ·rw[if_neg e];by_cases e':j=q
      ·by_cases hc:af[i]? =some true
       ·exact hc
       ·exact absurd ⟨e',i,hw,hi,hc⟩ Gt
      ·rw[bS,if_neg (fun h=>e' h.symm)]at hl;exact hL hl i hw hi
  ·-- with the block at hand
   have Gt:j≠q:=fun e=>by subst e;rw[hD.M0]at mZ;simp at mZ
   have UC:j<q:=by
    rcases Yd j q with h|h|h
    ·exact h
    ·exact absurd h Gt
    ·exact absurd (uM c8 hD.closed j o ho cE i0 (Hn i0 j _ o (Yy (by omega)) ho LI (by omega) h)) IS
   have JA:j∈Region.ready .any all (af.setIfInBounds q false):=by
    refine mem_ready.2 ⟨?_,o,ho,fun e he hb=>cK.2 ?_⟩
    ·have:(af.setIfInBounds q false)[j]? =some false:=by rw[YA (fun h=>Gt h.symm)];exact mZ
     simp[YD,this]
    ·have ay:=c8 j o ho e he hb;rw[YA (by omega)];exact cE e he hb
   have UD:q<af.size:=by omega
   refine yL hd fc lT Hi hD.base (fun hl=>by simp[UD]at hl) JA (fun e=>absurd e Gt) fun k1 o' g' a' w' sY gB Jz hF=>?_
   have KS:=hD.step Gt (gB d fun e=>re j q o' oq d sY hk.at_ Gt e hk.dst) Jz hF (fun i oi a7 bF e he hb=>by
    rw[bS]at bF⊢;have:af[e.on]? =some true:=by
     by_cases e':i=j
     ·subst e';obtain rfl:o=oi:=by rw[ho]at a7;exact Option.some.inj a7
      exact cE e he hb
     ·rw[if_neg e']at bF;exact hD.closed i oi a7 bF e he hb
    by_cases e':e.on=j
    ·rw[if_pos e']
    ·rw[if_neg e'];exact this)
   by_cases hx:∃i∈wt,i<q/\(af.setIfInBounds j true)[i]? ≠some true
   ·exact ih _ k1 g' a' w' c5 (.inr ⟨hx,b,KS⟩)
   ·have dm:∀i∈wt,i<q->(af.setIfInBounds j true)[i]? =some true:=fun i hw hi=>by
     by_cases hc:(af.setIfInBounds j true)[i]? =some true
     ·exact hc
     ·exact absurd ⟨i,hw,hi,hc⟩ hx
    obtain⟨g'',hD''⟩:=KS.Q1 hd hk (fun j o ho=>(lT j o ho).2.1) dm;exact ih _ (q+1) g'' a' w' c5 (.inl ⟨hD'',fun _=>dm⟩)
theorem T.zO {id:Nat} {ops:Array Oper} (hm:P.follows .mixedOrders=true) (ow:Nat->Bool) (ws fs:List Nat) (m:Nat) (ex:List Nat) (q:Nat) (wt:List Nat) (d:Nat) {e:TypeId} {D:TD} {row:List CV} {oq:Oper} (hd:me ops ws fs m q wt=true)
  (hq:ops[q]? =some oq) (gG:oq.op=.alloc e) (hg:oq.guard=none) (PN:oq.dst=some d) (ht:td P e=some D) (hz:D.zero=some row) (IX:look s.fr d=none)
  (h:oI P ops ow ws fs m ex s.V s.A (fun s'=>Q .normal s') 0 ops.toList s):T P n (.region id ops true) Q s:=by
 intro eP w0 g0 g a w hR;obtain⟨σ,h0,hK,lT⟩:=mb ops.toList 0 s h;obtain⟨hI,hx⟩:=hR.inv.heap (w':={w with drawn:=w.drawn+1}) rfl;obtain⟨inf,hi,_,_,UE⟩:=gm ht;obtain⟨v,hv,hc⟩:=UE _ hz;have NU:∀(j:Nat) o,ops[j]? =some o->Hh P ops (ow j) fs j ex s.V s.A o (σ j) (σ (j+1))/\(j∈ws\/((σ (j+1)).V=(σ j).V/\(σ (j+1)).A=(σ j).A))/\(j<m->KO ex s.V s.A (σ (j+1))\/((σ (j+1)).V=(σ j).V/\(σ (j+1)).A=(σ j).A)):=fun j o ho=>by
  have:=lT j o (by simpa using ho);simpa only[Yc]using this
 have cR:σ (q+1)=(σ q).put (some d) (.c (.ptr (σ q).V.length 0)) ((σ q).V++[row]) (σ q).A:=by
  rcases(NU q oq hq).1.2 with⟨_,x,V,A,h1,h2,_⟩|⟨h1,_⟩
  ·have h3:=h2 (fun y V' A'=>y=x/\V'=V/\A'=A) ⟨rfl,rfl,rfl⟩;simp only[bJ,gG,eO,bU,ht,hz]at h3;obtain⟨rfl,rfl,rfl⟩:=h3;rw[h1,PN]
  ·simp[gw,hg]at h1
 have AH:CZ P ops ow σ q d row v.cells e oq:=by
  refine⟨hq,hg,PN,by rw[h0];exact IX,?_,fun j c u h1 h2 g w A=>?_,cR,fun a w=>?_⟩
  ·have:=iV hc;simpa using this
  ·exact nJ (pd hc j c u h1 (by simpa using h2))
  ·simp[execOp,gG,Instr.alloc,zeroValue,typeInfo,hi,hv,newVar,jF]
 refine wp_region_any hm (Bl (ex:=ex) (K:=fun s'=>Q .normal s') (w0:=w0) (g0:=g0) (n:=n) (σ:=σ) (ow:=ow) hd eP NU ⟨by rw[h0],by rw[h0]⟩ AH ?_ (fun s' g' a' w' h1 h2=>⟨s',g',h1,h2⟩) ops.size (Array.replicate ops.size false) 0 g a _ ?_ (.inl ⟨?_,fun hl=>?_⟩))
 ·simpa using hK
 ·exact Yb (List.length_filter_le _ _) (by simp)
 ·refine⟨by rw[h0];exact hI,hR.fr.heap rfl rfl rfl rfl,hR.size,hR.defers,by simp,fun i o t x ho hl=>?_,fun t x _ gD=>?_,fun i _ b8=>?_,Nat.zero_le _,.inl rfl,fun i o ho hl=>?_⟩
  ·have hi:=(Yz.1 ho).1;simp[hi]at hl
  ·rw[h0]at gD⊢;obtain⟨u,h1,h2⟩:=hR.slot t x gD;exact⟨u,h1,aW.ext hx h2⟩
  ·simp[b8]
  ·have hi:=(Yz.1 ho).1;simp[hi]at hl
 ·have hi:=(Yz.1 hq).1;simp[hi]at hl
theorem T.PO {id:Nat} {l:List Oper} {y:Code} (hm:P.follows .mixedOrders=true) (ow:Nat->Bool) (ws fs:List Nat) (m:Nat) (ex:List Nat) (q:Nat) (wt:List Nat) (d:Nat) {e:TypeId} {D:TD} {row:List CV} {oq:Oper} (hd:me l.toArray ws fs m q wt=true)
  (hq:l.toArray[q]? =some oq) (gG:oq.op=.alloc e) (hg:oq.guard=none) (PN:oq.dst=some d) (ht:td P e=some D) (hz:D.zero=some row) (IX:look s.fr d=none)
  (h:∀K:St->Prop,(∀s',T P n y Q s'->K s')->sf P l.toArray ow ws fs m ex s.V s.A K 0 l s):T P n (.seq (.region id l.toArray true) y) Q s:=
 T.seq (T.zO hm ow ws fs m ex q wt d hd hq gG hg PN ht hz IX (h _ fun _ h=>h).run)
end
end Go.Av
namespace Go.Av
attribute [-simp] Go.Av.bJ Go.Av.eO Go.Av.iA Go.Av.bU Go.Av.bH Go.Av.iB Go.Av.mq Go.Av.rP Go.Av.mP Go.Av.zB Go.Av.rowsOf Go.Av.look Go.Av.tc Go.Av.St.put Go.Av.gV Go.Av.E3 Go.Av.ca Go.Av.zy Go.Av.Je Go.Av.rO Go.Av.rN Go.Av.D1 Go.Av.AV.plain Go.Av.AV.cells Go.Av.CV.jW Go.Av.nI Go.Av.iN Go.Av.kI Go.Av.fK Go.Av.bT Go.Av.ig Go.Av.AV.kT Go.Av.CV.kT Go.Av.qx Go.Av.AV.fN Go.Av.CV.fN Go.Av.bD Go.Av.iO Go.Av.j9 Go.Av.oE Go.Av.cS Go.Av.ft Go.Av.uB Go.Av.AV.qz Go.Av.CV.res Go.Av.rW Go.Av.pos? Go.Av.v8 Go.Av.wi Go.Av.gW Go.Av.Sub Go.Av.kj Go.Av.kU Go.Av.iY Go.Av.gY Go.Av.iZ Go.Av.gZ Go.Av.aI.bX Go.Av.aI.bQ Go.Av.ao.bX Go.Av.ao.lf Go.Av.ao.pD Go.Av.ao.oH Go.Av.ao.qJ Go.Av.ao.km Go.Av.ao.bQ Go.Av.dI Go.Av.rJ Go.Av.gJ Go.Av.gy Go.Av.cW
open Go
def UF:Op->Bool
 |.call {callee:=.value _,.. }=>true
 |_=>false
def Q6 (o:Op):Bool:=PJ o||UF o
def JB (all:Array Oper) (wv wa fs:List Nat) (m:Nat) (ms:List Nat) (oi oj:Oper) (i j:Nat):Bool:=
 (oi.dst.isNone||oi.dst !=oj.dst)&&((!dC all oi oj && !dC all oj oi &&
  !((wv.contains i||wa.contains i)&& !cS oj.op && !(fs.contains j && decide (i<m))&& !(wv.contains i && wa.contains j)&& !(wa.contains i && wv.contains j))&&
  !((wv.contains j||wa.contains j)&& !cS oi.op && !(fs.contains i && decide (j<m))&& !(wv.contains j && wa.contains i)&& !(wa.contains j && wv.contains i)))||(ms.getD j 0).testBit i)
def PQ (all:Array Oper) (wv wa fs:List Nat) (m:Nat):Bool:=
 let l:=all.toList.zipIdx
 let ms:=bc all.toList []
 (l.all fun(o,j)=>o.after.toList.all fun e=> !Region.binds .any e||decide (e.on<j))&&
 (l.all fun(oj,j)=>l.all fun(oi,i)=> !(decide (i<j))||JB all wv wa fs m ms oi oj i j)&&
 (l.all fun(o,j)=>(!wv.contains j|| !cS o.op)&&(!wa.contains j||Q6 o.op))&&(fs.all fun j=> !wv.contains j && !wa.contains j)&&
 (fs.all fun j=>(wv++wa).all fun i=>decide (i<m)||decide (j<i))&&(wv.all fun j=> !wa.contains j)
def Ho (P:Program) (all:Array Oper) (ow:Nat->Bool) (wv wa fs:List Nat) (m:Nat) (ex:List Nat) (V0:List (List CV)) (A0:List bz) (K:St->Prop):Nat->List Oper->St->Prop
 |_,[],s=>K s
 |i,o::rest,s=>iA all s o (bJ P s (ow i) o fun x V A=>((i∈wv\/V=s.V)/\(i∈wa\/A=s.A))/\(i∈wv\/i∈wa->i<m->V.take V0.length=rJ ex (fun i=>V.getD i []) V0/\A.take A0.length=A0)/\(i∈fs->dI P s (ow i) o ex V0 A0 x)/\
   (i∈wv->∀A2,bJ P ⟨s.fr,s.V,A2⟩ (ow i) o fun y V' A'=>y=x/\V'=V/\A'=A2)/\(i∈wa->PJ o.op=false->∀V2,bJ P ⟨s.fr,V2,s.A⟩ (ow i) o fun y V' A'=>y=x/\V'=V2/\A'=A)/\Ho P all ow wv wa fs m ex V0 A0 K (i+1) rest (s.put o.dst x V A)) (Ho P all ow wv wa fs m ex V0 A0 K (i+1) rest (s.put o.dst (.c .undef) s.V s.A))
section
variable {P:Program} {n:Nat} {Q Q':Exit->St->Prop} {s s':St} {w0:World} {g0 g g':Gh} {a:Act} {w w':World} {V:List (List CV)} {A A':List bz}
def UG (P:Program) (all:Array Oper) (ow:Bool) (wv wa fs:List Nat) (j:Nat) (ex:List Nat) (V0:List (List CV)) (A0:List bz) (o:Oper) (s s':St):Prop:=
 iA all s o True True/\((gw all s o=true/\∃x V A,s'=s.put o.dst x V A/\(∀K:AV->List (List CV)->List bz->Prop,K x V A->bJ P s ow o K)/\(j∈fs->dI P s ow o ex V0 A0 x)/\
  (j∈wv->∀A2,bJ P ⟨s.fr,s.V,A2⟩ ow o fun y V' A'=>y=x/\V'=V/\A'=A2)/\(j∈wa->PJ o.op=false->∀V2,bJ P ⟨s.fr,V2,s.A⟩ ow o fun y V' A'=>y=x/\V'=V2/\A'=A))\/(gw all s o=false/\s'=s.put o.dst (.c .undef) s.V s.A))
structure VL (all:Array Oper) (wv wa:List Nat) (σ:Nat->St) (n:Nat) (w0:World) (g0:Gh) (af:Array Bool) (kv ka:Nat) (g:Gh) (a:Act) (w:World):Prop where
 inv:Inv g w (σ kv).V (σ ka).A
 fr:Fr w0 g0 w g
 size:a.tmps.size=n
 defers:a.defers=[]
 eG:af.size=all.size
 fU:∀(i:Nat) o t x,all[i]? =some o->af[i]? =some true->o.dst=some t->look (σ (i+1)).fr t=some x->∃u,a.tmps[t]? =some u/\aW g w (σ ka).A x u
 fV:∀t x,(∀(i:Nat) o,all[i]? =some o->af[i]? =some true->o.dst≠some t)->look (σ 0).fr t=some x->∃u,a.tmps[t]? =some u/\aW g w (σ ka).A x u
 NS:∀i∈wv,i<all.size->(af[i]? =some true↔i<kv)
 NT:∀i∈wa,i<all.size->(af[i]? =some true↔i<ka)
 Ux:kv<=all.size
 Uy:ka<=all.size
 vw:kv=0\/∃i∈wv,kv=i+1
 aw:ka=0\/∃i∈wa,ka=i+1
 closed:∀(i:Nat) o,all[i]? =some o->af[i]? =some true->∀e∈o.after,Region.binds .any e=true->af[e.on]? =some true
end
end Go.Av
