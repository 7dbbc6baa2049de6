/- A part. -/
import Derived.Test.YtloolmchekcmeaaGreatXB2
set_option linter.unusedVariables false
set_option linter.unusedSimpArgs false
open Int renaming emod_eq_of_lt->Ya
open Option renaming bind_some->Yb
open Nat renaming lt_or_ge->Yc,le_refl->Yd,strongRecOn->Ye,le_trans->Yf,zero_add->Yg,lt_trichotomy->Yh,lt_of_lt_of_le->Yi
open List renaming range->Yj,mem_append->Yk,length_nil->Yl,getD->Ym,all_eq_true->Yn,map_cons->Yo,length_cons->Yp,map_append->Yq,getElem?_eq_some_iff->Yr,getElem?_append_left->Ys,take_append_drop->Yt,mem_range->Yu,mem_iff_getElem?->Yv,map_nil->Yw,getElem?_zipIdx->Yx,contains_eq_mem->Yy,append_assoc->Yz
open Bool renaming and_eq_true->YA,or_eq_true->YB
open Array renaming getElem?_eq_getElem->YC,getElem?_eq_some_iff->YD,getElem?_setIfInBounds_ne->YE,mem_toList_iff->YF,mem_of_getElem?->YG,getD_eq_getD_getElem?->YH
namespace Go.Av
attribute [-simp] Go.Av.aG.b4 Go.Av.aG.bP Go.Av.al.b4 Go.Av.al.mf Go.Av.al.rk Go.Av.al.sj Go.Av.al.sk Go.Av.al.lD Go.Av.al.bP
open Go
section
variable {P:Program} {n:Nat} {Q:Exit->St->Prop} {s s':St} {y:Code}
structure ss (P:Program) (all:Array Oper) (ow:Nat->Bool) (ws fs:List Nat) (m:Nat) (ex:List Nat) (V0:List (List CV)) (A0:List bu) (K:St->Prop) (i:Nat) (ops:List Oper) (s:St):Prop where
 mk::
 run:oH P all ow ws fs m ex V0 A0 K i ops s
theorem bw {all:Array Oper} {ow:Nat->Bool} {ws fs:List Nat} {m:Nat} {ex:List Nat} {V0:List (List CV)} {A0:List bu} {K:St->Prop} {i:Nat} {o:Oper} {rest:List Oper}
  (h:iv all s o (bI P s (ow i) o fun x V A=>(i∈ws\/(V=s.V/\A=s.A))/\(i∈ws->i<m->V.take V0.length=rS ex (fun i=>V.getD i []) V0/\A.take A0.length=A0)/\(i∈fs->dI P s (ow i) o ex V0 A0 x)/\ss P all ow ws fs m ex V0 A0 K (i+1) rest (s.put o.dst x V A)) (ss P all ow ws fs m ex V0 A0 K (i+1) rest (s.put o.dst (.c .undef) s.V s.A))):ss P all ow ws fs m ex V0 A0 K i (o::rest) s:=
 ⟨nP (fun h=>gm (fun _ _ _ h=>⟨h.1,h.2.1,h.2.2.1,h.2.2.2.run⟩) h) (fun h=>h.run) h⟩
theorem bc {all:Array Oper} {ow:Nat->Bool} {ws fs:List Nat} {m:Nat} {ex:List Nat} {V0:List (List CV)} {A0:List bu} {K:St->Prop} {i:Nat} (h:K s):ss P all ow ws fs m ex V0 A0 K i [] s:=⟨h⟩
theorem T.mK {id:Nat} {l:List Oper} (hm:P.follows .mixedOrders=true) (ow:Nat->Bool) (ws fs:List Nat) (m:Nat) (ex:List Nat) (hd:iH l.toArray ws fs m=true) (h:∀K:St->Prop,(∀s',T P n y Q s'->K s')->ss P l.toArray ow ws fs m ex s.V s.A K 0 l s):T P n (.seq (.region id l.toArray true) y) Q s:=
 T.seq (T.sr hm ow ws fs m ex hd (h _ fun _ h=>h).run)
theorem T.Dy {id:Nat} {l:List Oper} (hm:P.follows .mixedOrders=true) (ow:Nat->Bool) (ws fs:List Nat) (m:Nat) (ex:List Nat) (hd:iH l.toArray ws fs m=true) (h:∀K:St->Prop,(∀s',Q .normal s'->K s')->ss P l.toArray ow ws fs m ex s.V s.A K 0 l s):T P n (.region id l.toArray true) Q s:=
 T.sr hm ow ws fs m ex hd (h _ fun _ h=>h).run
@[congr] theorem LF {all:Array Oper} {ow:Nat->Bool} {ws fs:List Nat} {m:Nat} {ex:List Nat} {V0:List (List CV)} {A0:List bu} {K:St->Prop} {i i':Nat} {ops:List Oper} (hi:i=i') (h:s=s'):ss P all ow ws fs m ex V0 A0 K i ops s=ss P all ow ws fs m ex V0 A0 K i' ops s':=by rw[h,hi]
theorem ss.gen {all:Array Oper} {ow:Nat->Bool} {ws fs:List Nat} {m:Nat} {ex:List Nat} {V0:List (List CV)} {A0:List bu} {K:St->Prop} {i:Nat} {ops:List Oper} {d:Nat} {b:Bool} {fr:List (Nat×AV)} {V:List (List CV)} {A:List bu}
  (h:∀q:Bool,b=q->ss P all ow ws fs m ex V0 A0 K i ops ⟨(d,.c (.d (.bool q)))::fr,V,A⟩):ss P all ow ws fs m ex V0 A0 K i ops ⟨(d,.c (.d (.bool b)))::fr,V,A⟩:=h b rfl
end
section
variable {P:Program} {s:St} {r:AV}
theorem aB.pj (l:Nat) {fn:Func} {e:Exit} {row:List DV} (he:e=.normal\/e=.ret) (hr:(fu P s fn.results.toList).bind (ay s.A [l] [])=some [r]) (hV:s.V[l]? =some (row.map CV.d)):aB P fn 0 r (dV [row]) [] e s:=by
 cases hx:fu P s fn.results.toList with
 |none=>rw[hx]at hr;simp at hr
 |some xs=>
  rw[hx]at hr;refine⟨he,[l],[],xs,[r],hx,List.nodup_nil,by simp,by simp,hr,rfl,?_,rfl⟩;refine vY [l] [row] rfl ?_;intro j l' row' h1 h2
  match j with
  |0=>simp at h1 h2;subst h1;subst h2;exact hV
  |j+1=>simp at h1
end
attribute [simp] dI rS
end Go.Av
namespace Go.Av
open Go
def rB (b:List Int):List (List DV):=b.map fun n=>[.int .u8 n]
def okB (b:List Int):Prop:=(∀n∈b,0<=n/\n<=255)/\b.length<=2000
abbrev rd (b:List Int) (p:Nat):List DV:=[.sl (rB b),.i p]
theorem fF (b:List Int):(rB b).length=b.length:=by simp[rB]
theorem NS {b:List Int} {i:Nat} (h:i<b.length):(rB b)[i]? =some [.int .u8 b[i]]:=by simp[rB,h]
theorem Aj {b:List Int} {i:Nat} (h:i<(rB b).length):(rB b)[i]=[.int .u8 (b[i]'(by simpa[rB]using h))]:=by simp[rB]
theorem EL {a n:Int} (ha:0<=a) (hn:0<n):0<=a.tmod n/\a.tmod n<n:=by
 rw[Int.tmod_eq_emod_of_nonneg ha];exact⟨Int.emod_nonneg _ (by omega),Int.emod_lt_of_pos _ hn⟩
theorem tdiv_le {a n:Int} (ha:0<=a) (hn:0<n):0<=a.tdiv n/\a.tdiv n<=a:=by
 rw[Int.tdiv_eq_ediv_of_nonneg ha];exact⟨Int.ediv_nonneg ha (by omega),Int.ediv_le_self _ ha⟩
theorem FL {x y:Int} (hx:0<=x) (gI:x<4611686018427387904) (hy:0<=y) (PI:y<4611686018427387904):0<=Bl .xor .i64 x y/\Bl .xor .i64 x y<4611686018427387904:=by
 have h1:(BitVec.ofInt 64 x).toNat=x.toNat:=by
  rw[BitVec.toNat_ofInt,Ya hx (by omega)]
 have h2:(BitVec.ofInt 64 y).toNat=y.toNat:=by
  rw[BitVec.toNat_ofInt,Ya hy (by omega)]
 have h3:(BitVec.ofInt 64 x ^^^ BitVec.ofInt 64 y).toNat=x.toNat ^^^ y.toNat:=by rw[BitVec.toNat_xor,h1,h2]
 have h4:x.toNat ^^^ y.toNat<2 ^ 62:=Nat.xor_lt_two_pow (by omega) (by omega);have h5:Bl .xor .i64 x y=IntKind.i64.wrap ((x.toNat ^^^ y.toNat:Nat):Int):=by
  show IntKind.i64.wrap ((BitVec.ofInt 64 x ^^^ BitVec.ofInt 64 y).toNat:Int)=_;rw[h3]
 rw[h5,wrap64 (by omega) (by omega)];omega
section
variable {P:Program} {s:St}
theorem tL {all:Array Oper} {o:Oper} {y n:Prop} (h:iv all s o True True) (hy:gw all s o=true->y) (hn:gw all s o=false->n):iv all s o y n:=by
 unfold iv at h⊢;unfold gw at hy hn;cases hg:o.guard with
 |none=>rw[hg]at hy;exact hy rfl
 |some p=>
  obtain⟨j,want⟩:=p;rw[hg]at h hy hn;refine ai h fun oj h1 h2=>ai h2 fun t h3 h4=>ai h4 fun x h5 h6=>?_
  simp only[h1,Yb,h3,h5]at hy hn;show bU (all[j]?) _;rw[h1];show bU oj.dst _;rw[h3];show bU (look s.fr t) _;rw[h5];simp only[bU];split at h6
  ·rename_i b;simp only[beq_iff_eq,beq_eq_false_iff_ne]at hy hn;exact⟨fun e=>hy e,fun e=>hn (by subst e;cases want<;>decide)⟩
  ·exact hn rfl
  ·exact h6.elim
theorem sw {all:Array Oper} {ow:Nat->Bool}:∀(ops:List Oper) (i:Nat) (s:St) {K:St->Prop},wI P all ow K i ops s->∃s',K s'/\∀K':St->Prop,K' s'->wI P all ow K' i ops s
 |[],i,s,K,h=>⟨s,h,fun K' h=>h⟩
 |o::rest,i,s,K,h=>by
  simp only[wI]at h;obtain⟨h0,hg⟩:=fZ h;rcases h0 with⟨h1,h2⟩|⟨h1,h2⟩
  ·obtain⟨x,V,A,h3,h4⟩:=gl h2;obtain⟨s',h5,h6⟩:=sw rest (i+1) _ h3;refine⟨s',h5,fun K' y8=>?_⟩;simp only[wI];exact tL hg (fun _=>h4 _ (h6 K' y8)) (fun e=>by rw[h1]at e;cases e)
  ·obtain⟨s',h5,h6⟩:=sw rest (i+1) _ h2;refine⟨s',h5,fun K' y8=>?_⟩;simp only[wI];exact tL hg (fun e=>by rw[h1]at e;cases e) (fun _=>h6 K' y8)
theorem qc {all:Array Oper} {ow:Nat->Bool} {ws:List Nat}:∀(ops:List Oper) (i:Nat) (s:St) {K:St->Prop},px P all ow ws K i ops s->∃s',K s'/\∀K':St->Prop,K' s'->px P all ow ws K' i ops s
 |[],i,s,K,h=>⟨s,h,fun K' h=>h⟩
 |o::rest,i,s,K,h=>by
  simp only[px]at h;obtain⟨h0,hg⟩:=fZ h;rcases h0 with⟨h1,h2⟩|⟨h1,h2⟩
  ·obtain⟨x,V,A,⟨h3,s7⟩,h4⟩:=gl h2;obtain⟨s',h5,h6⟩:=qc rest (i+1) _ s7;refine⟨s',h5,fun K' y8=>?_⟩;simp only[px];exact tL hg (fun _=>h4 _ ⟨h3,h6 K' y8⟩) (fun e=>by rw[h1]at e;cases e)
  ·obtain⟨s',h5,h6⟩:=qc rest (i+1) _ h2;refine⟨s',h5,fun K' y8=>?_⟩;simp only[px];exact tL hg (fun e=>by rw[h1]at e;cases e) (fun _=>h6 K' y8)
theorem qd {all:Array Oper} {ow:Nat->Bool} {ws fs:List Nat} {m:Nat} {ex:List Nat} {V0:List (List CV)} {A0:List bu}:∀(ops:List Oper) (i:Nat) (s:St) {K:St->Prop},oH P all ow ws fs m ex V0 A0 K i ops s->∃s',K s'/\∀K':St->Prop,K' s'->oH P all ow ws fs m ex V0 A0 K' i ops s
 |[],i,s,K,h=>⟨s,h,fun K' h=>h⟩
 |o::rest,i,s,K,h=>by
  simp only[oH]at h;obtain⟨h0,hg⟩:=fZ h;rcases h0 with⟨h1,h2⟩|⟨h1,h2⟩
  ·obtain⟨x,V,A,⟨h3,s7,h3'',Uz⟩,h4⟩:=gl h2;obtain⟨s',h5,h6⟩:=qd rest (i+1) _ Uz;refine⟨s',h5,fun K' y8=>?_⟩;simp only[oH];exact tL hg (fun _=>h4 _ ⟨h3,s7,h3'',h6 K' y8⟩) (fun e=>by rw[h1]at e;cases e)
  ·obtain⟨s',h5,h6⟩:=qd rest (i+1) _ h2;refine⟨s',h5,fun K' y8=>?_⟩;simp only[oH];exact tL hg (fun e=>by rw[h1]at e;cases e) (fun _=>h6 K' y8)
end
section
variable {P:Program} {n:Nat} {ι:Type} {Q:ι->Exit->St->Prop} {s s':St}
def TX (P:Program) (n:Nat) (c:Code) (Q:ι->Exit->St->Prop) (s:St):Prop:=∃x,T P n c (Q x) s
def EX (Q:ι->Exit->St->Prop) (e:Exit) (s:St):Prop:=∃x,Q x e s
theorem TX.seq {x y:Code} (h:TX P n x (fun i=>wJ P n y (Q i)) s):TX P n (.seq x y) Q s:=h.imp fun _ h=>T.seq h
theorem TX.skip (h:EX Q .normal s):TX P n .skip Q s:=h.imp fun _ h=>T.skip h
theorem TX.exit {id:Nat} (h:EX Q (.exit id) s):TX P n (.exit id) Q s:=h.imp fun _ h=>T.exit h
theorem TX.ret (h:EX Q .ret s):TX P n .ret Q s:=h.imp fun _ h=>T.ret h
theorem TX.block {id:Nat} {c:Code} (h:TX P n c (fun i=>gR id (Q i)) s):TX P n (.block id c) Q s:=h.imp fun _ h=>T.block h
theorem TX.cond {c:Operand} {x y:Code} {b:Bool} (hc:bF s c=some (.c (.d (.bool b)))) (ht:b=true->TX P n x Q s) (hf:b=false->TX P n y Q s):TX P n (.cond c x y) Q s:=by
 cases b
 ·exact(hf rfl).imp fun _ h=>T.cond hc (fun e=>by cases e) (fun _=>h)
 ·exact(ht rfl).imp fun _ h=>T.cond hc (fun _=>h) (fun e=>by cases e)
section
variable {id:Nat} {l:List Oper} {y:Code}
theorem TX.rs (ow:Nat->Bool) (h:∀K:St->Prop,(∀s',TX P n y Q s'->K s')->C7 P l.toArray ow K 0 l s):TX P n (.seq (.region id l.toArray false) y) Q s:=by
 obtain⟨s',⟨x,hx⟩,h2⟩:=sw l 0 s (h (fun s'=>TX P n y Q s') fun _ h=>h).run;exact⟨x,T.rs ow fun K hK=>⟨h2 _ (hK _ hx)⟩⟩
theorem TX.fm (ow:Nat->Bool) (h:∀K:St->Prop,(∀s',EX Q .normal s'->K s')->C7 P l.toArray ow K 0 l s):TX P n (.region id l.toArray false) Q s:=by
 obtain⟨s',⟨x,hx⟩,h2⟩:=sw l 0 s (h (fun s'=>EX Q .normal s') fun _ h=>h).run;exact⟨x,T.fm ow fun K hK=>⟨h2 _ (hK _ hx)⟩⟩
theorem TX.rd (hm:P.follows .mixedOrders=true) (ow:Nat->Bool) (ws:List Nat) (hd:eC l.toArray ws=true) (h:∀K:St->Prop,(∀s',TX P n y Q s'->K s')->tJ P l.toArray ow ws K 0 l s):TX P n (.seq (.region id l.toArray true) y) Q s:=by
 obtain⟨s',⟨x,hx⟩,h2⟩:=qc l 0 s (h (fun s'=>TX P n y Q s') fun _ h=>h).run;exact⟨x,T.rd hm ow ws hd fun K hK=>⟨h2 _ (hK _ hx)⟩⟩
theorem TX.yA (hm:P.follows .mixedOrders=true) (ow:Nat->Bool) (ws:List Nat) (hd:eC l.toArray ws=true) (h:∀K:St->Prop,(∀s',EX Q .normal s'->K s')->tJ P l.toArray ow ws K 0 l s):TX P n (.region id l.toArray true) Q s:=by
 obtain⟨s',⟨x,hx⟩,h2⟩:=qc l 0 s (h (fun s'=>EX Q .normal s') fun _ h=>h).run;exact⟨x,T.yA hm ow ws hd fun K hK=>⟨h2 _ (hK _ hx)⟩⟩
theorem TX.mK (hm:P.follows .mixedOrders=true) (ow:Nat->Bool) (ws fs:List Nat) (m:Nat) (ex:List Nat) (hd:iH l.toArray ws fs m=true) (h:∀K:St->Prop,(∀s',TX P n y Q s'->K s')->ss P l.toArray ow ws fs m ex s.V s.A K 0 l s):TX P n (.seq (.region id l.toArray true) y) Q s:=by
 obtain⟨s',⟨x,hx⟩,h2⟩:=qd l 0 s (h (fun s'=>TX P n y Q s') fun _ h=>h).run;exact⟨x,T.mK hm ow ws fs m ex hd fun K hK=>⟨h2 _ (hK _ hx)⟩⟩
theorem TX.Dy (hm:P.follows .mixedOrders=true) (ow:Nat->Bool) (ws fs:List Nat) (m:Nat) (ex:List Nat) (hd:iH l.toArray ws fs m=true) (h:∀K:St->Prop,(∀s',EX Q .normal s'->K s')->ss P l.toArray ow ws fs m ex s.V s.A K 0 l s):TX P n (.region id l.toArray true) Q s:=by
 obtain⟨s',⟨x,hx⟩,h2⟩:=qd l 0 s (h (fun s'=>EX Q .normal s') fun _ h=>h).run;exact⟨x,T.Dy hm ow ws fs m ex hd fun K hK=>⟨h2 _ (hK _ hx)⟩⟩
end
theorem EX.jd {c:Code} (h:TX P n c Q s):EX (fun i=>wJ P n c (Q i)) .normal s:=h
theorem EX.ig {c:Code} (h:EX Q .ret s):EX (fun i=>wJ P n c (Q i)) .ret s:=h
theorem EX.pE {c:Code} {id:Nat} (h:EX Q (.exit id) s):EX (fun i=>wJ P n c (Q i)) (.exit id) s:=h
theorem EX.iN {id:Nat} (h:EX Q .normal s):EX (fun i=>gR id (Q i)) .normal s:=h
theorem EX.eZ {id:Nat} (h:EX Q .ret s):EX (fun i=>gR id (Q i)) .ret s:=h
theorem EX.lG {id:Nat} (h:EX Q .normal s):EX (fun i=>gR id (Q i)) (.exit id) s:=h.imp fun _ h=>by simpa[gR]using h
def Ak {α:Type} (S:α->St) (m:α->Nat) (H:α->Prop) (k:Nat) (Q:ι->Exit->St->Prop):{a:α // m a<k/\H a}⊕ι->Exit->St->Prop
 |.inl a,e,s=>e=.normal/\Sub (S a.1) s
 |.inr x,e,s=>e≠.normal/\Q x e s
theorem EX.next {α:Type} {S:α->St} {m:α->Nat} {H:α->Prop} {k:Nat} (a:α) (hm:m a<k) (hH:H a) (hs:Sub (S a) s):EX (Ak S m H k Q) .normal s:=⟨.inl ⟨a,hm,hH⟩,rfl,hs⟩
theorem EX.lW {α:Type} {S:α->St} {m:α->Nat} {H:α->Prop} {k:Nat} (h:EX Q .ret s):EX (Ak S m H k Q) .ret s:=h.elim fun x h=>⟨.inr x,by simp,h⟩
theorem EX.HA {α:Type} {S:α->St} {m:α->Nat} {H:α->Prop} {k id:Nat} (h:EX Q (.exit id) s):EX (Ak S m H k Q) (.exit id) s:=h.elim fun x h=>⟨.inr x,by simp,h⟩
theorem Iter.sub {c:Code} {Q:Exit->St->Prop} {k:Nat} {s s':St} (h:Iter P n c Q k s) (hs:Sub s s'):Iter P n c Q k s':=by
 cases k with
 |zero=>exact h.elim
 |succ k=>exact T.sub h hs
theorem TX.gy {α:Type} {c:Code} (S:α->St) (m:α->Nat) (H:α->Prop) (h:∀a,H a->TX P n c (Ak S m H (m a) Q) (S a)) (a:α) (ha:H a) (hs:Sub (S a) s):TX P n (.loop c) Q s:=by
 have key:∀k a,m a=k->H a->∃x j,Iter P n c (Q x) j (S a):=by
  intro k;induction k using Ye with
  |_ k ih=>
   intro a hk ha;obtain⟨y,hy⟩:=h a ha;cases y with
   |inl b=>
    obtain⟨x,j,hx⟩:=ih (m b.1) (by have:=b.2.1;omega) b.1 rfl b.2.2;refine⟨x,j+1,T.mono hy fun e s' h1=>?_⟩;obtain⟨rfl,h2⟩:=h1;exact hx.sub h2
   |inr x=>
    refine⟨x,1,T.mono hy fun e s' h1=>?_⟩;obtain⟨h1,h2⟩:=h1;cases e<;>first|exact absurd rfl h1|exact h2
 obtain⟨x,j,hx⟩:=key _ a rfl ha;exact⟨x,T.mU (hx.sub hs)⟩
end
section
variable {P:Program} {f:FuncId} {fn:Func} {c:Code} {s:St} {e:Exit} {b:List Int}
def bW (P:Program) (f:FuncId) (as:List AV) (V:List (List CV)) (R:AV->List (List CV)->List bu->Prop):Prop:=∃v V' A',R v V' A'/\ah P f as V v V' A'
abbrev Q0 (R:AV->List (List CV)->List bu->Prop):Type:={x:AV×List (List CV)×List bu // R x.1 x.2.1 x.2.2}
abbrev uY (P:Program) (fn:Func) (m:Nat) (R:AV->List (List CV)->List bu->Prop) (x:Q0 R):Exit->St->Prop:=aB P fn m x.1.1 x.1.2.1 x.1.2.2
theorem bW.cA {as:List AV} {V:List (List CV)} {R:AV->List (List CV)->List bu->Prop} (hf:P.funcs[f]? =some fn) (kn:(fn.name== "runtime.NumGoroutine")=false) (hb:fn.body=some c) (eT:codeOk fn.ntmps c=true) (hn:as.length<=fn.ntmps)
  (hV:∀v V' A',R v V' A'->V.length<=V'.length) (h:TX P fn.ntmps c (uY P fn V.length R) ⟨kU as,V,[]⟩):bW P f as V R:=by
 obtain⟨x,hx⟩:=h;exact⟨_,_,_,x.2,ah.cA hf kn hb eT hn (hV _ _ _ x.2) hx⟩
theorem aB.gen {m:Nat} {r:AV} {V':List (List CV)} {A':List bu} (ext ks:List Nat) {ys:List AV} (he:e=.normal\/e=.ret) (mJ:(fu P s fn.results.toList).bind (ay s.A (Yj m++ext) ks)=some ys) (hr:one ys=r)
  (hV:fD s.A s.V (Yj m++ext) ks (Yj m++ext)=some V') (hA:dS s.A ks=some A') (l7:ks.Nodup) (Jv:ext.Nodup) (hm:∀l∈ext,m<=l):aB P fn m r V' A' e s:=by
 cases hx:fu P s fn.results.toList with
 |none=>rw[hx]at mJ;simp at mJ
 |some xs=>rw[hx]at mJ;exact⟨he,ext,ks,xs,ys,hx,l7,Jv,hm,mJ,hr.symm,hV,hA⟩
theorem aB.Dz {r:AV} {a:bu} (k:Nat) {ys:List AV} (he:e=.normal\/e=.ret) (mJ:(fu P s fn.results.toList).bind (ay s.A [] [k])=some ys) (hr:one ys=r) (hA:s.A[k]? =some a):aB P fn 0 r [] [a] e s:=
 aB.gen [] [k] he (by simpa using mJ) hr rfl (by simp[dS,hA]) (by simp) (by simp) (by simp)
def bB (P:Program) (f:FuncId) (as:List AV) (b:List Int) (p N:Nat) (R:AV->List bu->Prop):Prop:=
 bW P f (.c (.ptr 0 0)::as) (dV [rd b p]) fun v V' A'=>∃p',V'=dV [rd b p']/\p<=p'/\p'<=p+N/\R v A'
theorem EX.draw {p N p':Nat} {R:AV->List bu->Prop} (ks:List Nat) {ys:List AV} {A':List bu} (he:e=.normal\/e=.ret) (mJ:(fu P s fn.results.toList).bind (ay s.A [0] ks)=some ys) (hV:s.V[0]? =some ((rd b p').map CV.d)) (hA:dS s.A ks=some A') (l7:ks.Nodup)
  (h1:p<=p') (h2:p'<=p+N) (hR:R (one ys) A'):EX (uY P fn 1 (fun v V' A'=>∃p',V'=dV [rd b p']/\p<=p'/\p'<=p+N/\R v A')) e s:=by
 refine⟨⟨(one ys,dV [rd b p'],A'),p',rfl,h1,h2,hR⟩,?_⟩;refine aB.gen [] ks he (by simpa using mJ) rfl ?_ hA l7 (by simp) (by simp);refine vY [0] [rd b p'] rfl ?_;intro j l' row' h1 h2
 match j with
 |0=>simp at h1 h2;subst h1;subst h2;exact hV
 |j+1=>simp at h1
theorem BJ (l:Nat) {p N:Nat} {R:AV->List bu->Prop} {xs as:List AV} {K:AV->List (List CV)->List bu->Prop} (ef:s.V[l]? =some ((rd b p).map CV.d)) (b8:ib s.A [l] xs=some (.c (.ptr 0 0)::as)) (hd:bB P f as b p N R)
  (hK:∀v A' p',R v A'->p<=p'->p'<=p+N->K (v.fS [l] s.V.length s.A.length) (s.V.set l ((rd b p').map CV.d)) (bQ s.A (bA xs)++A')):gJ P s f xs K:=by
 obtain⟨v,V',A',⟨p',rfl,h1,h2,hR⟩,hc⟩:=hd;refine .inl ⟨[l],_,dV [rd b p],v,dV [rd b p'],A',by simp,b8,vX [l] [rd b p] rfl ?_,hc,?_⟩
 ·intro j l' row'' h1 h2
  match j with
  |0=>simp at h1 h2;subst h1;subst h2;exact ef
  |j+1=>simp at h1
 ·obtain⟨ds,vU⟩:=nQ (V:=s.V) [l] [rd b p] rfl (by
   intro j l' row'' h1 h2
   match j with
   |0=>simp at h1 h2;subst h1;subst h2;exact ef
   |j+1=>simp at h1)
  rw[vU,mC,sh];have hp:ck s.A.length s.V.length [l] s.V [l] (dV [rd b p'])=s.V.set l ((rd b p').map CV.d):=by
   simp only[dV,Yo,Yw,ck,List.append_nil]
   rfl
  rw[hp];exact hK v A' p' hR h1 h2
theorem fX {xs as:List AV} {r:AV} {A':List bu} {K:AV->List (List CV)->List bu->Prop} (b8:ib s.A [] xs=some as) (hc:ah P f as [] r [] A') (hK:K (r.fS [] s.V.length s.A.length) s.V (bQ s.A (bA xs)++A')):gJ P s f xs K:=by
 refine .inl ⟨[],as,[],r,[],A',by simp,b8,rfl,hc,?_⟩;simpa[ck,bK]using hK
abbrev RV {α:Type} (enc:α->AV) (arr:α->List bu) (good:α->Prop):AV->List bu->Prop:=fun v A'=>∃x,(v=enc x/\A'=arr x)/\good x
abbrev vJ {α:Type}:α->List bu:=fun _=>[]
theorem aD (l:Nat) {α:Type} {enc:α->AV} {arr:α->List bu} {good:α->Prop} {p N:Nat} {xs as:List AV} {K:AV->List (List CV)->List bu->Prop} (ef:s.V[l]? =some ((rd b p).map CV.d)) (b8:ib s.A [l] xs=some (.c (.ptr 0 0)::as)) (hd:bB P f as b p N (RV enc arr good))
  (hK:∀x p',good x->p<=p'->p'<=p+N->K ((enc x).fS [l] s.V.length s.A.length) (s.V.set l ((rd b p').map CV.d)) (bQ s.A (bA xs)++arr x)):gJ P s f xs K:=
 BJ l ef b8 hd fun _ _ p' h h1 h2=>by obtain⟨x,⟨rfl,rfl⟩,hg⟩:=h;exact hK x p' hg h1 h2
theorem EX.dr {α:Type} {enc:α->AV} {arr:α->List bu} {good:α->Prop} {p N p':Nat} (ks:List Nat) (x:α) {ys:List AV} (he:e=.normal\/e=.ret) (mJ:(fu P s fn.results.toList).bind (ay s.A [0] ks)=some ys) (hx:one ys=enc x) (hV:s.V[0]? =some ((rd b p').map CV.d)) (hA:dS s.A ks=some (arr x)) (l7:ks.Nodup)
  (h1:p<=p') (h2:p'<=p+N) (hg:good x):EX (uY P fn 1 (fun v V' A'=>∃p',V'=dV [rd b p']/\p<=p'/\p'<=p+N/\RV enc arr good v A')) e s:=
 EX.draw ks he mJ hV hA l7 h1 h2 ⟨x,⟨hx,rfl⟩,hg⟩
theorem bB.mk {α:Type} {enc:α->AV} {arr:α->List bu} {good:α->Prop} {p p' N:Nat} {as:List AV} (x:α) (hg:good x) (h1:p<=p') (h2:p'<=p+N) (hc:ah P f (.c (.ptr 0 0)::as) (dV [rd b p]) (enc x) (dV [rd b p']) (arr x)):bB P f as b p N (RV enc arr good):=
 ⟨_,_,_,⟨p',rfl,h1,h2,x,⟨rfl,rfl⟩,hg⟩,hc⟩
theorem bB.mono {α:Type} {enc:α->AV} {arr:α->List bu} {good good':α->Prop} {p N N':Nat} {as:List AV} (h:bB P f as b p N (RV enc arr good)) (hN:N<=N') (hg:∀x,good x->good' x):bB P f as b p N' (RV enc arr good'):=by
 obtain⟨v,V',A',⟨p',h1,h2,h3,x,h4,h5⟩,hc⟩:=h;exact⟨v,V',A',⟨p',h1,h2,by omega,x,h4,hg x h5⟩,hc⟩
theorem bB.cA {p N:Nat} {as:List AV} {R:AV->List bu->Prop} (hf:P.funcs[f]? =some fn) (kn:(fn.name== "runtime.NumGoroutine")=false) (hb:fn.body=some c) (eT:codeOk fn.ntmps c=true) (hn:as.length+1<=fn.ntmps)
  (h:TX P fn.ntmps c (uY P fn 1 (fun v V' A'=>∃p',V'=dV [rd b p']/\p<=p'/\p'<=p+N/\R v A')) ⟨kU (.c (.ptr 0 0)::as),dV [rd b p],[]⟩):bB P f as b p N R:=
 bW.cA hf kn hb eT hn (by rintro v V' A' ⟨p',rfl,-⟩;simp) h
def dn (P:Program) (f:FuncId) (as:List AV) (R:AV->List bu->Prop):Prop:=bW P f as [] fun v V' A'=>V'=[]/\R v A'
theorem dn.cA {as:List AV} {R:AV->List bu->Prop} (hf:P.funcs[f]? =some fn) (kn:(fn.name== "runtime.NumGoroutine")=false) (hb:fn.body=some c) (eT:codeOk fn.ntmps c=true) (hn:as.length<=fn.ntmps)
  (h:TX P fn.ntmps c (uY P fn 0 (fun v V' A'=>V'=[]/\R v A')) ⟨kU as,[],[]⟩):dn P f as R:=
 bW.cA hf kn hb eT hn (by rintro v V' A' ⟨rfl,-⟩;simp) h
theorem EX.sm {α:Type} {enc:α->AV} {arr:α->List bu} {good:α->Prop} (ks:List Nat) (x:α) {ys:List AV} (he:e=.normal\/e=.ret) (mJ:(fu P s fn.results.toList).bind (ay s.A [] ks)=some ys) (hx:one ys=enc x) (hA:dS s.A ks=some (arr x)) (l7:ks.Nodup) (hg:good x):
  EX (uY P fn 0 (fun v V' A'=>V'=[]/\RV enc arr good v A')) e s:=by
 refine⟨⟨(one ys,[],arr x),rfl,x,⟨hx,rfl⟩,hg⟩,?_⟩;exact aB.gen [] ks he (by simpa using mJ) rfl rfl hA l7 (by simp) (by simp)
theorem BK {α:Type} {enc:α->AV} {arr:α->List bu} {good:α->Prop} {xs as:List AV} {K:AV->List (List CV)->List bu->Prop} (b8:ib s.A [] xs=some as) (hd:dn P f as (RV enc arr good))
  (hK:∀x,good x->K ((enc x).fS [] s.V.length s.A.length) s.V (bQ s.A (bA xs)++arr x)):gJ P s f xs K:=by
 obtain⟨v,V',A',⟨rfl,x,⟨rfl,rfl⟩,hg⟩,hc⟩:=hd;exact fX b8 hc (hK x hg)
theorem BL {row:List DV} {xs as:List AV} {r:AV} {K:AV->List (List CV)->List bu->Prop} (b8:ib s.A [] xs=some as) (hc:ah P f as [] r (dV [row]) []) (hK:K (r.fS [] s.V.length s.A.length) (s.V++[row.map CV.d]) (bQ s.A (bA xs))):gJ P s f xs K:=by
 refine .inl ⟨[],as,[],r,dV [row],[],by simp,b8,rfl,hc,?_⟩;have hm:(row.map CV.d).map (CV.fS [] s.V.length s.A.length)=row.map CV.d:=by
  rw[List.map_map];rfl
 have hp:ck s.A.length s.V.length [] s.V [] (dV [row])=s.V++[row.map CV.d]:=by
  simp only[dV,Yo,Yw,ck,hm]
 rw[hp];simpa[bK]using hK
end
section
variable {P:Program} {n:Nat} {ι:Type} {Q:ι->Exit->St->Prop} {s s':St} {c:Code}
def LX (P:Program) (n:Nat) (c:Code) (Q:ι->Exit->St->Prop) (s:St):Prop:=∃x j,Iter P n c (Q x) j s
def FM (P:Program) (n:Nat) (c:Code) (Q:ι->Exit->St->Prop):ι×Nat->Exit->St->Prop
 |(x,j),.normal,s=>Iter P n c (Q x) j s
 |(x,_),e,s=>Q x e s
theorem LX.nW (h:TX P n c (FM P n c Q) s):LX P n c Q s:=by
 obtain⟨⟨x,j⟩,h⟩:=h;exact⟨x,j+1,T.mono h fun e s' h1=>by cases e<;>exact h1⟩
theorem TX.nW (h:TX P n c (FM P n c Q) s):TX P n (.loop c) Q s:=by
 obtain⟨x,j,h⟩:=LX.nW h;exact⟨x,T.mU h⟩
theorem EX.Al (h:TX P n c (FM P n c Q) s):EX (FM P n c Q) .normal s:=by
 obtain⟨x,j,h⟩:=LX.nW h;exact⟨(x,j),h⟩
theorem EX.lX (h:EX Q .ret s):EX (FM P n c Q) .ret s:=h.imp' (fun x=>(x,0)) fun _ h=>h
theorem EX.FN {id:Nat} (h:EX Q (.exit id) s):EX (FM P n c Q) (.exit id) s:=h.imp' (fun x=>(x,0)) fun _ h=>h
end
section
variable {P:Program} {n:Nat} {s:St} {c:Code}
def iE:List Nat->List (Nat×AV)->List (Nat×AV)
 |[],_=>[]
 |t::r,fr=>match look fr t with
  |some x=>(t,x)::iE r fr
  |none=>iE r fr
def iy:List (Nat×List CV)->List (List CV)->List (List CV)
 |[],V=>V
 |p::r,V=>iy r (V.set p.1 p.2)
attribute [simp] iE iy
end
end Go.Av
namespace Go.Av
open Go
def eJ (r:List DV) (t:aG):Prop:=r=cx t
def aZ (rs:List (List DV)) (ts:List aG):Prop:=rs=ts.map cx
def cP (r:List DV) (e:al):Prop:=r=ie e
def aY (rs:List (List DV)) (es:List al):Prop:=rs=es.map ie
structure ea (k:Int) (rs:List (List DV)) (t:aG):Prop where
 k:k=t.kind
 rs:rs=t.kids.map cx
theorem ea.var (t:aG):ea t.kind (t.kids.map cx) t:=⟨rfl,rfl⟩
theorem ea.node {k:Int} {rs:List (List DV)} {ts:List aG} (h:aZ rs ts):ea k rs (.mk k ts):=⟨rfl,h⟩
theorem eJ.of {k:Int} {rs:List (List DV)} {t:aG} (h:ea k rs t):eJ [.int .i64 k,.sl rs] t:=by rw[eJ,aL,<-h.k,<-h.rs]
theorem eJ.row (t:aG):eJ (cx t) t:=rfl
theorem aZ.map (l:List aG):aZ (l.map cx) l:=rfl
theorem aZ.nil:aZ [] []:=rfl
theorem aZ.cons {r:List DV} {rs:List (List DV)} {t:aG} {ts:List aG} (h:eJ r t) (hs:aZ rs ts):aZ (r::rs) (t::ts):=by rw[aZ,Yo,<-hs,<-h]
theorem aZ.app {rs rs':List (List DV)} {ts ts':List aG} (h:aZ rs ts) (h':aZ rs' ts'):aZ (rs++rs') (ts++ts'):=by rw[aZ,Yq,<-h,<-h']
theorem cP.row (e:al):cP (ie e) e:=rfl
theorem cP.var (e:al):cP [.int .i64 e.kind,.str e.name,.int .i64 e.num,.int .i64 e.ty.kind,.sl (e.ty.kids.map cx),.int .i64 e.fr.kind,.sl (e.fr.kids.map cx),.int .i64 e.label,.sl (e.kids.map ie)] e:=by rw[cP,au]
theorem cP.node {k n k1 k2 lb:Int} {s:List UInt8} {r1 r2 r3:List (List DV)} {t f:aG} {es:List al} (h1:ea k1 r1 t) (h2:ea k2 r2 f) (h3:aY r3 es):
  cP [.int .i64 k,.str s,.int .i64 n,.int .i64 k1,.sl r1,.int .i64 k2,.sl r2,.int .i64 lb,.sl r3] (.mk k s n t f lb es):=by
 rw[cP,au,h1.k,h1.rs,h2.k,h2.rs,h3];rfl
theorem aY.map (l:List al):aY (l.map ie) l:=rfl
theorem aY.nil:aY [] []:=rfl
theorem aY.cons {r:List DV} {rs:List (List DV)} {t:al} {ts:List al} (h:cP r t) (hs:aY rs ts):aY (r::rs) (t::ts):=by rw[aY,Yo,<-hs,<-h]
theorem aY.app {rs rs':List (List DV)} {ts ts':List al} (h:aY rs ts) (h':aY rs' ts'):aY (rs++rs') (ts++ts'):=by rw[aY,Yq,<-h,<-h']
def bk {α:Type} (enc:α->AV) (v:AV) (x:α):Prop:=v=enc x
theorem bk.ty {k:Int} {rs:List (List DV)} {t:aG} (h:ea k rs t):bk dF (.agg [.d (.int .i64 k),.d (.sl rs)]) t:=by rw[bk,h.k,h.rs]
theorem bk.yd (e:al):bk cL (.agg [.d (.int .i64 e.kind),.d (.str e.name),.d (.int .i64 e.num),.d (.int .i64 e.ty.kind),.d (.sl (e.ty.kids.map cx)),.d (.int .i64 e.fr.kind),.d (.sl (e.fr.kids.map cx)),.d (.int .i64 e.label),.d (.sl (e.kids.map ie))]) e:=rfl
theorem bk.tm {k n k1 k2 lb:Int} {s:List UInt8} {r1 r2 r3:List (List DV)} {t f:aG} {es:List al} (h1:ea k1 r1 t) (h2:ea k2 r2 f) (h3:aY r3 es):
  bk cL (.agg [.d (.int .i64 k),.d (.str s),.d (.int .i64 n),.d (.int .i64 k1),.d (.sl r1),.d (.int .i64 k2),.d (.sl r2),.d (.int .i64 lb),.d (.sl r3)]) (.mk k s n t f lb es):=by
 rw[bk,cL,h1.k,h1.rs,h2.k,h2.rs,h3];rfl
abbrev aP {α β:Type} (f:α->AV) (g:β->AV):α×β->AV:=fun x=>.a8 [f x.1,g x.2]
abbrev UA {α β γ:Type} (f:α->AV) (g:β->AV) (h:γ->AV):α×β×γ->AV:=fun x=>.a8 [f x.1,g x.2.1,h x.2.2]
theorem bk.p2 {α β:Type} {f:α->AV} {g:β->AV} {v u:AV} {a:α} {b:β} (h:bk f v a) (h':bk g u b):bk (aP f g) (.a8 [v,u]) (a,b):=by rw[bk,h,h']
theorem bk.p3 {α β γ:Type} {f:α->AV} {g:β->AV} {i:γ->AV} {v u w:AV} {a:α} {b:β} {c:γ} (h:bk f v a) (h':bk g u b) (h'':bk i w c):bk (UA f g i) (.a8 [v,u,w]) (a,b,c):=by rw[bk,h,h',h'']
abbrev LG (l:List aG):AV:=.l (l.map cx)
abbrev Q1 (l:List al):AV:=.l (l.map ie)
abbrev kN (l:List dt):AV:=.l (l.map iC)
theorem bk.wP {rs:List (List DV)} {ts:List aG} (h:aZ rs ts):bk LG (.c (.d (.sl rs))) ts:=by rw[bk,h]
theorem bk.ye {rs:List (List DV)} {ts:List al} (h:aY rs ts):bk Q1 (.c (.d (.sl rs))) ts:=by rw[bk,h]
def a6 (rs:List (List DV)) (ts:List dt):Prop:=rs=ts.map iC
theorem a6.map (l:List dt):a6 (l.map iC) l:=rfl
theorem a6.nil:a6 [] []:=rfl
theorem a6.cons {s:List UInt8} {k:Int} {r1 rs:List (List DV)} {t:aG} {ts:List dt} (h:ea k r1 t) (hs:a6 rs ts):a6 ([.str s,.int .i64 k,.sl r1]::rs) (⟨s,t⟩::ts):=by rw[a6,Yo,<-hs,iC,h.k,h.rs]
theorem a6.app {rs rs':List (List DV)} {ts ts':List dt} (h:a6 rs ts) (h':a6 rs' ts'):a6 (rs++rs') (ts++ts'):=by rw[a6,Yq,<-h,<-h']
theorem bk.yf {rs:List (List DV)} {ts:List dt} (h:a6 rs ts):bk kN (.c (.d (.sl rs))) ts:=by rw[bk,h]
theorem bk.int (n:Int):bk (fun n:Int=>.i n) (.c (.d (.int .i64 n))) n:=rfl
theorem bk.str (s:List UInt8):bk (fun s:List UInt8=>.s s) (.c (.d (.str s))) s:=rfl
theorem bk.bool (s:Bool):bk (fun s:Bool=>.b s) (.c (.d (.bool s))) s:=rfl
section
variable {P:Program} {f:FuncId} {fn:Func} {c:Code} {s:St} {e:Exit} {b:List Int}
theorem EX.y9 {α:Type} {enc:α->AV} {arr:α->List bu} {good:α->Prop} {p N p':Nat} (ks:List Nat) {x:α} {ys:List AV} {v:AV} (he:e=.normal\/e=.ret) (mJ:(fu P s fn.results.toList).bind (ay s.A [0] ks)=some ys) (hv:one ys=v) (hx:bk enc v x) (hV:s.V[0]? =some ((rd b p').map CV.d)) (hA:dS s.A ks=some (arr x)) (l7:ks.Nodup)
  (h1:p<=p') (h2:p'<=p+N) (hg:good x):EX (uY P fn 1 (fun v V' A'=>∃p',V'=dV [rd b p']/\p<=p'/\p'<=p+N/\RV enc arr good v A')) e s:=
 EX.dr ks x he mJ (hv.trans hx) hV hA l7 h1 h2 hg
theorem EX.KP {α:Type} {enc:α->AV} {arr:α->List bu} {good:α->Prop} (ks:List Nat) {x:α} {ys:List AV} {v:AV} (he:e=.normal\/e=.ret) (mJ:(fu P s fn.results.toList).bind (ay s.A [] ks)=some ys) (hv:one ys=v) (hx:bk enc v x) (hA:dS s.A ks=some (arr x)) (l7:ks.Nodup) (hg:good x):
  EX (uY P fn 0 (fun v V' A'=>V'=[]/\RV enc arr good v A')) e s:=
 EX.sm ks x he mJ (hv.trans hx) hA l7 hg
end
theorem sA (d:Nat) (k:Int) (l:List aG):ak (d+1) (.mk k l)=(decide (cy k=l.length)&& l.all (ak d)):=rfl
def lY (c:UInt8):List UInt8->List UInt8
 |[]=>[c]
 |x::r=>if x<c then x::lY c r else if x=c then x::r else c::x::r
theorem wQ (c:UInt8):∀(s:List UInt8),(lY c s).length<=s.length+1
 |[]=>by simp[lY]
 |x::r=>by
  have:=wQ c r;simp only[lY];split
  ·simp;omega
  ·split<;>simp
theorem yB (x c:UInt8):Op.bytesLess [x] [c]=decide (x<c):=by
 simp only[Op.bytesLess];by_cases h:x<c
 ·simp[h]
 ·by_cases h2:x=c
  ·subst h2;simp
  ·simp[h,h2]
theorem sC:∀(l m:List aG),cS (l++m)=cS l+cS m
 |[],m=>by simp[cS]
 |x::l,m=>by simp[cS,sC l m];omega
theorem cQ (k:Int) (l:List aG):fE (.mk k l)=cS l:=by simp[fE]
theorem fg (k:Int) (s:List UInt8) (n:Int) (t f:aG) (b:Int) (l:List al):e9 (.mk k s n t f b l)=s.length+fE t+fE f+fa l:=by simp[e9]
theorem zc {α:Type} {s:List α} {k:Nat} (h:k<s.length):(s.take (k+1)).drop k=[s[k]]:=by
 rw[List.take_add_one,List.getElem?_eq_getElem h,List.drop_append_of_le_length (by simp;omega)];simp
@[simp] theorem cU {α:Type} (G X:List α) (k:Nat):(G++X).take (G.length+k)=G++X.take k:=by
 rw[List.take_append,List.take_of_length_le (by omega),show G.length+k-G.length=k by omega]
theorem tM:ak 4 bt=true:=rfl
theorem wR:ak 4 cm=true:=rfl
theorem DA:ak 4 aW=false:=rfl
mutual
def eL:aG->aG->Bool
 |.mk k l,.mk k' l'=>decide (k=k')&& j9 l l'
def j9:List aG->List aG->Bool
 |[],[]=>true
 |x::xs,y::ys=>eL x y && j9 xs ys
 |_,_=>false
end
theorem sD:∀(l m:List aG),j9 l m=jm eL l m
 |[],[]=>rfl
 |x::xs,y::ys=>by simp[j9,jm,sD xs ys]
 |[],_::_=>rfl
 |_::_,[]=>rfl
theorem DB (a b:aG):eL a b=(decide (a.kind=b.kind)&& jm eL a.kids b.kids):=by
 cases a;cases b;simp only[eL,sD];rfl
mutual
theorem tN:∀(a b:aG),eL a b=true->a=b
 |.mk k l,.mk k' l',h=>by
  simp only[eL,YA,decide_eq_true_eq]at h;obtain⟨rfl,h⟩:=h;rw[wS l l' h]
theorem wS:∀(l m:List aG),j9 l m=true->l=m
 |[],[],_=>rfl
 |x::xs,y::ys,h=>by
  simp only[j9,YA]at h;rw[tN x y h.1,wS xs ys h.2]
 |[],_::_,h=>by simp[j9]at h
 |_::_,[],h=>by simp[j9]at h
end
mutual
theorem uZ:∀(a:aG),eL a a=true
 |.mk k l=>by simp[eL,sE l]
theorem sE:∀(l:List aG),j9 l l=true
 |[]=>rfl
 |x::xs=>by simp[j9,uZ x,sE xs]
end
def qN (n:Int) (e:al) (f t:aG):al×Int:=if eL f t=true then(e,n)else(.mk 14 [] 0 t f (n+1) [e],n+1)
def cD (ctx:List dt) (k:Int) (name:List UInt8) (ty:aG) (ts:List aG):Option (List aG×aG):=
 if k=1 then(cK ctx name).map fun t=>([],t)
 else if k=2 then some ([],bt)
 else if k=3\/k=4 then some ([],cm)
 else match ts with
  |[a]=>
   if k=5 then some ([],.mk 4 [ty,a])
   else if k=11 then(ch 5 a).map fun p=>([.mk 5 [p.1,p.2]],p.1)
   else if k=12 then(ch 5 a).map fun p=>([.mk 5 [p.1,p.2]],p.2)
   else if k=13 then if aE a ty=true then some ([ty],ty)else none
   else none
  |[a,b]=>
   if k=6 then match ch 4 a with
    |some (x,y)=>if aE b x=true then some ([.mk 4 [x,y],x],y)else none
    |none=>none
   else if k=7 then if aE a bt=true/\aE b bt=true then some ([bt,bt],bt)else none
   else if k=8 then if aE a bt=true/\aE b bt=true then some ([bt,bt],cm)else none
   else if k=10 then some ([],.mk 5 [a,b])
   else none
  |[a,b,c]=>if k=9 then if aE a cm=true/\aE b c=true then some ([cm,bG b c,bG b c],bG b c)else none else none
  |_=>none
def je:Int->List al->List aG->List aG->List al×Int
 |n,e::es,h::hs,w::ws=>let(e',m):=qN n e h w;let(r,m'):=je m es hs ws;(e'::r,m')
 |n,es,_,_=>(es,n)
def nX (ctx:List dt) (k:Int) (name:List UInt8) (num:Int) (ty fr:aG) (lb:Int):Option (List al×List aG)×Int->Option (al×aG)×Int
 |(none,n)=>(none,n)
 |(some (es,ts),n)=>match cD ctx k name ty ts with
  |none=>(none,n)
  |some (ws,t)=>if ak 4 t=true then
   let(es',m):=je n es ts ws
   if k=13 then(es'.head?.map fun x=>(x,t),m)else(some (.mk k name num ty fr lb es',t),m)
   else(none,n)
def pF:Option (al×aG)×Int->(Int->Option (List al×List aG)×Int)->Option (List al×List aG)×Int
 |(none,n),_=>(none,n)
 |(some (e,t),n),f=>match f n with
  |(none,m)=>(none,m)
  |(some (es,ts),m)=>(some (e::es,t::ts),m)
mutual
def gB:List dt->al->Int->Option (al×aG)×Int
 |ctx,.mk k s n t f b l,c=>nX ctx k s n t f b (eW (if k=5 then ctx++[⟨s,t⟩]else ctx) l c)
def eW:List dt->List al->Int->Option (List al×List aG)×Int
 |_,[],c=>(some ([],[]),c)
 |ctx,e::r,c=>pF (gB ctx e c) (eW ctx r)
end
theorem tO (ctx:List dt) (e:al) (c:Int):gB ctx e c=nX ctx e.kind e.name e.num e.ty e.fr e.label (eW (cw ctx e) e.kids c):=by
 cases e;simp only[gB];rfl
theorem FO {ctx:List dt} {e:al} {ts:List aG} (hc:iD ctx) (he:cb e.kind=true->ak 4 e.ty=true) (bM:∀u∈ts,ak 4 u=true):
  bH ctx e.kind e.name e.ty ts=(cD ctx e.kind e.name e.ty ts).bind fun p=>if ak 4 p.2=true then some p.2 else none:=by
 have hI:ak 4 bt=true:=rfl;have hB:ak 4 cm=true:=rfl;simp only[bH,cD];split
 ·cases hl:cK ctx e.name with
  |none=>rfl
  |some t=>
   obtain⟨b,h1,h2,_⟩:=pC hl;have:ak 4 t=true:=by rw[<-h2];exact hc b h1
   simp[this]
 split
 ·simp[hI]
 split
 ·simp[hB]
 split
 ·rename_i a;have ha:=bM a (by simp);split
  ·simp[nS]
  split
  ·cases hm:ch 5 a with
   |none=>simp[hm]
   |some p=>obtain⟨x,y⟩:=p;simp[hm,(eP hm ha).1]
  split
  ·cases hm:ch 5 a with
   |none=>simp[hm]
   |some p=>obtain⟨x,y⟩:=p;simp[hm,(eP hm ha).2]
  split
  ·rename_i dG;by_cases hq:aE a e.ty=true
   ·simp[hq,he (by simp[cb,dG])]
   ·simp[hq]
  ·rfl
 ·rename_i a b;have ha:=bM a (by simp);have hb:=bM b (by simp);split
  ·cases hm:ch 4 a with
   |none=>simp[hm]
   |some p=>
    obtain⟨x,y⟩:=p;by_cases hq:aE b x=true
    ·simp[hm,hq,(eP hm ha).2]
    ·simp[hm,hq]
  split
  ·by_cases hq:aE a bt=true/\aE b bt=true
   ·simp[hq,hI]
   ·simp[hq]
  split
  ·by_cases hq:aE a bt=true/\aE b bt=true
   ·simp[hq,hB]
   ·simp[hq]
  split
  ·simp[nS]
  ·rfl
 ·rename_i a b c;split
  ·by_cases h1:aE b c=true
   ·by_cases h2:aE a cm=true
    ·simp[h1,h2,nT 4 b c (bM b (by simp)) (bM c (by simp)) h1]
    ·simp[h1,h2]
   ·simp[h1]
  ·rfl
 ·first|rfl|(split<;>first|rfl|(exfalso;simp_all))
theorem zd:∀(n:Int) (es:List al) (hs ws:List aG),(je n es hs ws).1.length=es.length
 |n,[],hs,ws=>by cases hs<;>cases ws<;>rfl
 |n,e::es,[],ws=>by cases ws<;>rfl
 |n,e::es,h::hs,[]=>rfl
 |n,e::es,h::hs,w::ws=>by simp[je,zd _ es hs ws]
theorem tP:∀{ctx:List dt} {l:List al} {c:Int} {es:List al} {ts:List aG} {m:Int},eW ctx l c=(some (es,ts),m)->es.length=l.length/\ts.length=l.length
 |ctx,[],c,es,ts,m,h=>by simp[eW]at h;obtain⟨⟨rfl,rfl⟩,rfl⟩:=h;simp
 |ctx,e::r,c,es,ts,m,h=>by
  simp only[eW]at h;cases he:gB ctx e c with
  |mk o n=>
   rw[he]at h;cases o with
   |none=>simp[pF]at h
   |some p=>
    obtain⟨x,t⟩:=p;simp only[pF]at h;cases hr:eW ctx r n with
    |mk o2 n2=>
     rw[hr]at h;cases o2 with
     |none=>simp at h
     |some q=>
      obtain⟨xs,us⟩:=q;simp at h;obtain⟨⟨rfl,rfl⟩,rfl⟩:=h;have:=tP hr;simp[this.1,this.2]
theorem ze:∀(e:al) (d:Nat) (ctx:List dt) (c:Int),bg 14 d e=true->iD ctx->(gB ctx e c).1.map (·.2)=bO ctx e:=by
 intro e;induction e using al.ind with
 |h e ih=>
  intro d ctx c hs hc;obtain⟨d',_,_,hlen,dP,jc⟩:=fV hs;have b8:iD (cw ctx e):=by
   simp only[cw];split
   ·rename_i h5;intro b hb;simp only[Yk,List.mem_singleton]at hb;rcases hb with hb|rfl
    ·exact hc b hb
    ·exact gX dP (by simp[cb,h5])
   ·exact hc
  rw[tO,mZ];have hl:∀(l:List al),(∀u∈l,u∈e.kids)->∀c,(eW (cw ctx e) l c).1.map (·.2)=c5 (cw ctx e) l/\∀es ts m,eW (cw ctx e) l c=(some (es,ts),m)->∀u∈ts,ak 4 u=true:=by
   intro l;induction l with
   |nil=>intro _ c;exact⟨rfl,fun es ts m h=>by simp[eW]at h;obtain⟨⟨rfl,rfl⟩,rfl⟩:=h;simp⟩
   |cons x r ihl=>
    intro hm c;have hx:=ih x (hm x (by simp)) d' (cw ctx e) c (jc x (hm x (by simp))) b8;simp only[eW,c5];cases he:gB (cw ctx e) x c with
    |mk o n=>
     rw[he]at hx;cases o with
     |none=>
      simp at hx;rw[<-hx];exact⟨rfl,fun es ts m h=>by simp[pF]at h⟩
     |some p=>
      obtain⟨y,t⟩:=p;simp at hx;rw[<-hx];have ht:=cN x d' 14 _ t (jc x (hm x (by simp))) b8 hx.symm;obtain⟨h1,h2⟩:=ihl (fun u hu=>hm u (by simp[hu])) n;simp only[pF];cases hr:eW (cw ctx e) r n with
      |mk o2 n2=>
       rw[hr]at h1 h2;cases o2 with
       |none=>
        simp at h1;rw[<-h1];exact⟨rfl,fun es ts m h=>by simp at h⟩
       |some q=>
        obtain⟨xs,us⟩:=q;simp at h1;rw[<-h1];refine⟨rfl,fun es ts m h=>?_⟩;simp at h;obtain⟨⟨rfl,rfl⟩,rfl⟩:=h;intro u hu;simp only[List.mem_cons]at hu;rcases hu with rfl|hu
        ·exact ht
        ·exact h2 xs us n2 rfl u hu
  obtain⟨h1,h2⟩:=hl e.kids (fun _ h=>h) c;cases hr:eW (cw ctx e) e.kids c with
  |mk o n=>
   rw[hr]at h1 h2;cases o with
   |none=>simp at h1;rw[<-h1];rfl
   |some p=>
    obtain⟨es,ts⟩:=p;simp at h1;rw[<-h1];have jK:=h2 es ts n rfl;have hw:=FO (ctx:=ctx) (e:=e) (ts:=ts) hc (gX dP) jK;simp only[nX];rw[hw];cases VQ:cD ctx e.kind e.name e.ty ts with
    |none=>rfl
    |some q=>
     obtain⟨ws,t⟩:=q;simp only[Option.bind];by_cases ft:ak 4 t=true
     ·rw[if_pos ft,if_pos ft];have kS:=zd n es ts ws;have tC:=(tP hr).1;by_cases dG:e.kind=13
      ·rw[if_pos dG];have jl:e.kids.length=1:=by rw[dG]at hlen;simp[cl]at hlen;omega
       cases vS:(je n es ts ws).1 with
       |nil=>rw[vS]at kS;simp at kS;omega
       |cons x r=>simp
      ·rw[if_neg dG];simp
     ·rw[if_neg ft,if_neg ft];rfl
inductive jq:Nat->aG->Prop
 |any (d:Nat):jq (d+1) kM
 |int (d:Nat):jq (d+1) bt
 |bool (d:Nat):jq (d+1) cm
 |fn {d:Nat} {a b:aG}:jq d a->jq d b->jq (d+1) (.mk 4 [a,b])
 |pair {d:Nat} {a b:aG}:jq d a->jq d b->jq (d+1) (.mk 5 [a,b])
theorem jq.of:∀{d:Nat} {t:aG},ak d t=true->jq d t
 |0,t,h=>by simp[ak]at h
 |d+1,.mk k l,h=>by
  simp only[ak,YA,decide_eq_true_eq,Yn]at h;simp only[aG.b4,aG.bP]at h;obtain⟨h1,h2⟩:=h
  match l,h1,h2 with
  |[],h1,_=>
   simp only[cy,Yl]at h1;split at h1
   ·rename_i h;rcases h with rfl|rfl|rfl
    ·exact .any d
    ·exact .int d
    ·exact .bool d
   ·split at h1<;>simp at h1
  |[a],h1,_=>
   simp only[cy]at h1;split at h1
   ·simp at h1
   ·split at h1<;>simp at h1
  |[a,b],h1,h2=>
   simp only[cy]at h1;split at h1
   ·simp at h1
   ·split at h1
    ·rename_i h;rcases h with rfl|rfl
     ·exact .fn (jq.of (h2 a (by simp))) (jq.of (h2 b (by simp)))
     ·exact .pair (jq.of (h2 a (by simp))) (jq.of (h2 b (by simp)))
    ·simp at h1
  |a::b::c::r,h1,_=>
   simp only[cy,Yp]at h1;split at h1
   ·omega
   ·split at h1<;>omega
theorem jq.shape {d:Nat} {t:aG} (h:jq d t):ak d t=true:=by
 induction h with
 |any d=>simp[ak,cy]
 |int d=>simp[ak,cy]
 |bool d=>simp[ak,cy]
 |fn _ _ h1 h2=>simp[ak,cy,h1,h2]
 |pair _ _ h1 h2=>simp[ak,cy,h1,h2]
abbrev pG (s:List UInt8):al:=.mk 1 s 0 aW aW 0 []
abbrev rm (n:Int):al:=.mk 2 [] n aW aW 0 []
abbrev lH:al:=.mk 3 [] 0 aW aW 0 []
abbrev iO:al:=.mk 4 [] 0 aW aW 0 []
abbrev nY (s:List UInt8) (t:aG) (b:al):al:=.mk 5 s 0 t aW 0 [b]
abbrev Bf (k:Int) (a:al):al:=.mk k [] 0 aW aW 0 [a]
abbrev yg (k:Int) (a b:al):al:=.mk k [] 0 aW aW 0 [a,b]
abbrev BM (a b c:al):al:=.mk 9 [] 0 aW aW 0 [a,b,c]
abbrev KQ (a:al) (t:aG):al:=.mk 13 [] 0 t aW 0 [a]
abbrev BN (a:al) (f t:aG) (l:Int):al:=.mk 14 [] 0 t f l [a]
inductive jF (nt:Int):Nat->al->Prop
 |var {d:Nat} {s:List UInt8}:nt≠1->dT s=true->jF nt (d+1) (pG s)
 |num {d:Nat} {n:Int}:nt≠2->0<=n->n<=999->jF nt (d+1) (rm n)
 |tQ {d:Nat}:nt≠3->jF nt (d+1) lH
 |tR {d:Nat}:nt≠4->jF nt (d+1) iO
 |lam {d:Nat} {s:List UInt8} {t:aG} {b:al}:nt≠5->dT s=true->ak 4 t=true->jF nt d b->jF nt (d+1) (nY s t b)
 |n2 {d:Nat} {k:Int} {a b:al}:nt≠k->k=6\/k=7\/k=8\/k=10->jF nt d a->jF nt d b->jF nt (d+1) (yg k a b)
 |ite {d:Nat} {a b c:al}:nt≠9->jF nt d a->jF nt d b->jF nt d c->jF nt (d+1) (BM a b c)
 |n1 {d:Nat} {k:Int} {a:al}:nt≠k->k=11\/k=12->jF nt d a->jF nt (d+1) (Bf k a)
 |asc {d:Nat} {t:aG} {a:al}:nt≠13->ak 4 t=true->jF nt d a->jF nt (d+1) (KQ a t)
 |cast {d:Nat} {f t:aG} {l:Int} {a:al}:nt≠14->ak 4 f=true->ak 4 t=true->aE f t=true->Dv l=true->jF nt d a->jF nt (d+1) (BN a f t l)
theorem iI {t:aG} (h:ed t=true):t=aW:=by
 obtain⟨k,l⟩:=t;simp only[ed,YA,decide_eq_true_eq]at h;obtain⟨h1,h2⟩:=h;cases h1;cases h2;rfl
theorem jF.of {nt:Int}:∀{d:Nat} {e:al},bg nt d e=true->jF nt d e
 |0,e,h=>by simp[bg]at h
 |d+1,.mk k s n t f b l,h=>by
  simp only[bg,gA,YA,decide_eq_true_eq,Yn]at h;simp only[al.b4,al.bP]at h;obtain⟨⟨hk,h1,h2⟩,h3⟩:=h;have Lz:=h2;have h2:(if dZ k then dT s else decide (s=[]))=true/\(nB n 0 (if k=2 then 999 else 0))=true/\(if cb k then ak 4 t else ed t)=true/\(if k=14 then pB (.mk k s n t f b l)else ed f && decide (b=0))=true:=by
   simp only[fw,YA]at h2;exact⟨h2.1.1.1,h2.1.1.2,h2.1.2,h2.2⟩
  simp only[nB,YA,decide_eq_true_eq]at h2;obtain⟨g1,g2,g3,g4⟩:=h2;have jE:nt≠k:=fun e=>hk e.symm
  match l,h1,h3 with
  |[],h1,_=>
   have:k=1\/k=2\/k=3\/k=4:=by
    simp only[cl,Yl]at h1;split at h1
    ·assumption
    ·split at h1
     ·omega
     ·split at h1
      ·omega
      ·split at h1<;>omega
   rcases this with rfl|rfl|rfl|rfl<;>simp[dZ,cb]at g1 g2 g3 g4<;>obtain⟨g4,rfl⟩:=g4<;>obtain rfl:=iI g3<;>obtain rfl:=iI g4
   ·obtain rfl:n=0:=by omega
    exact .var jE g1
   ·subst g1;exact .num jE g2.1 g2.2
   ·subst g1;obtain rfl:n=0:=by omega
    exact .tQ jE
   ·subst g1;obtain rfl:n=0:=by omega
    exact .tR jE
  |[a],h1,h3=>
   have:k=5\/k=11\/k=12\/k=13\/k=14:=by
    simp only[cl,Yp,Yl]at h1;split at h1
    ·omega
    ·split at h1
     ·assumption
     ·split at h1
      ·omega
      ·split at h1<;>omega
   have ha:=jF.of (h3 a (by simp));rcases this with rfl|rfl|rfl|rfl|rfl<;>simp[dZ,cb]at g1 g2 g3 g4
   ·obtain⟨g4,rfl⟩:=g4;obtain rfl:=iI g4;obtain rfl:n=0:=by omega
    exact .lam jE g1 g3 ha
   ·obtain⟨g4,rfl⟩:=g4;obtain rfl:=iI g4;obtain rfl:=iI g3;subst g1;obtain rfl:n=0:=by omega
    exact .n1 jE (.inl rfl) ha
   ·obtain⟨g4,rfl⟩:=g4;obtain rfl:=iI g4;obtain rfl:=iI g3;subst g1;obtain rfl:n=0:=by omega
    exact .n1 jE (.inr rfl) ha
   ·obtain⟨g4,rfl⟩:=g4;obtain rfl:=iI g4;subst g1;obtain rfl:n=0:=by omega
    exact .asc jE g3 ha
   ·subst g1;obtain rfl:n=0:=by omega
    simp only[pB,YA]at g4;exact .cast jE g4.1.1.1 g3 g4.1.2 g4.2 ha
  |[a,b'],h1,h3=>
   have:k=6\/k=7\/k=8\/k=10:=by
    simp only[cl,Yp,Yl]at h1;split at h1
    ·omega
    ·split at h1
     ·omega
     ·split at h1
      ·assumption
      ·split at h1<;>omega
   have ha:=jF.of (h3 a (by simp));have hb:=jF.of (h3 b' (by simp));have e1:dZ k=false:=by rcases this with rfl|rfl|rfl|rfl<;>rfl
   have e2:cb k=false:=by rcases this with rfl|rfl|rfl|rfl<;>rfl
   have e3:¬k=14:=by omega
   have e4:¬k=2:=by omega
   simp[e1,e2,e3,e4]at g1 g2 g3 g4;obtain⟨g4,rfl⟩:=g4;obtain rfl:=iI g4;obtain rfl:=iI g3;subst g1;obtain rfl:n=0:=by omega
   exact .n2 jE this ha hb
  |[a,b',c],h1,h3=>
   have:k=9:=by
    simp only[cl,Yp,Yl]at h1;split at h1
    ·omega
    ·split at h1
     ·omega
     ·split at h1
      ·omega
      ·split at h1<;>omega
   have ha:=jF.of (h3 a (by simp));have hb:=jF.of (h3 b' (by simp));have hc:=jF.of (h3 c (by simp));subst this;simp[dZ,cb]at g1 g2 g3 g4;obtain⟨g4,rfl⟩:=g4;obtain rfl:=iI g4;obtain rfl:=iI g3;subst g1;obtain rfl:n=0:=by omega
   exact .ite jE ha hb hc
  |a::b'::c::x::r,h1,_=>
   exfalso
   have:=so k;simp only[Yp]at h1;omega
theorem jF.shape {nt:Int} {d:Nat} {e:al} (h:jF nt d e):bg nt d e=true:=by
 induction h with
 |var h1 h2=>simp[bg,gA,fw,cl,dZ,cb,nB,ed,h1.symm,h2]
 |num h1 h2 h3=>simp[bg,gA,fw,cl,dZ,cb,nB,ed,h1.symm,h2,h3]
 |tQ h1=>simp[bg,gA,fw,cl,dZ,cb,nB,ed,h1.symm]
 |tR h1=>simp[bg,gA,fw,cl,dZ,cb,nB,ed,h1.symm]
 |lam h1 h2 h3 _ h4=>simp[bg,gA,fw,cl,dZ,cb,nB,ed,h1.symm,h2,h3,h4]
 |n2 h1 h2 _ _ h3 h4=>
  rcases h2 with rfl|rfl|rfl|rfl<;>simp[bg,gA,fw,cl,dZ,cb,nB,ed,h1.symm,h3,h4]
 |ite h1 _ _ _ h2 h3 h4=>simp[bg,gA,fw,cl,dZ,cb,nB,ed,h1.symm,h2,h3,h4]
 |n1 h1 h2 _ h3=>
  rcases h2 with rfl|rfl<;>simp[bg,gA,fw,cl,dZ,cb,nB,ed,h1.symm,h3]
 |asc h1 h2 _ h3=>simp[bg,gA,fw,cl,dZ,cb,nB,ed,h1.symm,h2,h3]
 |cast h1 h2 h3 h4 h5 _ h6=>simp[bg,gA,fw,cl,dZ,cb,nB,ed,pB,h1.symm,h2,h3,h4,h5,h6]
section
variable {nt:Int} {d:Nat}
theorem jF.mono {nt:Int} {d:Nat} {e:al} (h:jF nt d e):∀{m:Nat},d<=m->jF nt m e:=by
 induction h with
 |var h1 h2=>intro m hm;obtain⟨m,rfl⟩:∃j,m=j+1:=⟨m-1,by omega⟩;exact .var h1 h2
 |num h1 h2 h3=>intro m hm;obtain⟨m,rfl⟩:∃j,m=j+1:=⟨m-1,by omega⟩;exact .num h1 h2 h3
 |tQ h1=>intro m hm;obtain⟨m,rfl⟩:∃j,m=j+1:=⟨m-1,by omega⟩;exact .tQ h1
 |tR h1=>intro m hm;obtain⟨m,rfl⟩:∃j,m=j+1:=⟨m-1,by omega⟩;exact .tR h1
 |lam h1 h2 h3 _ ih=>intro m hm;obtain⟨m,rfl⟩:∃j,m=j+1:=⟨m-1,by omega⟩;exact .lam h1 h2 h3 (ih (by omega))
 |n2 h1 h2 _ _ ih1 ih2=>intro m hm;obtain⟨m,rfl⟩:∃j,m=j+1:=⟨m-1,by omega⟩;exact .n2 h1 h2 (ih1 (by omega)) (ih2 (by omega))
 |ite h1 _ _ _ ih1 ih2 ih3=>intro m hm;obtain⟨m,rfl⟩:∃j,m=j+1:=⟨m-1,by omega⟩;exact .ite h1 (ih1 (by omega)) (ih2 (by omega)) (ih3 (by omega))
 |n1 h1 h2 _ ih=>intro m hm;obtain⟨m,rfl⟩:∃j,m=j+1:=⟨m-1,by omega⟩;exact .n1 h1 h2 (ih (by omega))
 |asc h1 h2 _ ih=>intro m hm;obtain⟨m,rfl⟩:∃j,m=j+1:=⟨m-1,by omega⟩;exact .asc h1 h2 (ih (by omega))
 |cast h1 h2 h3 h4 h5 _ ih=>intro m hm;obtain⟨m,rfl⟩:∃j,m=j+1:=⟨m-1,by omega⟩;exact .cast h1 h2 h3 h4 h5 (ih (by omega))
end
section
variable (ctx:List dt) (s:List UInt8) (n:Int) (t:aG) (a b c:al)
theorem zf:bO ctx (pG s)=cK ctx s:=by simp[bO,c5,bH]
theorem zg:bO ctx (rm n)=some bt:=by simp[bO,c5,bH]
theorem wU:bO ctx lH=some cm:=by simp[bO,c5,bH]
theorem u5:bO ctx iO=some cm:=by simp[bO,c5,bH]
theorem zh:bO ctx (nY s t b)=(bO (ctx++[⟨s,t⟩]) b).bind (nS 4 t):=by
 simp only[bO,c5,if_true];cases bO (ctx++[⟨s,t⟩]) b<;>simp[bH]
theorem BO {k:Int} (hk:k=11\/k=12):bO ctx (Bf k a)=(bO ctx a).bind fun x=>bH ctx k [] aW [x]:=by
 have h5:¬k=5:=by omega
 simp only[bO,c5,if_neg h5];cases bO ctx a<;>rfl
theorem HB:bO ctx (KQ a t)=(bO ctx a).bind fun x=>if aE x t=true then some t else none:=by
 simp only[bO,c5,show¬(13:Int)=5 by omega,if_false];cases bO ctx a<;>simp[bH]
theorem wV {k:Int} (hk:k≠5):bO ctx (yg k a b)=(bO ctx a).bind fun x=>(bO ctx b).bind fun y=>bH ctx k [] aW [x,y]:=by
 simp only[bO,c5,if_neg hk];cases bO ctx a<;>cases bO ctx b<;>rfl
theorem BP:bO ctx (BM a b c)=(bO ctx a).bind fun x=>(bO ctx b).bind fun y=>(bO ctx c).bind fun z=>if aE y z=true/\aE x cm=true then some (bG y z)else none:=by
 simp only[bO,c5,show¬(9:Int)=5 by omega,if_false];cases bO ctx a<;>cases bO ctx b<;>cases bO ctx c<;>simp[bH]
theorem DC (f:aG) (l:Int):bO ctx (BN a f t l)=none:=by
 simp only[bO,c5,show¬(14:Int)=5 by omega,if_false];cases bO ctx a<;>simp[bH]
end
theorem zi:∀(l m:List dt) (s:List UInt8),cK (l++m) s=match cK m s with|some t=>some t|none=>cK l s
 |[],m,s=>by cases h:cK m s<;>simp[cK,h]
 |b::l,m,s=>by
  simp only[List.cons_append,cK,zi l m s];cases cK m s<;>rfl
def Q2 (c c':List dt):Prop:=∀s t,cK c s=some t->cK c' s=some t
mutual
def Am (x:List UInt8) (v:al):al->al
 |.mk k s n t f b l=>if k=1/\s=x then v else if k=5/\s=x then .mk k s n t f b l else .mk k s n t f b (HC x v l)
def HC (x:List UInt8) (v:al):List al->List al
 |[]=>[]
 |e::r=>Am x v e::HC x v r
end
def S6 (c c':List dt):Prop:=∀s,cK c s=cK c' s
mutual
def DD:aG->aG->Bool
 |.mk k l,.mk k' l'=>decide (k'=1)||(decide (k=k')&& EM l l')
def EM:List aG->List aG->Bool
 |[],[]=>true
 |x::xs,y::ys=>DD x y && EM xs ys
 |_,_=>false
end
def br (k:Int):Bool:=decide (k=5)||decide (k=13)
mutual
def LH (q:aG->aG->Bool):al->al->Bool
 |.mk k s n t _ _ l,.mk k' s' n' t' _ _ l'=> !(br k && decide (k=k')&& !q t t')&&(decide (k=k')&&(decide (s=s')&&(decide (n=n')&& HD q l l')))
def HD (q:aG->aG->Bool):List al->List al->Bool
 |[],[]=>true
 |x::xs,y::ys=>LH q x y && HD q xs ys
 |_,_=>false
end
theorem sF {k:Int} (hk:k≠1) {a b a' b':aG}:aE (.mk k [a,b]) (.mk k [a',b'])=(aE a a' && aE b b'):=by
 rw[nR];simp[hk,jm]
theorem BQ {k:Int} (hk:k≠1) {a b a' b':aG}:bG (.mk k [a,b]) (.mk k [a',b'])=.mk k [bG a a',bG b b']:=by
 rw[gM];simp[hk]
def JB:List dt->List dt->Prop
 |[],[]=>True
 |b::r,b'::r'=>b.name=b'.name/\DD b.ty b'.ty=true/\JB r r'
 |_,_=>False
theorem iD.app {c:List dt} (h:iD c) {s:List UInt8} {t:aG} (ht:ak 4 t=true):iD (c++[⟨s,t⟩]):=by
 intro b hb;rcases Yk.1 hb with h'|h'
 ·exact h b h'
 ·simp at h';subst h';exact ht
inductive BR (q:aG->aG->Bool):al->al->Prop
 |var (s:List UInt8):BR q (pG s) (pG s)
 |num (n:Int):BR q (rm n) (rm n)
 |tQ:BR q lH lH
 |tR:BR q iO iO
 |lam {s:List UInt8} {t t':aG} {b b':al}:q t t'=true->BR q b b'->BR q (nY s t b) (nY s t' b')
 |n2 {k:Int} {a b a' b':al}:BR q a a'->BR q b b'->BR q (yg k a b) (yg k a' b')
 |ite {a b c a' b' c':al}:BR q a a'->BR q b b'->BR q c c'->BR q (BM a b c) (BM a' b' c')
 |n1 {k:Int} {a a':al}:BR q a a'->BR q (Bf k a) (Bf k a')
 |asc {t t':aG} {a a':al}:q t t'=true->BR q a a'->BR q (KQ a t) (KQ a' t')
section
variable {P:Program} {n:Nat} {ι:Type} {Q:Exit->St->Prop} {QX:ι->Exit->St->Prop} {s s':St} {c:Code}
theorem kL.app:∀{l m fr:List (Nat×AV)},kL l fr->kL m fr->kL (l++m) fr
 |[],m,fr,_,h=>h
 |(t,x)::r,m,fr,h,h'=>⟨h.1,kL.app h.2 h'⟩
theorem rq:∀(ks:List Nat) {fr cR:List (Nat×AV)},(∀t x,look fr t=some x->look cR t=some x)->kL (iE ks fr) cR
 |[],_,_,_=>trivial
 |k::r,fr,cR,h=>by
  simp only[iE];cases hk:look fr k with
  |some x=>exact⟨h k x hk,rq r h⟩
  |none=>exact rq r h
theorem zj (ks:List Nat) (fr:List (Nat×AV)):kL (iE ks fr) fr:=rq ks fun _ _ h=>h
theorem T.dU {α:Type} (ks:List Nat) (ph:α->List (Nat×AV)) (ob:α->List (Nat×List CV)) (G:α->List (List CV)) (ar:α->List bu->List bu) (m:α->Nat) (H:α->Prop) {fr0:List (Nat×AV)} (hk:iE ks s.fr=fr0)
  (h:∀a,H a->T P n c (Round (fun a=>⟨ph a++fr0,iy (ob a) s.V++G a,ar a s.A⟩) m H (m a) Q) ⟨ph a++fr0,iy (ob a) s.V++G a,ar a s.A⟩) (a:α) (ha:H a) (hV:iy (ob a) s.V++G a=s.V) (hA:ar a s.A=s.A) (hp:kL (ph a) s.fr):T P n (.loop c) Q s:=by
 subst hk;exact T.gy (fun a=>⟨ph a++iE ks s.fr,iy (ob a) s.V++G a,ar a s.A⟩) m H h a ha ⟨hV,hA,hp.app (zj ks s.fr)⟩
end
end Go.Av
namespace Go.Av
attribute [-simp] Go.Av.bI Go.Av.eS Go.Av.iv Go.Av.bU Go.Av.bF Go.Av.iz Go.Av.mz Go.Av.rX Go.Av.mO Go.Av.z6 Go.Av.rowsOf Go.Av.look Go.Av.tq Go.Av.St.put Go.Av.gQ Go.Av.Fy Go.Av.b9 Go.Av.zY Go.Av.Jk Go.Av.rW Go.Av.rV Go.Av.EA Go.Av.AV.plain Go.Av.AV.cells Go.Av.CV.j5 Go.Av.nE Go.Av.iL Go.Av.kJ Go.Av.fM Go.Av.bQ Go.Av.ib Go.Av.AV.kT Go.Av.CV.kT Go.Av.qD Go.Av.AV.fS Go.Av.CV.fS Go.Av.bA Go.Av.iM Go.Av.kk Go.Av.oE Go.Av.cO Go.Av.fu Go.Av.uQ Go.Av.AV.qF Go.Av.CV.res Go.Av.se Go.Av.pos? Go.Av.wD Go.Av.wJ Go.Av.gR Go.Av.Sub Go.Av.kL Go.Av.kU Go.Av.ja Go.Av.gV Go.Av.jb Go.Av.gW Go.Av.aG.b4 Go.Av.aG.bP Go.Av.al.b4 Go.Av.al.mf Go.Av.al.rk Go.Av.al.sj Go.Av.al.sk Go.Av.al.lD Go.Av.al.bP Go.Av.dI Go.Av.rS Go.Av.iE Go.Av.iy Go.Av.cU
open Go
def PJ:Op->Bool
 |.buildSlice _ _ _=>true
 |.call {callee:=.builtin .append,.. }=>true
 |_=>false
def JC (all:Array Oper) (wv wa fs:List Nat) (m:Nat) (ms:List Nat) (oi oj:Oper) (i j:Nat):Bool:=
 (oi.dst.isNone||oi.dst !=oj.dst)&&((!dE all oi oj && !dE all oj oi &&
  !((wv.contains i||wa.contains i)&& !cO oj.op && !(fs.contains j && decide (i<m))&& !(wv.contains i && wa.contains j)&& !(wa.contains i && wv.contains j))&&
  !((wv.contains j||wa.contains j)&& !cO oi.op && !(fs.contains i && decide (j<m))&& !(wv.contains j && wa.contains i)&& !(wa.contains j && wv.contains i)))||(ms.getD j 0).testBit i)
def PK (all:Array Oper) (wv wa fs:List Nat) (m:Nat):Bool:=
 let l:=all.toList.zipIdx
 let ms:=aX all.toList []
 (l.all fun(o,j)=>o.after.toList.all fun e=> !Region.binds .any e||decide (e.on<j))&&
 (l.all fun(oj,j)=>l.all fun(oi,i)=> !(decide (i<j))||JC all wv wa fs m ms oi oj i j)&&
 (l.all fun(o,j)=>(!wv.contains j|| !cO o.op)&&(!wa.contains j||PJ o.op))&&(fs.all fun j=> !wv.contains j && !wa.contains j)&&
 (fs.all fun j=>(wv++wa).all fun i=>decide (i<m)||decide (j<i))&&(wv.all fun j=> !wa.contains j)
def HE (P:Program) (all:Array Oper) (ow:Nat->Bool) (wv wa fs:List Nat) (m:Nat) (ex:List Nat) (V0:List (List CV)) (A0:List bu) (K:St->Prop):Nat->List Oper->St->Prop
 |_,[],s=>K s
 |i,o::rest,s=>iv all s o (bI P s (ow i) o fun x V A=>((i∈wv\/V=s.V)/\(i∈wa\/A=s.A))/\(i∈wv\/i∈wa->i<m->V.take V0.length=rS ex (fun i=>V.getD i []) V0/\A.take A0.length=A0)/\(i∈fs->dI P s (ow i) o ex V0 A0 x)/\
   (i∈wv->∀A2,bI P ⟨s.fr,s.V,A2⟩ (ow i) o fun y V' A'=>y=x/\V'=V/\A'=A2)/\HE P all ow wv wa fs m ex V0 A0 K (i+1) rest (s.put o.dst x V A)) (HE P all ow wv wa fs m ex V0 A0 K (i+1) rest (s.put o.dst (.c .undef) s.V s.A))
section
variable {P:Program} {n:Nat} {Q Q':Exit->St->Prop} {s s':St} {w0:World} {g0 g g':Gh} {a:Act} {w w':World} {V:List (List CV)} {A A':List bu}
def UB (P:Program) (all:Array Oper) (ow:Bool) (wv fs:List Nat) (j:Nat) (ex:List Nat) (V0:List (List CV)) (A0:List bu) (o:Oper) (s s':St):Prop:=
 iv all s o True True/\((gw all s o=true/\∃x V A,s'=s.put o.dst x V A/\(∀K:AV->List (List CV)->List bu->Prop,K x V A->bI P s ow o K)/\(j∈fs->dI P s ow o ex V0 A0 x)/\
  (j∈wv->∀A2,bI P ⟨s.fr,s.V,A2⟩ ow o fun y V' A'=>y=x/\V'=V/\A'=A2))\/(gw all s o=false/\s'=s.put o.dst (.c .undef) s.V s.A))
structure VR (all:Array Oper) (wv wa:List Nat) (σ:Nat->St) (n:Nat) (w0:World) (g0:Gh) (af:Array Bool) (kv ka:Nat) (g:Gh) (a:Act) (w:World):Prop where
 inv:Inv g w (σ kv).V (σ ka).A
 fr:Fr w0 g0 w g
 size:a.tmps.size=n
 defers:a.defers=[]
 eI:af.size=all.size
 ga:∀(i:Nat) o t x,all[i]? =some o->af[i]? =some true->o.dst=some t->look (σ (i+1)).fr t=some x->∃u,a.tmps[t]? =some u/\aO g w (σ ka).A x u
 gd:∀t x,(∀(i:Nat) o,all[i]? =some o->af[i]? =some true->o.dst≠some t)->look (σ 0).fr t=some x->∃u,a.tmps[t]? =some u/\aO g w (σ ka).A x u
 NT:∀i∈wv,i<all.size->(af[i]? =some true↔i<kv)
 NU:∀i∈wa,i<all.size->(af[i]? =some true↔i<ka)
 UC:kv<=all.size
 UD:ka<=all.size
 vw:kv=0\/∃i∈wv,kv=i+1
 aw:ka=0\/∃i∈wa,ka=i+1
 closed:∀(i:Nat) o,all[i]? =some o->af[i]? =some true->∀e∈o.after,Region.binds .any e=true->af[e.on]? =some true
end
end Go.Av
namespace Go.Av
attribute [-simp] Go.Av.cU
open Go
def JD (all:Array Oper) (ws fs:List Nat) (m q:Nat) (ms:List Nat) (oi oj:Oper) (i j:Nat):Bool:=
 if j=q then oi.dst.isNone||oi.dst !=oj.dst else cH all ws fs m ms oi oj i j &&(!(decide (i<=q)&& decide (q<j))||(ms.getD j 0).testBit i)
def PL (all:Array Oper) (ws fs:List Nat) (m q:Nat):Bool:=
 let l:=all.toList.zipIdx
 let ms:=aX all.toList []
 (l.all fun(o,j)=>o.after.toList.all fun e=> !Region.binds .any e||decide (e.on<j))&&
 (l.all fun(oj,j)=>l.all fun(oi,i)=> !(decide (i<j))||JD all ws fs m q ms oi oj i j)&&
 (l.all fun(o,j)=> !ws.contains j|| !cO o.op)&&(fs.all fun j=> !ws.contains j)&&(fs.all fun j=>ws.all fun i=>decide (i<m)||decide (j<i))&& ws.contains q
section
variable {P:Program} {n:Nat} {Q Q':Exit->St->Prop} {s s':St} {w0:World} {g0 g g':Gh} {a:Act} {w w':World} {V:List (List CV)} {A A':List bu}
structure UE (all:Array Oper) (ws:List Nat) (σ:Nat->St) (n:Nat) (w0:World) (g0:Gh) (q d:Nat) (row:List CV) (cs:Array Value) (ty:TypeId) (af:Array Bool) (k0:Nat) (b:Nat) (g:Gh) (a:Act) (w:World):Prop where
 M4:af[q]? =some true
 base:yc all ws σ n w0 g0 (af.setIfInBounds q false) k0 g a w
 slot:a.tmps[d]? =some (.pointer (some ⟨b,0,none⟩))
 mem:w.heap[b]? =some (.cells cs ty)
 ob:b∉g.ob
 jy:b∉g.jy
 im:g.im b=0
 new:w0.heap.size<=b
 lt:b<w.heap.size
 closed:∀(i:Nat) o,all[i]? =some o->af[i]? =some true->∀e∈o.after,Region.binds .any e=true->af[e.on]? =some true
structure Q3 (P:Program) (all:Array Oper) (ow:Nat->Bool) (σ:Nat->St) (q d:Nat) (row:List CV) (cs:Array Value) (ty:TypeId) (oq:Oper):Prop where
 at_:all[q]? =some oq
 guard:oq.guard=none
 dst:oq.dst=some d
 s0:look (σ 0).fr d=none
 size:cs.size=row.length
 cells:∀(j:Nat) c u,row[j]? =some c->cs[j]? =some u->∀g w A,bn g w A c u
 next:σ (q+1)=(σ q).put (some d) (.c (.ptr (σ q).V.length 0)) ((σ q).V++[row]) (σ q).A
 run:∀(a:Act) (w:World),(execOp a.eval oq).run P w=.ok (.value (.pointer (some ⟨w.heap.size,0,none⟩))) (w.alloc (.cells cs ty))
theorem nZ {all:Array Oper} (c7:∀(j:Nat) o,all[j]? =some o->∀e∈o.after,Region.binds .any e=true->e.on<j) {af:Array Bool} (kS:∀(i:Nat) o,all[i]? =some o->af[i]? =some true->∀e∈o.after,Region.binds .any e=true->af[e.on]? =some true):
  ∀(i:Nat) o,all[i]? =some o->(∀e∈o.after,Region.binds .any e=true->af[e.on]? =some true)->∀k,((aX all.toList []).getD i 0).testBit k=true->af[k]? =some true:=by
 obtain⟨GO,_,BD⟩:=fe all.toList [];intro i;induction i using Ye with
 |_ i ih=>
  intro o ho cG k hk;obtain⟨pre,h1,h2,h3⟩:=BD i o (by simpa using ho);simp only[Yl,Yg]at h1 h3;have h4:(aX all.toList []).getD i 0=mV pre o:=by simp[Ym,h3]
  rw[h4]at hk;obtain⟨e,he,hb,h5⟩:=fT hk;have s9:=cG e he hb;rcases h5 with rfl|h5
  ·exact s9
  ·have ax:=c7 i o ho e he hb;have h6:pre.getD e.on 0=(aX all.toList []).getD e.on 0:=by simp only[Ym,h2 e.on (by omega)]
   rw[h6]at h5;have e5:e.on<all.size:=by have:=(YD.1 ho).1;omega
   have uU:all[e.on]? =some all[e.on]:=YC e5;exact ih e.on ax _ uU (kS e.on _ uU s9) k h5
end
section
variable {P:Program} {n:Nat} {Q:Exit->St->Prop} {s:St}
theorem T.LI {c:Code} (l j:Nat) {row:List CV} (hl:s.V[l]? =some row) (hj:row[j]? =some .nil) (h:T P n c Q ⟨s.fr,s.V.set l (row.set j (.d (.sl []))),s.A⟩):T P n c Q s:=by
 intro eT w0 g0 g a w hR;have fj:=hR.inv;refine h eT w0 g0 g a w ⟨?_,hR.fr,hR.size,hR.defers,fun t' x hx=>hR.slot t' x hx⟩;refine⟨by simpa using fj.o0,fj.lT,fun l' row' b h1 h2=>?_,fj.arr,fj.kZ,fj.jr,fj.jz,fj.fresh⟩;have mB:(s.V.set l (row.set j (.d (.sl []))))[l']? =some row':=h1;rw[dA hl]at mB;by_cases e':l'=l
 ·subst e';simp at mB;subst mB;obtain⟨h3,cs,ty,h4,h5,h6⟩:=fj.obj l' row b hl h2;refine⟨h3,cs,ty,h4,by simpa using h5,fun i c u h7 h8=>?_⟩;rw[dA hj]at h7;by_cases e'':i=j
  ·subst e'';simp at h7;subst h7;have h9:=h6 i _ u hj h8;simp only[bn]at h9;subst h9;simp only[bn,bh];exact⟨none,0,rfl,Yd _,by simp⟩
  ·rw[if_neg e'']at h7;exact h6 i c u h7 h8
 ·rw[if_neg e']at mB;exact fj.obj l' row' b mB h2
end
def JE (all:Array Oper) (ws fs:List Nat) (m q:Nat) (ms:List Nat) (oi oj:Oper) (i j:Nat):Bool:=
 if j=q/\ws.contains i=true then oi.dst.isNone||oi.dst !=oj.dst else cH all ws fs m ms oi oj i j &&(!(decide (i<=q)&& decide (q<j)&& ws.contains i)||(ms.getD j 0).testBit i)
def PM (all:Array Oper) (ws fs:List Nat) (m q:Nat):Bool:=
 let l:=all.toList.zipIdx
 let ms:=aX all.toList []
 (l.all fun(o,j)=>o.after.toList.all fun e=> !Region.binds .any e||decide (e.on<j))&&
 (l.all fun(oj,j)=>l.all fun(oi,i)=> !(decide (i<j))||JE all ws fs m q ms oi oj i j)&&
 (l.all fun(o,j)=> !ws.contains j|| !cO o.op)&&(fs.all fun j=> !ws.contains j)&&(fs.all fun j=>ws.all fun i=>decide (i<m)||decide (j<i))&& ws.contains q
section
variable {P:Program} {n:Nat} {Q Q':Exit->St->Prop} {s s':St} {w0:World} {g0 g g':Gh} {a:Act} {w w':World} {V:List (List CV)} {A A':List bu}
theorem Fr.BS (h:Fr w0 g0 w g) (k:Fr w g w' g'):Fr w0 g0 w' g':=by
 have EN:∀b,b<w0.heap.size->b∉g0.ob->b∉g.ob:=fun b hb h1 hm=>by
  obtain⟨new,e,hn⟩:=h.ob;rw[e]at hm;rcases Yk.1 hm with q|q
  ·exact h1 q
  ·exact absurd (hn b q) (by omega)
 have tS:∀b,b<w0.heap.size->b∉g0.jy->b∉g.jy:=fun b hb h1 hm=>by
  obtain⟨k,v,q1,q2⟩:=Gh.fQ hm;rcases h.ar k v b q1 q2 with q|q
  ·omega
  ·exact h1 q
 refine⟨k.os.trans h.os,k.tape.trans h.tape,k.output.trans h.output,Yf h.size k.size,fun b h1 h2 h3=>?_,fun b h1 h2=>?_,?_,fun i v b h1 h2=>?_,fun i v h1=>?_,h.yl⟩
 ·rw[k.qI b (Yi h1 h.size) (EN b h1 h2) (tS b h1 h3)];exact h.qI b h1 h2 h3
 ·rw[k.js b (Yi h1 h.size) (tS b h1 h2)];exact h.js b h1 h2
 ·obtain⟨new,e,hn⟩:=h.ob;obtain⟨new',e',MM⟩:=k.ob;refine⟨new++new',by rw[e',e,Yz],fun b hb=>?_⟩;rcases Yk.1 hb with q|q
  ·exact hn b q
  ·exact Yf h.size (MM b q)
 ·rcases k.ar i v b h1 h2 with q|q
  ·exact .inl (Yf h.size q)
  ·obtain⟨j,v',q1,q2⟩:=Gh.fQ q;exact h.ar j v' b q1 q2
 ·obtain⟨v1,q1,q2,q3⟩:=h.wk i v h1;obtain⟨v2,q4,q5,q6⟩:=k.wk i v1 q1;exact⟨v2,q4,Yf q2 q5,fun e=>(q6 (by omega)).trans (q3 (by omega))⟩
theorem Fr.LJ (h:Fr w0 g0 w g) {b:Nat} (hb:w0.heap.size<=b):Fr w0 g0 w {g with ob:=g.ob++[b]}:=by
 refine⟨h.os,h.tape,h.output,h.size,h.qI,h.js,?_,h.ar,h.wk,h.yl⟩;obtain⟨new,e,hn⟩:=h.ob;refine⟨new++[b],by show g.ob++[b]=_;rw[e,Yz],fun c hc=>?_⟩;rcases Yk.1 hc with q|q
 ·exact hn c q
 ·simp at q;omega
theorem Inv.LJ (hi:Inv g w V A) {b:Nat} {cs:Array Value} {ty:TypeId} {row:List CV} (hb:w.heap[b]? =some (.cells cs ty)) (hs:cs.size=row.length) (hr:∀(j:Nat) c u,row[j]? =some c->cs[j]? =some u->∀g w A,bn g w A c u)
  (h1:b∉g.ob) (h2:b∉g.jy) (h3:g.im b=0):Inv {g with ob:=g.ob++[b]} w (V++[row]) A/\Ext g w A {g with ob:=g.ob++[b]} w A/\(g.ob++[b])[V.length]? =some b:=by
 have kR:Ext g w A {g with ob:=g.ob++[b]} w A:=
  ⟨fun l c hc=>by show(g.ob++[b])[l]? =some c;rw[Ys (Yr.1 hc).1];exact hc,.refl _ _,fun _ r h=>⟨r,h,rfl,Yd _,fun _=>rfl⟩⟩
 have dh:∀(l c:Nat),(g.ob++[b])[l]? =some c->(g.ob[l]? =some c/\c≠b)\/(l=V.length/\c=b):=fun l c hc=>by
  rcases Yc l g.ob.length with h|h
  ·rw[Ys h]at hc;exact .inl ⟨hc,fun e=>h1 (e▸List.mem_of_getElem? hc)⟩
  ·rw[List.getElem?_append_right h]at hc;have h0:l-g.ob.length=0:=by
    have:=(Yr.1 hc).1;simp at this;omega
   rw[h0]at hc;simp at hc;exact .inr ⟨by rw[<-hi.o0];omega,hc.symm⟩
 refine⟨⟨by simp[hi.o0],hi.lT,fun l row' c q1 q2=>?_,fun k r v q1 q2=>?_,fun l l' c q1 q2=>?_,hi.jr,fun l k v c q1 q2=>?_,hi.fresh⟩,kR,?_⟩
 ·rcases dh l c q2 with⟨h4,_⟩|⟨h4,h5⟩
  ·have h5:V[l]? =some row':=by
    have:l<V.length:=by rw[<-hi.o0];exact(Yr.1 h4).1
    rwa[Ys this]at q1
   exact hi.fA kR h5 h4 rfl (hi.obj l row' c h5 h4).1
  ·subst h4;subst h5;simp at q1;subst q1;exact⟨h3,cs,ty,hb,hs,fun j c u h6 h7=>hr j c u h6 h7 _ _ _⟩
 ·exact hi.fB kR q1 q2 (fun _ _=>rfl) (fun _ _=>rfl)
 ·rcases dh l c q1 with⟨h4,h5⟩|⟨h4,h5⟩<;>rcases dh l' c q2 with⟨h6,h7⟩|⟨h6,h7⟩
  ·exact hi.kZ l l' c h4 h6
  ·exact absurd h7 h5
  ·exact absurd h5 h7
  ·omega
 ·rcases dh l c q1 with⟨h4,h5⟩|⟨h4,h5⟩
  ·exact hi.jz l k v c h4 q2
  ·subst h5;exact fun e=>h2 (Gh.j6 q2 e)
 ·rw[<-hi.o0];simp
structure DE (all:Array Oper) (ws:List Nat) (σ:Nat->St) (n:Nat) (w0:World) (g0:Gh) (q d:Nat) (row:List CV) (cs:Array Value) (ty:TypeId) (af:Array Bool) (k0:Nat) (b:Nat) (g:Gh) (a:Act) (w:World):Prop where
 M4:af[q]? =some true
 base:yc all ws σ n w0 g0 (af.setIfInBounds q false) k0 g a w
 slot:a.tmps[d]? =some (.pointer (some ⟨b,0,none⟩))
 mem:w.heap[b]? =some (.cells cs ty)
 ob:b∉g.ob
 jy:b∉g.jy
 im:g.im b=0
 new:w0.heap.size<=b
 lt:b<w.heap.size
 closed:∀(i:Nat) o,all[i]? =some o->af[i]? =some true->∀e∈o.after,Region.binds .any e=true->af[e.on]? =some true
theorem DE.step {all:Array Oper} {ws:List Nat} {σ:Nat->St} {q d:Nat} {row:List CV} {cs:Array Value} {ty:TypeId} {af:Array Bool} {k0 k1 b:Nat} {a':Act} (h:DE all ws σ n w0 g0 q d row cs ty af k0 b g a w) {j:Nat} (GP:j≠q) (ha:a'.tmps[d]? =a.tmps[d]?)
  (hD:yc all ws σ n w0 g0 ((af.setIfInBounds q false).setIfInBounds j true) k1 g' a' w') (hF:Fr w g w' g') (kS:∀(i:Nat) o,all[i]? =some o->(af.setIfInBounds j true)[i]? =some true->∀e∈o.after,Region.binds .any e=true->(af.setIfInBounds j true)[e.on]? =some true):DE all ws σ n w0 g0 q d row cs ty (af.setIfInBounds j true) k1 b g' a' w':=by
 refine⟨by rw[YE GP];exact h.M4,?_,by rw[ha];exact h.slot,by rw[hF.qI b h.lt h.ob h.jy];exact h.mem,fun hm=>?_,fun hm=>?_,by rw[hF.js b h.lt h.jy];exact h.im,h.new,Yi h.lt hF.size,kS⟩
 ·rw[Array.setIfInBounds_comm _ _ GP];exact hD
 ·obtain⟨new,e,hn⟩:=hF.ob;rw[e]at hm;rcases Yk.1 hm with p|p
  ·exact h.ob p
  ·have:=hn b p;have:=h.lt;omega
 ·obtain⟨k,v,q1,q2⟩:=Gh.fQ hm;rcases hF.ar k v b q1 q2 with p|p
  ·have:=h.lt;omega
  ·exact h.jy p
structure DF (P:Program) (all:Array Oper) (ow:Nat->Bool) (σ:Nat->St) (q d:Nat) (row:List CV) (cs:Array Value) (ty:TypeId) (oq:Oper):Prop where
 at_:all[q]? =some oq
 guard:oq.guard=none
 dst:oq.dst=some d
 s0:look (σ 0).fr d=none
 size:cs.size=row.length
 cells:∀(j:Nat) c u,row[j]? =some c->cs[j]? =some u->∀g w A,bn g w A c u
 next:σ (q+1)=(σ q).put (some d) (.c (.ptr (σ q).V.length 0)) ((σ q).V++[row]) (σ q).A
 run:∀(a:Act) (w:World),(execOp a.eval oq).run P w=.ok (.value (.pointer (some ⟨w.heap.size,0,none⟩))) (w.alloc (.cells cs ty))
theorem LK (l:Array Bool) (q:Nat) (h:l[q]? ≠some true) (hq:q<l.size):(l.setIfInBounds q true).setIfInBounds q false=l:=by
 apply Array.ext_getElem?;intro i;rw[Array.getElem?_setIfInBounds];by_cases e:q=i
 ·subst e;have:l[q]=false:=by
   rw[YC hq]at h;cases hx:l[q]<;>simp_all
  simp[hq,this]
 ·rw[if_neg e,YE e]
theorem u6 {all:Array Oper} (c7:∀(j:Nat) o,all[j]? =some o->∀e∈o.after,Region.binds .any e=true->e.on<j) {af:Array Bool} (kS:∀(i:Nat) o,all[i]? =some o->af[i]? =some true->∀e∈o.after,Region.binds .any e=true->af[e.on]? =some true):
  ∀(i:Nat) o,all[i]? =some o->(∀e∈o.after,Region.binds .any e=true->af[e.on]? =some true)->∀k,((aX all.toList []).getD i 0).testBit k=true->af[k]? =some true:=by
 obtain⟨GO,_,BD⟩:=fe all.toList [];intro i;induction i using Ye with
 |_ i ih=>
  intro o ho cG k hk;obtain⟨pre,h1,h2,h3⟩:=BD i o (by simpa using ho);simp only[Yl,Yg]at h1 h3;have h4:(aX all.toList []).getD i 0=mV pre o:=by simp[Ym,h3]
  rw[h4]at hk;obtain⟨e,he,hb,h5⟩:=fT hk;have s9:=cG e he hb;rcases h5 with rfl|h5
  ·exact s9
  ·have ax:=c7 i o ho e he hb;have h6:pre.getD e.on 0=(aX all.toList []).getD e.on 0:=by simp only[Ym,h2 e.on (by omega)]
   rw[h6]at h5;have e5:e.on<all.size:=by have:=(YD.1 ho).1;omega
   have uU:all[e.on]? =some all[e.on]:=YC e5;exact ih e.on ax _ uU (kS e.on _ uU s9) k h5
end
def n0 (all:Array Oper) (ws fs:List Nat) (m q:Nat) (wt:List Nat) (ms:List Nat) (oi oj:Oper) (i j:Nat):Bool:=
 if j=q/\wt.contains i=true then oi.dst.isNone||oi.dst !=oj.dst else cH all ws fs m ms oi oj i j &&(!(decide (i<=q)&& decide (q<j)&& wt.contains i)||(ms.getD j 0).testBit i)
def mj (all:Array Oper) (ws fs:List Nat) (m q:Nat) (wt:List Nat):Bool:=
 let l:=all.toList.zipIdx
 let ms:=aX all.toList []
 (l.all fun(o,j)=>o.after.toList.all fun e=> !Region.binds .any e||decide (e.on<j))&&
 (l.all fun(oj,j)=>l.all fun(oi,i)=> !(decide (i<j))||n0 all ws fs m q wt ms oi oj i j)&&
 (l.all fun(o,j)=> !ws.contains j|| !cO o.op)&&(fs.all fun j=> !ws.contains j)&&(fs.all fun j=>ws.all fun i=>decide (i<m)||decide (j<i))&& ws.contains q &&(ws.all fun i=>wt.contains i)
section
variable {P:Program} {n:Nat} {Q Q':Exit->St->Prop} {s s':St} {w0:World} {g0 g g':Gh} {a:Act} {w w':World} {V:List (List CV)} {A A':List bu}
theorem zk {all:Array Oper} {ow:Nat->Bool} {ws fs:List Nat} {m q:Nat} {wt:List Nat} {ex:List Nat} {V0:List (List CV)} {A0:List bu} {σ:Nat->St} (hd:mj all ws fs m q wt=true) (fc:da n all.toList=true)
  (lV:∀(j:Nat) o,all[j]? =some o->Hy P all (ow j) fs j ex V0 A0 o (σ j) (σ (j+1))/\(j∈ws\/((σ (j+1)).V=(σ j).V/\(σ (j+1)).A=(σ j).A))/\(j<m->KN ex V0 A0 (σ (j+1))\/((σ (j+1)).V=(σ j).V/\(σ (j+1)).A=(σ j).A))) (Hz:(σ 0).V=V0/\(σ 0).A=A0)
  {af:Array Bool} {k0:Nat} (hD:yc all ws σ n w0 g0 af k0 g a w) (hL:af[q]? =some true->∀i∈wt,i<q->af[i]? =some true) {j:Nat} (hj:j∈Region.ready .any all af) (hq:j=q->∀i∈wt,i<q->af[i]? =some true)
  {next:Act->World->Prop} {Q:Exit->Act->World->Prop} (ih:∀k1 o g' a' w',all[j]? =some o->(∀t,o.dst≠some t->a'.tmps[t]? =a.tmps[t]?)->yc all ws σ n w0 g0 (af.setIfInBounds j true) k1 g' a' w'->Fr w g w' g'->next a' w'):wpOp P all Q j next a w:=by
 simp only[mj,YA,Yn]at hd;obtain⟨⟨⟨⟨⟨⟨gk,jk⟩,nM⟩,I9⟩,Ja⟩,KR⟩,vZ⟩:=hd;have gK:∀i∈ws,i∈wt:=fun i hi=>by simpa using vZ i hi
 have KR:q∈ws:=by simpa using KR
 have cV:∀(j:Nat) o,all[j]? =some o->(o,j)∈all.toList.zipIdx:=fun j o h=>by
  rw[Yv];exact⟨j,by simp[Yx,h]⟩
 have c7:∀(j:Nat) o,all[j]? =some o->∀e∈o.after,Region.binds .any e=true->e.on<j:=fun j o h e he hb=>by
  have:=gk _ (cV j o h) e (YF.2 he);simpa[hb]using this
 have wW:∀(i j:Nat) oi oj,all[i]? =some oi->all[j]? =some oj->i<j->n0 all ws fs m q wt (aX all.toList []) oi oj i j=true:=fun i j oi oj h1 h2 ax=>by
  have:=jk _ (cV j oj h2) _ (cV i oi h1);simpa[ax]using this
 have fW:∀(i j:Nat) oi oj,all[i]? =some oi->all[j]? =some oj->i<j->¬(j=q/\i∈wt)->cH all ws fs m (aX all.toList []) oi oj i j=true:=fun i j oi oj h1 h2 ax dj=>by
  have:=wW i j oi oj h1 h2 ax;rw[n0,if_neg (by simpa using dj)]at this;simp only[YA]at this;exact this.1
 have b7:∀(i j:Nat) oi oj,all[i]? =some oi->all[j]? =some oj->i<j->¬(j=q/\i∈wt)->i∉fs->j∉fs->bq all ws (aX all.toList []) oi oj i j=true:=fun i j oi oj h1 h2 ax dj hi hj=>by
  have:=fW i j oi oj h1 h2 ax dj;simpa[cH,bq,hi,hj]using this
 have mi:∀i,i∈ws->i∉fs:=fun i hi hf=>by
  have:=I9 i hf;simp[hi]at this
 have Dw:∀k,k<=m->k<=all.size->KN ex V0 A0 (σ k):=by
  intro k;induction k with
  |zero=>
   intro _ _;refine⟨?_,by rw[Hz.2];simp⟩;rw[Hz.1,pD];simp
  |succ k ih=>
   intro h1 h2;have ho:all[k]? =some all[k]:=YC (by omega);rcases(lV k _ ho).2.2 (by omega)with h3|⟨h3,h4⟩
   ·exact h3
   ·have:=ih (by omega) (by omega);exact⟨by rw[h3];exact this.1,by rw[h4];exact this.2⟩
 have uT:∀(j:Nat) o,all[j]? =some o->j∈ws->cO o.op=false:=fun j o h hj=>by
  have:=nM _ (cV j o h);simpa[hj]using this
 have fU:∀(i j:Nat) oi oj d,all[i]? =some oi->all[j]? =some oj->i<j->oi.dst=some d->oj.dst≠some d:=fun i j oi oj d h1 h2 ax h3 h4=>by
  have:=wW i j oi oj h1 h2 ax;simp only[n0,cH,h3,h4]at this;split at this<;>simp at this
 have rj:∀(i j:Nat) oi oj d,all[i]? =some oi->all[j]? =some oj->oi.dst=some d->oj.dst=some d->i=j:=fun i j oi oj d h1 h2 h3 h4=>by
  rcases Yh i j with h|h|h
  ·exact absurd h4 (fU i j oi oj d h1 h2 h h3)
  ·exact h
  ·exact absurd h3 (fU j i oj oi d h2 h1 h h4)
 have Ae:∀(j:Nat) o d,all[j]? =some o->o.dst=some d->d<n:=fun j o d h1 h2=>by
  have:=Yn.1 fc o (by rw[YF];exact YG h1);simpa[h2]using this
 obtain⟨GO,_,BD⟩:=fe all.toList []
 have mW:∀{af:Array Bool},(∀(i:Nat) o,all[i]? =some o->af[i]? =some true->∀e∈o.after,Region.binds .any e=true->af[e.on]? =some true)->
   ∀(i:Nat) o,all[i]? =some o->(∀e∈o.after,Region.binds .any e=true->af[e.on]? =some true)->∀k,((aX all.toList []).getD i 0).testBit k=true->af[k]? =some true:=by
  intro af kS i;induction i using Ye with
  |_ i ih=>
   intro o ho cG k hk;obtain⟨pre,h1,h2,h3⟩:=BD i o (by simpa using ho);simp only[Yl,Yg]at h1 h3;have h4:(aX all.toList []).getD i 0=mV pre o:=by simp[Ym,h3]
   rw[h4]at hk;obtain⟨e,he,hb,h5⟩:=fT hk;have s9:=cG e he hb;rcases h5 with rfl|h5
   ·exact s9
   ·have ax:=c7 i o ho e he hb;have h6:pre.getD e.on 0=(aX all.toList []).getD e.on 0:=by simp only[Ym,h2 e.on (by omega)]
    rw[h6]at h5;have e5:e.on<all.size:=by have:=(YD.1 ho).1;omega
    have uU:all[e.on]? =some all[e.on]:=YC e5;exact ih e.on ax _ uU (kS e.on _ uU s9) k h5
 have mb:∀(j:Nat) o t,all[j]? =some o->o.dst≠some t->look (σ (j+1)).fr t=look (σ j).fr t:=fun j o t h1 h2=>by
  obtain⟨⟨_,h3⟩,_⟩:=lV j o h1;have kp:∀(x:AV) V A,look ((σ j).put o.dst x V A).fr t=look (σ j).fr t:=fun x V A=>by
   simp only[St.put];cases q9:o.dst with
   |none=>rfl
   |some d=>simp only[look];rw[if_neg (fun e=>h2 (by rw[q9,e]))]
  rcases h3 with⟨_,x,V,A,h4,_,_⟩|⟨_,h4⟩
  ·rw[h4];exact kp x V A
  ·rw[h4];exact kp _ _ _
 have oP:∀(j t:Nat),j<=all.size->(∀(i:Nat) o,i<j->all[i]? =some o->o.dst≠some t)->look (σ j).fr t=look (σ 0).fr t:=by
  intro j;induction j with
  |zero=>intro t _ _;rfl
  |succ j ih=>
   intro t hj iw;have ho:all[j]? =some all[j]:=YC (by omega);rw[mb j _ t ho (iw j _ (by omega) ho)];exact ih t (by omega) (fun i o hi=>iw i o (by omega))
 have oQ:∀(j i:Nat) oi t,j<=all.size->i<j->all[i]? =some oi->oi.dst=some t->look (σ j).fr t=look (σ (i+1)).fr t:=by
  intro j;induction j with
  |zero=>intro i oi t _ h;omega
  |succ j ih=>
   intro i oi t hj kI aV cn;by_cases e:i=j
   ·subst e;rfl
   ·have ho:all[j]? =some all[j]:=YC (by omega);rw[mb j _ t ho (fU i j oi _ t aV ho (by omega) cn)];exact ih i oi t (by omega) (by omega) aV cn
 have tH:∀(b a:Nat),a<=b->b<=all.size->(∀i,a<=i->i<b->i∉ws)->(σ b).V=(σ a).V/\(σ b).A=(σ a).A:=by
  intro b;induction b with
  |zero=>
   intro a h _ _;obtain rfl:a=0:=by omega
   exact⟨rfl,rfl⟩
  |succ b ih=>
   intro a PH hb iw;by_cases e:a=b+1
   ·subst e;exact⟨rfl,rfl⟩
   ·have ho:all[b]? =some all[b]:=YC (by omega);obtain⟨h1,h2⟩:=ih a (by omega) (by omega) (fun i hi Fv=>iw i hi (by omega));rcases(lV b _ ho).2.1 with h3|⟨h3,h4⟩
    ·exact absurd h3 (iw b (by omega) (by omega))
    ·exact⟨h3.trans h1,h4.trans h2⟩
 obtain⟨mX,o,ho,cG⟩:=mem_ready.1 hj;have mY:=er mX;have rP:j<all.size:=(YD.1 ho).1;have jA:j<af.size:=by rw[hD.eI];exact rP
 have dj:∀i,j<i->af[i]? =some true->¬(i=q/\j∈wt):=fun i h hl e=>by
  obtain⟨rfl,e⟩:=e;have:=hL hl j e h;rw[mY]at this;simp at this
 have cB:∀e∈o.after,Region.binds .any e=true->af[e.on]? =some true:=fun e he hb=>cF.1 (cG e he hb)
 have cv:∀k,((aX all.toList []).getD j 0).testBit k=true->af[k]? =some true:=mW hD.closed j o ho cB;have bZ:∀(i:Nat) oi,all[i]? =some oi->af[i]? =some true->((aX all.toList []).getD i 0).testBit j=false:=fun i oi aV bE=>by
  cases hb:((aX all.toList []).getD i 0).testBit j with
  |false=>rfl
  |true=>have:=mW hD.closed i oi aV (hD.closed i oi aV bE) j hb;rw[mY]at this;simp at this
 have jJ:∀t∈o.looksAt all,∀x,look (σ j).fr t=some x->∃u,a.tmps[t]? =some u/\aO g w (σ k0).A x u:=by
  intro t ht x hx;by_cases hex:∃(i:Nat) (oi:Oper),i<j/\all[i]? =some oi/\oi.dst=some t
  ·obtain⟨i,oi,kI,aV,cn⟩:=hex;rw[oQ j i oi t (by omega) kI aV cn]at hx;have bE:af[i]? =some true:=by
    by_cases e:j=q/\i∈wt
    ·exact hq e.1 i e.2 (by omega)
    ·have hp:=fW i j oi o aV ho kI e;have tI:dE all oi o=true:=by simp only[dE,cn];simpa using ht
     simp only[cH,tI,YA,YB]at hp;have hb:((aX all.toList []).getD j 0).testBit i=true:=by simpa using hp.2
     exact cv i hb
   exact hD.ga i oi t x aV bE cn hx
  ·rw[oP j t (by omega) (fun i oi kI aV cn=>hex ⟨i,oi,kI,aV,cn⟩)]at hx;refine hD.gd t x (fun i oi aV bE cn=>?_) hx;rcases Yh i j with h|h|h
   ·exact hex ⟨i,oi,h,aV,cn⟩
   ·subst h;rw[mY]at bE;simp at bE
   ·have hp:=fW j i o oi ho aV h (dj i h bE);have tI:dE all oi o=true:=by simp only[dE,cn];simpa using ht
    have hb:=bZ i oi aV bE;simp only[cH,tI,hb,YA,YB]at hp;simp at hp
 let cR:=(σ j).fr.filter fun p=>(o.looksAt all).contains p.1
 have ld:∀t,look cR t=if(o.looksAt all).contains t then look (σ j).fr t else none:=fun t=>e8 (fun t=>(o.looksAt all).contains t) (σ j).fr t
 have hS:∀(V:List (List CV)),iA g w ⟨cR,V,(σ k0).A⟩ a:=fun V t x hx=>by
  simp only[ld]at hx;split at hx
  ·rename_i hc;exact jJ t (by simpa using hc) x hx
  ·cases hx
 have gL:∀(V V':List (List CV)) (A A':List bu),∀x∈o.op.operands.toList,bF ⟨cR,V,A⟩ x=bF ⟨(σ j).fr,V',A'⟩ x:=fun V V' A A' x hx=>by
  cases x with
  |tmp t=>
   simp only[bF,ld];rw[if_pos];simp only[Oper.looksAt,Yy,decide_eq_true_eq,Yk,List.mem_filterMap];exact .inl ⟨.tmp t,hx,rfl⟩
  |_=>rfl
 have gU:Rp n w0 g0 ⟨cR,(σ k0).V,(σ k0).A⟩ g a w:=⟨hD.inv,hD.fr,hD.size,hD.defers,hS _⟩;obtain⟨⟨uP,ft⟩,Du,_⟩:=lV j o ho;have oR:iv all ⟨cR,(σ k0).V,(σ k0).A⟩ o True True/\gw all ⟨cR,(σ k0).V,(σ k0).A⟩ o=gw all (σ j) o:=by
  unfold iv gw at*;cases nN:o.guard with
  |none=>simp
  |some jw=>
   obtain⟨q,want⟩:=jw;simp only[nN]at uP⊢;obtain⟨oq,h1,h2⟩:=cC uP;obtain⟨t,h3,h4⟩:=cC h2;have:look cR t=look (σ j).fr t:=by
    rw[ld,if_pos];simp only[Oper.looksAt,nN,Yy,decide_eq_true_eq,Yk];exact .inr (by simp[h1,h3])
   simp only[h1,bU,h3,Yb,this]at h4⊢;exact⟨h4,trivial⟩
 have lC:Region.wanted o (yielded all a.tmps)=gw all (σ j) o:=by
  rw[<-oR.2];have h0:=fZ oR.1;have h1:=oR.1;unfold iv at h1;unfold gw;cases nN:o.guard with
  |none=>simp[Region.wanted,nN]
  |some jw=>
   obtain⟨q,want⟩:=jw;simp only[nN]at h1⊢;obtain⟨oq,h2,h3⟩:=cC h1;obtain⟨t,h4,h5⟩:=cC h3;obtain⟨x,h6,h7⟩:=cC h5;obtain⟨h8,h9⟩:=jI gU h2 h4 h6;simp only[h2,Yb,h4,h6];split at h7
   ·rename_i b;simp[Region.wanted,nN,h8 b rfl]
   ·simp[Region.wanted,nN,h9 rfl]
   ·exact h7.elim
 have bN:∀i,(af.setIfInBounds j true)[i]? =if i=j then some true else af[i]? :=fun i=>by
  by_cases e:i=j
  ·subst e;simp[jA]
  ·rw[if_neg e,YE (fun h=>e h.symm)]
 have gG:∀(v:Value) (t:Nat),o.dst≠some t->(a.put o.dst v).tmps[t]? =a.tmps[t]? :=fun v t dj=>by
  cases q9:o.dst with
  |none=>rfl
  |some d=>
   simp only[Act.put];rw[YE (fun e=>dj (by rw[q9,e]))]
 have cM:∀(k1:Nat) (x:AV) (v:Value) (w':World) (g':Gh),look (σ (j+1)).fr=look ((σ j).put o.dst x [] []).fr->aO g' w' (σ k1).A x v->Inv g' w' (σ k1).V (σ k1).A->Ext g w (σ k0).A g' w' (σ k1).A->Fr w0 g0 w' g'->k1<=all.size->(k1=0\/∃i∈ws,k1=i+1)->
   (∀i∈ws,i<all.size->((af.setIfInBounds j true)[i]? =some true↔i<k1))->yc all ws σ n w0 g0 (af.setIfInBounds j true) k1 g' (a.put o.dst v) w':=by
  intro k1 x v w' g' C6 yv hI hx hF hk LD FH;have iY:∀t u,o.dst≠some t->a.tmps[t]? =some u->(a.put o.dst v).tmps[t]? =some u:=fun t u dj hu=>by
   cases q9:o.dst with
   |none=>exact hu
   |some d=>
    simp only[Act.put];rw[YE (fun e=>dj (by rw[q9,e]))];exact hu
  refine⟨hI,hF,?_,?_,by simp[hD.eI],fun i oi t y aV bE cn hy=>?_,fun t y iw hy=>?_,FH,hk,LD,fun i oi aV bE e he hb=>?_⟩
  ·cases o.dst<;>simp[Act.put,hD.size]
  ·cases o.dst<;>simp[Act.put,hD.defers]
  ·rw[bN]at bE;by_cases e:i=j
   ·subst e;obtain rfl:o=oi:=by rw[ho]at aV;exact Option.some.inj aV
    rw[C6]at hy;simp only[St.put,cn,look,if_true]at hy;cases hy
    refine⟨v,?_,yv⟩;have:t<a.tmps.size:=by rw[hD.size];exact Ae i o t ho cn
    simp[Act.put,cn,this]
   ·rw[if_neg e]at bE;obtain⟨u,h1,h2⟩:=hD.ga i oi t y aV bE cn hy;exact⟨u,iY t u (fun h=>e (rj i j oi o t aV ho cn h)) h1,aO.ext hx h2⟩
  ·have dj:o.dst≠some t:=iw j o ho (by rw[bN,if_pos rfl]);obtain⟨u,h1,h2⟩:=hD.gd t y (fun i oi aV bE=>iw i oi aV (by
    rw[bN];by_cases e:i=j
    ·rw[if_pos e]
    ·rw[if_neg e];exact bE)) hy
   exact⟨u,iY t u dj h1,aO.ext hx h2⟩
  ·rw[bN]at bE⊢;have:af[e.on]? =some true:=by
    by_cases e':i=j
    ·subst e';obtain rfl:o=oi:=by rw[ho]at aV;exact Option.some.inj aV
     exact cB e he hb
    ·rw[if_neg e']at bE;exact hD.closed i oi aV bE e he hb
   by_cases e':e.on=j
   ·rw[if_pos e']
   ·rw[if_neg e'];exact this
 have il:j∉ws->∀i∈ws,i<all.size->((af.setIfInBounds j true)[i]? =some true↔i<k0):=fun ez i hi b8=>by
  rw[bN,if_neg (fun e=>ez (by rw[<-e];exact hi))];exact hD.ep i hi b8
 have kV:cO o.op=false->j∉fs->(σ j).V=(σ k0).V/\(σ j).A=(σ k0).A:=by
  intro fK nU;rcases Nat.le_total j k0 with h|h
  ·have:=tH k0 j h hD.nL (fun i h1 h2 h3=>by
    have b8:i<all.size:=by have:=hD.nL;omega
    have bE:=(hD.ep i h3 b8).2 h2;have aV:all[i]? =some all[i]:=YC b8;rcases Yc j i with h4|h4
    ·have hp:=b7 j i o _ ho aV h4 (dj i h4 bE) nU (mi i h3);have hb:=bZ i _ aV bE;simp only[bq,hb,YA,YB]at hp;simp[h3,fK,-cO]at hp
    ·obtain rfl:i=j:=by omega
     rw[mY]at bE;simp at bE)
   exact⟨this.1.symm,this.2.symm⟩
  ·exact tH j k0 h (by omega) (fun i h1 h2 h3=>by
    have b8:i<all.size:=by omega
    have aV:all[i]? =some all[i]:=YC b8;have bE:af[i]? =some true:=by
     by_cases e:j=q
     ·exact hq e i (gK i h3) (by omega)
     ·have hp:=b7 i j _ o aV ho h2 (fun h=>e h.1) (mi i h3) nU;simp only[bq,YA,YB]at hp;rcases hp.2 with h4|h4
      ·simp[h3,fK,-cO]at h4
      ·exact cv i h4
    have:=(hD.ep i h3 b8).1 bE;omega)
 unfold wpOp;simp only[ho];rcases ft with⟨h1,x,V,A,h2,h3,FK⟩|⟨h1,h2⟩
 ·rw[if_pos (by rw[lC,h1])];refine .inl ?_;by_cases hs:cO o.op=true
  ·-- slots alone
   have ez:j∉ws:=fun h=>by have:=uT j o ho h;rw[hs]at this;simp at this
   have h4:bI P ⟨cR,(σ k0).V,(σ k0).A⟩ (ow j) o (fun y V' A'=>y=x/\V'=(σ k0).V/\A'=(σ k0).A):=nK (s:=σ j) (s':=⟨cR,(σ k0).V,(σ k0).A⟩) hs (gL _ _ _ _) h3 ⟨rfl,rfl,rfl⟩;obtain⟨y,V',A',⟨rfl,rfl,rfl⟩,h5⟩:=dk gU.inv (Fr.refl gU.fr.now) gU.slot h4;refine h5 _ _ fun v w' g' h6 h7 h8 h9=>ih k0 o g' _ w' ho (gG v) (cM k0 y v w' g' (by rw[h2];rfl) h6 h7 h8 (hD.fr.BS h9) hD.nL hD.kw (il ez)) h9
  ·have fK:cO o.op=false:=by simpa using hs
   by_cases nU:j∈fs
   ·have ez:j∉ws:=fun h=>mi j h nU
    have Dx:k0<=m:=by
     rcases hD.kw with h|⟨i,hi,hk⟩
     ·omega
     ·rcases Yc i m with h|h
      ·omega
      ·exfalso
       have b8:i<all.size:=by have:=hD.nL;omega
       have aV:all[i]? =some all[i]:=YC b8;have bE:=(hD.ep i hi b8).2 (by omega);have KO:j<i:=by
        have:=Ja j nU i hi;simp at this;omega
       have hp:=fW j i o _ ho aV KO (dj i KO bE);have hb:=bZ i _ aV bE;have tf:¬i<m:=by omega
       simp only[cH,hb,YA,YB]at hp;simp[-cO,hi,fK,tf,nU,ez]at hp
    obtain⟨dM,Ai⟩:=Dw k0 Dx hD.nL;have h4:bI P ⟨cR,(σ k0).V,(σ k0).A⟩ (ow j) o (fun y V' A'=>y=x/\V'=(σ k0).V/\A'=(σ k0).A):=by
     have h5:=FK nU (fun i=>(σ k0).V.getD i []) ((σ k0).V.drop V0.length) ((σ k0).A.drop A0.length);have e1:rS ex (fun i=>(σ k0).V.getD i []) V0++(σ k0).V.drop V0.length=(σ k0).V:=by
      rw[<-dM];exact Yt _ _
     have e2:A0++(σ k0).A.drop A0.length=(σ k0).A:=by conv=>lhs;arg 1;rw[<-Ai]
                                                      exact Yt _ _
     rw[e1,e2]at h5;exact eo (fr:=(σ j).fr) (gL _ _ _ _) h5
    obtain⟨y,V',A',⟨rfl,rfl,rfl⟩,h5⟩:=dk gU.inv (Fr.refl gU.fr.now) gU.slot h4;exact h5 _ _ fun v w' g' h6 h7 h8 h9=>ih k0 o g' _ w' ho (gG v) (cM k0 y v w' g' (by rw[h2];rfl) h6 h7 h8 (hD.fr.BS h9) hD.nL hD.kw (il ez)) h9
   obtain⟨kK,iZ⟩:=kV fK nU;have h4:bI P ⟨cR,(σ k0).V,(σ k0).A⟩ (ow j) o (fun y V' A'=>y=x/\V'=V/\A'=A):=by
    rw[<-kK,<-iZ];exact eo (fr:=(σ j).fr) (gL _ _ _ _) (h3 _ ⟨rfl,rfl,rfl⟩)
   obtain⟨y,V',A',⟨rfl,rfl,rfl⟩,h5⟩:=dk gU.inv (Fr.refl gU.fr.now) gU.slot h4;have tc:(σ (j+1)).V=V':=by rw[h2];rfl
   have jo:(σ (j+1)).A=A':=by rw[h2];rfl
   by_cases ez:j∈ws
   ·refine h5 _ _ fun v w' g' h6 h7 h8 h9=>ih (j+1) o g' _ w' ho (gG v) (cM (j+1) y v w' g' (by rw[h2];rfl) (by rw[jo];exact h6) (by rw[tc,jo];exact h7) (by rw[jo];exact h8) (hD.fr.BS h9) (by omega) (.inr ⟨j,ez,rfl⟩) (fun i hi b8=>?_)) h9
    have aV:all[i]? =some all[i]:=YC b8;rw[bN];by_cases e:i=j
    ·subst e;simp
    ·rw[if_neg e];constructor
     ·intro bE;rcases Yc j i with h|h
      ·have hp:=b7 j i o _ ho aV h (dj i h bE) (mi j ez) (mi i hi);have hb:=bZ i _ aV bE;simp only[bq,hb,YA,YB]at hp;simp[hi,fK,-cO]at hp
      ·omega
     ·intro ax;by_cases e:j=q
      ·exact hq e i (gK i hi) (by omega)
      have hp:=b7 i j _ o aV ho (by omega) (fun h=>e h.1) (mi i hi) (mi j ez);simp only[bq,YA,YB]at hp;rcases hp.2 with h|h
      ·simp[hi,fK,-cO]at h
      ·exact cv i h
   ·rcases Du with Du|⟨p9,mI⟩
    ·exact absurd Du ez
    ·refine h5 _ _ fun v w' g' h6 h7 h8 h9=>ih k0 o g' _ w' ho (gG v) (cM k0 y v w' g' (by rw[h2];rfl) ?_ ?_ ?_ (hD.fr.BS h9) hD.nL hD.kw (il ez)) h9
     ·rw[<-iZ,<-mI,jo];exact h6
     ·rw[<-kK,<-iZ,<-p9,<-mI,tc,jo];exact h7
     ·have e1:(σ k0).A=A':=by rw[<-iZ,<-mI,jo]
      rw[e1]at h8⊢;exact h8
 ·rw[if_neg (by rw[lC,h1];simp)];have tc:(σ (j+1)).V=(σ j).V:=by rw[h2];rfl
  have jo:(σ (j+1)).A=(σ j).A:=by rw[h2];rfl
  by_cases ez:j∈ws
  ·have fK:=uT j o ho ez;obtain⟨kK,iZ⟩:=kV fK (mi j ez);refine ih (j+1) o g _ w ho (gG undef) (cM (j+1) (.c .undef) undef w g (by rw[h2];rfl) rfl ?_ ?_ hD.fr (by omega) (.inr ⟨j,ez,rfl⟩) (fun i hi b8=>?_)) (.refl hD.fr.now)
   ·rw[tc,jo,kK,iZ];exact hD.inv
   ·rw[jo,iZ];exact .refl _ _ _
   ·have aV:all[i]? =some all[i]:=YC b8;rw[bN];by_cases e:i=j
    ·subst e;simp
    ·rw[if_neg e];constructor
     ·intro bE;rcases Yc j i with h|h
      ·have hp:=b7 j i o _ ho aV h (dj i h bE) (mi j ez) (mi i hi);have hb:=bZ i _ aV bE;simp only[bq,hb,YA,YB]at hp;simp[hi,fK,-cO]at hp
      ·omega
     ·intro ax;by_cases e:j=q
      ·exact hq e i (gK i hi) (by omega)
      have hp:=b7 i j _ o aV ho (by omega) (fun h=>e h.1) (mi i hi) (mi j ez);simp only[bq,YA,YB]at hp;rcases hp.2 with h|h
      ·simp[hi,fK,-cO]at h
      ·exact cv i h
  ·exact ih k0 o g _ w ho (gG undef) (cM k0 (.c .undef) undef w g (by rw[h2];rfl) rfl hD.inv (.refl _ _ _) hD.fr hD.nL hD.kw (il ez)) (.refl hD.fr.now)
theorem HF {all:Array Oper} {ws fs:List Nat} {m q:Nat} {wt:List Nat} (hd:mj all ws fs m q wt=true):q∈ws/\(∀i∈ws,i∈wt)/\(∀(j:Nat) o,all[j]? =some o->∀e∈o.after,Region.binds .any e=true->e.on<j)/\
  (∀(i j:Nat) oi oj,all[i]? =some oi->all[j]? =some oj->i∈wt->i<=q->q<j->((aX all.toList []).getD j 0).testBit i=true)/\(∀(i j:Nat) oi oj d,all[i]? =some oi->all[j]? =some oj->i≠j->oi.dst=some d->oj.dst≠some d):=by
 simp only[mj,YA,Yn]at hd;obtain⟨⟨⟨⟨⟨⟨gk,jk⟩,nM⟩,I9⟩,Ja⟩,KR⟩,vZ⟩:=hd;have gK:∀i∈ws,i∈wt:=fun i hi=>by simpa using vZ i hi
 have cV:∀(j:Nat) o,all[j]? =some o->(o,j)∈all.toList.zipIdx:=fun j o h=>by
  rw[Yv];exact⟨j,by simp[Yx,h]⟩
 have wW:∀(i j:Nat) oi oj,all[i]? =some oi->all[j]? =some oj->i<j->n0 all ws fs m q wt (aX all.toList []) oi oj i j=true:=fun i j oi oj h1 h2 ax=>by
  have:=jk _ (cV j oj h2) _ (cV i oi h1);simpa[ax]using this
 have wX:∀(i j:Nat) oi oj d,all[i]? =some oi->all[j]? =some oj->i<j->oi.dst=some d->oj.dst≠some d:=fun i j oi oj d h1 h2 ax h3 h4=>by
  have:=wW i j oi oj h1 h2 ax;simp only[n0,cH,h3,h4]at this;split at this<;>simp at this
 refine⟨by simpa using KR,gK,fun j o h e he hb=>?_,fun i j oi oj h1 h2 h0 h3 h4=>?_,fun i j oi oj d h1 h2 dj h3 h4=>?_⟩
 ·have:=gk _ (cV j o h) e (YF.2 he);simpa[hb]using this
 ·have:=wW i j oi oj h1 h2 (by omega);rw[n0,if_neg (show¬(j=q/\wt.contains i=true) by omega)]at this;simp only[YA]at this;simpa[h0,h3,h4]using this.2
 ·rcases Nat.lt_or_gt_of_ne dj with h|h
  ·exact wX i j oi oj d h1 h2 h h3 h4
  ·exact wX j i oj oi d h2 h1 h h4 h3
theorem DE.Q4 {all:Array Oper} {ow:Nat->Bool} {ws fs:List Nat} {m q:Nat} {wt:List Nat} {σ:Nat->St} (hd:mj all ws fs m q wt=true) {d:Nat} {row:List CV} {cs:Array Value} {ty:TypeId} {oq:Oper} (hk:DF P all ow σ q d row cs ty oq)
  (hw:∀(j:Nat) o,all[j]? =some o->j∈ws\/((σ (j+1)).V=(σ j).V/\(σ (j+1)).A=(σ j).A))
  {af:Array Bool} {k0 b:Nat} (h:DE all ws σ n w0 g0 q d row cs ty af k0 b g a w) (dh:∀i∈wt,i<q->af[i]? =some true):∃g',yc all ws σ n w0 g0 af (q+1) g' a w:=by
 obtain⟨KR,gK,c7,HG,rj⟩:=HF hd;have Jc:q<all.size:=(YD.1 hk.at_).1;have bN:∀i,i≠q->(af.setIfInBounds q false)[i]? =af[i]? :=fun i hi=>YE (fun e=>hi e.symm)
 have UF:q<af.size:=(YD.1 h.M4).1;have Q5:(af.setIfInBounds q false)[q]? =some false:=by simp[UF]
 have iw:∀i,q<i->af[i]? ≠some true:=fun i hi hl=>by
  have b8:i<all.size:=by
   have:=(YD.1 hl).1;have e:=h.base.eI;simp at e;omega
  have aV:all[i]? =some all[i]:=YC b8;have:=u6 c7 h.base.closed i _ aV (h.base.closed i _ aV (by rw[bN i (by omega)];exact hl)) q (HG q i _ _ hk.at_ aV (gK q KR) (Yd _) hi);rw[Q5]at this;simp at this
 have gC:k0<=q:=by
  rcases h.base.kw with e|⟨i,hi,e⟩
  ·omega
  ·rcases Yc i q with h1|h1
   ·omega
   ·have:=h.base.nL;have h2:=(h.base.ep i hi (by omega)).2 (by omega);rcases Nat.eq_or_lt_of_le h1 with h3|h3
    ·subst h3;rw[Q5]at h2;simp at h2
    ·rw[bN i (by omega)]at h2;exact absurd h2 (iw i h3)
 have tH:∀c,k0<=c->c<=q->(σ c).V=(σ k0).V/\(σ c).A=(σ k0).A:=by
  intro c;induction c with
  |zero=>intro h1 _;obtain rfl:k0=0:=by omega
         exact⟨rfl,rfl⟩
  |succ c ih=>
   intro h1 h2;by_cases e:k0=c+1
   ·subst e;exact⟨rfl,rfl⟩
   ·obtain⟨h3,h4⟩:=ih (by omega) (by omega);rcases hw c _ (YC (by omega))with h5|⟨h5,h6⟩
    ·have:=(h.base.ep c h5 (by omega)).1 (by rw[bN c (by omega)];exact dh c (gK c h5) (by omega));omega
    ·exact⟨h5.trans h3,h6.trans h4⟩
 obtain⟨kK,iZ⟩:=tH q gC (Yd _);obtain⟨hI,hx,hb⟩:=h.base.inv.LJ h.mem hk.size hk.cells h.ob h.jy h.im;have UG:(σ (q+1)).V=(σ k0).V++[row]:=by rw[hk.next,<-kK];rfl
 have Q6:(σ (q+1)).A=(σ k0).A:=by rw[hk.next,<-iZ];rfl
 refine⟨{g with ob:=g.ob++[b]},by rw[UG,Q6];exact hI,h.base.fr.LJ h.new,h.base.size,h.base.defers,by simpa using h.base.eI,fun i o t x ho hl cn gI=>?_,fun t x Q7 gI=>?_,fun i hi b8=>?_,by omega,.inr ⟨q,KR,rfl⟩,fun i o ho hl e he dN=>?_⟩
 ·rw[Q6];by_cases e:i=q
  ·subst e;rw[hk.at_]at ho;cases ho
   rw[hk.dst]at cn;cases cn
   rw[hk.next]at gI;simp only[St.put,look,if_true]at gI;cases gI
   exact⟨_,h.slot,b,by rw[kK];exact hb,rfl⟩
  ·obtain⟨u,h1,h2⟩:=h.base.ga i o t x ho (by rw[bN i e];exact hl) cn gI;exact⟨u,h1,aO.ext hx h2⟩
 ·rw[Q6];obtain⟨u,h1,h2⟩:=h.base.gd t x (fun i o ho hl=>by
   by_cases e:i=q
   ·subst e;rw[Q5]at hl;simp at hl
   ·rw[bN i e]at hl;exact Q7 i o ho hl) gI
  exact⟨u,h1,aO.ext hx h2⟩
 ·constructor
  ·intro hl;rcases Yc q i with h1|h1
   ·exact absurd hl (iw i h1)
   ·omega
  ·intro ax;by_cases e:i=q
   ·subst e;exact h.M4
   ·exact dh i (gK i hi) (by omega)
 ·have ax:=c7 i o ho e he dN;by_cases e':i=q
  ·subst e';exact h.closed i o ho hl e he dN
  ·by_cases e2:e.on=q
   ·rw[e2];exact h.M4
   ·have:=h.base.closed i o ho (by rw[bN i e'];exact hl) e he dN;rwa[bN _ e2]at this
set_option maxHeartbeats 1000000 in
theorem BT {all:Array Oper} {ow:Nat->Bool} {ws fs:List Nat} {m q:Nat} {wt:List Nat} {ex:List Nat} {V0:List (List CV)} {A0:List bu} {σ:Nat->St} {K:St->Prop} {Q:Exit->Act->World->Prop} (hd:mj all ws fs m q wt=true) (fc:da n all.toList=true)
  (lV:∀(j:Nat) o,all[j]? =some o->Hy P all (ow j) fs j ex V0 A0 o (σ j) (σ (j+1))/\(j∈ws\/((σ (j+1)).V=(σ j).V/\(σ (j+1)).A=(σ j).A))/\(j<m->KN ex V0 A0 (σ (j+1))\/((σ (j+1)).V=(σ j).V/\(σ (j+1)).A=(σ j).A))) (Hz:(σ 0).V=V0/\(σ 0).A=A0)
  {d:Nat} {row:List CV} {cs:Array Value} {ty:TypeId} {oq:Oper} (hk:DF P all ow σ q d row cs ty oq)
  (hK:K (σ all.size)) (hQ:∀s' g' a' w',K s'->Rp n w0 g0 s' g' a' w'->Q .normal a' w'):
  ∀(fuel:Nat) (af:Array Bool) (k0:Nat) (g:Gh) (a:Act) (w:World),((Yj all.size).filter fun i=> !af.getD i true).length<=fuel->
   ((yc all ws σ n w0 g0 af k0 g a w/\(af[q]? =some true->∀i∈wt,i<q->af[i]? =some true))\/((∃i∈wt,i<q/\af[i]? ≠some true)/\∃b,DE all ws σ n w0 g0 q d row cs ty af k0 b g a w))->wpAny P .any all Q fuel af a w:=by
 obtain⟨KR,gK,c7,HG,rj⟩:=HF hd;have Jc:q<all.size:=(YD.1 hk.at_).1;have pH:∀{af:Array Bool},Region.ready .any all af=[]->af.size=all.size->∀i,i<all.size->af[i]? =some true:=by
  intro af hr vK i;induction i using Ye with
  |_ i ih=>
   intro hi;have ho:all[i]? =some all[i]:=YC hi;have bE:i<af.size:=by omega
   cases hl:af[i]with
   |true=>rw[YC bE,hl]
   |false=>
    exfalso
    have:i∈Region.ready .any all af:=mem_ready.2 ⟨by simp[bE,hl],_,ho,fun e he hb=>cF.2 (ih e.on (c7 i _ ho e he hb) (by have:=c7 i _ ho e he hb;omega))⟩;rw[hr]at this;simp at this
 have lU:∀{af:Array Bool} {k0:Nat} {g:Gh} {a:Act} {w:World},((yc all ws σ n w0 g0 af k0 g a w/\(af[q]? =some true->∀i∈wt,i<q->af[i]? =some true))\/((∃i∈wt,i<q/\af[i]? ≠some true)/\∃b,DE all ws σ n w0 g0 q d row cs ty af k0 b g a w))->
   Region.ready .any all af=[]->Q .normal a w:=by
  intro af k0 g a w hD hr;rcases hD with⟨hD,_⟩|⟨⟨i,_,hi,hl⟩,b,hD⟩
  rotate_left
  ·have e:=hD.base.eI;simp at e;exact absurd (pH hr e i (by omega)) hl
  have dh:=pH hr hD.eI;have mb:∀(j:Nat) o t,all[j]? =some o->o.dst≠some t->look (σ (j+1)).fr t=look (σ j).fr t:=fun j o t h1 h2=>by
   obtain⟨⟨_,h3⟩,_⟩:=lV j o h1;have kp:∀(x:AV) V A,look ((σ j).put o.dst x V A).fr t=look (σ j).fr t:=fun x V A=>by
    simp only[St.put];cases q9:o.dst with
    |none=>rfl
    |some d=>simp only[look];rw[if_neg (fun e=>h2 (by rw[q9,e]))]
   rcases h3 with⟨_,x,V,A,h4,_,_⟩|⟨_,h4⟩
   ·rw[h4];exact kp x V A
   ·rw[h4];exact kp _ _ _
  have oP:∀(j t:Nat),j<=all.size->(∀(i:Nat) o,i<j->all[i]? =some o->o.dst≠some t)->look (σ j).fr t=look (σ 0).fr t:=by
   intro j;induction j with
   |zero=>intro t _ _;rfl
   |succ j ih=>
    intro t hj iw;have ho:all[j]? =some all[j]:=YC (by omega);rw[mb j _ t ho (iw j _ (by omega) ho)];exact ih t (by omega) (fun i o hi=>iw i o (by omega))
  have oQ:∀(j i:Nat) oi t,j<=all.size->i<j->all[i]? =some oi->oi.dst=some t->look (σ j).fr t=look (σ (i+1)).fr t:=by
   intro j;induction j with
   |zero=>intro i oi t _ h;omega
   |succ j ih=>
    intro i oi t hj kI aV cn;by_cases e:i=j
    ·subst e;rfl
    ·have ho:all[j]? =some all[j]:=YC (by omega);rw[mb j _ t ho (rj i j oi _ t aV ho (by omega) cn)];exact ih i oi t (by omega) (by omega) aV cn
  have tH:∀c,k0<=c->c<=all.size->(σ c).V=(σ k0).V/\(σ c).A=(σ k0).A:=by
   intro c;induction c with
   |zero=>intro h1 _;obtain rfl:k0=0:=by omega
          exact⟨rfl,rfl⟩
   |succ c ih=>
    intro h1 h2;by_cases e:k0=c+1
    ·subst e;exact⟨rfl,rfl⟩
    ·obtain⟨h3,h4⟩:=ih (by omega) (by omega);rcases(lV c _ (YC (by omega))).2.1 with h5|⟨h5,h6⟩
     ·have:=(hD.ep c h5 (by omega)).1 (dh c (by omega));omega
     ·exact⟨h5.trans h3,h6.trans h4⟩
  have kV:=tH all.size hD.nL (Yd _);refine hQ _ g a w hK ⟨by rw[kV.1,kV.2];exact hD.inv,hD.fr,hD.size,hD.defers,fun t x hx=>?_⟩;rw[kV.2];by_cases hex:∃(i:Nat) (o:Oper),all[i]? =some o/\o.dst=some t
  ·obtain⟨i,o,ho,cn⟩:=hex;have hi:=(YD.1 ho).1;rw[oQ all.size i o t (Yd _) hi ho cn]at hx;exact hD.ga i o t x ho (dh i hi) cn hx
  ·rw[oP all.size t (Yd _) (fun i o _ ho cn=>hex ⟨i,o,ho,cn⟩)]at hx;exact hD.gd t x (fun i o ho _ cn=>hex ⟨i,o,ho,cn⟩) hx
 intro fuel;induction fuel with
 |zero=>
  intro af k0 g a w hf hD;have la:Region.ready .any all af=[]:=by
   have h0:((Yj all.size).filter fun i=> !af.getD i true)=[]:=List.eq_nil_of_length_eq_zero (by omega);rcases hr:Region.ready .any all af with _|⟨j,r⟩
   ·rfl
   ·have hj:j∈Region.ready .any all af:=by rw[hr];simp
    obtain⟨h1,o,h2,_⟩:=mem_ready.1 hj;have:j∈((Yj all.size).filter fun i=> !af.getD i true):=by
     rw[List.mem_filter,Yu];exact⟨(YD.1 h2).1,by simp[h1]⟩
    rw[h0]at this;simp at this
  exact⟨la,lU hD la⟩
 |succ fuel ih=>
  intro af k0 g a w hf hD;refine⟨fun hr=>lU hD hr,fun j hj=>?_⟩;obtain⟨mX,o,ho,cG⟩:=mem_ready.1 hj;have mY:=er mX;have rP:j<all.size:=(YD.1 ho).1;have vK:af.size=all.size:=by
   rcases hD with⟨hD,_⟩|⟨_,b,hD⟩
   ·exact hD.eI
   ·simpa using hD.base.eI
  have jA:j<af.size:=by omega
  have bN:∀i,(af.setIfInBounds j true)[i]? =if i=j then some true else af[i]? :=fun i=>by
   by_cases e:i=j
   ·subst e;simp[jA]
   ·rw[if_neg e,YE (fun h=>e h.symm)]
  have c4:((Yj all.size).filter fun i=> !(af.setIfInBounds j true).getD i true).length<=fuel:=by
   have ax:((Yj all.size).filter fun i=> !(af.setIfInBounds j true).getD i true).length<((Yj all.size).filter fun i=> !af.getD i true).length:=by
    have gK:∀i,(!(af.setIfInBounds j true).getD i true)=true->(!af.getD i true)=true:=fun i h=>by
     by_cases e:i=j
     ·subst e;simp[jA]at h
     ·have:(af.setIfInBounds j true).getD i true=af.getD i true:=by
       simp only[YH,bN,if_neg e]
      rwa[this]at h
    exact filter_lt gK (Yu.2 rP) (by simp[mX]) (by simp[jA])
   omega
  have cB:∀e∈o.after,Region.binds .any e=true->af[e.on]? =some true:=fun e he hb=>cF.1 (cG e he hb)
  rcases hD with⟨hD,hL⟩|⟨⟨i0,LL,MS,I6⟩,b,hD⟩
  ·by_cases GP:j=q/\∃i∈wt,i<q/\af[i]? ≠some true
   ·-- the allocation, before its turn
    obtain⟨rfl,hex⟩:=GP;obtain rfl:o=oq:=by have:=hk.at_;rw[ho]at this;exact Option.some.inj this
    unfold wpOp;simp only[ho];rw[if_pos (by simp[Region.wanted,hk.guard])];refine .inl ?_;unfold Oper.wp;rw[hk.run];obtain⟨g1,vB,fj,dC⟩:=hD.inv.ej (.cells cs ty) 0;have kH:=(Fr.refl hD.fr.now).ej (.cells cs ty) 0;rw[<-vB]at kH;have kp:∀t,t≠d->(a.put o.dst (.pointer (some ⟨w.heap.size,0,none⟩))).tmps[t]? =a.tmps[t]? :=fun t ht=>by
     rw[hk.dst];simp only[Act.put];rw[YE (fun e=>ht e.symm)]
    have Ae:d<n:=by
     have:=Yn.1 fc o (by rw[YF];exact YG ho);simpa[hk.dst]using this
    refine ih _ k0 g1 _ _ c4 (.inr ⟨?_,w.heap.size,⟨by rw[bN,if_pos rfl],?_,?_,heap_alloc_new w _,fun hm=>?_,fun hm=>?_,by rw[vB];simp,hD.fr.size,by simp,fun i oi aV bE e he hb=>?_⟩⟩)
    ·obtain⟨i,hw,hi,hl⟩:=hex;exact⟨i,hw,hi,by rw[bN,if_neg (by omega)];exact hl⟩
    ·rw[LK af j (by rw[mY];simp) jA];refine⟨fj,hD.fr.BS kH,by rw[hk.dst];simp[Act.put,hD.size],by rw[hk.dst];simp[Act.put,hD.defers],hD.eI,fun i oi t x aV bE cn hx=>?_,fun t x iw hx=>?_,hD.ep,hD.nL,hD.kw,hD.closed⟩
     ·have kI:i≠j:=fun e=>by subst e;rw[mY]at bE;simp at bE
      have Q8:t≠d:=fun e=>by
       subst e;exact rj i j oi o t aV ho kI cn hk.dst
      obtain⟨u,h1,h2⟩:=hD.ga i oi t x aV bE cn hx;exact⟨u,by rw[kp t Q8];exact h1,aO.ext dC h2⟩
     ·have Q8:t≠d:=fun e=>by
       subst e;rw[hk.s0]at hx;simp at hx
      obtain⟨u,h1,h2⟩:=hD.gd t x iw hx;exact⟨u,by rw[kp t Q8];exact h1,aO.ext dC h2⟩
    ·have:d<a.tmps.size:=by rw[hD.size];exact Ae
     rw[hk.dst];simp[Act.put,this]
    ·rw[vB]at hm;obtain⟨l,hl⟩:=List.getElem?_of_mem hm;have:=hD.inv.qW hl;omega
    ·rw[vB]at hm;obtain⟨k,v',q1,q2⟩:=Gh.fQ (g:=g) (by simpa[Gh.jy]using hm);have:=hD.inv.mN q1 q2;omega
    ·rw[bN]at bE⊢;have:af[e.on]? =some true:=by
      by_cases e':i=j
      ·subst e';obtain rfl:o=oi:=by rw[ho]at aV;exact Option.some.inj aV
       exact cB e he hb
      ·rw[if_neg e']at bE;exact hD.closed i oi aV bE e he hb
     by_cases e':e.on=j
     ·rw[if_pos e']
     ·rw[if_neg e'];exact this
   ·refine zk hd fc lV Hz hD hL hj (fun e i hw hi=>?_) fun k1 o' g' a' w' s6 gG JF hF=>ih _ k1 g' a' w' c4 (.inl ⟨JF,fun hl i hw hi=>?_⟩)
    ·by_cases hc:af[i]? =some true
     ·exact hc
     ·exact absurd ⟨e,i,hw,hi,hc⟩ GP
    ·rw[bN];by_cases e:i=j
     ·rw[if_pos e]
     ·rw[if_neg e];by_cases e':j=q
      ·by_cases hc:af[i]? =some true
       ·exact hc
       ·exact absurd ⟨e',i,hw,hi,hc⟩ GP
      ·rw[bN,if_neg (fun h=>e' h.symm)]at hl;exact hL hl i hw hi
  ·-- with the block at hand
   have GP:j≠q:=fun e=>by subst e;rw[hD.M4]at mY;simp at mY
   have UH:j<q:=by
    rcases Yh j q with h|h|h
    ·exact h
    ·exact absurd h GP
    ·exact absurd (u6 c7 hD.closed j o ho cB i0 (HG i0 j _ o (YC (by omega)) ho LL (by omega) h)) I6
   have JG:j∈Region.ready .any all (af.setIfInBounds q false):=by
    refine mem_ready.2 ⟨?_,o,ho,fun e he hb=>cF.2 ?_⟩
    ·have:(af.setIfInBounds q false)[j]? =some false:=by rw[YE (fun h=>GP h.symm)];exact mY
     simp[YH,this]
    ·have ax:=c7 j o ho e he hb;rw[YE (by omega)];exact cB e he hb
   have UI:q<af.size:=by omega
   refine zk hd fc lV Hz hD.base (fun hl=>by simp[UI]at hl) JG (fun e=>absurd e GP) fun k1 o' g' a' w' s6 gG JF hF=>?_
   have KS:=hD.step GP (gG d fun e=>rj j q o' oq d s6 hk.at_ GP e hk.dst) JF hF (fun i oi aV bE e he hb=>by
    rw[bN]at bE⊢;have:af[e.on]? =some true:=by
     by_cases e':i=j
     ·subst e';obtain rfl:o=oi:=by rw[ho]at aV;exact Option.some.inj aV
      exact cB e he hb
     ·rw[if_neg e']at bE;exact hD.closed i oi aV bE e he hb
    by_cases e':e.on=j
    ·rw[if_pos e']
    ·rw[if_neg e'];exact this)
   by_cases hx:∃i∈wt,i<q/\(af.setIfInBounds j true)[i]? ≠some true
   ·exact ih _ k1 g' a' w' c4 (.inr ⟨hx,b,KS⟩)
   ·have dh:∀i∈wt,i<q->(af.setIfInBounds j true)[i]? =some true:=fun i hw hi=>by
     by_cases hc:(af.setIfInBounds j true)[i]? =some true
     ·exact hc
     ·exact absurd ⟨i,hw,hi,hc⟩ hx
    obtain⟨g'',hD''⟩:=KS.Q4 hd hk (fun j o ho=>(lV j o ho).2.1) dh;exact ih _ (q+1) g'' a' w' c4 (.inl ⟨hD'',fun _=>dh⟩)
theorem T.An {id:Nat} {ops:Array Oper} (hm:P.follows .mixedOrders=true) (ow:Nat->Bool) (ws fs:List Nat) (m:Nat) (ex:List Nat) (q:Nat) (wt:List Nat) (d:Nat) {e:TypeId} {D:TD} {row:List CV} {oq:Oper} (hd:mj ops ws fs m q wt=true)
  (hq:ops[q]? =some oq) (gL:oq.op=.alloc e) (hg:oq.guard=none) (PN:oq.dst=some d) (ht:td P e=some D) (hz:D.zero=some row) (Be:look s.fr d=none)
  (h:oH P ops ow ws fs m ex s.V s.A (fun s'=>Q .normal s') 0 ops.toList s):T P n (.region id ops true) Q s:=by
 intro eT w0 g0 g a w hR;obtain⟨σ,h0,hK,lV⟩:=mh ops.toList 0 s h;obtain⟨hI,hx⟩:=hR.inv.heap (w':={w with drawn:=w.drawn+1}) rfl;obtain⟨inf,hi,_,_,UJ⟩:=gx ht;obtain⟨v,hv,hc⟩:=UJ _ hz;have NV:∀(j:Nat) o,ops[j]? =some o->Hy P ops (ow j) fs j ex s.V s.A o (σ j) (σ (j+1))/\(j∈ws\/((σ (j+1)).V=(σ j).V/\(σ (j+1)).A=(σ j).A))/\(j<m->KN ex s.V s.A (σ (j+1))\/((σ (j+1)).V=(σ j).V/\(σ (j+1)).A=(σ j).A)):=fun j o ho=>by
  have:=lV j o (by simpa using ho);simpa only[Yg]using this
 have cM:σ (q+1)=(σ q).put (some d) (.c (.ptr (σ q).V.length 0)) ((σ q).V++[row]) (σ q).A:=by
  rcases(NV q oq hq).1.2 with⟨_,x,V,A,h1,h2,_⟩|⟨h1,_⟩
  ·have h3:=h2 (fun y V' A'=>y=x/\V'=V/\A'=A) ⟨rfl,rfl,rfl⟩;simp only[bI,gL,eS,bU,ht,hz]at h3;obtain⟨rfl,rfl,rfl⟩:=h3;rw[h1,PN]
  ·simp[gw,hg]at h1
 have Bg:DF P ops ow σ q d row v.cells e oq:=by
  refine⟨hq,hg,PN,by rw[h0];exact Be,?_,fun j c u h1 h2 g w A=>?_,cM,fun a w=>?_⟩
  ·have:=iW hc;simpa using this
  ·exact nF (o7 hc j c u h1 (by simpa using h2))
  ·simp[execOp,gL,Instr.alloc,zeroValue,typeInfo,hi,hv,newVar,jG]
 refine wp_region_any hm (BT (ex:=ex) (K:=fun s'=>Q .normal s') (w0:=w0) (g0:=g0) (n:=n) (σ:=σ) (ow:=ow) hd eT NV ⟨by rw[h0],by rw[h0]⟩ Bg ?_ (fun s' g' a' w' h1 h2=>⟨s',g',h1,h2⟩) ops.size (Array.replicate ops.size false) 0 g a _ ?_ (.inl ⟨?_,fun hl=>?_⟩))
 ·simpa using hK
 ·exact Yf (List.length_filter_le _ _) (by simp)
 ·refine⟨by rw[h0];exact hI,hR.fr.heap rfl rfl rfl rfl,hR.size,hR.defers,by simp,fun i o t x ho hl=>?_,fun t x _ gI=>?_,fun i _ b8=>?_,Nat.zero_le _,.inl rfl,fun i o ho hl=>?_⟩
  ·have hi:=(YD.1 ho).1;simp[hi]at hl
  ·rw[h0]at gI⊢;obtain⟨u,h1,h2⟩:=hR.slot t x gI;exact⟨u,h1,aO.ext hx h2⟩
  ·simp[b8]
  ·have hi:=(YD.1 ho).1;simp[hi]at hl
 ·have hi:=(YD.1 hq).1;simp[hi]at hl
theorem T.PO {id:Nat} {l:List Oper} {y:Code} (hm:P.follows .mixedOrders=true) (ow:Nat->Bool) (ws fs:List Nat) (m:Nat) (ex:List Nat) (q:Nat) (wt:List Nat) (d:Nat) {e:TypeId} {D:TD} {row:List CV} {oq:Oper} (hd:mj l.toArray ws fs m q wt=true)
  (hq:l.toArray[q]? =some oq) (gL:oq.op=.alloc e) (hg:oq.guard=none) (PN:oq.dst=some d) (ht:td P e=some D) (hz:D.zero=some row) (Be:look s.fr d=none)
  (h:∀K:St->Prop,(∀s',T P n y Q s'->K s')->ss P l.toArray ow ws fs m ex s.V s.A K 0 l s):T P n (.seq (.region id l.toArray true) y) Q s:=
 T.seq (T.An hm ow ws fs m ex q wt d hd hq gL hg PN ht hz Be (h _ fun _ h=>h).run)
end
end Go.Av
namespace Go.Av
attribute [-simp] Go.Av.bI Go.Av.eS Go.Av.iv Go.Av.bU Go.Av.bF Go.Av.iz Go.Av.mz Go.Av.rX Go.Av.mO Go.Av.z6 Go.Av.rowsOf Go.Av.look Go.Av.tq Go.Av.St.put Go.Av.gQ Go.Av.Fy Go.Av.b9 Go.Av.zY Go.Av.Jk Go.Av.rW Go.Av.rV Go.Av.EA Go.Av.AV.plain Go.Av.AV.cells Go.Av.CV.j5 Go.Av.nE Go.Av.iL Go.Av.kJ Go.Av.fM Go.Av.bQ Go.Av.ib Go.Av.AV.kT Go.Av.CV.kT Go.Av.qD Go.Av.AV.fS Go.Av.CV.fS Go.Av.bA Go.Av.iM Go.Av.kk Go.Av.oE Go.Av.cO Go.Av.fu Go.Av.uQ Go.Av.AV.qF Go.Av.CV.res Go.Av.se Go.Av.pos? Go.Av.wD Go.Av.wJ Go.Av.gR Go.Av.Sub Go.Av.kL Go.Av.kU Go.Av.ja Go.Av.gV Go.Av.jb Go.Av.gW Go.Av.aG.b4 Go.Av.aG.bP Go.Av.al.b4 Go.Av.al.mf Go.Av.al.rk Go.Av.al.sj Go.Av.al.sk Go.Av.al.lD Go.Av.al.bP Go.Av.dI Go.Av.rS Go.Av.iE Go.Av.iy Go.Av.cU
open Go
def UK:Op->Bool
 |.call {callee:=.value _,.. }=>true
 |_=>false
def Q9 (o:Op):Bool:=PJ o||UK o
def JH (all:Array Oper) (wv wa fs:List Nat) (m:Nat) (ms:List Nat) (oi oj:Oper) (i j:Nat):Bool:=
 (oi.dst.isNone||oi.dst !=oj.dst)&&((!dE all oi oj && !dE all oj oi &&
  !((wv.contains i||wa.contains i)&& !cO oj.op && !(fs.contains j && decide (i<m))&& !(wv.contains i && wa.contains j)&& !(wa.contains i && wv.contains j))&&
  !((wv.contains j||wa.contains j)&& !cO oi.op && !(fs.contains i && decide (j<m))&& !(wv.contains j && wa.contains i)&& !(wa.contains j && wv.contains i)))||(ms.getD j 0).testBit i)
def PQ (all:Array Oper) (wv wa fs:List Nat) (m:Nat):Bool:=
 let l:=all.toList.zipIdx
 let ms:=aX all.toList []
 (l.all fun(o,j)=>o.after.toList.all fun e=> !Region.binds .any e||decide (e.on<j))&&
 (l.all fun(oj,j)=>l.all fun(oi,i)=> !(decide (i<j))||JH all wv wa fs m ms oi oj i j)&&
 (l.all fun(o,j)=>(!wv.contains j|| !cO o.op)&&(!wa.contains j||Q9 o.op))&&(fs.all fun j=> !wv.contains j && !wa.contains j)&&
 (fs.all fun j=>(wv++wa).all fun i=>decide (i<m)||decide (j<i))&&(wv.all fun j=> !wa.contains j)
def HH (P:Program) (all:Array Oper) (ow:Nat->Bool) (wv wa fs:List Nat) (m:Nat) (ex:List Nat) (V0:List (List CV)) (A0:List bu) (K:St->Prop):Nat->List Oper->St->Prop
 |_,[],s=>K s
 |i,o::rest,s=>iv all s o (bI P s (ow i) o fun x V A=>((i∈wv\/V=s.V)/\(i∈wa\/A=s.A))/\(i∈wv\/i∈wa->i<m->V.take V0.length=rS ex (fun i=>V.getD i []) V0/\A.take A0.length=A0)/\(i∈fs->dI P s (ow i) o ex V0 A0 x)/\
   (i∈wv->∀A2,bI P ⟨s.fr,s.V,A2⟩ (ow i) o fun y V' A'=>y=x/\V'=V/\A'=A2)/\(i∈wa->PJ o.op=false->∀V2,bI P ⟨s.fr,V2,s.A⟩ (ow i) o fun y V' A'=>y=x/\V'=V2/\A'=A)/\HH P all ow wv wa fs m ex V0 A0 K (i+1) rest (s.put o.dst x V A)) (HH P all ow wv wa fs m ex V0 A0 K (i+1) rest (s.put o.dst (.c .undef) s.V s.A))
section
variable {P:Program} {n:Nat} {Q Q':Exit->St->Prop} {s s':St} {w0:World} {g0 g g':Gh} {a:Act} {w w':World} {V:List (List CV)} {A A':List bu}
def UL (P:Program) (all:Array Oper) (ow:Bool) (wv wa fs:List Nat) (j:Nat) (ex:List Nat) (V0:List (List CV)) (A0:List bu) (o:Oper) (s s':St):Prop:=
 iv all s o True True/\((gw all s o=true/\∃x V A,s'=s.put o.dst x V A/\(∀K:AV->List (List CV)->List bu->Prop,K x V A->bI P s ow o K)/\(j∈fs->dI P s ow o ex V0 A0 x)/\
  (j∈wv->∀A2,bI P ⟨s.fr,s.V,A2⟩ ow o fun y V' A'=>y=x/\V'=V/\A'=A2)/\(j∈wa->PJ o.op=false->∀V2,bI P ⟨s.fr,V2,s.A⟩ ow o fun y V' A'=>y=x/\V'=V2/\A'=A))\/(gw all s o=false/\s'=s.put o.dst (.c .undef) s.V s.A))
structure VS (all:Array Oper) (wv wa:List Nat) (σ:Nat->St) (n:Nat) (w0:World) (g0:Gh) (af:Array Bool) (kv ka:Nat) (g:Gh) (a:Act) (w:World):Prop where
 inv:Inv g w (σ kv).V (σ ka).A
 fr:Fr w0 g0 w g
 size:a.tmps.size=n
 defers:a.defers=[]
 eI:af.size=all.size
 ga:∀(i:Nat) o t x,all[i]? =some o->af[i]? =some true->o.dst=some t->look (σ (i+1)).fr t=some x->∃u,a.tmps[t]? =some u/\aO g w (σ ka).A x u
 gd:∀t x,(∀(i:Nat) o,all[i]? =some o->af[i]? =some true->o.dst≠some t)->look (σ 0).fr t=some x->∃u,a.tmps[t]? =some u/\aO g w (σ ka).A x u
 NT:∀i∈wv,i<all.size->(af[i]? =some true↔i<kv)
 NU:∀i∈wa,i<all.size->(af[i]? =some true↔i<ka)
 UC:kv<=all.size
 UD:ka<=all.size
 vw:kv=0\/∃i∈wv,kv=i+1
 aw:ka=0\/∃i∈wa,ka=i+1
 closed:∀(i:Nat) o,all[i]? =some o->af[i]? =some true->∀e∈o.after,Region.binds .any e=true->af[e.on]? =some true
end
end Go.Av
