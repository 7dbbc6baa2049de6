/- A part. -/
import Derived.Test.YtloolmchekcmeaaGreatXD2
set_option linter.unusedVariables false
set_option linter.unusedSimpArgs false
open List renaming range->X3,mem_append->X4,all_eq_true->X5,length_nil->X6,getD->X7,length_cons->X8,mem_of_getElem?->X9,getElem?_eq_some_iff->Ya,getElem?_append_left->Yb,zipWith->Yc,take_append_drop->Yd,mem_singleton->Ye,mem_range->Yf,mem_iff_getElem?->Yg,mem_cons->Yh,getElem?_zipIdx->Yi,getElem?_of_mem->Yj,contains_eq_mem->Yk,append_assoc->Yl
open Bool renaming and_eq_true->Ym,or_eq_true->Yn
open Nat renaming lt_or_ge->Yo,le_refl->Yp,le_trans->Yq,zero_add->Yr,strongRecOn->Ys,lt_trichotomy->Yt,lt_of_lt_of_le->Yu
open Array renaming getElem?_eq_getElem->Yv,getElem?_eq_some_iff->Yw,getElem?_setIfInBounds_ne->Yx,mem_toList_iff->Yy,mem_of_getElem?->Yz,getD_eq_getD_getElem?->YA
open Option renaming bind_some->YB
namespace Go.Av
attribute [-simp] Go.Av.c8 Go.Av.qW
open Go
structure dI where
 name:List UInt8
 ty:aF
def lJ (b:dI):List DV:=[.str b.name,.i b.ty.kind,.sl (b.ty.kids.map b5)]
abbrev km:aF:=.mk 1 []
abbrev bp:aF:=.mk 2 []
abbrev cx:aF:=.mk 3 []
abbrev aX:aF:=.mk 0 []
mutual
def bC:aF->aF->aF
 |.mk k l,.mk k' l'=>if k=1 then .mk k' l' else if k'=1 then .mk k l else .mk k (jx l l')
def jx:List aF->List aF->List aF
 |x::xs,y::ys=>bC x y::jx xs ys
 |_,_=>[]
end
theorem um:∀(l m:List aF),jx l m=Yc bC l m
 |[],_=>by simp[jx]
 |x::xs,[]=>by simp[jx]
 |x::xs,y::ys=>by simp[jx,um xs ys]
theorem gh (a b:aF):bC a b=if a.kind=1 then b else if b.kind=1 then a else .mk a.kind (Yc bC a.kids b.kids):=by
 cases a;cases b;simp only[bC,um];rfl
def dO:List dI->List UInt8->Option aF
 |[],_=>none
 |b::r,s=>match dO r s with
  |some t=>some t
  |none=>if b.name=s then some b.ty else none
def uZ (ctx:List dI):Bool:=ctx.all (fun b=>dG b.name && al 4 b.ty)&& decide (ctx.length<=12)
def cQ (k:Int) (t:aF):Option (aF×aF):=
 if t.kind=1 then some (km,km)else if t.kind=k then match t.kids with
  |a::b::_=>some (a,b)
  |_=>none
 else none
def rT (k:Int) (a b:aF):Option aF:=if al 4 (.mk k [a,b])=true then some (.mk k [a,b])else none
def c6 (ctx:List dI) (k:Int) (name:List UInt8) (ty:aF) (ts:List aF):Option aF:=
 if k=1 then dO ctx name
 else if k=2 then some bp
 else if k=3\/k=4 then some cx
 else match ts with
  |[a]=>
   if k=5 then rT 4 ty a
   else if k=11 then(cQ 5 a).map (·.1)
   else if k=12 then(cQ 5 a).map (·.2)
   else if k=13 then if aD a ty=true then some ty else none
   else none
  |[a,b]=>
   if k=6 then match cQ 4 a with
    |some (x,y)=>if aD b x=true then some y else none
    |none=>none
   else if k=7 then if aD a bp=true/\aD b bp=true then some bp else none
   else if k=8 then if aD a bp=true/\aD b bp=true then some cx else none
   else if k=10 then rT 5 a b
   else none
  |[a,b,c]=>if k=9 then if aD b c=true/\aD a cx=true then some (bC b c)else none else none
  |_=>none
mutual
def eQ:List dI->ak->Option aF
 |ctx,.mk k s n t f b l=>match eg (if k=5 then ctx++[⟨s,t⟩]else ctx) l with
  |none=>none
  |some ts=>c6 ctx k s t ts
def eg:List dI->List ak->Option (List aF)
 |_,[]=>some []
 |ctx,e::r=>match eQ ctx e with
  |none=>none
  |some t=>match eg ctx r with
   |none=>none
   |some ts=>some (t::ts)
end
def cc (ctx:List dI) (e:ak):List dI:=if e.kind=5 then ctx++[⟨e.name,e.ty⟩]else ctx
theorem mr (ctx:List dI) (e:ak):eQ ctx e=match eg (cc ctx e) e.kids with
  |none=>none
  |some ts=>c6 ctx e.kind e.name e.ty ts:=by
 cases e;simp only[eQ];rfl
theorem uo {a b:aF} (h:aD a b=true) (ha:a.kind≠1) (hb:b.kind≠1):a.kind=b.kind/\iH aD a.kids b.kids=true:=by
 rw[nh]at h;simpa[ha,hb]using h
theorem zy {α β:Type} {q:α->β->Bool}:∀{xs:List α} {ys:List β} {i:Nat} {x:α} {y:β},iH q xs ys=true->xs[i]? =some x->ys[i]? =some y->q x y=true
 |[],_,_,_,_,_,h,_=>by simp at h
 |x::xs,[],_,_,_,h,_,_=>by simp[iH]at h
 |x::xs,y::ys,0,_,_,h,h1,h2=>by simp[iH]at h;simp at h1 h2;subst h1;subst h2;exact h.1
 |x::xs,y::ys,i+1,_,_,h,h1,h2=>by simp[iH]at h;simp at h1 h2;exact zy h.2 h1 h2
theorem nj:∀{d:Nat} {t:aF},al d t=true->al (d+1) t=true
 |0,t,h=>by simp[al]at h
 |d+1,t,h=>by
  simp only[al,Ym,X5]at h⊢;exact⟨h.1,fun u hu=>by have:=nj (h.2 u hu);simpa[al]using this⟩
theorem nk:∀(d:Nat) (a b:aF),al d a=true->al d b=true->aD a b=true->al d (bC a b)=true
 |0,a,b,h,_,_=>by simp[al]at h
 |d+1,a,b,ha,hb,hc=>by
  rw[gh];split
  ·exact hb
  ·split
   ·exact ha
   ·rename_i h1 h2;obtain⟨hk,hq⟩:=uo hc h1 h2;simp only[al,Ym,decide_eq_true_eq,X5,aF.cb,aF.bD,List.length_zipWith]at ha hb⊢;have hl:=rQ hq;refine⟨by rw[ha.1];omega,fun u hu=>?_⟩;obtain⟨i,hi⟩:=Yj hu;rw[List.getElem?_zipWith]at hi;cases hx:a.kids[i]? with
    |none=>simp[hx]at hi
    |some x=>
     cases hy:b.kids[i]? with
     |none=>simp[hx,hy]at hi
     |some y=>
      simp[hx,hy]at hi;subst hi;exact nk d x y (ha.2 x (X9 hx)) (hb.2 y (X9 hy)) (zy hq hx hy)
theorem eA {k:Int} {t a b:aF} (h:cQ k t=some (a,b)) (ht:al 4 t=true):al 4 a=true/\al 4 b=true:=by
 simp only[cQ]at h;split at h
 ·simp at h;obtain⟨rfl,rfl⟩:=h;simp[al,e7]
 ·split at h
  ·obtain⟨e,he,_,_,hs⟩:=iS ht;obtain rfl:e=3:=by omega
   split at h
   ·rename_i x y r hk;simp at h;obtain⟨rfl,rfl⟩:=h;exact⟨nj (hs _ (by simp[hk])),nj (hs _ (by simp[hk]))⟩
   ·simp at h
  ·simp at h
theorem rU:∀{ctx:List dI} {s:List UInt8} {t:aF},dO ctx s=some t->∃b∈ctx,b.ty=t/\b.name=s
 |[],_,_,h=>by simp[dO]at h
 |b::r,s,t,h=>by
  simp only[dO]at h;split at h
  ·rename_i u hu;simp at h;subst h;obtain⟨b',h1,h2⟩:=rU hu;exact⟨b',by simp[h1],h2⟩
  ·split at h
   ·rename_i hb;simp at h;exact⟨b,by simp,h,hb⟩
   ·simp at h
def ir (ctx:List dI):Prop:=∀b∈ctx,al 4 b.ty=true
theorem zA {ctx:List dI} {e:ak} {ts:List aF} {t:aF} (hc:ir ctx) (he:bY e.kind=true->al 4 e.ty=true) (b6:∀u∈ts,al 4 u=true) (h:c6 ctx e.kind e.name e.ty ts=some t):al 4 t=true:=by
 have hI:al 4 bp=true:=by decide
 have hB:al 4 cx=true:=by decide
 simp only[c6]at h;split at h
 ·obtain⟨b,h1,h2,_⟩:=rU h;rw[<-h2];exact hc b h1
 split at h
 ·simp at h;subst h;exact hI
 split at h
 ·simp at h;subst h;exact hB
 split at h
 ·rename_i a;have ha:=b6 a (by simp);split at h
  ·simp only[rT]at h;split at h
   ·rename_i hs;simp at h;subst h;exact hs
   ·simp at h
  split at h
  ·cases hm:cQ 5 a with
   |none=>simp[hm]at h
   |some p=>obtain⟨x,y⟩:=p;simp[hm]at h;subst h;exact(eA hm ha).1
  split at h
  ·cases hm:cQ 5 a with
   |none=>simp[hm]at h
   |some p=>obtain⟨x,y⟩:=p;simp[hm]at h;subst h;exact(eA hm ha).2
  split at h
  ·rename_i dn;split at h
   ·simp at h;subst h;exact he (by simp[bY,dn])
   ·simp at h
  ·simp at h
 ·rename_i a b;have ha:=b6 a (by simp);have hb:=b6 b (by simp);split at h
  ·split at h
   ·rename_i x y hm;split at h
    ·simp at h;subst h;exact(eA hm ha).2
    ·simp at h
   ·simp at h
  split at h
  ·split at h
   ·simp at h;subst h;exact hI
   ·simp at h
  split at h
  ·split at h
   ·simp at h;subst h;exact hB
   ·simp at h
  split at h
  ·simp only[rT]at h;split at h
   ·rename_i hs;simp at h;subst h;exact hs
   ·simp at h
  ·simp at h
 ·rename_i a b c;split at h
  ·split at h
   ·rename_i hq;simp at h;subst h;exact nk 4 b c (b6 b (by simp)) (b6 c (by simp)) hq.1
   ·simp at h
  ·simp at h
 ·simp at h
theorem fD {nt:Int} {d:Nat} {e:ak} (h:a8 nt d e=true):∃d',d=d'+1/\e.kind≠nt/\cL e.kind=e.kids.length/\fe e=true/\∀u∈e.kids,a8 nt d' u=true:=by
 cases d with
 |zero=>simp[a8]at h
 |succ d=>
  simp only[a8,fT,Ym,decide_eq_true_eq,X5]at h;exact⟨d,rfl,h.1.1,h.1.2.1,h.1.2.2,h.2⟩
theorem gv {e:ak} (h:fe e=true) (ht:bY e.kind=true):al 4 e.ty=true:=by
 simp only[fe,Ym]at h;have:=h.1.2;rwa[if_pos ht]at this
theorem rV (k:Int):cL k<=3:=by
 simp only[cL];split
 ·omega
 ·split
  ·omega
  ·split
   ·omega
   ·split<;>omega
theorem wk:∀{ctx:List dI} {l:List ak} {ts:List aF},eg ctx l=some ts->ts.length=l.length
 |_,[],ts,h=>by simp[eg]at h;subst h;rfl
 |ctx,e::r,ts,h=>by
  simp only[eg]at h;split at h
  ·simp at h
  ·split at h
   ·simp at h
   ·rename_i us Nt;simp at h;subst h;simp[wk Nt]
theorem iu:∀(e:ak) (d:Nat) (nt:Int) (ctx:List dI) (t:aF),a8 nt d e=true->ir ctx->eQ ctx e=some t->al 4 t=true:=by
 intro e;induction e using ak.ind with
 |h e ih=>
  intro d nt ctx t hs hc h;obtain⟨d',_,_,hlen,c7,iv⟩:=fD hs;rw[mr]at h;have b4:ir (cc ctx e):=by
   simp only[cc];split
   ·rename_i h5;intro b hb;simp only[X4,Ye]at hb;rcases hb with hb|rfl
    ·exact hc b hb
    ·exact gv c7 (by simp[bY,h5])
   ·exact hc
  split at h
  ·simp at h
  ·rename_i ts b6;refine zA hc (gv c7) ?_ h;have hl:∀(l:List ak) (ts:List aF),(∀u∈l,u∈e.kids)->eg (cc ctx e) l=some ts->∀u∈ts,al 4 u=true:=by
    intro l;induction l with
    |nil=>intro ts _ h;simp[eg]at h;subst h;simp
    |cons x r ihl=>
     intro ts hm h;simp only[eg]at h;split at h
     ·simp at h
     ·rename_i tx Qz;split at h
      ·simp at h
      ·rename_i us Nt;simp at h;subst h;have hx:=ih x (hm x (by simp)) d' nt (cc ctx e) tx (iv x (hm x (by simp))) b4 Qz;intro u hu;simp only[Yh]at hu;rcases hu with rfl|hu
       ·exact hx
       ·exact ihl us (fun v hv=>hm v (by simp[hv])) Nt u hu
   exact hl e.kids ts (fun _ h=>h) b6
end Go.Av
namespace Go.Av
open Go
def rB (b:List Int):List (List DV):=b.map fun n=>[.int .u8 n]
def okB (b:List Int):Prop:=(∀n∈b,0<=n/\n<=255)/\b.length<=2000
abbrev rd (b:List Int) (p:Nat):List DV:=[.sl (rB b),.i p]
section
variable {P:Program} {s:St}
end
section
variable {P:Program} {n:Nat} {ι:Type} {Q:ι->Exit->St->Prop} {s s':St}
def TX (P:Program) (n:Nat) (c:Code) (Q:ι->Exit->St->Prop) (s:St):Prop:=∃x,T P n c (Q x) s
def EX (Q:ι->Exit->St->Prop) (e:Exit) (s:St):Prop:=∃x,Q x e s
section
variable {id:Nat} {l:List Oper} {y:Code}
end
def QA {α:Type} (S:α->St) (m:α->Nat) (H:α->Prop) (k:Nat) (Q:ι->Exit->St->Prop):{a:α // m a<k/\H a}⊕ι->Exit->St->Prop
 |.inl a,e,s=>e=.normal/\Sub (S a.1) s
 |.inr x,e,s=>e≠.normal/\Q x e s
end
section
variable {P:Program} {f:FuncId} {fn:Func} {c:Code} {s:St} {e:Exit} {b:List Int}
def bL (P:Program) (f:FuncId) (as:List AV) (V:List (List CV)) (R:AV->List (List CV)->List bu->Prop):Prop:=∃v V' A',R v V' A'/\ah P f as V v V' A'
abbrev QB (R:AV->List (List CV)->List bu->Prop):Type:={x:AV×List (List CV)×List bu // R x.1 x.2.1 x.2.2}
abbrev SD (P:Program) (fn:Func) (m:Nat) (R:AV->List (List CV)->List bu->Prop) (x:QB R):Exit->St->Prop:=az P fn m x.1.1 x.1.2.1 x.1.2.2
theorem az.gen {m:Nat} {r:AV} {V':List (List CV)} {A':List bu} (ext ks:List Nat) {ys:List AV} (he:e=.normal\/e=.ret) (Ga:(fy P s fn.results.toList).bind (aE s.A (X3 m++ext) ks)=some ys) (hr:one ys=r)
  (hV:gW s.A s.V (X3 m++ext) ks (X3 m++ext)=some V') (hA:qv s.A ks=some A') (Ix:ks.Nodup) (E0:ext.Nodup) (hm:∀l∈ext,m<=l):az P fn m r V' A' e s:=by
 cases hx:fy P s fn.results.toList with
 |none=>rw[hx]at Ga;simp at Ga
 |some xs=>rw[hx]at Ga;exact⟨he,ext,ks,xs,ys,hx,Ix,E0,hm,Ga,hr.symm,hV,hA⟩
theorem az.I8 {r:AV} {a:bu} (k:Nat) {ys:List AV} (he:e=.normal\/e=.ret) (Ga:(fy P s fn.results.toList).bind (aE s.A [] [k])=some ys) (hr:one ys=r) (hA:s.A[k]? =some a):az P fn 0 r [] [a] e s:=
 az.gen [] [k] he (by simpa using Ga) hr rfl (by simp[qv,hA]) (by simp) (by simp) (by simp)
def dA (P:Program) (f:FuncId) (as:List AV) (b:List Int) (p N:Nat) (R:AV->List bu->Prop):Prop:=
 bL P f (.c (.ptr 0 0)::as) (dV [rd b p]) fun v V' A'=>∃p',V'=dV [rd b p']/\p<=p'/\p'<=p+N/\R v A'
theorem nq {xs as:List AV} {r:AV} {A':List bu} {K:AV->List (List CV)->List bu->Prop} (b4:ja s.A [] xs=some as) (hc:ah P f as [] r [] A') (hK:K (r.gn [] s.V.length s.A.length) s.V (bO s.A (bB xs)++A')):je P s f xs K:=by
 refine .inl ⟨[],as,[],r,[],A',by simp,b4,rfl,hc,?_⟩;simpa[df,bX]using hK
abbrev RV {α:Type} (enc:α->AV) (arr:α->List bu) (good:α->Prop):AV->List bu->Prop:=fun v A'=>∃x,(v=enc x/\A'=arr x)/\good x
abbrev Vr {α:Type}:α->List bu:=fun _=>[]
def dB (P:Program) (f:FuncId) (as:List AV) (R:AV->List bu->Prop):Prop:=bL P f as [] fun v V' A'=>V'=[]/\R v A'
end
section
variable {P:Program} {n:Nat} {ι:Type} {Q:ι->Exit->St->Prop} {s s':St} {c:Code}
def LX (P:Program) (n:Nat) (c:Code) (Q:ι->Exit->St->Prop) (s:St):Prop:=∃x j,Iter P n c (Q x) j s
def T8 (P:Program) (n:Nat) (c:Code) (Q:ι->Exit->St->Prop):ι×Nat->Exit->St->Prop
 |(x,j),.normal,s=>Iter P n c (Q x) j s
 |(x,_),e,s=>Q x e s
end
section
variable {P:Program} {n:Nat} {s:St} {c:Code}
def iw:List Nat->List (Nat×AV)->List (Nat×AV)
 |[],_=>[]
 |t::r,fr=>match look fr t with
  |some x=>(t,x)::iw r fr
  |none=>iw r fr
def gI:List (Nat×List CV)->List (List CV)->List (List CV)
 |[],V=>V
 |p::r,V=>gI r (V.set p.1 p.2)
attribute [simp] iw gI
end
end Go.Av
namespace Go.Av
open Go
def T9 (r:List DV) (t:aF):Prop:=r=b5 t
def SE (rs:List (List DV)) (ts:List aF):Prop:=rs=ts.map b5
def Ua (r:List DV) (e:ak):Prop:=r=eK e
def SF (rs:List (List DV)) (es:List ak):Prop:=rs=es.map eK
structure Ub (k:Int) (rs:List (List DV)) (t:aF):Prop where
 k:k=t.kind
 rs:rs=t.kids.map b5
def Vs {α:Type} (enc:α->AV) (v:AV) (x:α):Prop:=v=enc x
abbrev aP {α β:Type} (f:α->AV) (g:β->AV):α×β->AV:=fun x=>.aZ [f x.1,g x.2]
abbrev Vt {α β γ:Type} (f:α->AV) (g:β->AV) (h:γ->AV):α×β×γ->AV:=fun x=>.aZ [f x.1,g x.2.1,h x.2.2]
abbrev Nu (l:List aF):AV:=.l (l.map b5)
abbrev Uc (l:List ak):AV:=.l (l.map eK)
abbrev u5 (l:List dI):AV:=.l (l.map lJ)
def SG (rs:List (List DV)) (ts:List dI):Prop:=rs=ts.map lJ
section
variable {P:Program} {f:FuncId} {fn:Func} {c:Code} {s:St} {e:Exit} {b:List Int}
end
def zB (c:UInt8):List UInt8->List UInt8
 |[]=>[c]
 |x::r=>if x<c then x::zB c r else if x=c then x::r else c::x::r
theorem A6 (c:UInt8):∀(s:List UInt8),(zB c s).length<=s.length+1
 |[]=>by simp[zB]
 |x::r=>by
  have:=A6 c r;simp only[zB];split
  ·simp;omega
  ·split<;>simp
theorem wm:∀(l m:List aF),aL (l++m)=aL l+aL m
 |[],m=>by simp[aL]
 |x::l,m=>by simp[aL,wm l m];omega
theorem dX (k:Int) (l:List aF):dF (.mk k l)=aL l:=by simp[dF]
theorem kZ (k:Int) (s:List UInt8) (n:Int) (t f:aF) (b:Int) (l:List ak):fa (.mk k s n t f b l)=s.length+dF t+dF f+dW l:=by simp[fa]
theorem E8 {α:Type} {s:List α} {k:Nat} (h:k<s.length):(s.take (k+1)).drop k=[s[k]]:=by
 rw[List.take_add_one,List.getElem?_eq_getElem h,List.drop_append_of_le_length (by simp;omega)];simp
@[simp] theorem cZ {α:Type} (G X:List α) (k:Nat):(G++X).take (G.length+k)=G++X.take k:=by
 rw[List.take_append,List.take_of_length_le (by omega),show G.length+k-G.length=k by omega]
mutual
def ew:aF->aF->Bool
 |.mk k l,.mk k' l'=>decide (k=k')&& jy l l'
def jy:List aF->List aF->Bool
 |[],[]=>true
 |x::xs,y::ys=>ew x y && jy xs ys
 |_,_=>false
end
theorem rW:∀(l m:List aF),jy l m=iH ew l m
 |[],[]=>rfl
 |x::xs,y::ys=>by simp[jy,iH,rW xs ys]
 |[],_::_=>rfl
 |_::_,[]=>rfl
theorem CL (a b:aF):ew a b=(decide (a.kind=b.kind)&& iH ew a.kids b.kids):=by
 cases a;cases b;simp only[ew,rW];rfl
mutual
theorem s7:∀(a b:aF),ew a b=true->a=b
 |.mk k l,.mk k' l',h=>by
  simp only[ew,Ym,decide_eq_true_eq]at h;obtain⟨rfl,h⟩:=h;rw[wo l l' h]
theorem wo:∀(l m:List aF),jy l m=true->l=m
 |[],[],_=>rfl
 |x::xs,y::ys,h=>by
  simp only[jy,Ym]at h;rw[s7 x y h.1,wo xs ys h.2]
 |[],_::_,h=>by simp[jy]at h
 |_::_,[],h=>by simp[jy]at h
end
mutual
theorem uq:∀(a:aF),ew a a=true
 |.mk k l=>by simp[ew,rX l]
theorem rX:∀(l:List aF),jy l l=true
 |[]=>rfl
 |x::xs=>by simp[jy,uq x,rX xs]
end
def qy (n:Int) (e:ak) (f t:aF):ak×Int:=if ew f t=true then(e,n)else(.mk 14 [] 0 t f (n+1) [e],n+1)
def ck (ctx:List dI) (k:Int) (name:List UInt8) (ty:aF) (ts:List aF):Option (List aF×aF):=
 if k=1 then(dO ctx name).map fun t=>([],t)
 else if k=2 then some ([],bp)
 else if k=3\/k=4 then some ([],cx)
 else match ts with
  |[a]=>
   if k=5 then some ([],.mk 4 [ty,a])
   else if k=11 then(cQ 5 a).map fun p=>([.mk 5 [p.1,p.2]],p.1)
   else if k=12 then(cQ 5 a).map fun p=>([.mk 5 [p.1,p.2]],p.2)
   else if k=13 then if aD a ty=true then some ([ty],ty)else none
   else none
  |[a,b]=>
   if k=6 then match cQ 4 a with
    |some (x,y)=>if aD b x=true then some ([.mk 4 [x,y],x],y)else none
    |none=>none
   else if k=7 then if aD a bp=true/\aD b bp=true then some ([bp,bp],bp)else none
   else if k=8 then if aD a bp=true/\aD b bp=true then some ([bp,bp],cx)else none
   else if k=10 then some ([],.mk 5 [a,b])
   else none
  |[a,b,c]=>if k=9 then if aD a cx=true/\aD b c=true then some ([cx,bC b c,bC b c],bC b c)else none else none
  |_=>none
def iy:Int->List ak->List aF->List aF->List ak×Int
 |n,e::es,h::hs,w::ws=>let(e',m):=qy n e h w;let(r,m'):=iy m es hs ws;(e'::r,m')
 |n,es,_,_=>(es,n)
def nv (ctx:List dI) (k:Int) (name:List UInt8) (num:Int) (ty fr:aF) (lb:Int):Option (List ak×List aF)×Int->Option (ak×aF)×Int
 |(none,n)=>(none,n)
 |(some (es,ts),n)=>match ck ctx k name ty ts with
  |none=>(none,n)
  |some (ws,t)=>if al 4 t=true then
   let(es',m):=iy n es ts ws
   if k=13 then(es'.head?.map fun x=>(x,t),m)else(some (.mk k name num ty fr lb es',t),m)
   else(none,n)
def oW:Option (ak×aF)×Int->(Int->Option (List ak×List aF)×Int)->Option (List ak×List aF)×Int
 |(none,n),_=>(none,n)
 |(some (e,t),n),f=>match f n with
  |(none,m)=>(none,m)
  |(some (es,ts),m)=>(some (e::es,t::ts),m)
mutual
def fU:List dI->ak->Int->Option (ak×aF)×Int
 |ctx,.mk k s n t f b l,c=>nv ctx k s n t f b (eF (if k=5 then ctx++[⟨s,t⟩]else ctx) l c)
def eF:List dI->List ak->Int->Option (List ak×List aF)×Int
 |_,[],c=>(some ([],[]),c)
 |ctx,e::r,c=>oW (fU ctx e c) (eF ctx r)
end
theorem s8 (ctx:List dI) (e:ak) (c:Int):fU ctx e c=nv ctx e.kind e.name e.num e.ty e.fr e.label (eF (cc ctx e) e.kids c):=by
 cases e;simp only[fU];rfl
theorem E9 {ctx:List dI} {e:ak} {ts:List aF} (hc:ir ctx) (he:bY e.kind=true->al 4 e.ty=true) (b6:∀u∈ts,al 4 u=true):
  c6 ctx e.kind e.name e.ty ts=(ck ctx e.kind e.name e.ty ts).bind fun p=>if al 4 p.2=true then some p.2 else none:=by
 have hI:al 4 bp=true:=rfl;have hB:al 4 cx=true:=rfl;simp only[c6,ck];split
 ·cases hl:dO ctx e.name with
  |none=>rfl
  |some t=>
   obtain⟨b,h1,h2,_⟩:=rU hl;have:al 4 t=true:=by rw[<-h2];exact hc b h1
   simp[this]
 split
 ·simp[hI]
 split
 ·simp[hB]
 split
 ·rename_i a;have ha:=b6 a (by simp);split
  ·simp[rT]
  split
  ·cases hm:cQ 5 a with
   |none=>simp[hm]
   |some p=>obtain⟨x,y⟩:=p;simp[hm,(eA hm ha).1]
  split
  ·cases hm:cQ 5 a with
   |none=>simp[hm]
   |some p=>obtain⟨x,y⟩:=p;simp[hm,(eA hm ha).2]
  split
  ·rename_i dn;by_cases hq:aD a e.ty=true
   ·simp[hq,he (by simp[bY,dn])]
   ·simp[hq]
  ·rfl
 ·rename_i a b;have ha:=b6 a (by simp);have hb:=b6 b (by simp);split
  ·cases hm:cQ 4 a with
   |none=>simp[hm]
   |some p=>
    obtain⟨x,y⟩:=p;by_cases hq:aD b x=true
    ·simp[hm,hq,(eA hm ha).2]
    ·simp[hm,hq]
  split
  ·by_cases hq:aD a bp=true/\aD b bp=true
   ·simp[hq,hI]
   ·simp[hq]
  split
  ·by_cases hq:aD a bp=true/\aD b bp=true
   ·simp[hq,hB]
   ·simp[hq]
  split
  ·simp[rT]
  ·rfl
 ·rename_i a b c;split
  ·by_cases h1:aD b c=true
   ·by_cases h2:aD a cx=true
    ·simp[h1,h2,nk 4 b c (b6 b (by simp)) (b6 c (by simp)) h1]
    ·simp[h1,h2]
   ·simp[h1]
  ·rfl
 ·first|rfl|(split<;>first|rfl|(exfalso;simp_all))
theorem yC:∀(n:Int) (es:List ak) (hs ws:List aF),(iy n es hs ws).1.length=es.length
 |n,[],hs,ws=>by cases hs<;>cases ws<;>rfl
 |n,e::es,[],ws=>by cases ws<;>rfl
 |n,e::es,h::hs,[]=>rfl
 |n,e::es,h::hs,w::ws=>by simp[iy,yC _ es hs ws]
theorem s9:∀{ctx:List dI} {l:List ak} {c:Int} {es:List ak} {ts:List aF} {m:Int},eF ctx l c=(some (es,ts),m)->es.length=l.length/\ts.length=l.length
 |ctx,[],c,es,ts,m,h=>by simp[eF]at h;obtain⟨⟨rfl,rfl⟩,rfl⟩:=h;simp
 |ctx,e::r,c,es,ts,m,h=>by
  simp only[eF]at h;cases he:fU ctx e c with
  |mk o n=>
   rw[he]at h;cases o with
   |none=>simp[oW]at h
   |some p=>
    obtain⟨x,t⟩:=p;simp only[oW]at h;cases hr:eF ctx r n with
    |mk o2 n2=>
     rw[hr]at h;cases o2 with
     |none=>simp at h
     |some q=>
      obtain⟨xs,us⟩:=q;simp at h;obtain⟨⟨rfl,rfl⟩,rfl⟩:=h;have:=s9 hr;simp[this.1,this.2]
theorem yD:∀(e:ak) (d:Nat) (ctx:List dI) (c:Int),a8 14 d e=true->ir ctx->(fU ctx e c).1.map (·.2)=eQ ctx e:=by
 intro e;induction e using ak.ind with
 |h e ih=>
  intro d ctx c hs hc;obtain⟨d',_,_,hlen,c7,iv⟩:=fD hs;have b4:ir (cc ctx e):=by
   simp only[cc];split
   ·rename_i h5;intro b hb;simp only[X4,Ye]at hb;rcases hb with hb|rfl
    ·exact hc b hb
    ·exact gv c7 (by simp[bY,h5])
   ·exact hc
  rw[s8,mr];have hl:∀(l:List ak),(∀u∈l,u∈e.kids)->∀c,(eF (cc ctx e) l c).1.map (·.2)=eg (cc ctx e) l/\∀es ts m,eF (cc ctx e) l c=(some (es,ts),m)->∀u∈ts,al 4 u=true:=by
   intro l;induction l with
   |nil=>intro _ c;exact⟨rfl,fun es ts m h=>by simp[eF]at h;obtain⟨⟨rfl,rfl⟩,rfl⟩:=h;simp⟩
   |cons x r ihl=>
    intro hm c;have hx:=ih x (hm x (by simp)) d' (cc ctx e) c (iv x (hm x (by simp))) b4;simp only[eF,eg];cases he:fU (cc ctx e) x c with
    |mk o n=>
     rw[he]at hx;cases o with
     |none=>
      simp at hx;rw[<-hx];exact⟨rfl,fun es ts m h=>by simp[oW]at h⟩
     |some p=>
      obtain⟨y,t⟩:=p;simp at hx;rw[<-hx];have ht:=iu x d' 14 _ t (iv x (hm x (by simp))) b4 hx.symm;obtain⟨h1,h2⟩:=ihl (fun u hu=>hm u (by simp[hu])) n;simp only[oW];cases hr:eF (cc ctx e) r n with
      |mk o2 n2=>
       rw[hr]at h1 h2;cases o2 with
       |none=>
        simp at h1;rw[<-h1];exact⟨rfl,fun es ts m h=>by simp at h⟩
       |some q=>
        obtain⟨xs,us⟩:=q;simp at h1;rw[<-h1];refine⟨rfl,fun es ts m h=>?_⟩;simp at h;obtain⟨⟨rfl,rfl⟩,rfl⟩:=h;intro u hu;simp only[Yh]at hu;rcases hu with rfl|hu
        ·exact ht
        ·exact h2 xs us n2 rfl u hu
  obtain⟨h1,h2⟩:=hl e.kids (fun _ h=>h) c;cases hr:eF (cc ctx e) e.kids c with
  |mk o n=>
   rw[hr]at h1 h2;cases o with
   |none=>simp at h1;rw[<-h1];rfl
   |some p=>
    obtain⟨es,ts⟩:=p;simp at h1;rw[<-h1];have kX:=h2 es ts n rfl;have hw:=E9 (ctx:=ctx) (e:=e) (ts:=ts) hc (gv c7) kX;simp only[nv];rw[hw];cases Vu:ck ctx e.kind e.name e.ty ts with
    |none=>rfl
    |some q=>
     obtain⟨ws,t⟩:=q;simp only[Option.bind];by_cases jt:al 4 t=true
     ·rw[if_pos jt,if_pos jt];have j3:=yC n es ts ws;have sV:=(s9 hr).1;by_cases dn:e.kind=13
      ·rw[if_pos dn];have gF:e.kids.length=1:=by rw[dn]at hlen;simp[cL]at hlen;omega
       cases xK:(iy n es ts ws).1 with
       |nil=>rw[xK]at j3;simp at j3;omega
       |cons x r=>simp
      ·rw[if_neg dn];simp
     ·rw[if_neg jt,if_neg jt];rfl
inductive nw:Nat->aF->Prop
 |any (d:Nat):nw (d+1) km
 |int (d:Nat):nw (d+1) bp
 |bool (d:Nat):nw (d+1) cx
 |fn {d:Nat} {a b:aF}:nw d a->nw d b->nw (d+1) (.mk 4 [a,b])
 |pair {d:Nat} {a b:aF}:nw d a->nw d b->nw (d+1) (.mk 5 [a,b])
theorem nw.of:∀{d:Nat} {t:aF},al d t=true->nw d t
 |0,t,h=>by simp[al]at h
 |d+1,.mk k l,h=>by
  simp only[al,Ym,decide_eq_true_eq,X5]at h;simp only[aF.cb,aF.bD]at h;obtain⟨h1,h2⟩:=h
  match l,h1,h2 with
  |[],h1,_=>
   simp only[e7,X6]at h1;split at h1
   ·rename_i h;rcases h with rfl|rfl|rfl
    ·exact .any d
    ·exact .int d
    ·exact .bool d
   ·split at h1<;>simp at h1
  |[a],h1,_=>
   simp only[e7]at h1;split at h1
   ·simp at h1
   ·split at h1<;>simp at h1
  |[a,b],h1,h2=>
   simp only[e7]at h1;split at h1
   ·simp at h1
   ·split at h1
    ·rename_i h;rcases h with rfl|rfl
     ·exact .fn (nw.of (h2 a (by simp))) (nw.of (h2 b (by simp)))
     ·exact .pair (nw.of (h2 a (by simp))) (nw.of (h2 b (by simp)))
    ·simp at h1
  |a::b::c::r,h1,_=>
   simp only[e7,X8]at h1;split at h1
   ·omega
   ·split at h1<;>omega
theorem nw.shape {d:Nat} {t:aF} (h:nw d t):al d t=true:=by
 induction h with
 |any d=>simp[al,e7]
 |int d=>simp[al,e7]
 |bool d=>simp[al,e7]
 |fn _ _ h1 h2=>simp[al,e7,h1,h2]
 |pair _ _ h1 h2=>simp[al,e7,h1,h2]
abbrev u6 (s:List UInt8):ak:=.mk 1 s 0 aX aX 0 []
abbrev yf (n:Int):ak:=.mk 2 [] n aX aX 0 []
abbrev qz:ak:=.mk 3 [] 0 aX aX 0 []
abbrev lW:ak:=.mk 4 [] 0 aX aX 0 []
abbrev rY (s:List UInt8) (t:aF) (b:ak):ak:=.mk 5 s 0 t aX 0 [b]
abbrev Gc (k:Int) (a:ak):ak:=.mk k [] 0 aX aX 0 [a]
abbrev Cn (k:Int) (a b:ak):ak:=.mk k [] 0 aX aX 0 [a,b]
abbrev G9 (a b c:ak):ak:=.mk 9 [] 0 aX aX 0 [a,b,c]
abbrev MG (a:ak) (t:aF):ak:=.mk 13 [] 0 t aX 0 [a]
abbrev DX (a:ak) (f t:aF) (l:Int):ak:=.mk 14 [] 0 t f l [a]
inductive jY (nt:Int):Nat->ak->Prop
 |var {d:Nat} {s:List UInt8}:nt≠1->dG s=true->jY nt (d+1) (u6 s)
 |num {d:Nat} {n:Int}:nt≠2->0<=n->n<=999->jY nt (d+1) (yf n)
 |vt {d:Nat}:nt≠3->jY nt (d+1) qz
 |vu {d:Nat}:nt≠4->jY nt (d+1) lW
 |lam {d:Nat} {s:List UInt8} {t:aF} {b:ak}:nt≠5->dG s=true->al 4 t=true->jY nt d b->jY nt (d+1) (rY s t b)
 |n2 {d:Nat} {k:Int} {a b:ak}:nt≠k->k=6\/k=7\/k=8\/k=10->jY nt d a->jY nt d b->jY nt (d+1) (Cn k a b)
 |ite {d:Nat} {a b c:ak}:nt≠9->jY nt d a->jY nt d b->jY nt d c->jY nt (d+1) (G9 a b c)
 |n1 {d:Nat} {k:Int} {a:ak}:nt≠k->k=11\/k=12->jY nt d a->jY nt (d+1) (Gc k a)
 |asc {d:Nat} {t:aF} {a:ak}:nt≠13->al 4 t=true->jY nt d a->jY nt (d+1) (MG a t)
 |cast {d:Nat} {f t:aF} {l:Int} {a:ak}:nt≠14->al 4 f=true->al 4 t=true->aD f t=true->CI l=true->jY nt d a->jY nt (d+1) (DX a f t l)
theorem gZ {t:aF} (h:dN t=true):t=aX:=by
 obtain⟨k,l⟩:=t;simp only[dN,Ym,decide_eq_true_eq]at h;obtain⟨h1,h2⟩:=h;cases h1;cases h2;rfl
theorem jY.of {nt:Int}:∀{d:Nat} {e:ak},a8 nt d e=true->jY nt d e
 |0,e,h=>by simp[a8]at h
 |d+1,.mk k s n t f b l,h=>by
  simp only[a8,fT,Ym,decide_eq_true_eq,X5]at h;simp only[ak.cb,ak.bD]at h;obtain⟨⟨hk,h1,h2⟩,h3⟩:=h;have Lb:=h2;have h2:(if dL k then dG s else decide (s=[]))=true/\(mK n 0 (if k=2 then 999 else 0))=true/\(if bY k then al 4 t else dN t)=true/\(if k=14 then oU (.mk k s n t f b l)else dN f && decide (b=0))=true:=by
   simp only[fe,Ym]at h2;exact⟨h2.1.1.1,h2.1.1.2,h2.1.2,h2.2⟩
  simp only[mK,Ym,decide_eq_true_eq]at h2;obtain⟨g1,g2,g3,g4⟩:=h2;have kJ:nt≠k:=fun e=>hk e.symm
  match l,h1,h3 with
  |[],h1,_=>
   have:k=1\/k=2\/k=3\/k=4:=by
    simp only[cL,X6]at h1;split at h1
    ·assumption
    ·split at h1
     ·omega
     ·split at h1
      ·omega
      ·split at h1<;>omega
   rcases this with rfl|rfl|rfl|rfl<;>simp[dL,bY]at g1 g2 g3 g4<;>obtain⟨g4,rfl⟩:=g4<;>obtain rfl:=gZ g3<;>obtain rfl:=gZ g4
   ·obtain rfl:n=0:=by omega
    exact .var kJ g1
   ·subst g1;exact .num kJ g2.1 g2.2
   ·subst g1;obtain rfl:n=0:=by omega
    exact .vt kJ
   ·subst g1;obtain rfl:n=0:=by omega
    exact .vu kJ
  |[a],h1,h3=>
   have:k=5\/k=11\/k=12\/k=13\/k=14:=by
    simp only[cL,X8,X6]at h1;split at h1
    ·omega
    ·split at h1
     ·assumption
     ·split at h1
      ·omega
      ·split at h1<;>omega
   have ha:=jY.of (h3 a (by simp));rcases this with rfl|rfl|rfl|rfl|rfl<;>simp[dL,bY]at g1 g2 g3 g4
   ·obtain⟨g4,rfl⟩:=g4;obtain rfl:=gZ g4;obtain rfl:n=0:=by omega
    exact .lam kJ g1 g3 ha
   ·obtain⟨g4,rfl⟩:=g4;obtain rfl:=gZ g4;obtain rfl:=gZ g3;subst g1;obtain rfl:n=0:=by omega
    exact .n1 kJ (.inl rfl) ha
   ·obtain⟨g4,rfl⟩:=g4;obtain rfl:=gZ g4;obtain rfl:=gZ g3;subst g1;obtain rfl:n=0:=by omega
    exact .n1 kJ (.inr rfl) ha
   ·obtain⟨g4,rfl⟩:=g4;obtain rfl:=gZ g4;subst g1;obtain rfl:n=0:=by omega
    exact .asc kJ g3 ha
   ·subst g1;obtain rfl:n=0:=by omega
    simp only[oU,Ym]at g4;exact .cast kJ g4.1.1.1 g3 g4.1.2 g4.2 ha
  |[a,b'],h1,h3=>
   have:k=6\/k=7\/k=8\/k=10:=by
    simp only[cL,X8,X6]at h1;split at h1
    ·omega
    ·split at h1
     ·omega
     ·split at h1
      ·assumption
      ·split at h1<;>omega
   have ha:=jY.of (h3 a (by simp));have hb:=jY.of (h3 b' (by simp));have e1:dL k=false:=by rcases this with rfl|rfl|rfl|rfl<;>rfl
   have e2:bY k=false:=by rcases this with rfl|rfl|rfl|rfl<;>rfl
   have e3:¬k=14:=by omega
   have e4:¬k=2:=by omega
   simp[e1,e2,e3,e4]at g1 g2 g3 g4;obtain⟨g4,rfl⟩:=g4;obtain rfl:=gZ g4;obtain rfl:=gZ g3;subst g1;obtain rfl:n=0:=by omega
   exact .n2 kJ this ha hb
  |[a,b',c],h1,h3=>
   have:k=9:=by
    simp only[cL,X8,X6]at h1;split at h1
    ·omega
    ·split at h1
     ·omega
     ·split at h1
      ·omega
      ·split at h1<;>omega
   have ha:=jY.of (h3 a (by simp));have hb:=jY.of (h3 b' (by simp));have hc:=jY.of (h3 c (by simp));subst this;simp[dL,bY]at g1 g2 g3 g4;obtain⟨g4,rfl⟩:=g4;obtain rfl:=gZ g4;obtain rfl:=gZ g3;subst g1;obtain rfl:n=0:=by omega
   exact .ite kJ ha hb hc
  |a::b'::c::x::r,h1,_=>
   exfalso
   have:=rV k;simp only[X8]at h1;omega
theorem jY.shape {nt:Int} {d:Nat} {e:ak} (h:jY nt d e):a8 nt d e=true:=by
 induction h with
 |var h1 h2=>simp[a8,fT,fe,cL,dL,bY,mK,dN,h1.symm,h2]
 |num h1 h2 h3=>simp[a8,fT,fe,cL,dL,bY,mK,dN,h1.symm,h2,h3]
 |vt h1=>simp[a8,fT,fe,cL,dL,bY,mK,dN,h1.symm]
 |vu h1=>simp[a8,fT,fe,cL,dL,bY,mK,dN,h1.symm]
 |lam h1 h2 h3 _ h4=>simp[a8,fT,fe,cL,dL,bY,mK,dN,h1.symm,h2,h3,h4]
 |n2 h1 h2 _ _ h3 h4=>
  rcases h2 with rfl|rfl|rfl|rfl<;>simp[a8,fT,fe,cL,dL,bY,mK,dN,h1.symm,h3,h4]
 |ite h1 _ _ _ h2 h3 h4=>simp[a8,fT,fe,cL,dL,bY,mK,dN,h1.symm,h2,h3,h4]
 |n1 h1 h2 _ h3=>
  rcases h2 with rfl|rfl<;>simp[a8,fT,fe,cL,dL,bY,mK,dN,h1.symm,h3]
 |asc h1 h2 _ h3=>simp[a8,fT,fe,cL,dL,bY,mK,dN,h1.symm,h2,h3]
 |cast h1 h2 h3 h4 h5 _ h6=>simp[a8,fT,fe,cL,dL,bY,mK,dN,oU,h1.symm,h2,h3,h4,h5,h6]
section
variable {nt:Int} {d:Nat}
theorem jY.mono {nt:Int} {d:Nat} {e:ak} (h:jY nt d e):∀{m:Nat},d<=m->jY nt m e:=by
 induction h with
 |var h1 h2=>intro m hm;obtain⟨m,rfl⟩:∃j,m=j+1:=⟨m-1,by omega⟩;exact .var h1 h2
 |num h1 h2 h3=>intro m hm;obtain⟨m,rfl⟩:∃j,m=j+1:=⟨m-1,by omega⟩;exact .num h1 h2 h3
 |vt h1=>intro m hm;obtain⟨m,rfl⟩:∃j,m=j+1:=⟨m-1,by omega⟩;exact .vt h1
 |vu h1=>intro m hm;obtain⟨m,rfl⟩:∃j,m=j+1:=⟨m-1,by omega⟩;exact .vu h1
 |lam h1 h2 h3 _ ih=>intro m hm;obtain⟨m,rfl⟩:∃j,m=j+1:=⟨m-1,by omega⟩;exact .lam h1 h2 h3 (ih (by omega))
 |n2 h1 h2 _ _ ih1 ih2=>intro m hm;obtain⟨m,rfl⟩:∃j,m=j+1:=⟨m-1,by omega⟩;exact .n2 h1 h2 (ih1 (by omega)) (ih2 (by omega))
 |ite h1 _ _ _ ih1 ih2 ih3=>intro m hm;obtain⟨m,rfl⟩:∃j,m=j+1:=⟨m-1,by omega⟩;exact .ite h1 (ih1 (by omega)) (ih2 (by omega)) (ih3 (by omega))
 |n1 h1 h2 _ ih=>intro m hm;obtain⟨m,rfl⟩:∃j,m=j+1:=⟨m-1,by omega⟩;exact .n1 h1 h2 (ih (by omega))
 |asc h1 h2 _ ih=>intro m hm;obtain⟨m,rfl⟩:∃j,m=j+1:=⟨m-1,by omega⟩;exact .asc h1 h2 (ih (by omega))
 |cast h1 h2 h3 h4 h5 _ ih=>intro m hm;obtain⟨m,rfl⟩:∃j,m=j+1:=⟨m-1,by omega⟩;exact .cast h1 h2 h3 h4 h5 (ih (by omega))
end
section
variable (ctx:List dI) (s:List UInt8) (n:Int) (t:aF) (a b c:ak)
end
def QC (c c':List dI):Prop:=∀s t,dO c s=some t->dO c' s=some t
mutual
def zC (x:List UInt8) (v:ak):ak->ak
 |.mk k s n t f b l=>if k=1/\s=x then v else if k=5/\s=x then .mk k s n t f b l else .mk k s n t f b (Ha x v l)
def Ha (x:List UInt8) (v:ak):List ak->List ak
 |[]=>[]
 |e::r=>zC x v e::Ha x v r
end
def SH (c c':List dI):Prop:=∀s,dO c s=dO c' s
mutual
def CN:aF->aF->Bool
 |.mk k l,.mk k' l'=>decide (k'=1)||(decide (k=k')&& DY l l')
def DY:List aF->List aF->Bool
 |[],[]=>true
 |x::xs,y::ys=>CN x y && DY xs ys
 |_,_=>false
end
def bI (k:Int):Bool:=decide (k=5)||decide (k=13)
mutual
def Ll (q:aF->aF->Bool):ak->ak->Bool
 |.mk k s n t _ _ l,.mk k' s' n' t' _ _ l'=> !(bI k && decide (k=k')&& !q t t')&&(decide (k=k')&&(decide (s=s')&&(decide (n=n')&& Hb q l l')))
def Hb (q:aF->aF->Bool):List ak->List ak->Bool
 |[],[]=>true
 |x::xs,y::ys=>Ll q x y && Hb q xs ys
 |_,_=>false
end
theorem A7 {k:Int} (hk:k≠1) {a b a' b':aF}:aD (.mk k [a,b]) (.mk k [a',b'])=(aD a a' && aD b b'):=by
 rw[nh];simp[hk,iH]
theorem A8 {k:Int} (hk:k≠1) {a b a' b':aF}:bC (.mk k [a,b]) (.mk k [a',b'])=.mk k [bC a a',bC b b']:=by
 rw[gh];simp[hk]
def I9:List dI->List dI->Prop
 |[],[]=>True
 |b::r,b'::r'=>b.name=b'.name/\CN b.ty b'.ty=true/\I9 r r'
 |_,_=>False
theorem ir.app {c:List dI} (h:ir c) {s:List UInt8} {t:aF} (ht:al 4 t=true):ir (c++[⟨s,t⟩]):=by
 intro b hb;rcases X4.1 hb with h'|h'
 ·exact h b h'
 ·simp at h';subst h';exact ht
inductive A9 (q:aF->aF->Bool):ak->ak->Prop
 |var (s:List UInt8):A9 q (u6 s) (u6 s)
 |num (n:Int):A9 q (yf n) (yf n)
 |vt:A9 q qz qz
 |vu:A9 q lW lW
 |lam {s:List UInt8} {t t':aF} {b b':ak}:q t t'=true->A9 q b b'->A9 q (rY s t b) (rY s t' b')
 |n2 {k:Int} {a b a' b':ak}:A9 q a a'->A9 q b b'->A9 q (Cn k a b) (Cn k a' b')
 |ite {a b c a' b' c':ak}:A9 q a a'->A9 q b b'->A9 q c c'->A9 q (G9 a b c) (G9 a' b' c')
 |n1 {k:Int} {a a':ak}:A9 q a a'->A9 q (Gc k a) (Gc k a')
 |asc {t t':aF} {a a':ak}:q t t'=true->A9 q a a'->A9 q (MG a t) (MG a' t')
section
variable {P:Program} {n:Nat} {ι:Type} {Q:Exit->St->Prop} {QX:ι->Exit->St->Prop} {s s':St} {c:Code}
theorem kk.app:∀{l m fr:List (Nat×AV)},kk l fr->kk m fr->kk (l++m) fr
 |[],m,fr,_,h=>h
 |(t,x)::r,m,fr,h,h'=>⟨h.1,kk.app h.2 h'⟩
theorem qX:∀(ks:List Nat) {fr cB:List (Nat×AV)},(∀t x,look fr t=some x->look cB t=some x)->kk (iw ks fr) cB
 |[],_,_,_=>trivial
 |k::r,fr,cB,h=>by
  simp only[iw];cases hk:look fr k with
  |some x=>exact⟨h k x hk,qX r h⟩
  |none=>exact qX r h
theorem yE (ks:List Nat) (fr:List (Nat×AV)):kk (iw ks fr) fr:=qX ks fun _ _ h=>h
theorem T.dr {α:Type} (ks:List Nat) (ph:α->List (Nat×AV)) (ob:α->List (Nat×List CV)) (G:α->List (List CV)) (ar:α->List bu->List bu) (m:α->Nat) (H:α->Prop) {fr0:List (Nat×AV)} (hk:iw ks s.fr=fr0)
  (h:∀a,H a->T P n c (Round (fun a=>⟨ph a++fr0,gI (ob a) s.V++G a,ar a s.A⟩) m H (m a) Q) ⟨ph a++fr0,gI (ob a) s.V++G a,ar a s.A⟩) (a:α) (ha:H a) (hV:gI (ob a) s.V++G a=s.V) (hA:ar a s.A=s.A) (hp:kk (ph a) s.fr):T P n (.loop c) Q s:=by
 subst hk;exact T.fJ (fun a=>⟨ph a++iw ks s.fr,gI (ob a) s.V++G a,ar a s.A⟩) m H h a ha ⟨hV,hA,hp.app (yE ks s.fr)⟩
end
end Go.Av
namespace Go.Av
attribute [-simp] Go.Av.bA Go.Av.eC Go.Av.ib Go.Av.bM Go.Av.bw Go.Av.gR Go.Av.lU Go.Av.rF Go.Av.mb Go.Av.zl Go.Av.rowsOf Go.Av.look Go.Av.sP Go.Av.St.put Go.Av.gm Go.Av.EP Go.Av.bV Go.Av.zj Go.Av.IS Go.Av.rE Go.Av.rD Go.Av.DH Go.Av.AV.plain Go.Av.AV.cells Go.Av.CV.js Go.Av.mN Go.Av.hP Go.Av.jX Go.Av.fu Go.Av.bO Go.Av.ja Go.Av.AV.j4 Go.Av.CV.j4 Go.Av.qg Go.Av.AV.gn Go.Av.CV.gn Go.Av.bB Go.Av.ia Go.Av.jF Go.Av.nP Go.Av.cy Go.Av.fy Go.Av.uf Go.Av.AV.qi Go.Av.CV.res Go.Av.rN Go.Av.pos? Go.Av.vW Go.Av.CB Go.Av.lC Go.Av.Sub Go.Av.kk Go.Av.kU Go.Av.il Go.Av.gp Go.Av.iq Go.Av.gq Go.Av.aF.cb Go.Av.aF.bD Go.Av.ak.cb Go.Av.ak.gu Go.Av.ak.ng Go.Av.ak.jI Go.Av.ak.jJ Go.Av.ak.iR Go.Av.ak.bD Go.Av.c8 Go.Av.qW Go.Av.iw Go.Av.gI Go.Av.cZ
open Go
def Pg:Op->Bool
 |.buildSlice _ _ _=>true
 |.call {callee:=.builtin .append,.. }=>true
 |_=>false
def Ja (all:Array Oper) (wv wa fs:List Nat) (m:Nat) (ms:List Nat) (oi oj:Oper) (i j:Nat):Bool:=
 (oi.dst.isNone||oi.dst !=oj.dst)&&((!dk all oi oj && !dk all oj oi &&
  !((wv.contains i||wa.contains i)&& !cy oj.op && !(fs.contains j && decide (i<m))&& !(wv.contains i && wa.contains j)&& !(wa.contains i && wv.contains j))&&
  !((wv.contains j||wa.contains j)&& !cy oi.op && !(fs.contains i && decide (j<m))&& !(wv.contains j && wa.contains i)&& !(wa.contains j && wv.contains i)))||(ms.getD j 0).testBit i)
def Ph (all:Array Oper) (wv wa fs:List Nat) (m:Nat):Bool:=
 let l:=all.toList.zipIdx
 let ms:=aW all.toList []
 (l.all fun(o,j)=>o.after.toList.all fun e=> !Region.binds .any e||decide (e.on<j))&&
 (l.all fun(oj,j)=>l.all fun(oi,i)=> !(decide (i<j))||Ja all wv wa fs m ms oi oj i j)&&
 (l.all fun(o,j)=>(!wv.contains j|| !cy o.op)&&(!wa.contains j||Pg o.op))&&(fs.all fun j=> !wv.contains j && !wa.contains j)&&
 (fs.all fun j=>(wv++wa).all fun i=>decide (i<m)||decide (j<i))&&(wv.all fun j=> !wa.contains j)
def Hc (P:Program) (all:Array Oper) (ow:Nat->Bool) (wv wa fs:List Nat) (m:Nat) (ex:List Nat) (V0:List (List CV)) (A0:List bu) (K:St->Prop):Nat->List Oper->St->Prop
 |_,[],s=>K s
 |i,o::rest,s=>ib all s o (bA P s (ow i) o fun x V A=>((i∈wv\/V=s.V)/\(i∈wa\/A=s.A))/\(i∈wv\/i∈wa->i<m->V.take V0.length=qW ex (fun i=>V.getD i []) V0/\A.take A0.length=A0)/\(i∈fs->c8 P s (ow i) o ex V0 A0 x)/\
   (i∈wv->∀A2,bA P ⟨s.fr,s.V,A2⟩ (ow i) o fun y V' A'=>y=x/\V'=V/\A'=A2)/\Hc P all ow wv wa fs m ex V0 A0 K (i+1) rest (s.put o.dst x V A)) (Hc P all ow wv wa fs m ex V0 A0 K (i+1) rest (s.put o.dst (.c .undef) s.V s.A))
section
variable {P:Program} {n:Nat} {Q Q':Exit->St->Prop} {s s':St} {w0:World} {g0 g g':Gh} {a:Act} {w w':World} {V:List (List CV)} {A A':List bu}
def Ud (P:Program) (all:Array Oper) (ow:Bool) (wv fs:List Nat) (j:Nat) (ex:List Nat) (V0:List (List CV)) (A0:List bu) (o:Oper) (s s':St):Prop:=
 ib all s o True True/\((gw all s o=true/\∃x V A,s'=s.put o.dst x V A/\(∀K:AV->List (List CV)->List bu->Prop,K x V A->bA P s ow o K)/\(j∈fs->c8 P s ow o ex V0 A0 x)/\
  (j∈wv->∀A2,bA P ⟨s.fr,s.V,A2⟩ ow o fun y V' A'=>y=x/\V'=V/\A'=A2))\/(gw all s o=false/\s'=s.put o.dst (.c .undef) s.V s.A))
structure Vv (all:Array Oper) (wv wa:List Nat) (σ:Nat->St) (n:Nat) (w0:World) (g0:Gh) (af:Array Bool) (kv ka:Nat) (g:Gh) (a:Act) (w:World):Prop where
 inv:Inv g w (σ kv).V (σ ka).A
 fr:Fr w0 g0 w g
 size:a.tmps.size=n
 defers:a.defers=[]
 er:af.size=all.size
 fH:∀(i:Nat) o t x,all[i]? =some o->af[i]? =some true->o.dst=some t->look (σ (i+1)).fr t=some x->∃u,a.tmps[t]? =some u/\aR g w (σ ka).A x u
 fI:∀t x,(∀(i:Nat) o,all[i]? =some o->af[i]? =some true->o.dst≠some t)->look (σ 0).fr t=some x->∃u,a.tmps[t]? =some u/\aR g w (σ ka).A x u
 Nv:∀i∈wv,i<all.size->(af[i]? =some true↔i<kv)
 Nw:∀i∈wa,i<all.size->(af[i]? =some true↔i<ka)
 Ue:kv<=all.size
 Uf:ka<=all.size
 vw:kv=0\/∃i∈wv,kv=i+1
 aw:ka=0\/∃i∈wa,ka=i+1
 closed:∀(i:Nat) o,all[i]? =some o->af[i]? =some true->∀e∈o.after,Region.binds .any e=true->af[e.on]? =some true
end
end Go.Av
namespace Go.Av
attribute [-simp] Go.Av.cZ
open Go
def Jc (all:Array Oper) (ws fs:List Nat) (m q:Nat) (ms:List Nat) (oi oj:Oper) (i j:Nat):Bool:=
 if j=q then oi.dst.isNone||oi.dst !=oj.dst else cn all ws fs m ms oi oj i j &&(!(decide (i<=q)&& decide (q<j))||(ms.getD j 0).testBit i)
def Pj (all:Array Oper) (ws fs:List Nat) (m q:Nat):Bool:=
 let l:=all.toList.zipIdx
 let ms:=aW all.toList []
 (l.all fun(o,j)=>o.after.toList.all fun e=> !Region.binds .any e||decide (e.on<j))&&
 (l.all fun(oj,j)=>l.all fun(oi,i)=> !(decide (i<j))||Jc all ws fs m q ms oi oj i j)&&
 (l.all fun(o,j)=> !ws.contains j|| !cy o.op)&&(fs.all fun j=> !ws.contains j)&&(fs.all fun j=>ws.all fun i=>decide (i<m)||decide (j<i))&& ws.contains q
section
variable {P:Program} {n:Nat} {Q Q':Exit->St->Prop} {s s':St} {w0:World} {g0 g g':Gh} {a:Act} {w w':World} {V:List (List CV)} {A A':List bu}
structure Ug (all:Array Oper) (ws:List Nat) (σ:Nat->St) (n:Nat) (w0:World) (g0:Gh) (q d:Nat) (row:List CV) (cs:Array Value) (ty:TypeId) (af:Array Bool) (k0:Nat) (b:Nat) (g:Gh) (a:Act) (w:World):Prop where
 MH:af[q]? =some true
 base:xN all ws σ n w0 g0 (af.setIfInBounds q false) k0 g a w
 slot:a.tmps[d]? =some (.pointer (some ⟨b,0,none⟩))
 mem:w.heap[b]? =some (.cells cs ty)
 ob:b∉g.ob
 iF:b∉g.iF
 im:g.im b=0
 new:w0.heap.size<=b
 lt:b<w.heap.size
 closed:∀(i:Nat) o,all[i]? =some o->af[i]? =some true->∀e∈o.after,Region.binds .any e=true->af[e.on]? =some true
structure QD (P:Program) (all:Array Oper) (ow:Nat->Bool) (σ:Nat->St) (q d:Nat) (row:List CV) (cs:Array Value) (ty:TypeId) (oq:Oper):Prop where
 at_:all[q]? =some oq
 guard:oq.guard=none
 dst:oq.dst=some d
 s0:look (σ 0).fr d=none
 size:cs.size=row.length
 cells:∀(j:Nat) c u,row[j]? =some c->cs[j]? =some u->∀g w A,bc g w A c u
 next:σ (q+1)=(σ q).put (some d) (.c (.ptr (σ q).V.length 0)) ((σ q).V++[row]) (σ q).A
 run:∀(a:Act) (w:World),(execOp a.eval oq).run P w=.ok (.value (.pointer (some ⟨w.heap.size,0,none⟩))) (w.alloc (.cells cs ty))
theorem ny {all:Array Oper} (cK:∀(j:Nat) o,all[j]? =some o->∀e∈o.after,Region.binds .any e=true->e.on<j) {af:Array Bool} (j3:∀(i:Nat) o,all[i]? =some o->af[i]? =some true->∀e∈o.after,Region.binds .any e=true->af[e.on]? =some true):
  ∀(i:Nat) o,all[i]? =some o->(∀e∈o.after,Region.binds .any e=true->af[e.on]? =some true)->∀k,((aW all.toList []).getD i 0).testBit k=true->af[k]? =some true:=by
 obtain⟨F8,_,ye⟩:=e6 all.toList [];intro i;induction i using Ys with
 |_ i ih=>
  intro o ho cm k hk;obtain⟨pre,h1,h2,h3⟩:=ye i o (by simpa using ho);simp only[X6,Yr]at h1 h3;have h4:(aW all.toList []).getD i 0=mi pre o:=by simp[X7,h3]
  rw[h4]at hk;obtain⟨e,he,hb,h5⟩:=fz hk;have sI:=cm e he hb;rcases h5 with rfl|h5
  ·exact sI
  ·have ax:=cK i o ho e he hb;have h6:pre.getD e.on 0=(aW all.toList []).getD e.on 0:=by simp only[X7,h2 e.on (by omega)]
   rw[h6]at h5;have eP:e.on<all.size:=by have:=(Yw.1 ho).1;omega
   have uj:all[e.on]? =some all[e.on]:=Yv eP;exact ih e.on ax _ uj (j3 e.on _ uj sI) k h5
end
section
variable {P:Program} {n:Nat} {Q:Exit->St->Prop} {s:St}
theorem T.Lm {c:Code} (l j:Nat) {row:List CV} (hl:s.V[l]? =some row) (hj:row[j]? =some .nil) (h:T P n c Q ⟨s.fr,s.V.set l (row.set j (.d (.sl []))),s.A⟩):T P n c Q s:=by
 intro eU w0 g0 g a w hR;have e9:=hR.inv;refine h eU w0 g0 g a w ⟨?_,hR.fr,hR.size,hR.defers,fun t' x hx=>hR.slot t' x hx⟩;refine⟨by simpa using e9.oe,e9.lq,fun l' row' b h1 h2=>?_,e9.arr,e9.jW,e9.iE,e9.iM,e9.fresh⟩;have oJ:(s.V.set l (row.set j (.d (.sl []))))[l']? =some row':=h1;rw[dc hl]at oJ;by_cases e':l'=l
 ·subst e';simp at oJ;subst oJ;obtain⟨h3,cs,ty,h4,h5,h6⟩:=e9.obj l' row b hl h2;refine⟨h3,cs,ty,h4,by simpa using h5,fun i c u h7 h8=>?_⟩;rw[dc hj]at h7;by_cases e'':i=j
  ·subst e'';simp at h7;subst h7;have h9:=h6 i _ u hj h8;simp only[bc]at h9;subst h9;simp only[bc,a6];exact⟨none,0,rfl,Yp _,by simp⟩
  ·rw[if_neg e'']at h7;exact h6 i c u h7 h8
 ·rw[if_neg e']at oJ;exact e9.obj l' row' b oJ h2
end
def Jd (all:Array Oper) (ws fs:List Nat) (m q:Nat) (ms:List Nat) (oi oj:Oper) (i j:Nat):Bool:=
 if j=q/\ws.contains i=true then oi.dst.isNone||oi.dst !=oj.dst else cn all ws fs m ms oi oj i j &&(!(decide (i<=q)&& decide (q<j)&& ws.contains i)||(ms.getD j 0).testBit i)
def Pk (all:Array Oper) (ws fs:List Nat) (m q:Nat):Bool:=
 let l:=all.toList.zipIdx
 let ms:=aW all.toList []
 (l.all fun(o,j)=>o.after.toList.all fun e=> !Region.binds .any e||decide (e.on<j))&&
 (l.all fun(oj,j)=>l.all fun(oi,i)=> !(decide (i<j))||Jd all ws fs m q ms oi oj i j)&&
 (l.all fun(o,j)=> !ws.contains j|| !cy o.op)&&(fs.all fun j=> !ws.contains j)&&(fs.all fun j=>ws.all fun i=>decide (i<m)||decide (j<i))&& ws.contains q
section
variable {P:Program} {n:Nat} {Q Q':Exit->St->Prop} {s s':St} {w0:World} {g0 g g':Gh} {a:Act} {w w':World} {V:List (List CV)} {A A':List bu}
theorem Fr.Bb (h:Fr w0 g0 w g) (k:Fr w g w' g'):Fr w0 g0 w' g':=by
 have DZ:∀b,b<w0.heap.size->b∉g0.ob->b∉g.ob:=fun b hb h1 hm=>by
  obtain⟨new,e,hn⟩:=h.ob;rw[e]at hm;rcases X4.1 hm with q|q
  ·exact h1 q
  ·exact absurd (hn b q) (by omega)
 have tj:∀b,b<w0.heap.size->b∉g0.iF->b∉g.iF:=fun b hb h1 hm=>by
  obtain⟨k,v,q1,q2⟩:=Gh.fw hm;rcases h.ar k v b q1 q2 with q|q
  ·omega
  ·exact h1 q
 refine⟨k.os.trans h.os,k.tape.trans h.tape,k.output.trans h.output,Yq h.size k.size,fun b h1 h2 h3=>?_,fun b h1 h2=>?_,?_,fun i v b h1 h2=>?_,fun i v h1=>?_,h.xR⟩
 ·rw[k.pF b (Yu h1 h.size) (DZ b h1 h2) (tj b h1 h3)];exact h.pF b h1 h2 h3
 ·rw[k.iO b (Yu h1 h.size) (tj b h1 h2)];exact h.iO b h1 h2
 ·obtain⟨new,e,hn⟩:=h.ob;obtain⟨new',e',Ms⟩:=k.ob;refine⟨new++new',by rw[e',e,Yl],fun b hb=>?_⟩;rcases X4.1 hb with q|q
  ·exact hn b q
  ·exact Yq h.size (Ms b q)
 ·rcases k.ar i v b h1 h2 with q|q
  ·exact .inl (Yq h.size q)
  ·obtain⟨j,v',q1,q2⟩:=Gh.fw q;exact h.ar j v' b q1 q2
 ·obtain⟨v1,q1,q2,q3⟩:=h.vk i v h1;obtain⟨v2,q4,q5,q6⟩:=k.vk i v1 q1;exact⟨v2,q4,Yq q2 q5,fun e=>(q6 (by omega)).trans (q3 (by omega))⟩
theorem Fr.Lo (h:Fr w0 g0 w g) {b:Nat} (hb:w0.heap.size<=b):Fr w0 g0 w {g with ob:=g.ob++[b]}:=by
 refine⟨h.os,h.tape,h.output,h.size,h.pF,h.iO,?_,h.ar,h.vk,h.xR⟩;obtain⟨new,e,hn⟩:=h.ob;refine⟨new++[b],by show g.ob++[b]=_;rw[e,Yl],fun c hc=>?_⟩;rcases X4.1 hc with q|q
 ·exact hn c q
 ·simp at q;omega
theorem Inv.Lo (hi:Inv g w V A) {b:Nat} {cs:Array Value} {ty:TypeId} {row:List CV} (hb:w.heap[b]? =some (.cells cs ty)) (hs:cs.size=row.length) (hr:∀(j:Nat) c u,row[j]? =some c->cs[j]? =some u->∀g w A,bc g w A c u)
  (h1:b∉g.ob) (h2:b∉g.iF) (h3:g.im b=0):Inv {g with ob:=g.ob++[b]} w (V++[row]) A/\Ext g w A {g with ob:=g.ob++[b]} w A/\(g.ob++[b])[V.length]? =some b:=by
 have lr:Ext g w A {g with ob:=g.ob++[b]} w A:=
  ⟨fun l c hc=>by show(g.ob++[b])[l]? =some c;rw[Yb (Ya.1 hc).1];exact hc,.refl _ _,fun _ r h=>⟨r,h,rfl,Yp _,fun _=>rfl⟩⟩
 have cX:∀(l c:Nat),(g.ob++[b])[l]? =some c->(g.ob[l]? =some c/\c≠b)\/(l=V.length/\c=b):=fun l c hc=>by
  rcases Yo l g.ob.length with h|h
  ·rw[Yb h]at hc;exact .inl ⟨hc,fun e=>h1 (e▸X9 hc)⟩
  ·rw[List.getElem?_append_right h]at hc;have h0:l-g.ob.length=0:=by
    have:=(Ya.1 hc).1;simp at this;omega
   rw[h0]at hc;simp at hc;exact .inr ⟨by rw[<-hi.oe];omega,hc.symm⟩
 refine⟨⟨by simp[hi.oe],hi.lq,fun l row' c q1 q2=>?_,fun k r v q1 q2=>?_,fun l l' c q1 q2=>?_,hi.iE,fun l k v c q1 q2=>?_,hi.fresh⟩,lr,?_⟩
 ·rcases cX l c q2 with⟨h4,_⟩|⟨h4,h5⟩
  ·have h5:V[l]? =some row':=by
    have:l<V.length:=by rw[<-hi.oe];exact(Ya.1 h4).1
    rwa[Yb this]at q1
   exact hi.ff lr h5 h4 rfl (hi.obj l row' c h5 h4).1
  ·subst h4;subst h5;simp at q1;subst q1;exact⟨h3,cs,ty,hb,hs,fun j c u h6 h7=>hr j c u h6 h7 _ _ _⟩
 ·exact hi.fg lr q1 q2 (fun _ _=>rfl) (fun _ _=>rfl)
 ·rcases cX l c q1 with⟨h4,h5⟩|⟨h4,h5⟩<;>rcases cX l' c q2 with⟨h6,h7⟩|⟨h6,h7⟩
  ·exact hi.jW l l' c h4 h6
  ·exact absurd h7 h5
  ·exact absurd h5 h7
  ·omega
 ·rcases cX l c q1 with⟨h4,h5⟩|⟨h4,h5⟩
  ·exact hi.iM l k v c h4 q2
  ·subst h5;exact fun e=>h2 (Gh.iN q2 e)
 ·rw[<-hi.oe];simp
structure CO (all:Array Oper) (ws:List Nat) (σ:Nat->St) (n:Nat) (w0:World) (g0:Gh) (q d:Nat) (row:List CV) (cs:Array Value) (ty:TypeId) (af:Array Bool) (k0:Nat) (b:Nat) (g:Gh) (a:Act) (w:World):Prop where
 MH:af[q]? =some true
 base:xN all ws σ n w0 g0 (af.setIfInBounds q false) k0 g a w
 slot:a.tmps[d]? =some (.pointer (some ⟨b,0,none⟩))
 mem:w.heap[b]? =some (.cells cs ty)
 ob:b∉g.ob
 iF:b∉g.iF
 im:g.im b=0
 new:w0.heap.size<=b
 lt:b<w.heap.size
 closed:∀(i:Nat) o,all[i]? =some o->af[i]? =some true->∀e∈o.after,Region.binds .any e=true->af[e.on]? =some true
theorem CO.step {all:Array Oper} {ws:List Nat} {σ:Nat->St} {q d:Nat} {row:List CV} {cs:Array Value} {ty:TypeId} {af:Array Bool} {k0 k1 b:Nat} {a':Act} (h:CO all ws σ n w0 g0 q d row cs ty af k0 b g a w) {j:Nat} (Gd:j≠q) (ha:a'.tmps[d]? =a.tmps[d]?)
  (hD:xN all ws σ n w0 g0 ((af.setIfInBounds q false).setIfInBounds j true) k1 g' a' w') (hF:Fr w g w' g') (j3:∀(i:Nat) o,all[i]? =some o->(af.setIfInBounds j true)[i]? =some true->∀e∈o.after,Region.binds .any e=true->(af.setIfInBounds j true)[e.on]? =some true):CO all ws σ n w0 g0 q d row cs ty (af.setIfInBounds j true) k1 b g' a' w':=by
 refine⟨by rw[Yx Gd];exact h.MH,?_,by rw[ha];exact h.slot,by rw[hF.pF b h.lt h.ob h.iF];exact h.mem,fun hm=>?_,fun hm=>?_,by rw[hF.iO b h.lt h.iF];exact h.im,h.new,Yu h.lt hF.size,j3⟩
 ·rw[Array.setIfInBounds_comm _ _ Gd];exact hD
 ·obtain⟨new,e,hn⟩:=hF.ob;rw[e]at hm;rcases X4.1 hm with p|p
  ·exact h.ob p
  ·have:=hn b p;have:=h.lt;omega
 ·obtain⟨k,v,q1,q2⟩:=Gh.fw hm;rcases hF.ar k v b q1 q2 with p|p
  ·have:=h.lt;omega
  ·exact h.iF p
structure CP (P:Program) (all:Array Oper) (ow:Nat->Bool) (σ:Nat->St) (q d:Nat) (row:List CV) (cs:Array Value) (ty:TypeId) (oq:Oper):Prop where
 at_:all[q]? =some oq
 guard:oq.guard=none
 dst:oq.dst=some d
 s0:look (σ 0).fr d=none
 size:cs.size=row.length
 cells:∀(j:Nat) c u,row[j]? =some c->cs[j]? =some u->∀g w A,bc g w A c u
 next:σ (q+1)=(σ q).put (some d) (.c (.ptr (σ q).V.length 0)) ((σ q).V++[row]) (σ q).A
 run:∀(a:Act) (w:World),(execOp a.eval oq).run P w=.ok (.value (.pointer (some ⟨w.heap.size,0,none⟩))) (w.alloc (.cells cs ty))
theorem Lp (l:Array Bool) (q:Nat) (h:l[q]? ≠some true) (hq:q<l.size):(l.setIfInBounds q true).setIfInBounds q false=l:=by
 apply Array.ext_getElem?;intro i;rw[Array.getElem?_setIfInBounds];by_cases e:q=i
 ·subst e;have:l[q]=false:=by
   rw[Yv hq]at h;cases hx:l[q]<;>simp_all
  simp[hq,this]
 ·rw[if_neg e,Yx e]
theorem ur {all:Array Oper} (cK:∀(j:Nat) o,all[j]? =some o->∀e∈o.after,Region.binds .any e=true->e.on<j) {af:Array Bool} (j3:∀(i:Nat) o,all[i]? =some o->af[i]? =some true->∀e∈o.after,Region.binds .any e=true->af[e.on]? =some true):
  ∀(i:Nat) o,all[i]? =some o->(∀e∈o.after,Region.binds .any e=true->af[e.on]? =some true)->∀k,((aW all.toList []).getD i 0).testBit k=true->af[k]? =some true:=by
 obtain⟨F8,_,ye⟩:=e6 all.toList [];intro i;induction i using Ys with
 |_ i ih=>
  intro o ho cm k hk;obtain⟨pre,h1,h2,h3⟩:=ye i o (by simpa using ho);simp only[X6,Yr]at h1 h3;have h4:(aW all.toList []).getD i 0=mi pre o:=by simp[X7,h3]
  rw[h4]at hk;obtain⟨e,he,hb,h5⟩:=fz hk;have sI:=cm e he hb;rcases h5 with rfl|h5
  ·exact sI
  ·have ax:=cK i o ho e he hb;have h6:pre.getD e.on 0=(aW all.toList []).getD e.on 0:=by simp only[X7,h2 e.on (by omega)]
   rw[h6]at h5;have eP:e.on<all.size:=by have:=(Yw.1 ho).1;omega
   have uj:all[e.on]? =some all[e.on]:=Yv eP;exact ih e.on ax _ uj (j3 e.on _ uj sI) k h5
end
def nz (all:Array Oper) (ws fs:List Nat) (m q:Nat) (wt:List Nat) (ms:List Nat) (oi oj:Oper) (i j:Nat):Bool:=
 if j=q/\wt.contains i=true then oi.dst.isNone||oi.dst !=oj.dst else cn all ws fs m ms oi oj i j &&(!(decide (i<=q)&& decide (q<j)&& wt.contains i)||(ms.getD j 0).testBit i)
def lK (all:Array Oper) (ws fs:List Nat) (m q:Nat) (wt:List Nat):Bool:=
 let l:=all.toList.zipIdx
 let ms:=aW all.toList []
 (l.all fun(o,j)=>o.after.toList.all fun e=> !Region.binds .any e||decide (e.on<j))&&
 (l.all fun(oj,j)=>l.all fun(oi,i)=> !(decide (i<j))||nz all ws fs m q wt ms oi oj i j)&&
 (l.all fun(o,j)=> !ws.contains j|| !cy o.op)&&(fs.all fun j=> !ws.contains j)&&(fs.all fun j=>ws.all fun i=>decide (i<m)||decide (j<i))&& ws.contains q &&(ws.all fun i=>wt.contains i)
section
variable {P:Program} {n:Nat} {Q Q':Exit->St->Prop} {s s':St} {w0:World} {g0 g g':Gh} {a:Act} {w w':World} {V:List (List CV)} {A A':List bu}
theorem yF {all:Array Oper} {ow:Nat->Bool} {ws fs:List Nat} {m q:Nat} {wt:List Nat} {ex:List Nat} {V0:List (List CV)} {A0:List bu} {σ:Nat->St} (hd:lK all ws fs m q wt=true) (e5:cP n all.toList=true)
  (jT:∀(j:Nat) o,all[j]? =some o->G7 P all (ow j) fs j ex V0 A0 o (σ j) (σ (j+1))/\(j∈ws\/((σ (j+1)).V=(σ j).V/\(σ (j+1)).A=(σ j).A))/\(j<m->Kq ex V0 A0 (σ (j+1))\/((σ (j+1)).V=(σ j).V/\(σ (j+1)).A=(σ j).A))) (G8:(σ 0).V=V0/\(σ 0).A=A0)
  {af:Array Bool} {k0:Nat} (hD:xN all ws σ n w0 g0 af k0 g a w) (hL:af[q]? =some true->∀i∈wt,i<q->af[i]? =some true) {j:Nat} (hj:j∈Region.ready .any all af) (hq:j=q->∀i∈wt,i<q->af[i]? =some true)
  {next:Act->World->Prop} {Q:Exit->Act->World->Prop} (ih:∀k1 o g' a' w',all[j]? =some o->(∀t,o.dst≠some t->a'.tmps[t]? =a.tmps[t]?)->xN all ws σ n w0 g0 (af.setIfInBounds j true) k1 g' a' w'->Fr w g w' g'->next a' w'):wpOp P all Q j next a w:=by
 simp only[lK,Ym,X5]at hd;obtain⟨⟨⟨⟨⟨⟨gE,oG⟩,vp⟩,ID⟩,IE⟩,Ks⟩,Bc⟩:=hd;have ga:∀i∈ws,i∈wt:=fun i hi=>by simpa using Bc i hi
 have Ks:q∈ws:=by simpa using Ks
 have cD:∀(j:Nat) o,all[j]? =some o->(o,j)∈all.toList.zipIdx:=fun j o h=>by
  rw[Yg];exact⟨j,by simp[Yi,h]⟩
 have cK:∀(j:Nat) o,all[j]? =some o->∀e∈o.after,Region.binds .any e=true->e.on<j:=fun j o h e he hb=>by
  have:=gE _ (cD j o h) e (Yy.2 he);simpa[hb]using this
 have wq:∀(i j:Nat) oi oj,all[i]? =some oi->all[j]? =some oj->i<j->nz all ws fs m q wt (aW all.toList []) oi oj i j=true:=fun i j oi oj h1 h2 ax=>by
  have:=oG _ (cD j oj h2) _ (cD i oi h1);simpa[ax]using this
 have fC:∀(i j:Nat) oi oj,all[i]? =some oi->all[j]? =some oj->i<j->¬(j=q/\i∈wt)->cn all ws fs m (aW all.toList []) oi oj i j=true:=fun i j oi oj h1 h2 ax cY=>by
  have:=wq i j oi oj h1 h2 ax;rw[nz,if_neg (by simpa using cY)]at this;simp only[Ym]at this;exact this.1
 have bU:∀(i j:Nat) oi oj,all[i]? =some oi->all[j]? =some oj->i<j->¬(j=q/\i∈wt)->i∉fs->j∉fs->bj all ws (aW all.toList []) oi oj i j=true:=fun i j oi oj h1 h2 ax cY hi hj=>by
  have:=fC i j oi oj h1 h2 ax cY;simpa[cn,bj,hi,hj]using this
 have lI:∀i,i∈ws->i∉fs:=fun i hi hf=>by
  have:=ID i hf;simp[hi]at this
 have CJ:∀k,k<=m->k<=all.size->Kq ex V0 A0 (σ k):=by
  intro k;induction k with
  |zero=>
   intro _ _;refine⟨?_,by rw[G8.2];simp⟩;rw[G8.1,oV];simp
  |succ k ih=>
   intro h1 h2;have ho:all[k]? =some all[k]:=Yv (by omega);rcases(jT k _ ho).2.2 (by omega)with h3|⟨h3,h4⟩
   ·exact h3
   ·have:=ih (by omega) (by omega);exact⟨by rw[h3];exact this.1,by rw[h4];exact this.2⟩
 have ui:∀(j:Nat) o,all[j]? =some o->j∈ws->cy o.op=false:=fun j o h hj=>by
  have:=vp _ (cD j o h);simpa[hj]using this
 have fA:∀(i j:Nat) oi oj d,all[i]? =some oi->all[j]? =some oj->i<j->oi.dst=some d->oj.dst≠some d:=fun i j oi oj d h1 h2 ax h3 h4=>by
  have:=wq i j oi oj h1 h2 ax;simp only[nz,cn,h3,h4]at this;split at this<;>simp at this
 have qU:∀(i j:Nat) oi oj d,all[i]? =some oi->all[j]? =some oj->oi.dst=some d->oj.dst=some d->i=j:=fun i j oi oj d h1 h2 h3 h4=>by
  rcases Yt i j with h|h|h
  ·exact absurd h4 (fA i j oi oj d h1 h2 h h3)
  ·exact h
  ·exact absurd h3 (fA j i oj oi d h2 h1 h h4)
 have zt:∀(j:Nat) o d,all[j]? =some o->o.dst=some d->d<n:=fun j o d h1 h2=>by
  have:=X5.1 e5 o (by rw[Yy];exact Yz h1);simpa[h2]using this
 obtain⟨F8,_,ye⟩:=e6 all.toList []
 have mj:∀{af:Array Bool},(∀(i:Nat) o,all[i]? =some o->af[i]? =some true->∀e∈o.after,Region.binds .any e=true->af[e.on]? =some true)->
   ∀(i:Nat) o,all[i]? =some o->(∀e∈o.after,Region.binds .any e=true->af[e.on]? =some true)->∀k,((aW all.toList []).getD i 0).testBit k=true->af[k]? =some true:=by
  intro af j3 i;induction i using Ys with
  |_ i ih=>
   intro o ho cm k hk;obtain⟨pre,h1,h2,h3⟩:=ye i o (by simpa using ho);simp only[X6,Yr]at h1 h3;have h4:(aW all.toList []).getD i 0=mi pre o:=by simp[X7,h3]
   rw[h4]at hk;obtain⟨e,he,hb,h5⟩:=fz hk;have sI:=cm e he hb;rcases h5 with rfl|h5
   ·exact sI
   ·have ax:=cK i o ho e he hb;have h6:pre.getD e.on 0=(aW all.toList []).getD e.on 0:=by simp only[X7,h2 e.on (by omega)]
    rw[h6]at h5;have eP:e.on<all.size:=by have:=(Yw.1 ho).1;omega
    have uj:all[e.on]? =some all[e.on]:=Yv eP;exact ih e.on ax _ uj (j3 e.on _ uj sI) k h5
 have lF:∀(j:Nat) o t,all[j]? =some o->o.dst≠some t->look (σ (j+1)).fr t=look (σ j).fr t:=fun j o t h1 h2=>by
  obtain⟨⟨_,h3⟩,_⟩:=jT j o h1;have jH:∀(x:AV) V A,look ((σ j).put o.dst x V A).fr t=look (σ j).fr t:=fun x V A=>by
   simp only[St.put];cases qQ:o.dst with
   |none=>rfl
   |some d=>simp only[look];rw[if_neg (fun e=>h2 (by rw[qQ,e]))]
  rcases h3 with⟨_,x,V,A,h4,_,_⟩|⟨_,h4⟩
  ·rw[h4];exact jH x V A
  ·rw[h4];exact jH _ _ _
 have om:∀(j t:Nat),j<=all.size->(∀(i:Nat) o,i<j->all[i]? =some o->o.dst≠some t)->look (σ j).fr t=look (σ 0).fr t:=by
  intro j;induction j with
  |zero=>intro t _ _;rfl
  |succ j ih=>
   intro t hj gQ;have ho:all[j]? =some all[j]:=Yv (by omega);rw[lF j _ t ho (gQ j _ (by omega) ho)];exact ih t (by omega) (fun i o hi=>gQ i o (by omega))
 have oo:∀(j i:Nat) oi t,j<=all.size->i<j->all[i]? =some oi->oi.dst=some t->look (σ j).fr t=look (σ (i+1)).fr t:=by
  intro j;induction j with
  |zero=>intro i oi t _ h;omega
  |succ j ih=>
   intro i oi t hj kK aU b7;by_cases e:i=j
   ·subst e;rfl
   ·have ho:all[j]? =some all[j]:=Yv (by omega);rw[lF j _ t ho (fA i j oi _ t aU ho (by omega) b7)];exact ih i oi t (by omega) (by omega) aU b7
 have s4:∀(b a:Nat),a<=b->b<=all.size->(∀i,a<=i->i<b->i∉ws)->(σ b).V=(σ a).V/\(σ b).A=(σ a).A:=by
  intro b;induction b with
  |zero=>
   intro a h _ _;obtain rfl:a=0:=by omega
   exact⟨rfl,rfl⟩
  |succ b ih=>
   intro a Pf hb gQ;by_cases e:a=b+1
   ·subst e;exact⟨rfl,rfl⟩
   ·have ho:all[b]? =some all[b]:=Yv (by omega);obtain⟨h1,h2⟩:=ih a (by omega) (by omega) (fun i hi EK=>gQ i hi (by omega));rcases(jT b _ ho).2.1 with h3|⟨h3,h4⟩
    ·exact absurd h3 (gQ b (by omega) (by omega))
    ·exact⟨h3.trans h1,h4.trans h2⟩
 obtain⟨ml,o,ho,cm⟩:=mem_ready.1 hj;have mo:=dU ml;have rv:j<all.size:=(Yw.1 ho).1;have iP:j<af.size:=by rw[hD.er];exact rv
 have cY:∀i,j<i->af[i]? =some true->¬(i=q/\j∈wt):=fun i h hl e=>by
  obtain⟨rfl,e⟩:=e;have:=hL hl j e h;rw[mo]at this;simp at this
 have ch:∀e∈o.after,Region.binds .any e=true->af[e.on]? =some true:=fun e he hb=>cl.1 (cm e he hb)
 have ca:∀k,((aW all.toList []).getD j 0).testBit k=true->af[k]? =some true:=mj hD.closed j o ho ch;have bR:∀(i:Nat) oi,all[i]? =some oi->af[i]? =some true->((aW all.toList []).getD i 0).testBit j=false:=fun i oi aU bt=>by
  cases hb:((aW all.toList []).getD i 0).testBit j with
  |false=>rfl
  |true=>have:=mj hD.closed i oi aU (hD.closed i oi aU bt) j hb;rw[mo]at this;simp at this
 have jh:∀t∈o.looksAt all,∀x,look (σ j).fr t=some x->∃u,a.tmps[t]? =some u/\aR g w (σ k0).A x u:=by
  intro t ht x hx;by_cases hex:∃(i:Nat) (oi:Oper),i<j/\all[i]? =some oi/\oi.dst=some t
  ·obtain⟨i,oi,kK,aU,b7⟩:=hex;rw[oo j i oi t (by omega) kK aU b7]at hx;have bt:af[i]? =some true:=by
    by_cases e:j=q/\i∈wt
    ·exact hq e.1 i e.2 (by omega)
    ·have hp:=fC i j oi o aU ho kK e;have s5:dk all oi o=true:=by simp only[dk,b7];simpa using ht
     simp only[cn,s5,Ym,Yn]at hp;have hb:((aW all.toList []).getD j 0).testBit i=true:=by simpa using hp.2
     exact ca i hb
   exact hD.fH i oi t x aU bt b7 hx
  ·rw[om j t (by omega) (fun i oi kK aU b7=>hex ⟨i,oi,kK,aU,b7⟩)]at hx;refine hD.fI t x (fun i oi aU bt b7=>?_) hx;rcases Yt i j with h|h|h
   ·exact hex ⟨i,oi,h,aU,b7⟩
   ·subst h;rw[mo]at bt;simp at bt
   ·have hp:=fC j i o oi ho aU h (cY i h bt);have s5:dk all oi o=true:=by simp only[dk,b7];simpa using ht
    have hb:=bR i oi aU bt;simp only[cn,s5,hb,Ym,Yn]at hp;simp at hp
 let cB:=(σ j).fr.filter fun p=>(o.looksAt all).contains p.1
 have mJ:∀t,look cB t=if(o.looksAt all).contains t then look (σ j).fr t else none:=fun t=>eX (fun t=>(o.looksAt all).contains t) (σ j).fr t
 have hS:∀(V:List (List CV)),gU g w ⟨cB,V,(σ k0).A⟩ a:=fun V t x hx=>by
  simp only[mJ]at hx;split at hx
  ·rename_i hc;exact jh t (by simpa using hc) x hx
  ·cases hx
 have gd:∀(V V':List (List CV)) (A A':List bu),∀x∈o.op.operands.toList,bw ⟨cB,V,A⟩ x=bw ⟨(σ j).fr,V',A'⟩ x:=fun V V' A A' x hx=>by
  cases x with
  |tmp t=>
   simp only[bw,mJ];rw[if_pos];simp only[Oper.looksAt,Yk,decide_eq_true_eq,X4,List.mem_filterMap];exact .inl ⟨.tmp t,hx,rfl⟩
  |_=>rfl
 have gg:Rp n w0 g0 ⟨cB,(σ k0).V,(σ k0).A⟩ g a w:=⟨hD.inv,hD.fr,hD.size,hD.defers,hS _⟩;obtain⟨⟨ue,jt⟩,CD,_⟩:=jT j o ho;have ot:ib all ⟨cB,(σ k0).V,(σ k0).A⟩ o True True/\gw all ⟨cB,(σ k0).V,(σ k0).A⟩ o=gw all (σ j) o:=by
  unfold ib gw at*;cases mY:o.guard with
  |none=>simp
  |some jw=>
   obtain⟨q,want⟩:=jw;simp only[mY]at ue⊢;obtain⟨oq,h1,h2⟩:=cj ue;obtain⟨t,h3,h4⟩:=cj h2;have:look cB t=look (σ j).fr t:=by
    rw[mJ,if_pos];simp only[Oper.looksAt,mY,Yk,decide_eq_true_eq,X4];exact .inr (by simp[h1,h3])
   simp only[h1,bM,h3,YB,this]at h4⊢;exact⟨h4,trivial⟩
 have kV:Region.wanted o (yielded all a.tmps)=gw all (σ j) o:=by
  rw[<-ot.2];have h0:=iQ ot.1;have h1:=ot.1;unfold ib at h1;unfold gw;cases mY:o.guard with
  |none=>simp[Region.wanted,mY]
  |some jw=>
   obtain⟨q,want⟩:=jw;simp only[mY]at h1⊢;obtain⟨oq,h2,h3⟩:=cj h1;obtain⟨t,h4,h5⟩:=cj h3;obtain⟨x,h6,h7⟩:=cj h5;obtain⟨h8,h9⟩:=jf gg h2 h4 h6;simp only[h2,YB,h4,h6];split at h7
   ·rename_i b;simp[Region.wanted,mY,h8 b rfl]
   ·simp[Region.wanted,mY,h9 rfl]
   ·exact h7.elim
 have bH:∀i,(af.setIfInBounds j true)[i]? =if i=j then some true else af[i]? :=fun i=>by
  by_cases e:i=j
  ·subst e;simp[iP]
  ·rw[if_neg e,Yx (fun h=>e h.symm)]
 have fY:∀(v:Value) (t:Nat),o.dst≠some t->(a.put o.dst v).tmps[t]? =a.tmps[t]? :=fun v t cY=>by
  cases qQ:o.dst with
  |none=>rfl
  |some d=>
   simp only[Act.put];rw[Yx (fun e=>cY (by rw[qQ,e]))]
 have cz:∀(k1:Nat) (x:AV) (v:Value) (w':World) (g':Gh),look (σ (j+1)).fr=look ((σ j).put o.dst x [] []).fr->aR g' w' (σ k1).A x v->Inv g' w' (σ k1).V (σ k1).A->Ext g w (σ k0).A g' w' (σ k1).A->Fr w0 g0 w' g'->k1<=all.size->(k1=0\/∃i∈ws,k1=i+1)->
   (∀i∈ws,i<all.size->((af.setIfInBounds j true)[i]? =some true↔i<k1))->xN all ws σ n w0 g0 (af.setIfInBounds j true) k1 g' (a.put o.dst v) w':=by
  intro k1 x v w' g' Cm x9 hI hx hF hk Li E2;have ij:∀t u,o.dst≠some t->a.tmps[t]? =some u->(a.put o.dst v).tmps[t]? =some u:=fun t u cY hu=>by
   cases qQ:o.dst with
   |none=>exact hu
   |some d=>
    simp only[Act.put];rw[Yx (fun e=>cY (by rw[qQ,e]))];exact hu
  refine⟨hI,hF,?_,?_,by simp[hD.er],fun i oi t y aU bt b7 hy=>?_,fun t y gQ hy=>?_,E2,hk,Li,fun i oi aU bt e he hb=>?_⟩
  ·cases o.dst<;>simp[Act.put,hD.size]
  ·cases o.dst<;>simp[Act.put,hD.defers]
  ·rw[bH]at bt;by_cases e:i=j
   ·subst e;obtain rfl:o=oi:=by rw[ho]at aU;exact Option.some.inj aU
    rw[Cm]at hy;simp only[St.put,b7,look,if_true]at hy;cases hy
    refine⟨v,?_,x9⟩;have:t<a.tmps.size:=by rw[hD.size];exact zt i o t ho b7
    simp[Act.put,b7,this]
   ·rw[if_neg e]at bt;obtain⟨u,h1,h2⟩:=hD.fH i oi t y aU bt b7 hy;exact⟨u,ij t u (fun h=>e (qU i j oi o t aU ho b7 h)) h1,aR.ext hx h2⟩
  ·have cY:o.dst≠some t:=gQ j o ho (by rw[bH,if_pos rfl]);obtain⟨u,h1,h2⟩:=hD.fI t y (fun i oi aU bt=>gQ i oi aU (by
    rw[bH];by_cases e:i=j
    ·rw[if_pos e]
    ·rw[if_neg e];exact bt)) hy
   exact⟨u,ij t u cY h1,aR.ext hx h2⟩
  ·rw[bH]at bt⊢;have:af[e.on]? =some true:=by
    by_cases e':i=j
    ·subst e';obtain rfl:o=oi:=by rw[ho]at aU;exact Option.some.inj aU
     exact ch e he hb
    ·rw[if_neg e']at bt;exact hD.closed i oi aU bt e he hb
   by_cases e':e.on=j
   ·rw[if_pos e']
   ·rw[if_neg e'];exact this
 have gH:j∉ws->∀i∈ws,i<all.size->((af.setIfInBounds j true)[i]? =some true↔i<k0):=fun ea i hi b4=>by
  rw[bH,if_neg (fun e=>ea (by rw[<-e];exact hi))];exact hD.dT i hi b4
 have jU:cy o.op=false->j∉fs->(σ j).V=(σ k0).V/\(σ j).A=(σ k0).A:=by
  intro fq ni;rcases Nat.le_total j k0 with h|h
  ·have:=s4 k0 j h hD.mX (fun i h1 h2 h3=>by
    have b4:i<all.size:=by have:=hD.mX;omega
    have bt:=(hD.dT i h3 b4).2 h2;have aU:all[i]? =some all[i]:=Yv b4;rcases Yo j i with h4|h4
    ·have hp:=bU j i o _ ho aU h4 (cY i h4 bt) ni (lI i h3);have hb:=bR i _ aU bt;simp only[bj,hb,Ym,Yn]at hp;simp[h3,fq,-cy]at hp
    ·obtain rfl:i=j:=by omega
     rw[mo]at bt;simp at bt)
   exact⟨this.1.symm,this.2.symm⟩
  ·exact s4 j k0 h (by omega) (fun i h1 h2 h3=>by
    have b4:i<all.size:=by omega
    have aU:all[i]? =some all[i]:=Yv b4;have bt:af[i]? =some true:=by
     by_cases e:j=q
     ·exact hq e i (ga i h3) (by omega)
     ·have hp:=bU i j _ o aU ho h2 (fun h=>e h.1) (lI i h3) ni;simp only[bj,Ym,Yn]at hp;rcases hp.2 with h4|h4
      ·simp[h3,fq,-cy]at h4
      ·exact ca i h4
    have:=(hD.dT i h3 b4).1 bt;omega)
 unfold wpOp;simp only[ho];rcases jt with⟨h1,x,V,A,h2,h3,E7⟩|⟨h1,h2⟩
 ·rw[if_pos (by rw[kV,h1])];refine .inl ?_;by_cases hs:cy o.op=true
  ·-- slots alone
   have ea:j∉ws:=fun h=>by have:=ui j o ho h;rw[hs]at this;simp at this
   have h4:bA P ⟨cB,(σ k0).V,(σ k0).A⟩ (ow j) o (fun y V' A'=>y=x/\V'=(σ k0).V/\A'=(σ k0).A):=mW (s:=σ j) (s':=⟨cB,(σ k0).V,(σ k0).A⟩) hs (gd _ _ _ _) h3 ⟨rfl,rfl,rfl⟩;obtain⟨y,V',A',⟨rfl,rfl,rfl⟩,h5⟩:=cW gg.inv (Fr.refl gg.fr.now) gg.slot h4;refine h5 _ _ fun v w' g' h6 h7 h8 h9=>ih k0 o g' _ w' ho (fY v) (cz k0 y v w' g' (by rw[h2];rfl) h6 h7 h8 (hD.fr.Bb h9) hD.mX hD.kw (gH ea)) h9
  ·have fq:cy o.op=false:=by simpa using hs
   by_cases ni:j∈fs
   ·have ea:j∉ws:=fun h=>lI j h ni
    have CK:k0<=m:=by
     rcases hD.kw with h|⟨i,hi,hk⟩
     ·omega
     ·rcases Yo i m with h|h
      ·omega
      ·exfalso
       have b4:i<all.size:=by have:=hD.mX;omega
       have aU:all[i]? =some all[i]:=Yv b4;have bt:=(hD.dT i hi b4).2 (by omega);have Kr:j<i:=by
        have:=IE j ni i hi;simp at this;omega
       have hp:=fC j i o _ ho aU Kr (cY i Kr bt);have hb:=bR i _ aU bt;have sK:¬i<m:=by omega
       simp only[cn,hb,Ym,Yn]at hp;simp[-cy,hi,fq,sK,ni,ea]at hp
    obtain⟨yB,zx⟩:=CJ k0 CK hD.mX;have h4:bA P ⟨cB,(σ k0).V,(σ k0).A⟩ (ow j) o (fun y V' A'=>y=x/\V'=(σ k0).V/\A'=(σ k0).A):=by
     have h5:=E7 ni (fun i=>(σ k0).V.getD i []) ((σ k0).V.drop V0.length) ((σ k0).A.drop A0.length);have e1:qW ex (fun i=>(σ k0).V.getD i []) V0++(σ k0).V.drop V0.length=(σ k0).V:=by
      rw[<-yB];exact Yd _ _
     have e2:A0++(σ k0).A.drop A0.length=(σ k0).A:=by conv=>lhs;arg 1;rw[<-zx]
                                                      exact Yd _ _
     rw[e1,e2]at h5;exact dS (fr:=(σ j).fr) (gd _ _ _ _) h5
    obtain⟨y,V',A',⟨rfl,rfl,rfl⟩,h5⟩:=cW gg.inv (Fr.refl gg.fr.now) gg.slot h4;exact h5 _ _ fun v w' g' h6 h7 h8 h9=>ih k0 o g' _ w' ho (fY v) (cz k0 y v w' g' (by rw[h2];rfl) h6 h7 h8 (hD.fr.Bb h9) hD.mX hD.kw (gH ea)) h9
   obtain⟨iG,gX⟩:=jU fq ni;have h4:bA P ⟨cB,(σ k0).V,(σ k0).A⟩ (ow j) o (fun y V' A'=>y=x/\V'=V/\A'=A):=by
    rw[<-iG,<-gX];exact dS (fr:=(σ j).fr) (gd _ _ _ _) (h3 _ ⟨rfl,rfl,rfl⟩)
   obtain⟨y,V',A',⟨rfl,rfl,rfl⟩,h5⟩:=cW gg.inv (Fr.refl gg.fr.now) gg.slot h4;have sJ:(σ (j+1)).V=V':=by rw[h2];rfl
   have iL:(σ (j+1)).A=A':=by rw[h2];rfl
   by_cases ea:j∈ws
   ·refine h5 _ _ fun v w' g' h6 h7 h8 h9=>ih (j+1) o g' _ w' ho (fY v) (cz (j+1) y v w' g' (by rw[h2];rfl) (by rw[iL];exact h6) (by rw[sJ,iL];exact h7) (by rw[iL];exact h8) (hD.fr.Bb h9) (by omega) (.inr ⟨j,ea,rfl⟩) (fun i hi b4=>?_)) h9
    have aU:all[i]? =some all[i]:=Yv b4;rw[bH];by_cases e:i=j
    ·subst e;simp
    ·rw[if_neg e];constructor
     ·intro bt;rcases Yo j i with h|h
      ·have hp:=bU j i o _ ho aU h (cY i h bt) (lI j ea) (lI i hi);have hb:=bR i _ aU bt;simp only[bj,hb,Ym,Yn]at hp;simp[hi,fq,-cy]at hp
      ·omega
     ·intro ax;by_cases e:j=q
      ·exact hq e i (ga i hi) (by omega)
      have hp:=bU i j _ o aU ho (by omega) (fun h=>e h.1) (lI i hi) (lI j ea);simp only[bj,Ym,Yn]at hp;rcases hp.2 with h|h
      ·simp[hi,fq,-cy]at h
      ·exact ca i h
   ·rcases CD with CD|⟨pG,l7⟩
    ·exact absurd CD ea
    ·refine h5 _ _ fun v w' g' h6 h7 h8 h9=>ih k0 o g' _ w' ho (fY v) (cz k0 y v w' g' (by rw[h2];rfl) ?_ ?_ ?_ (hD.fr.Bb h9) hD.mX hD.kw (gH ea)) h9
     ·rw[<-gX,<-l7,iL];exact h6
     ·rw[<-iG,<-gX,<-pG,<-l7,sJ,iL];exact h7
     ·have e1:(σ k0).A=A':=by rw[<-gX,<-l7,iL]
      rw[e1]at h8⊢;exact h8
 ·rw[if_neg (by rw[kV,h1];simp)];have sJ:(σ (j+1)).V=(σ j).V:=by rw[h2];rfl
  have iL:(σ (j+1)).A=(σ j).A:=by rw[h2];rfl
  by_cases ea:j∈ws
  ·have fq:=ui j o ho ea;obtain⟨iG,gX⟩:=jU fq (lI j ea);refine ih (j+1) o g _ w ho (fY undef) (cz (j+1) (.c .undef) undef w g (by rw[h2];rfl) rfl ?_ ?_ hD.fr (by omega) (.inr ⟨j,ea,rfl⟩) (fun i hi b4=>?_)) (.refl hD.fr.now)
   ·rw[sJ,iL,iG,gX];exact hD.inv
   ·rw[iL,gX];exact .refl _ _ _
   ·have aU:all[i]? =some all[i]:=Yv b4;rw[bH];by_cases e:i=j
    ·subst e;simp
    ·rw[if_neg e];constructor
     ·intro bt;rcases Yo j i with h|h
      ·have hp:=bU j i o _ ho aU h (cY i h bt) (lI j ea) (lI i hi);have hb:=bR i _ aU bt;simp only[bj,hb,Ym,Yn]at hp;simp[hi,fq,-cy]at hp
      ·omega
     ·intro ax;by_cases e:j=q
      ·exact hq e i (ga i hi) (by omega)
      have hp:=bU i j _ o aU ho (by omega) (fun h=>e h.1) (lI i hi) (lI j ea);simp only[bj,Ym,Yn]at hp;rcases hp.2 with h|h
      ·simp[hi,fq,-cy]at h
      ·exact ca i h
  ·exact ih k0 o g _ w ho (fY undef) (cz k0 (.c .undef) undef w g (by rw[h2];rfl) rfl hD.inv (.refl _ _ _) hD.fr hD.mX hD.kw (gH ea)) (.refl hD.fr.now)
theorem Hd {all:Array Oper} {ws fs:List Nat} {m q:Nat} {wt:List Nat} (hd:lK all ws fs m q wt=true):q∈ws/\(∀i∈ws,i∈wt)/\(∀(j:Nat) o,all[j]? =some o->∀e∈o.after,Region.binds .any e=true->e.on<j)/\
  (∀(i j:Nat) oi oj,all[i]? =some oi->all[j]? =some oj->i∈wt->i<=q->q<j->((aW all.toList []).getD j 0).testBit i=true)/\(∀(i j:Nat) oi oj d,all[i]? =some oi->all[j]? =some oj->i≠j->oi.dst=some d->oj.dst≠some d):=by
 simp only[lK,Ym,X5]at hd;obtain⟨⟨⟨⟨⟨⟨gE,oG⟩,vp⟩,ID⟩,IE⟩,Ks⟩,Bc⟩:=hd;have ga:∀i∈ws,i∈wt:=fun i hi=>by simpa using Bc i hi
 have cD:∀(j:Nat) o,all[j]? =some o->(o,j)∈all.toList.zipIdx:=fun j o h=>by
  rw[Yg];exact⟨j,by simp[Yi,h]⟩
 have wq:∀(i j:Nat) oi oj,all[i]? =some oi->all[j]? =some oj->i<j->nz all ws fs m q wt (aW all.toList []) oi oj i j=true:=fun i j oi oj h1 h2 ax=>by
  have:=oG _ (cD j oj h2) _ (cD i oi h1);simpa[ax]using this
 have ou:∀(i j:Nat) oi oj d,all[i]? =some oi->all[j]? =some oj->i<j->oi.dst=some d->oj.dst≠some d:=fun i j oi oj d h1 h2 ax h3 h4=>by
  have:=wq i j oi oj h1 h2 ax;simp only[nz,cn,h3,h4]at this;split at this<;>simp at this
 refine⟨by simpa using Ks,ga,fun j o h e he hb=>?_,fun i j oi oj h1 h2 h0 h3 h4=>?_,fun i j oi oj d h1 h2 cY h3 h4=>?_⟩
 ·have:=gE _ (cD j o h) e (Yy.2 he);simpa[hb]using this
 ·have:=wq i j oi oj h1 h2 (by omega);rw[nz,if_neg (show¬(j=q/\wt.contains i=true) by omega)]at this;simp only[Ym]at this;simpa[h0,h3,h4]using this.2
 ·rcases Nat.lt_or_gt_of_ne cY with h|h
  ·exact ou i j oi oj d h1 h2 h h3 h4
  ·exact ou j i oj oi d h2 h1 h h4 h3
theorem CO.QE {all:Array Oper} {ow:Nat->Bool} {ws fs:List Nat} {m q:Nat} {wt:List Nat} {σ:Nat->St} (hd:lK all ws fs m q wt=true) {d:Nat} {row:List CV} {cs:Array Value} {ty:TypeId} {oq:Oper} (hk:CP P all ow σ q d row cs ty oq)
  (hw:∀(j:Nat) o,all[j]? =some o->j∈ws\/((σ (j+1)).V=(σ j).V/\(σ (j+1)).A=(σ j).A))
  {af:Array Bool} {k0 b:Nat} (h:CO all ws σ n w0 g0 q d row cs ty af k0 b g a w) (cX:∀i∈wt,i<q->af[i]? =some true):∃g',xN all ws σ n w0 g0 af (q+1) g' a w:=by
 obtain⟨Ks,ga,cK,He,qU⟩:=Hd hd;have Hf:q<all.size:=(Yw.1 hk.at_).1;have bH:∀i,i≠q->(af.setIfInBounds q false)[i]? =af[i]? :=fun i hi=>Yx (fun e=>hi e.symm)
 have Uh:q<af.size:=(Yw.1 h.MH).1;have QF:(af.setIfInBounds q false)[q]? =some false:=by simp[Uh]
 have gQ:∀i,q<i->af[i]? ≠some true:=fun i hi hl=>by
  have b4:i<all.size:=by
   have:=(Yw.1 hl).1;have e:=h.base.er;simp at e;omega
  have aU:all[i]? =some all[i]:=Yv b4;have:=ur cK h.base.closed i _ aU (h.base.closed i _ aU (by rw[bH i (by omega)];exact hl)) q (He q i _ _ hk.at_ aU (ga q Ks) (Yp _) hi);rw[QF]at this;simp at this
 have gx:k0<=q:=by
  rcases h.base.kw with e|⟨i,hi,e⟩
  ·omega
  ·rcases Yo i q with h1|h1
   ·omega
   ·have:=h.base.mX;have h2:=(h.base.dT i hi (by omega)).2 (by omega);rcases Nat.eq_or_lt_of_le h1 with h3|h3
    ·subst h3;rw[QF]at h2;simp at h2
    ·rw[bH i (by omega)]at h2;exact absurd h2 (gQ i h3)
 have s4:∀c,k0<=c->c<=q->(σ c).V=(σ k0).V/\(σ c).A=(σ k0).A:=by
  intro c;induction c with
  |zero=>intro h1 _;obtain rfl:k0=0:=by omega
         exact⟨rfl,rfl⟩
  |succ c ih=>
   intro h1 h2;by_cases e:k0=c+1
   ·subst e;exact⟨rfl,rfl⟩
   ·obtain⟨h3,h4⟩:=ih (by omega) (by omega);rcases hw c _ (Yv (by omega))with h5|⟨h5,h6⟩
    ·have:=(h.base.dT c h5 (by omega)).1 (by rw[bH c (by omega)];exact cX c (ga c h5) (by omega));omega
    ·exact⟨h5.trans h3,h6.trans h4⟩
 obtain⟨iG,gX⟩:=s4 q gx (Yp _);obtain⟨hI,hx,hb⟩:=h.base.inv.Lo h.mem hk.size hk.cells h.ob h.iF h.im;have Ui:(σ (q+1)).V=(σ k0).V++[row]:=by rw[hk.next,<-iG];rfl
 have QG:(σ (q+1)).A=(σ k0).A:=by rw[hk.next,<-gX];rfl
 refine⟨{g with ob:=g.ob++[b]},by rw[Ui,QG];exact hI,h.base.fr.Lo h.new,h.base.size,h.base.defers,by simpa using h.base.er,fun i o t x ho hl b7 fW=>?_,fun t x QH fW=>?_,fun i hi b4=>?_,by omega,.inr ⟨q,Ks,rfl⟩,fun i o ho hl e he eI=>?_⟩
 ·rw[QG];by_cases e:i=q
  ·subst e;rw[hk.at_]at ho;cases ho
   rw[hk.dst]at b7;cases b7
   rw[hk.next]at fW;simp only[St.put,look,if_true]at fW;cases fW
   exact⟨_,h.slot,b,by rw[iG];exact hb,rfl⟩
  ·obtain⟨u,h1,h2⟩:=h.base.fH i o t x ho (by rw[bH i e];exact hl) b7 fW;exact⟨u,h1,aR.ext hx h2⟩
 ·rw[QG];obtain⟨u,h1,h2⟩:=h.base.fI t x (fun i o ho hl=>by
   by_cases e:i=q
   ·subst e;rw[QF]at hl;simp at hl
   ·rw[bH i e]at hl;exact QH i o ho hl) fW
  exact⟨u,h1,aR.ext hx h2⟩
 ·constructor
  ·intro hl;rcases Yo q i with h1|h1
   ·exact absurd hl (gQ i h1)
   ·omega
  ·intro ax;by_cases e:i=q
   ·subst e;exact h.MH
   ·exact cX i (ga i hi) (by omega)
 ·have ax:=cK i o ho e he eI;by_cases e':i=q
  ·subst e';exact h.closed i o ho hl e he eI
  ·by_cases e2:e.on=q
   ·rw[e2];exact h.MH
   ·have:=h.base.closed i o ho (by rw[bH i e'];exact hl) e he eI;rwa[bH _ e2]at this
set_option maxHeartbeats 1000000 in
theorem Bd {all:Array Oper} {ow:Nat->Bool} {ws fs:List Nat} {m q:Nat} {wt:List Nat} {ex:List Nat} {V0:List (List CV)} {A0:List bu} {σ:Nat->St} {K:St->Prop} {Q:Exit->Act->World->Prop} (hd:lK all ws fs m q wt=true) (e5:cP n all.toList=true)
  (jT:∀(j:Nat) o,all[j]? =some o->G7 P all (ow j) fs j ex V0 A0 o (σ j) (σ (j+1))/\(j∈ws\/((σ (j+1)).V=(σ j).V/\(σ (j+1)).A=(σ j).A))/\(j<m->Kq ex V0 A0 (σ (j+1))\/((σ (j+1)).V=(σ j).V/\(σ (j+1)).A=(σ j).A))) (G8:(σ 0).V=V0/\(σ 0).A=A0)
  {d:Nat} {row:List CV} {cs:Array Value} {ty:TypeId} {oq:Oper} (hk:CP P all ow σ q d row cs ty oq)
  (hK:K (σ all.size)) (hQ:∀s' g' a' w',K s'->Rp n w0 g0 s' g' a' w'->Q .normal a' w'):
  ∀(fuel:Nat) (af:Array Bool) (k0:Nat) (g:Gh) (a:Act) (w:World),((X3 all.size).filter fun i=> !af.getD i true).length<=fuel->
   ((xN all ws σ n w0 g0 af k0 g a w/\(af[q]? =some true->∀i∈wt,i<q->af[i]? =some true))\/((∃i∈wt,i<q/\af[i]? ≠some true)/\∃b,CO all ws σ n w0 g0 q d row cs ty af k0 b g a w))->wpAny P .any all Q fuel af a w:=by
 obtain⟨Ks,ga,cK,He,qU⟩:=Hd hd;have Hf:q<all.size:=(Yw.1 hk.at_).1;have oX:∀{af:Array Bool},Region.ready .any all af=[]->af.size=all.size->∀i,i<all.size->af[i]? =some true:=by
  intro af hr wx i;induction i using Ys with
  |_ i ih=>
   intro hi;have ho:all[i]? =some all[i]:=Yv hi;have bt:i<af.size:=by omega
   cases hl:af[i]with
   |true=>rw[Yv bt,hl]
   |false=>
    exfalso
    have:i∈Region.ready .any all af:=mem_ready.2 ⟨by simp[bt,hl],_,ho,fun e he hb=>cl.2 (ih e.on (cK i _ ho e he hb) (by have:=cK i _ ho e he hb;omega))⟩;rw[hr]at this;simp at this
 have lx:∀{af:Array Bool} {k0:Nat} {g:Gh} {a:Act} {w:World},((xN all ws σ n w0 g0 af k0 g a w/\(af[q]? =some true->∀i∈wt,i<q->af[i]? =some true))\/((∃i∈wt,i<q/\af[i]? ≠some true)/\∃b,CO all ws σ n w0 g0 q d row cs ty af k0 b g a w))->
   Region.ready .any all af=[]->Q .normal a w:=by
  intro af k0 g a w hD hr;rcases hD with⟨hD,_⟩|⟨⟨i,_,hi,hl⟩,b,hD⟩
  rotate_left
  ·have e:=hD.base.er;simp at e;exact absurd (oX hr e i (by omega)) hl
  have cX:=oX hr hD.er;have lF:∀(j:Nat) o t,all[j]? =some o->o.dst≠some t->look (σ (j+1)).fr t=look (σ j).fr t:=fun j o t h1 h2=>by
   obtain⟨⟨_,h3⟩,_⟩:=jT j o h1;have jH:∀(x:AV) V A,look ((σ j).put o.dst x V A).fr t=look (σ j).fr t:=fun x V A=>by
    simp only[St.put];cases qQ:o.dst with
    |none=>rfl
    |some d=>simp only[look];rw[if_neg (fun e=>h2 (by rw[qQ,e]))]
   rcases h3 with⟨_,x,V,A,h4,_,_⟩|⟨_,h4⟩
   ·rw[h4];exact jH x V A
   ·rw[h4];exact jH _ _ _
  have om:∀(j t:Nat),j<=all.size->(∀(i:Nat) o,i<j->all[i]? =some o->o.dst≠some t)->look (σ j).fr t=look (σ 0).fr t:=by
   intro j;induction j with
   |zero=>intro t _ _;rfl
   |succ j ih=>
    intro t hj gQ;have ho:all[j]? =some all[j]:=Yv (by omega);rw[lF j _ t ho (gQ j _ (by omega) ho)];exact ih t (by omega) (fun i o hi=>gQ i o (by omega))
  have oo:∀(j i:Nat) oi t,j<=all.size->i<j->all[i]? =some oi->oi.dst=some t->look (σ j).fr t=look (σ (i+1)).fr t:=by
   intro j;induction j with
   |zero=>intro i oi t _ h;omega
   |succ j ih=>
    intro i oi t hj kK aU b7;by_cases e:i=j
    ·subst e;rfl
    ·have ho:all[j]? =some all[j]:=Yv (by omega);rw[lF j _ t ho (qU i j oi _ t aU ho (by omega) b7)];exact ih i oi t (by omega) (by omega) aU b7
  have s4:∀c,k0<=c->c<=all.size->(σ c).V=(σ k0).V/\(σ c).A=(σ k0).A:=by
   intro c;induction c with
   |zero=>intro h1 _;obtain rfl:k0=0:=by omega
          exact⟨rfl,rfl⟩
   |succ c ih=>
    intro h1 h2;by_cases e:k0=c+1
    ·subst e;exact⟨rfl,rfl⟩
    ·obtain⟨h3,h4⟩:=ih (by omega) (by omega);rcases(jT c _ (Yv (by omega))).2.1 with h5|⟨h5,h6⟩
     ·have:=(hD.dT c h5 (by omega)).1 (cX c (by omega));omega
     ·exact⟨h5.trans h3,h6.trans h4⟩
  have jU:=s4 all.size hD.mX (Yp _);refine hQ _ g a w hK ⟨by rw[jU.1,jU.2];exact hD.inv,hD.fr,hD.size,hD.defers,fun t x hx=>?_⟩;rw[jU.2];by_cases hex:∃(i:Nat) (o:Oper),all[i]? =some o/\o.dst=some t
  ·obtain⟨i,o,ho,b7⟩:=hex;have hi:=(Yw.1 ho).1;rw[oo all.size i o t (Yp _) hi ho b7]at hx;exact hD.fH i o t x ho (cX i hi) b7 hx
  ·rw[om all.size t (Yp _) (fun i o _ ho b7=>hex ⟨i,o,ho,b7⟩)]at hx;exact hD.fI t x (fun i o ho _ b7=>hex ⟨i,o,ho,b7⟩) hx
 intro fuel;induction fuel with
 |zero=>
  intro af k0 g a w hf hD;have kh:Region.ready .any all af=[]:=by
   have h0:((X3 all.size).filter fun i=> !af.getD i true)=[]:=List.eq_nil_of_length_eq_zero (by omega);rcases hr:Region.ready .any all af with _|⟨j,r⟩
   ·rfl
   ·have hj:j∈Region.ready .any all af:=by rw[hr];simp
    obtain⟨h1,o,h2,_⟩:=mem_ready.1 hj;have:j∈((X3 all.size).filter fun i=> !af.getD i true):=by
     rw[List.mem_filter,Yf];exact⟨(Yw.1 h2).1,by simp[h1]⟩
    rw[h0]at this;simp at this
  exact⟨kh,lx hD kh⟩
 |succ fuel ih=>
  intro af k0 g a w hf hD;refine⟨fun hr=>lx hD hr,fun j hj=>?_⟩;obtain⟨ml,o,ho,cm⟩:=mem_ready.1 hj;have mo:=dU ml;have rv:j<all.size:=(Yw.1 ho).1;have wx:af.size=all.size:=by
   rcases hD with⟨hD,_⟩|⟨_,b,hD⟩
   ·exact hD.er
   ·simpa using hD.base.er
  have iP:j<af.size:=by omega
  have bH:∀i,(af.setIfInBounds j true)[i]? =if i=j then some true else af[i]? :=fun i=>by
   by_cases e:i=j
   ·subst e;simp[iP]
   ·rw[if_neg e,Yx (fun h=>e h.symm)]
  have cI:((X3 all.size).filter fun i=> !(af.setIfInBounds j true).getD i true).length<=fuel:=by
   have ax:((X3 all.size).filter fun i=> !(af.setIfInBounds j true).getD i true).length<((X3 all.size).filter fun i=> !af.getD i true).length:=by
    have ga:∀i,(!(af.setIfInBounds j true).getD i true)=true->(!af.getD i true)=true:=fun i h=>by
     by_cases e:i=j
     ·subst e;simp[iP]at h
     ·have:(af.setIfInBounds j true).getD i true=af.getD i true:=by
       simp only[YA,bH,if_neg e]
      rwa[this]at h
    exact filter_lt ga (Yf.2 rv) (by simp[ml]) (by simp[iP])
   omega
  have ch:∀e∈o.after,Region.binds .any e=true->af[e.on]? =some true:=fun e he hb=>cl.1 (cm e he hb)
  rcases hD with⟨hD,hL⟩|⟨⟨i0,Lq,Mw,Iz⟩,b,hD⟩
  ·by_cases Gd:j=q/\∃i∈wt,i<q/\af[i]? ≠some true
   ·-- the allocation, before its turn
    obtain⟨rfl,hex⟩:=Gd;obtain rfl:o=oq:=by have:=hk.at_;rw[ho]at this;exact Option.some.inj this
    unfold wpOp;simp only[ho];rw[if_pos (by simp[Region.wanted,hk.guard])];refine .inl ?_;unfold Oper.wp;rw[hk.run];obtain⟨g1,uP,e9,lu⟩:=hD.inv.dR (.cells cs ty) 0;have jS:=(Fr.refl hD.fr.now).dR (.cells cs ty) 0;rw[<-uP]at jS;have jH:∀t,t≠d->(a.put o.dst (.pointer (some ⟨w.heap.size,0,none⟩))).tmps[t]? =a.tmps[t]? :=fun t ht=>by
     rw[hk.dst];simp only[Act.put];rw[Yx (fun e=>ht e.symm)]
    have zt:d<n:=by
     have:=X5.1 e5 o (by rw[Yy];exact Yz ho);simpa[hk.dst]using this
    refine ih _ k0 g1 _ _ cI (.inr ⟨?_,w.heap.size,⟨by rw[bH,if_pos rfl],?_,?_,heap_alloc_new w _,fun hm=>?_,fun hm=>?_,by rw[uP];simp,hD.fr.size,by simp,fun i oi aU bt e he hb=>?_⟩⟩)
    ·obtain⟨i,hw,hi,hl⟩:=hex;exact⟨i,hw,hi,by rw[bH,if_neg (by omega)];exact hl⟩
    ·rw[Lp af j (by rw[mo];simp) iP];refine⟨e9,hD.fr.Bb jS,by rw[hk.dst];simp[Act.put,hD.size],by rw[hk.dst];simp[Act.put,hD.defers],hD.er,fun i oi t x aU bt b7 hx=>?_,fun t x gQ hx=>?_,hD.dT,hD.mX,hD.kw,hD.closed⟩
     ·have kK:i≠j:=fun e=>by subst e;rw[mo]at bt;simp at bt
      have QI:t≠d:=fun e=>by
       subst e;exact qU i j oi o t aU ho kK b7 hk.dst
      obtain⟨u,h1,h2⟩:=hD.fH i oi t x aU bt b7 hx;exact⟨u,by rw[jH t QI];exact h1,aR.ext lu h2⟩
     ·have QI:t≠d:=fun e=>by
       subst e;rw[hk.s0]at hx;simp at hx
      obtain⟨u,h1,h2⟩:=hD.fI t x gQ hx;exact⟨u,by rw[jH t QI];exact h1,aR.ext lu h2⟩
    ·have:d<a.tmps.size:=by rw[hD.size];exact zt
     rw[hk.dst];simp[Act.put,this]
    ·rw[uP]at hm;obtain⟨l,hl⟩:=Yj hm;have:=hD.inv.qN hl;omega
    ·rw[uP]at hm;obtain⟨k,v',q1,q2⟩:=Gh.fw (g:=g) (by simpa[Gh.iF]using hm);have:=hD.inv.ma q1 q2;omega
    ·rw[bH]at bt⊢;have:af[e.on]? =some true:=by
      by_cases e':i=j
      ·subst e';obtain rfl:o=oi:=by rw[ho]at aU;exact Option.some.inj aU
       exact ch e he hb
      ·rw[if_neg e']at bt;exact hD.closed i oi aU bt e he hb
     by_cases e':e.on=j
     ·rw[if_pos e']
     ·rw[if_neg e'];exact this
   ·refine yF hd e5 jT G8 hD hL hj (fun e i hw hi=>?_) fun k1 o' g' a' w' sG fY Je hF=>ih _ k1 g' a' w' cI (.inl ⟨Je,fun hl i hw hi=>?_⟩)
    ·by_cases hc:af[i]? =some true
     ·exact hc
     ·exact absurd ⟨e,i,hw,hi,hc⟩ Gd
    ·rw[bH];by_cases e:i=j
     ·rw[if_pos e]
     ·rw[if_neg e];by_cases e':j=q
      ·by_cases hc:af[i]? =some true
       ·exact hc
       ·exact absurd ⟨e',i,hw,hi,hc⟩ Gd
      ·rw[bH,if_neg (fun h=>e' h.symm)]at hl;exact hL hl i hw hi
  ·-- with the block at hand
   have Gd:j≠q:=fun e=>by subst e;rw[hD.MH]at mo;simp at mo
   have Uj:j<q:=by
    rcases Yt j q with h|h|h
    ·exact h
    ·exact absurd h Gd
    ·exact absurd (ur cK hD.closed j o ho ch i0 (He i0 j _ o (Yv (by omega)) ho Lq (by omega) h)) Iz
   have Jf:j∈Region.ready .any all (af.setIfInBounds q false):=by
    refine mem_ready.2 ⟨?_,o,ho,fun e he hb=>cl.2 ?_⟩
    ·have:(af.setIfInBounds q false)[j]? =some false:=by rw[Yx (fun h=>Gd h.symm)];exact mo
     simp[YA,this]
    ·have ax:=cK j o ho e he hb;rw[Yx (by omega)];exact ch e he hb
   have Uk:q<af.size:=by omega
   refine yF hd e5 jT G8 hD.base (fun hl=>by simp[Uk]at hl) Jf (fun e=>absurd e Gd) fun k1 o' g' a' w' sG fY Je hF=>?_
   have Kt:=hD.step Gd (fY d fun e=>qU j q o' oq d sG hk.at_ Gd e hk.dst) Je hF (fun i oi aU bt e he hb=>by
    rw[bH]at bt⊢;have:af[e.on]? =some true:=by
     by_cases e':i=j
     ·subst e';obtain rfl:o=oi:=by rw[ho]at aU;exact Option.some.inj aU
      exact ch e he hb
     ·rw[if_neg e']at bt;exact hD.closed i oi aU bt e he hb
    by_cases e':e.on=j
    ·rw[if_pos e']
    ·rw[if_neg e'];exact this)
   by_cases hx:∃i∈wt,i<q/\(af.setIfInBounds j true)[i]? ≠some true
   ·exact ih _ k1 g' a' w' cI (.inr ⟨hx,b,Kt⟩)
   ·have cX:∀i∈wt,i<q->(af.setIfInBounds j true)[i]? =some true:=fun i hw hi=>by
     by_cases hc:(af.setIfInBounds j true)[i]? =some true
     ·exact hc
     ·exact absurd ⟨i,hw,hi,hc⟩ hx
    obtain⟨g'',hD''⟩:=Kt.QE hd hk (fun j o ho=>(jT j o ho).2.1) cX;exact ih _ (q+1) g'' a' w' cI (.inl ⟨hD'',fun _=>cX⟩)
theorem T.zD {id:Nat} {ops:Array Oper} (hm:P.follows .mixedOrders=true) (ow:Nat->Bool) (ws fs:List Nat) (m:Nat) (ex:List Nat) (q:Nat) (wt:List Nat) (d:Nat) {e:TypeId} {D:TD} {row:List CV} {oq:Oper} (hd:lK ops ws fs m q wt=true)
  (hq:ops[q]? =some oq) (gd:oq.op=.alloc e) (hg:oq.guard=none) (Pl:oq.dst=some d) (ht:td P e=some D) (hz:D.zero=some row) (IC:look s.fr d=none)
  (h:wj P ops ow ws fs m ex s.V s.A (fun s'=>Q .normal s') 0 ops.toList s):T P n (.region id ops true) Q s:=by
 intro eU w0 g0 g a w hR;obtain⟨σ,h0,hK,jT⟩:=lH ops.toList 0 s h;obtain⟨hI,hx⟩:=hR.inv.heap (w':={w with drawn:=w.drawn+1}) rfl;obtain⟨inf,hi,_,_,Ul⟩:=fQ ht;obtain⟨v,hv,hc⟩:=Ul _ hz;have Nx:∀(j:Nat) o,ops[j]? =some o->G7 P ops (ow j) fs j ex s.V s.A o (σ j) (σ (j+1))/\(j∈ws\/((σ (j+1)).V=(σ j).V/\(σ (j+1)).A=(σ j).A))/\(j<m->Kq ex s.V s.A (σ (j+1))\/((σ (j+1)).V=(σ j).V/\(σ (j+1)).A=(σ j).A)):=fun j o ho=>by
  have:=jT j o (by simpa using ho);simpa only[Yr]using this
 have cz:σ (q+1)=(σ q).put (some d) (.c (.ptr (σ q).V.length 0)) ((σ q).V++[row]) (σ q).A:=by
  rcases(Nx q oq hq).1.2 with⟨_,x,V,A,h1,h2,_⟩|⟨h1,_⟩
  ·have h3:=h2 (fun y V' A'=>y=x/\V'=V/\A'=A) ⟨rfl,rfl,rfl⟩;simp only[bA,gd,eC,bM,ht,hz]at h3;obtain⟨rfl,rfl,rfl⟩:=h3;rw[h1,Pl]
  ·simp[gw,hg]at h1
 have Lr:CP P ops ow σ q d row v.cells e oq:=by
  refine⟨hq,hg,Pl,by rw[h0];exact IC,?_,fun j c u h1 h2 g w A=>?_,cz,fun a w=>?_⟩
  ·have:=ig hc;simpa using this
  ·exact mO (oF hc j c u h1 (by simpa using h2))
  ·simp[execOp,gd,Instr.alloc,zeroValue,typeInfo,hi,hv,newVar,jc]
 refine wp_region_any hm (Bd (ex:=ex) (K:=fun s'=>Q .normal s') (w0:=w0) (g0:=g0) (n:=n) (σ:=σ) (ow:=ow) hd eU Nx ⟨by rw[h0],by rw[h0]⟩ Lr ?_ (fun s' g' a' w' h1 h2=>⟨s',g',h1,h2⟩) ops.size (Array.replicate ops.size false) 0 g a _ ?_ (.inl ⟨?_,fun hl=>?_⟩))
 ·simpa using hK
 ·exact Yq (List.length_filter_le _ _) (by simp)
 ·refine⟨by rw[h0];exact hI,hR.fr.heap rfl rfl rfl rfl,hR.size,hR.defers,by simp,fun i o t x ho hl=>?_,fun t x _ fW=>?_,fun i _ b4=>?_,Nat.zero_le _,.inl rfl,fun i o ho hl=>?_⟩
  ·have hi:=(Yw.1 ho).1;simp[hi]at hl
  ·rw[h0]at fW⊢;obtain⟨u,h1,h2⟩:=hR.slot t x fW;exact⟨u,h1,aR.ext hx h2⟩
  ·simp[b4]
  ·have hi:=(Yw.1 ho).1;simp[hi]at hl
 ·have hi:=(Yw.1 hq).1;simp[hi]at hl
theorem T.Pm {id:Nat} {l:List Oper} {y:Code} (hm:P.follows .mixedOrders=true) (ow:Nat->Bool) (ws fs:List Nat) (m:Nat) (ex:List Nat) (q:Nat) (wt:List Nat) (d:Nat) {e:TypeId} {D:TD} {row:List CV} {oq:Oper} (hd:lK l.toArray ws fs m q wt=true)
  (hq:l.toArray[q]? =some oq) (gd:oq.op=.alloc e) (hg:oq.guard=none) (Pl:oq.dst=some d) (ht:td P e=some D) (hz:D.zero=some row) (IC:look s.fr d=none)
  (h:∀K:St->Prop,(∀s',T P n y Q s'->K s')->uY P l.toArray ow ws fs m ex s.V s.A K 0 l s):T P n (.seq (.region id l.toArray true) y) Q s:=
 T.seq (T.zD hm ow ws fs m ex q wt d hd hq gd hg Pl ht hz IC (h _ fun _ h=>h).run)
end
end Go.Av
namespace Go.Av
attribute [-simp] Go.Av.bA Go.Av.eC Go.Av.ib Go.Av.bM Go.Av.bw Go.Av.gR Go.Av.lU Go.Av.rF Go.Av.mb Go.Av.zl Go.Av.rowsOf Go.Av.look Go.Av.sP Go.Av.St.put Go.Av.gm Go.Av.EP Go.Av.bV Go.Av.zj Go.Av.IS Go.Av.rE Go.Av.rD Go.Av.DH Go.Av.AV.plain Go.Av.AV.cells Go.Av.CV.js Go.Av.mN Go.Av.hP Go.Av.jX Go.Av.fu Go.Av.bO Go.Av.ja Go.Av.AV.j4 Go.Av.CV.j4 Go.Av.qg Go.Av.AV.gn Go.Av.CV.gn Go.Av.bB Go.Av.ia Go.Av.jF Go.Av.nP Go.Av.cy Go.Av.fy Go.Av.uf Go.Av.AV.qi Go.Av.CV.res Go.Av.rN Go.Av.pos? Go.Av.vW Go.Av.CB Go.Av.lC Go.Av.Sub Go.Av.kk Go.Av.kU Go.Av.il Go.Av.gp Go.Av.iq Go.Av.gq Go.Av.aF.cb Go.Av.aF.bD Go.Av.ak.cb Go.Av.ak.gu Go.Av.ak.ng Go.Av.ak.jI Go.Av.ak.jJ Go.Av.ak.iR Go.Av.ak.bD Go.Av.c8 Go.Av.qW Go.Av.iw Go.Av.gI Go.Av.cZ
open Go
def Um:Op->Bool
 |.call {callee:=.value _,.. }=>true
 |_=>false
def QJ (o:Op):Bool:=Pg o||Um o
def Jg (all:Array Oper) (wv wa fs:List Nat) (m:Nat) (ms:List Nat) (oi oj:Oper) (i j:Nat):Bool:=
 (oi.dst.isNone||oi.dst !=oj.dst)&&((!dk all oi oj && !dk all oj oi &&
  !((wv.contains i||wa.contains i)&& !cy oj.op && !(fs.contains j && decide (i<m))&& !(wv.contains i && wa.contains j)&& !(wa.contains i && wv.contains j))&&
  !((wv.contains j||wa.contains j)&& !cy oi.op && !(fs.contains i && decide (j<m))&& !(wv.contains j && wa.contains i)&& !(wa.contains j && wv.contains i)))||(ms.getD j 0).testBit i)
def Pn (all:Array Oper) (wv wa fs:List Nat) (m:Nat):Bool:=
 let l:=all.toList.zipIdx
 let ms:=aW all.toList []
 (l.all fun(o,j)=>o.after.toList.all fun e=> !Region.binds .any e||decide (e.on<j))&&
 (l.all fun(oj,j)=>l.all fun(oi,i)=> !(decide (i<j))||Jg all wv wa fs m ms oi oj i j)&&
 (l.all fun(o,j)=>(!wv.contains j|| !cy o.op)&&(!wa.contains j||QJ o.op))&&(fs.all fun j=> !wv.contains j && !wa.contains j)&&
 (fs.all fun j=>(wv++wa).all fun i=>decide (i<m)||decide (j<i))&&(wv.all fun j=> !wa.contains j)
def Hg (P:Program) (all:Array Oper) (ow:Nat->Bool) (wv wa fs:List Nat) (m:Nat) (ex:List Nat) (V0:List (List CV)) (A0:List bu) (K:St->Prop):Nat->List Oper->St->Prop
 |_,[],s=>K s
 |i,o::rest,s=>ib all s o (bA P s (ow i) o fun x V A=>((i∈wv\/V=s.V)/\(i∈wa\/A=s.A))/\(i∈wv\/i∈wa->i<m->V.take V0.length=qW ex (fun i=>V.getD i []) V0/\A.take A0.length=A0)/\(i∈fs->c8 P s (ow i) o ex V0 A0 x)/\
   (i∈wv->∀A2,bA P ⟨s.fr,s.V,A2⟩ (ow i) o fun y V' A'=>y=x/\V'=V/\A'=A2)/\(i∈wa->Pg o.op=false->∀V2,bA P ⟨s.fr,V2,s.A⟩ (ow i) o fun y V' A'=>y=x/\V'=V2/\A'=A)/\Hg P all ow wv wa fs m ex V0 A0 K (i+1) rest (s.put o.dst x V A)) (Hg P all ow wv wa fs m ex V0 A0 K (i+1) rest (s.put o.dst (.c .undef) s.V s.A))
section
variable {P:Program} {n:Nat} {Q Q':Exit->St->Prop} {s s':St} {w0:World} {g0 g g':Gh} {a:Act} {w w':World} {V:List (List CV)} {A A':List bu}
def Un (P:Program) (all:Array Oper) (ow:Bool) (wv wa fs:List Nat) (j:Nat) (ex:List Nat) (V0:List (List CV)) (A0:List bu) (o:Oper) (s s':St):Prop:=
 ib all s o True True/\((gw all s o=true/\∃x V A,s'=s.put o.dst x V A/\(∀K:AV->List (List CV)->List bu->Prop,K x V A->bA P s ow o K)/\(j∈fs->c8 P s ow o ex V0 A0 x)/\
  (j∈wv->∀A2,bA P ⟨s.fr,s.V,A2⟩ ow o fun y V' A'=>y=x/\V'=V/\A'=A2)/\(j∈wa->Pg o.op=false->∀V2,bA P ⟨s.fr,V2,s.A⟩ ow o fun y V' A'=>y=x/\V'=V2/\A'=A))\/(gw all s o=false/\s'=s.put o.dst (.c .undef) s.V s.A))
structure Vw (all:Array Oper) (wv wa:List Nat) (σ:Nat->St) (n:Nat) (w0:World) (g0:Gh) (af:Array Bool) (kv ka:Nat) (g:Gh) (a:Act) (w:World):Prop where
 inv:Inv g w (σ kv).V (σ ka).A
 fr:Fr w0 g0 w g
 size:a.tmps.size=n
 defers:a.defers=[]
 er:af.size=all.size
 fH:∀(i:Nat) o t x,all[i]? =some o->af[i]? =some true->o.dst=some t->look (σ (i+1)).fr t=some x->∃u,a.tmps[t]? =some u/\aR g w (σ ka).A x u
 fI:∀t x,(∀(i:Nat) o,all[i]? =some o->af[i]? =some true->o.dst≠some t)->look (σ 0).fr t=some x->∃u,a.tmps[t]? =some u/\aR g w (σ ka).A x u
 Nv:∀i∈wv,i<all.size->(af[i]? =some true↔i<kv)
 Nw:∀i∈wa,i<all.size->(af[i]? =some true↔i<ka)
 Ue:kv<=all.size
 Uf:ka<=all.size
 vw:kv=0\/∃i∈wv,kv=i+1
 aw:ka=0\/∃i∈wa,ka=i+1
 closed:∀(i:Nat) o,all[i]? =some o->af[i]? =some true->∀e∈o.after,Region.binds .any e=true->af[e.on]? =some true
end
end Go.Av
