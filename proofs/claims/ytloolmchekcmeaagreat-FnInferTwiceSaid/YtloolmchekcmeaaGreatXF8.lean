/- A part. -/
import Derived.Test.YtloolmchekcmeaaGreatXF7
set_option linter.unusedVariables false
set_option linter.unusedSimpArgs false
open Bool renaming and_eq_true->Zp
open List renaming range->Zq,mem_of_mem_drop->Zr,length_append->Zs,take_add_one->Zt,getElem?_cons_succ->Zu,all_eq_true->Zv
open Nat renaming pow_succ->Zw,le_refl->Zx
namespace Go.Av
attribute [-simp] Go.Av.dt Go.Av.xQ
open Go
mutual
def aU:ao->Nat
 |.mk _ _ _ _ _ _ l=>1+bq l
def bq:List ao->Nat
 |[]=>0
 |e::r=>aU e+bq r
end
theorem wO:∀(l:List ao),bq l=(l.map aU).sum
 |[]=>rfl
 |e::r=>by simp[bq,wO r]
theorem C8 (e:ao):aU e=1+(e.kids.map aU).sum:=by cases e;simp only[aU,wO];rfl
theorem pL {nt:Int}:∀{d:Nat} {e:ao},bm nt d e=true->∀{n:Nat},d<=n->cV n e=aU e
 |0,e,h,_,_=>by simp[bm]at h
 |d+1,e,h,n,hn=>by
  obtain⟨n,rfl⟩:∃j,n=j+1:=⟨n-1,by omega⟩;simp only[bm,Zp,Zv]at h;rw[C8];simp only[cV]
  congr 2
  refine List.map_congr_left fun u hu=>pL (h.2 u hu) (by omega)
theorem c6 {e:ao}:aQ e=true↔kG 14 12 e/\aU e<=30:=by
 simp only[aQ,Zp,decide_eq_true_eq];refine⟨fun h=>⟨kG.of h.1,?_⟩,fun h=>⟨h.1.shape,?_⟩⟩
 ·rw[<-pL h.1 (Zx _)];exact h.2
 ·rw[pL h.1.shape (Zx _)];exact h.2
inductive HA (n:Int) (e:ao) (f t:aI):ao->Int->Prop
 |same:f=t->HA n e f t e n
 |cast:f≠t->HA n e f t (Ee e f t (n+1)) (n+1)
inductive EV:List dF->ao->Int->ao->aI->Int->Prop
 |var {c:List dF} {s:List UInt8} {t:aI} {n:Int}:dY c s=some t->EV c (vq s) n (vq s) t n
 |num {c:List dF} {k n:Int}:EV c (yf k) n (yf k) bw n
 |uK {c:List dF} {n:Int}:EV c qL n qL cF n
 |uL {c:List dF} {n:Int}:EV c my n my cF n
 |lam {c:List dF} {s:List UInt8} {u t:aI} {b b':ao} {n m:Int}:EV (c++[⟨s,u⟩]) b n b' t m->ak 4 (.mk 4 [u,t])=true->EV c (so s u b) n (so s u b') (.mk 4 [u,t]) m
 |app {c:List dF} {a b a' b' a2 b2:ao} {ta tb x y:aI} {n n1 n2 n3 n4:Int}:EV c a n a' ta n1->EV c b n1 b' tb n2->db 4 ta=some (x,y)->aG tb x=true->
   HA n2 a' ta (.mk 4 [x,y]) a2 n3->HA n3 b' tb x b2 n4->EV c (AG 6 a b) n (AG 6 a2 b2) y n4
 |op {c:List dF} {k:Int} {a b a' b' a2 b2:ao} {ta tb t:aI} {n n1 n2 n3 n4:Int}:(k=7/\t=bw\/k=8/\t=cF)->EV c a n a' ta n1->EV c b n1 b' tb n2->aG ta bw=true->aG tb bw=true->
   HA n2 a' ta bw a2 n3->HA n3 b' tb bw b2 n4->EV c (AG k a b) n (AG k a2 b2) t n4
 |ite {c:List dF} {p a b p' a' b' p2 a2 b2:ao} {tp ta tb:aI} {n n1 n2 n3 n4 n5 n6:Int}:EV c p n p' tp n1->EV c a n1 a' ta n2->EV c b n2 b' tb n3->aG tp cF=true->aG ta tb=true->
   HA n3 p' tp cF p2 n4->HA n4 a' ta (bN ta tb) a2 n5->HA n5 b' tb (bN ta tb) b2 n6->EV c (Fk p a b) n (Fk p2 a2 b2) (bN ta tb) n6
 |pair {c:List dF} {a b a' b':ao} {ta tb:aI} {n n1 n2:Int}:EV c a n a' ta n1->EV c b n1 b' tb n2->ak 4 (.mk 5 [ta,tb])=true->EV c (AG 10 a b) n (AG 10 a' b') (.mk 5 [ta,tb]) n2
 |VR {c:List dF} {k:Int} {a a' a2:ao} {ta x y t:aI} {n n1 n2:Int}:(k=11/\t=x\/k=12/\t=y)->EV c a n a' ta n1->db 5 ta=some (x,y)->HA n1 a' ta (.mk 5 [x,y]) a2 n2->EV c (Ed k a) n (Ed k a2) t n2
 |asc {c:List dF} {a a' a2:ao} {ta t:aI} {n n1 n2:Int}:EV c a n a' ta n1->aG ta t=true->HA n1 a' ta t a2 n2->EV c (MZ a t) n a2 t n2
def aM (e:ao):ao:=if e.kind=13\/e.kind=14 then match e.kids with
  |x::_=>x
  |[]=>e
 else if e.kind=5 then .mk 5 e.name e.num lg e.fr e.label e.kids else e
theorem C9 {nt:Int} {d:Nat} {e:ao} (h:kG nt d e) (h5:nt=13\/nt=14):kG 14 d (mapM aM e)/\kG 13 d (mapM aM e)/\aU (mapM aM e)<=aU e:=by
 induction h with
 | @var d s _ hs=>exact⟨by simpa[mapM,dn,aM]using .var (by omega) hs,by simpa[mapM,dn,aM]using .var (by omega) hs,by simp[mapM,dn,aM]⟩
 | @num d k _ h1 h2=>exact⟨by simpa[mapM,dn,aM]using .num (by omega) h1 h2,by simpa[mapM,dn,aM]using .num (by omega) h1 h2,by simp[mapM,dn,aM]⟩
 |uK _=>exact⟨by simpa[mapM,dn,aM]using .uK (by omega),by simpa[mapM,dn,aM]using .uK (by omega),by simp[mapM,dn,aM]⟩
 |uL _=>exact⟨by simpa[mapM,dn,aM]using .uL (by omega),by simpa[mapM,dn,aM]using .uL (by omega),by simp[mapM,dn,aM]⟩
 | @lam d s t b _ hs _ _ ih=>
  refine⟨by simpa[mapM,dn,aM]using .lam (by omega) hs rfl ih.1,by simpa[mapM,dn,aM]using .lam (by omega) hs rfl ih.2.1,?_⟩;simp[mapM,dn,aM,aU,bq];exact ih.2.2
 | @n2 d k a b _ hk _ _ iha ihb=>
  have h1:¬(k=13\/k=14):=by omega
  have h2:¬k=5:=by omega
  refine⟨by simpa[mapM,dn,aM,h1,h2]using .n2 (by omega) hk iha.1 ihb.1,by simpa[mapM,dn,aM,h1,h2]using .n2 (by omega) hk iha.2.1 ihb.2.1,?_⟩;have:=iha.2.2;have:=ihb.2.2;simp[mapM,dn,aM,h1,h2,aU,bq];omega
 | @ite d p a b _ _ _ _ ihp iha ihb=>
  refine⟨by simpa[mapM,dn,aM]using .ite (by omega) ihp.1 iha.1 ihb.1,by simpa[mapM,dn,aM]using .ite (by omega) ihp.2.1 iha.2.1 ihb.2.1,?_⟩;have:=ihp.2.2;have:=iha.2.2;have:=ihb.2.2;simp[mapM,dn,aM,aU,bq];omega
 | @n1 d k a _ hk _ ih=>
  have h1:¬(k=13\/k=14):=by omega
  have h2:¬k=5:=by omega
  refine⟨by simpa[mapM,dn,aM,h1,h2]using .n1 (by omega) hk ih.1,by simpa[mapM,dn,aM,h1,h2]using .n1 (by omega) hk ih.2.1,?_⟩;have:=ih.2.2;simp[mapM,dn,aM,h1,h2,aU,bq];omega
 | @asc d t a _ _ _ ih=>
  have:=ih.2.2;exact⟨by simpa[mapM,dn,aM]using ih.1.mono (by omega),by simpa[mapM,dn,aM]using ih.2.1.mono (by omega),by simp[mapM,dn,aM,aU,bq];omega⟩
 | @cast d f t l a _ _ _ _ _ _ ih=>
  have:=ih.2.2;exact⟨by simpa[mapM,dn,aM]using ih.1.mono (by omega),by simpa[mapM,dn,aM]using ih.2.1.mono (by omega),by simp[mapM,dn,aM,aU,bq];omega⟩
def Da:List aI->List aI->Bool
 |[],_=>true
 |w::ws,h::hs=>dS w h && Da ws hs
 |_::_,[]=>false
mutual
def Ej:List dF->ao->Option aI
 |c,.mk k s n t f b l=>match Ek (if k=5 then c++[⟨s,t⟩]else c) l with
  |none=>none
  |some ts=>if k=14 then match ts with
    |x::_=>if dS x f=true then some t else none
    |[]=>none
   else match cJ c k s t ts with
    |none=>none
    |some (ws,u)=>if ak 4 u=true/\Da ws ts=true then some u else none
def Ek:List dF->List ao->Option (List aI)
 |_,[]=>some []
 |c,e::r=>match Ej c e with
  |none=>none
  |some t=>match Ek c r with
   |none=>none
   |some ts=>some (t::ts)
end
theorem n0.small {d:Nat} {t:aI} (h:n0 d t):fA t+2<=2 ^(d+1):=by
 have key:∀d:Nat,2<=2 ^(d+2):=fun d=>by have:0<2 ^ d:=Nat.pow_pos (by omega);rw[Nat.pow_add];omega
 induction h with
 |any d=>have:=key d;simpa[cA,cP]using this
 |int d=>have:=key d;simpa[cA,cP]using this
 |bool d=>have:=key d;simpa[cA,cP]using this
 | @fn d a b _ _ h1 h2=>rw[Zw];simp[cA,cP];omega
 | @pair d a b _ _ h1 h2=>rw[Zw];simp[cA,cP];omega
theorem kG.small {nt:Int} {d:Nat} {e:ao} (h:kG nt d e):eR e+1<=300*aU e:=by
 have key:∀{t:aI},ak 4 t=true->fA t<=100:=fun h=>by have:=(n0.of h).small;omega
 have s6:∀{s:List UInt8},dX s=true->s.length=1:=fun{s} h=>by
  match s,h with
  |[c],_=>rfl
 induction h with
 |var _ hs=>have:=s6 hs;simp[fg,eW,cA,cP,aU,bq];omega
 |num _ _ _=>simp[fg,eW,cA,cP,aU,bq]
 |uK _=>simp[fg,eW,cA,cP,aU,bq]
 |uL _=>simp[fg,eW,cA,cP,aU,bq]
 |lam _ hs ht _ ih=>have:=s6 hs;have:=key ht;simp[fg,eW,cA,cP,aU,bq];omega
 |n2 _ _ _ _ h1 h2=>simp[fg,eW,cA,cP,aU,bq];omega
 |ite _ _ _ _ h1 h2 h3=>simp[fg,eW,cA,cP,aU,bq];omega
 |n1 _ _ _ ih=>simp[fg,eW,cA,cP,aU,bq];omega
 |asc _ ht _ ih=>have:=key ht;simp[fg,eW,cA,cP,aU,bq];omega
 |cast _ hf ht _ _ _ ih=>have:=key hf;have:=key ht;simp[fg,eW,cA,cP,aU,bq];omega
end Go.Av
namespace Go.Av
open Go
theorem dk.elim {P:Program} {f:FuncId} {as_:List AV} {α:Type} {enc:α->AV} {arr:α->List bz} {good:α->Prop} (h:dk P f as_ (RV enc arr good)):∃x,good x/\ah P f as_ [] (enc x) [] (arr x):=by
 obtain⟨v,V,A,⟨rfl,x,⟨rfl,rfl⟩,hg⟩,hc⟩:=h;exact⟨x,hg,hc⟩
section
variable {P:Program} {s:St} {f:FuncId} {xs as_:List AV} {K:AV->List (List CV)->List bz->Prop} {r:AV}
theorem kB (h:Nat) {a a':bz} (hc:e8 P f as_ [] [a] r [] [a']) (ha:s.A[h]? =some a) (hw:a.wr=true) (hz:a'.sz=a.sz) (b8:fb [h] xs=some as_)
  (hK:K (r.dN [h] s.A.length) s.V (s.A.set h a')):gE P s f xs K:=by
 refine .inr ⟨[h],as_,r,[a'],by simp,fun i h' hi=>?_,b8,?_,?_⟩
 ·match i with
  |0=>simp at hi;subst hi;exact⟨a,a',ha,hw,rfl,hz⟩
  |i+1=>simp at hi
 ·simpa[ha]using hc
 ·simpa[qy]using hK
theorem qI.g {fn:Func} {e:Exit} {m a:Nat} {V':List (List CV)} {A':List bz} {ys:List AV} (he:e=.normal\/e=.ret) (hr:(ft P s fn.results.toList).bind (aA s.A (Zq m) (Zq a))=some ys) (h1:one ys=r)
  (hV:fD s.A s.V (Zq m) (Zq a) (Zq m)=some V') (hA:dW s.A (Zq a)=some A'):qI P fn m a r V' A' e s:=by
 obtain⟨xs,NB,mK⟩:=Option.bind_eq_some_iff.1 hr;exact⟨he,[],Zq a,xs,ys,⟨[],by simp⟩,NB,List.nodup_range,by simp,by simp,by simpa using mK,h1.symm,by simpa using hV,hA⟩
theorem qI.one {fn:Func} {e:Exit} {A':bz} (he:e=.normal\/e=.ret) (hr:(ft P s fn.results.toList).bind (aA s.A [] [0])=some [r]) (hA:s.A[0]? =some A'):qI P fn 0 1 r [] [A'] e s:=
 qI.g he hr rfl rfl (by simp[dW,hA,List.range_succ])
end
attribute [simp] fb AV.eF CV.eF iW AV.dN CV.dN
end Go.Av
namespace Go.Av
attribute [-simp] Go.Av.dt Go.Av.xQ Go.Av.fb Go.Av.AV.eF Go.Av.CV.eF Go.Av.iW Go.Av.AV.dN Go.Av.CV.dN
open Go
mutual
def aF:ao->List aI
 |.mk k _ _ t _ _ l=>(if bx k=true then [t]else [])++az l
def az:List ao->List aI
 |[]=>[]
 |e::r=>aF e++az r
end
theorem fh (e:ao):aF e=(if bx e.kind=true then [e.ty]else [])++az e.kids:=by cases e;rfl
theorem rj:∀(a b:List ao),az (a++b)=az a++az b
 |[],b=>rfl
 |e::r,b=>by simp[az,rj r b]
theorem cr {l:List ao} {p:Nat} {u:ao} (h:l[p]? =some u):az (l.take (p+1))=az (l.take p)++aF u:=by
 rw[Zt,h,rj];simp[az]
theorem zV (l:List ao) (p:Nat):az l=az (l.take p)++az (l.drop p):=by rw[<-rj,List.take_append_drop]
theorem gi (l:List ao) (p:Nat):(az (l.take p)).length<=(az l).length:=by rw[zV l p];simp
mutual
def bG:ao->List aI->ao
 |.mk k s n t f lb l,ts=>.mk k s n (if bx k=true then ts.headD t else t) f lb (cX l (if bx k=true then ts.drop 1 else ts))
def cX:List ao->List aI->List ao
 |[],_=>[]
 |e::r,ts=>bG e ts::cX r (ts.drop (aF e).length)
end
theorem ni (e:ao) (ts:List aI):bG e ts=.mk e.kind e.name e.num (if bx e.kind=true then ts.headD e.ty else e.ty) e.fr e.label (cX e.kids (if bx e.kind=true then ts.drop 1 else ts)):=by cases e;rfl
theorem lx:∀(a:List ao) (ts:List aI),(cX a ts).length=a.length
 |[],ts=>rfl
 |e::r,ts=>by simp[cX,lx r]
theorem ju:∀(e:ao),cP (aF e)<=eR e+1/\(aF e).length<=eR e+1:=by
 intro e;induction e using ao.ind with
 |h e ih=>
  have hs:∀l:List ao,(∀u∈l,cP (aF u)<=eR u+1/\(aF u).length<=eR u+1)->cP (az l)<=eW l/\(az l).length<=eW l:=by
   intro l;induction l with
   |nil=>intro _;simp[az,cP]
   |cons u r ihr=>
    intro h;have h1:=h u (by simp);have h2:=ihr fun v hv=>h v (by simp[hv])
    simp only[az,sj,Zs,eW];omega
  have h1:=hs e.kids ih;rw[fh];have h2:eR e=e.name.length+fA e.ty+fA e.fr+eW e.kids:=by cases e;rw[fg];rfl
  split
  ·simp only[sj,Zs,cP,List.length_singleton];omega
  ·simp only[List.nil_append];omega
theorem yU:∀{l:List ao} {p:Nat} {u:ao} (ts:List aI),l[p]? =some u->(cX l ts)[p]? =some (bG u (ts.drop (az (l.take p)).length))
 |[],p,u,ts,h=>by simp at h
 |e::r,0,u,ts,h=>by simp at h;subst h;simp[cX,az]
 |e::r,p+1,u,ts,h=>by
  simp only[Zu]at h;simp only[cX,Zu,List.take_succ_cons,az,Zs];rw[yU _ h,List.drop_drop]
theorem lH {l:List ao} {p:Nat} {u:ao} (ts:List aI) (h:l[p]? =some u):(cX l ts).take (p+1)=(cX l ts).take p++[bG u (ts.drop (az (l.take p)).length)]:=by
 rw[Zt,yU ts h];rfl
theorem kG.types {nt:Int} {d:Nat} {e:ao} (h:kG nt d e):(∀t∈aF e,ak 4 t=true)/\(aF e).length<=aU e:=by
 induction h with
 |var=>simp[aF,az,bx]
 |num=>simp[aF,az,bx]
 |uK=>simp[aF,az,bx]
 |uL=>simp[aF,az,bx]
 |lam _ _ h3 _ ih=>
  obtain⟨h1,h2⟩:=ih;simp only[aF,az,bx,aU,bq];refine⟨fun t ht=>?_,by simp;omega⟩;simp at ht;rcases ht with rfl|ht
  ·exact h3
  ·exact h1 t ht
 |asc _ h3 _ ih=>
  obtain⟨h1,h2⟩:=ih;simp only[aF,az,bx,aU,bq];refine⟨fun t ht=>?_,by simp;omega⟩;simp at ht;rcases ht with rfl|ht
  ·exact h3
  ·exact h1 t ht
 |n2 _ hk _ _ ih1 ih2=>
  have h5:∀k:Int,k=6\/k=7\/k=8\/k=10->bx k=false:=fun k h=>by rcases h with rfl|rfl|rfl|rfl<;>rfl
  simp only[aF,az,h5 _ hk,aU,bq];refine⟨fun t ht=>?_,by simp;omega⟩;simp at ht;rcases ht with ht|ht
  ·exact ih1.1 t ht
  ·exact ih2.1 t ht
 |ite _ _ _ _ ih1 ih2 ih3=>
  simp only[aF,az,bx,aU,bq];refine⟨fun t ht=>?_,by simp;omega⟩;simp at ht;rcases ht with ht|ht|ht
  ·exact ih1.1 t ht
  ·exact ih2.1 t ht
  ·exact ih3.1 t ht
 |n1 _ hk _ ih=>
  have h5:∀k:Int,k=11\/k=12->bx k=false:=fun k h=>by rcases h with rfl|rfl<;>rfl
  simp only[aF,az,h5 _ hk,aU,bq];refine⟨fun t ht=>?_,by simp;omega⟩;simp at ht;exact ih.1 t ht
 |cast _ _ _ _ _ _ ih=>
  simp only[aF,az,bx,aU,bq];refine⟨fun t ht=>?_,by simp;omega⟩;simp at ht;exact ih.1 t ht
theorem yV {ts:List aI} {t:aI} (h:ak 4 t=true) (hs:∀u∈ts,ak 4 u=true):ak 4 (ts.headD t)=true:=by
 cases ts with
 |nil=>exact h
 |cons u r=>exact hs u (by simp)
theorem kG.bG {nt:Int} {d:Nat} {e:ao} (h:kG nt d e):∀{ts:List aI},(∀u∈ts,ak 4 u=true)->kG nt d (Av.bG e ts)/\aU (Av.bG e ts)=aU e:=by
 induction h with
 |var h1 h2=>intro ts _;exact⟨.var h1 h2,rfl⟩
 |num h1 h2 h3=>intro ts _;exact⟨.num h1 h2 h3,rfl⟩
 |uK h1=>intro ts _;exact⟨.uK h1,rfl⟩
 |uL h1=>intro ts _;exact⟨.uL h1,rfl⟩
 |lam h1 h2 h3 _ ih=>
  intro ts hs;have hd:∀u∈ts.drop 1,ak 4 u=true:=fun u hu=>hs u (Zr hu)
  simp only[Av.bG,cX,bx,aU,bq];exact⟨.lam h1 h2 (yV h3 hs) (ih hd).1,by have h:=(ih hd).2;simp at h⊢;exact h⟩
 |asc h1 h3 _ ih=>
  intro ts hs;have hd:∀u∈ts.drop 1,ak 4 u=true:=fun u hu=>hs u (Zr hu)
  simp only[Av.bG,cX,bx,aU,bq];exact⟨.asc h1 (yV h3 hs) (ih hd).1,by have h:=(ih hd).2;simp at h⊢;exact h⟩
 |n2 h1 hk _ _ ih1 ih2=>
  intro ts hs;have h5:∀k:Int,k=6\/k=7\/k=8\/k=10->bx k=false:=fun k h=>by rcases h with rfl|rfl|rfl|rfl<;>rfl
  have hd:∀n,∀u∈ts.drop n,ak 4 u=true:=fun n u hu=>hs u (Zr hu)
  simp only[Av.bG,cX,h5 _ hk,aU,bq];exact⟨.n2 h1 hk (ih1 hs).1 (ih2 (hd _)).1,by simp[(ih1 hs).2,(ih2 (hd _)).2]⟩
 |ite h1 _ _ _ ih1 ih2 ih3=>
  intro ts hs;have hd:∀n,∀u∈ts.drop n,ak 4 u=true:=fun n u hu=>hs u (Zr hu)
  have jE:∀n m,∀u∈(ts.drop n).drop m,ak 4 u=true:=fun n m u hu=>hd n u (Zr hu)
  simp only[Av.bG,cX,bx,aU,bq];exact⟨.ite h1 (ih1 hs).1 (ih2 (hd _)).1 (ih3 (jE _ _)).1,by have h1:=(ih1 hs).2;have h2:=fun n=>(ih2 (hd n)).2;have h3:=fun n=>(ih3 (hd n)).2;simp[h1,h2,h3]⟩
 |n1 h1 hk _ ih=>
  intro ts hs;have h5:∀k:Int,k=11\/k=12->bx k=false:=fun k h=>by rcases h with rfl|rfl<;>rfl
  simp only[Av.bG,cX,h5 _ hk,aU,bq];exact⟨.n1 h1 hk (ih hs).1,by simp[(ih hs).2]⟩
 |cast h1 h2 h3 h4 h6 _ ih=>
  intro ts hs;simp only[Av.bG,cX,bx,aU,bq];exact⟨.cast h1 h2 h3 h4 h6 (ih hs).1,by simp[(ih hs).2]⟩
def gK (e:ao) (ts:List aI):Option ao:=if(aQ e && decide (ts.length=(aF e).length)&& ts.all (ak 4))=true then some (bG e ts)else none
def uT:Option ao->List AV
 |some e=>[cM e,.b true]
 |none=>[cM ee,.b false]
def VS (o:Option ao):ao:=o.getD ee
theorem wP {e x:ao} {ts:List aI} (h:gK e ts=some x):aQ e=true/\aQ x=true/\x=bG e ts/\ts.length=(aF e).length/\∀u∈ts,ak 4 u=true:=by
 simp only[gK]at h;split at h
 ·rename_i hq;simp only[Zp,decide_eq_true_eq,Zv]at hq;obtain⟨⟨h1,h2⟩,h3⟩:=hq;cases h
  obtain⟨h4,h5⟩:=c6.1 h1;obtain⟨h6,h7⟩:=h4.bG h3;exact⟨h1,c6.2 ⟨h6,by omega⟩,rfl,h2,h3⟩
 ·cases h
theorem uU {e:ao} (h:aQ e=true):eR e<=9000:=by
 obtain⟨h1,h2⟩:=c6.1 h;have:=h1.small;omega
end Go.Av
namespace Go.Av
open Go
section
variable {P:Program} {n:Nat} {Q:Exit->St->Prop} {s s':St} {y:Code}
structure Od (P:Program) (all:Array Oper) (ow:Nat->Bool) (wv wa fs:List Nat) (m:Nat) (ex:List Nat) (V0:List (List CV)) (A0:List bz) (K:St->Prop) (i:Nat) (ops:List Oper) (s:St):Prop where
 mk::
 run:Hl P all ow wv wa fs m ex V0 A0 K i ops s
@[congr] theorem LN {all:Array Oper} {ow:Nat->Bool} {wv wa fs:List Nat} {m:Nat} {ex:List Nat} {V0:List (List CV)} {A0:List bz} {K:St->Prop} {i i':Nat} {ops:List Oper} (hi:i=i') (h:s=s'):Od P all ow wv wa fs m ex V0 A0 K i ops s=Od P all ow wv wa fs m ex V0 A0 K i' ops s':=by rw[h,hi]
end
end Go.Av
