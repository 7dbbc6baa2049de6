/- A part. -/
import Derived.Test.YtloolmchekcmeaaGreatXH7
set_option linter.unusedVariables false
set_option linter.unusedSimpArgs false
open Bool renaming and_eq_true->Vd
open List renaming range->Ve,mem_of_mem_drop->Vf,length_append->Vg,take_add_one->Vh,getElem?_cons_succ->Vi,all_eq_true->Vj
open Nat renaming pow_succ->Vk,le_refl->Vl
namespace Go.Av
attribute [-simp] Go.Av.cK Go.Av.xv
open Go
mutual
def aK:an->Nat
 |.mk _ _ _ _ _ _ l=>1+a7 l
def a7:List an->Nat
 |[]=>0
 |e::r=>aK e+a7 r
end
theorem tK:∀(l:List an),a7 l=(l.map aK).sum
 |[]=>rfl
 |e::r=>by simp[a7,tK r]
theorem zG (e:an):aK e=1+(e.kids.map aK).sum:=by cases e;simp only[aK,tK];rfl
theorem my {nt:Int}:∀{d:Nat} {e:an},bm nt d e=true->∀{n:Nat},d<=n->b5 n e=aK e
 |0,e,h,_,_=>by simp[bm]at h
 |d+1,e,h,n,hn=>by
  obtain⟨n,rfl⟩:∃j,n=j+1:=⟨n-1,by omega⟩;simp only[bm,Vd,Vj]at h;rw[zG];simp only[b5]
  congr 2
  refine List.map_congr_left fun u hu=>my (h.2 u hu) (by omega)
theorem db {e:an}:aR e=true↔gN 14 12 e/\aK e<=30:=by
 simp only[aR,Vd,decide_eq_true_eq];refine⟨fun h=>⟨gN.of h.1,?_⟩,fun h=>⟨h.1.shape,?_⟩⟩
 ·rw[<-my h.1 (Vl _)];exact h.2
 ·rw[my h.1.shape (Vl _)];exact h.2
inductive DH (n:Int) (e:an) (f t:aH):an->Int->Prop
 |same:f=t->DH n e f t e n
 |cast:f≠t->DH n e f t (AP e f t (n+1)) (n+1)
inductive EV:List gj->an->Int->an->aH->Int->Prop
 |var {c:List gj} {s:List UInt8} {t:aH} {n:Int}:ff c s=some t->EV c (rW s) n (rW s) t n
 |num {c:List gj} {k n:Int}:EV c (uW k) n (uW k) dD n
 |pz {c:List gj} {n:Int}:EV c nT n nT eT n
 |pA {c:List gj} {n:Int}:EV c jY n jY eT n
 |lam {c:List gj} {s:List UInt8} {u t:aH} {b b':an} {n m:Int}:EV (c++[⟨s,u⟩]) b n b' t m->ay 4 (.mk 4 [u,t])=true->EV c (nJ s u b) n (nJ s u b') (.mk 4 [u,t]) m
 |app {c:List gj} {a b a' b' a2 b2:an} {ta tb x y:aH} {n n1 n2 n3 n4:Int}:EV c a n a' ta n1->EV c b n1 b' tb n2->kY 4 ta=some (x,y)->bN tb x=true->
   DH n2 a' ta (.mk 4 [x,y]) a2 n3->DH n3 b' tb x b2 n4->EV c (xt 6 a b) n (xt 6 a2 b2) y n4
 |op {c:List gj} {k:Int} {a b a' b' a2 b2:an} {ta tb t:aH} {n n1 n2 n3 n4:Int}:(k=7/\t=dD\/k=8/\t=eT)->EV c a n a' ta n1->EV c b n1 b' tb n2->bN ta dD=true->bN tb dD=true->
   DH n2 a' ta dD a2 n3->DH n3 b' tb dD b2 n4->EV c (xt k a b) n (xt k a2 b2) t n4
 |ite {c:List gj} {p a b p' a' b' p2 a2 b2:an} {tp ta tb:aH} {n n1 n2 n3 n4 n5 n6:Int}:EV c p n p' tp n1->EV c a n1 a' ta n2->EV c b n2 b' tb n3->bN tp eT=true->bN ta tb=true->
   DH n3 p' tp eT p2 n4->DH n4 a' ta (jU ta tb) a2 n5->DH n5 b' tb (jU ta tb) b2 n6->EV c (BP p a b) n (BP p2 a2 b2) (jU ta tb) n6
 |pair {c:List gj} {a b a' b':an} {ta tb:aH} {n n1 n2:Int}:EV c a n a' ta n1->EV c b n1 b' tb n2->ay 4 (.mk 5 [ta,tb])=true->EV c (xt 10 a b) n (xt 10 a' b') (.mk 5 [ta,tb]) n2
 |RN {c:List gj} {k:Int} {a a' a2:an} {ta x y t:aH} {n n1 n2:Int}:(k=11/\t=x\/k=12/\t=y)->EV c a n a' ta n1->kY 5 ta=some (x,y)->DH n1 a' ta (.mk 5 [x,y]) a2 n2->EV c (AO k a) n (AO k a2) t n2
 |asc {c:List gj} {a a' a2:an} {ta t:aH} {n n1 n2:Int}:EV c a n a' ta n1->bN ta t=true->DH n1 a' ta t a2 n2->EV c (Gz a t) n a2 t n2
def aM (e:an):an:=if e.kind=13\/e.kind=14 then match e.kids with
  |x::_=>x
  |[]=>e
 else if e.kind=5 then .mk 5 e.name e.num iN e.fr e.label e.kids else e
theorem zH {nt:Int} {d:Nat} {e:an} (h:gN nt d e) (h5:nt=13\/nt=14):gN 14 d (mapM aM e)/\gN 13 d (mapM aM e)/\aK (mapM aM e)<=aK e:=by
 induction h with
 | @var d s _ hs=>exact⟨by simpa[mapM,ch,aM]using .var (by omega) hs,by simpa[mapM,ch,aM]using .var (by omega) hs,by simp[mapM,ch,aM]⟩
 | @num d k _ h1 h2=>exact⟨by simpa[mapM,ch,aM]using .num (by omega) h1 h2,by simpa[mapM,ch,aM]using .num (by omega) h1 h2,by simp[mapM,ch,aM]⟩
 |pz _=>exact⟨by simpa[mapM,ch,aM]using .pz (by omega),by simpa[mapM,ch,aM]using .pz (by omega),by simp[mapM,ch,aM]⟩
 |pA _=>exact⟨by simpa[mapM,ch,aM]using .pA (by omega),by simpa[mapM,ch,aM]using .pA (by omega),by simp[mapM,ch,aM]⟩
 | @lam d s t b _ hs _ _ ih=>
  refine⟨by simpa[mapM,ch,aM]using .lam (by omega) hs rfl ih.1,by simpa[mapM,ch,aM]using .lam (by omega) hs rfl ih.2.1,?_⟩;simp[mapM,ch,aM,aK,a7];exact ih.2.2
 | @n2 d k a b _ hk _ _ iha ihb=>
  have h1:¬(k=13\/k=14):=by omega
  have h2:¬k=5:=by omega
  refine⟨by simpa[mapM,ch,aM,h1,h2]using .n2 (by omega) hk iha.1 ihb.1,by simpa[mapM,ch,aM,h1,h2]using .n2 (by omega) hk iha.2.1 ihb.2.1,?_⟩;have:=iha.2.2;have:=ihb.2.2;simp[mapM,ch,aM,h1,h2,aK,a7];omega
 | @ite d p a b _ _ _ _ ihp iha ihb=>
  refine⟨by simpa[mapM,ch,aM]using .ite (by omega) ihp.1 iha.1 ihb.1,by simpa[mapM,ch,aM]using .ite (by omega) ihp.2.1 iha.2.1 ihb.2.1,?_⟩;have:=ihp.2.2;have:=iha.2.2;have:=ihb.2.2;simp[mapM,ch,aM,aK,a7];omega
 | @n1 d k a _ hk _ ih=>
  have h1:¬(k=13\/k=14):=by omega
  have h2:¬k=5:=by omega
  refine⟨by simpa[mapM,ch,aM,h1,h2]using .n1 (by omega) hk ih.1,by simpa[mapM,ch,aM,h1,h2]using .n1 (by omega) hk ih.2.1,?_⟩;have:=ih.2.2;simp[mapM,ch,aM,h1,h2,aK,a7];omega
 | @asc d t a _ _ _ ih=>
  have:=ih.2.2;exact⟨by simpa[mapM,ch,aM]using ih.1.mono (by omega),by simpa[mapM,ch,aM]using ih.2.1.mono (by omega),by simp[mapM,ch,aM,aK,a7];omega⟩
 | @cast d f t l a _ _ _ _ _ _ ih=>
  have:=ih.2.2;exact⟨by simpa[mapM,ch,aM]using ih.1.mono (by omega),by simpa[mapM,ch,aM]using ih.2.1.mono (by omega),by simp[mapM,ch,aM,aK,a7];omega⟩
def zI:List aH->List aH->Bool
 |[],_=>true
 |w::ws,h::hs=>fQ w h && zI ws hs
 |_::_,[]=>false
mutual
def AR:List gj->an->Option aH
 |c,.mk k s n t f b l=>match AS (if k=5 then c++[⟨s,t⟩]else c) l with
  |none=>none
  |some ts=>if k=14 then match ts with
    |x::_=>if fQ x f=true then some t else none
    |[]=>none
   else match Dv c k s t ts with
    |none=>none
    |some (ws,u)=>if ay 4 u=true/\zI ws ts=true then some u else none
def AS:List gj->List an->Option (List aH)
 |_,[]=>some []
 |c,e::r=>match AR c e with
  |none=>none
  |some t=>match AS c r with
   |none=>none
   |some ts=>some (t::ts)
end
theorem xr.small {d:Nat} {t:aH} (h:xr d t):iK t+2<=2 ^(d+1):=by
 have key:∀d:Nat,2<=2 ^(d+2):=fun d=>by have:0<2 ^ d:=Nat.pow_pos (by omega);rw[Nat.pow_add];omega
 induction h with
 |any d=>have:=key d;simpa[cI,cF]using this
 |int d=>have:=key d;simpa[cI,cF]using this
 |bool d=>have:=key d;simpa[cI,cF]using this
 | @fn d a b _ _ h1 h2=>rw[Vk];simp[cI,cF];omega
 | @pair d a b _ _ h1 h2=>rw[Vk];simp[cI,cF];omega
theorem gN.small {nt:Int} {d:Nat} {e:an} (h:gN nt d e):fO e+1<=300*aK e:=by
 have key:∀{t:aH},ay 4 t=true->iK t<=100:=fun h=>by have:=(xr.of h).small;omega
 have qo:∀{s:List UInt8},dL s=true->s.length=1:=fun{s} h=>by
  match s,h with
  |[c],_=>rfl
 induction h with
 |var _ hs=>have:=qo hs;simp[dU,eS,cI,cF,aK,a7];omega
 |num _ _ _=>simp[dU,eS,cI,cF,aK,a7]
 |pz _=>simp[dU,eS,cI,cF,aK,a7]
 |pA _=>simp[dU,eS,cI,cF,aK,a7]
 |lam _ hs ht _ ih=>have:=qo hs;have:=key ht;simp[dU,eS,cI,cF,aK,a7];omega
 |n2 _ _ _ _ h1 h2=>simp[dU,eS,cI,cF,aK,a7];omega
 |ite _ _ _ _ h1 h2 h3=>simp[dU,eS,cI,cF,aK,a7];omega
 |n1 _ _ _ ih=>simp[dU,eS,cI,cF,aK,a7];omega
 |asc _ ht _ ih=>have:=key ht;simp[dU,eS,cI,cF,aK,a7];omega
 |cast _ hf ht _ _ _ ih=>have:=key hf;have:=key ht;simp[dU,eS,cI,cF,aK,a7];omega
end Go.Av
namespace Go.Av
open Go
theorem cE.elim {P:Program} {f:FuncId} {as_:List AV} {α:Type} {enc:α->AV} {arr:α->List bp} {good:α->Prop} (h:cE P f as_ (RV enc arr good)):∃x,good x/\ah P f as_ [] (enc x) [] (arr x):=by
 obtain⟨v,V,A,⟨rfl,x,⟨rfl,rfl⟩,hg⟩,hc⟩:=h;exact⟨x,hg,hc⟩
section
variable {P:Program} {s:St} {f:FuncId} {xs as_:List AV} {K:AV->List (List CV)->List bp->Prop} {r:AV}
theorem jL (h:Nat) {a a':bp} (hc:eo P f as_ [] [a] r [] [a']) (ha:s.A[h]? =some a) (hw:a.wr=true) (hz:a'.sz=a.sz) (cr:dS [h] xs=some as_)
  (hK:K (r.cO [h] s.A.length) s.V (s.A.set h a')):fM P s f xs K:=by
 refine .inr ⟨[h],as_,r,[a'],by simp,fun i h' hi=>?_,cr,?_,?_⟩
 ·match i with
  |0=>simp at hi;subst hi;exact⟨a,a',ha,hw,rfl,hz⟩
  |i+1=>simp at hi
 ·simpa[ha]using hc
 ·simpa[nE]using hK
theorem o6.g {fn:Func} {e:Exit} {m a:Nat} {V':List (List CV)} {A':List bp} {ys:List AV} (he:e=.normal\/e=.ret) (hr:(eD P s fn.results.toList).bind (aI s.A (Ve m) (Ve a))=some ys) (h1:one ys=r)
  (hV:ev s.A s.V (Ve m) (Ve a) (Ve m)=some V') (hA:c5 s.A (Ve a)=some A'):o6 P fn m a r V' A' e s:=by
 obtain⟨xs,Jx,kn⟩:=Option.bind_eq_some_iff.1 hr;exact⟨he,[],Ve a,xs,ys,⟨[],by simp⟩,Jx,List.nodup_range,by simp,by simp,by simpa using kn,h1.symm,by simpa using hV,hA⟩
theorem o6.one {fn:Func} {e:Exit} {A':bp} (he:e=.normal\/e=.ret) (hr:(eD P s fn.results.toList).bind (aI s.A [] [0])=some [r]) (hA:s.A[0]? =some A'):o6 P fn 0 1 r [] [A'] e s:=
 o6.g he hr rfl rfl (by simp[c5,hA,List.range_succ])
end
attribute [simp] dS AV.dp CV.dp fS AV.cO CV.cO
end Go.Av
namespace Go.Av
attribute [-simp] Go.Av.cK Go.Av.xv Go.Av.dS Go.Av.AV.dp Go.Av.CV.dp Go.Av.fS Go.Av.AV.cO Go.Av.CV.cO
open Go
mutual
def aL:an->List aH
 |.mk k _ _ t _ _ l=>(if bt k=true then [t]else [])++aB l
def aB:List an->List aH
 |[]=>[]
 |e::r=>aL e++aB r
end
theorem oz (e:an):aL e=(if bt e.kind=true then [e.ty]else [])++aB e.kids:=by cases e;rfl
theorem oA:∀(a b:List an),aB (a++b)=aB a++aB b
 |[],b=>rfl
 |e::r,b=>by simp[aB,oA r b]
theorem cP {l:List an} {p:Nat} {u:an} (h:l[p]? =some u):aB (l.take (p+1))=aB (l.take p)++aL u:=by
 rw[Vh,h,oA];simp[aB]
theorem wI (l:List an) (p:Nat):aB l=aB (l.take p)++aB (l.drop p):=by rw[<-oA,List.take_append_drop]
theorem iU (l:List an) (p:Nat):(aB (l.take p)).length<=(aB l).length:=by rw[wI l p];simp
mutual
def dJ:an->List aH->an
 |.mk k s n t f lb l,ts=>.mk k s n (if bt k=true then ts.headD t else t) f lb (dX l (if bt k=true then ts.drop 1 else ts))
def dX:List an->List aH->List an
 |[],_=>[]
 |e::r,ts=>dJ e ts::dX r (ts.drop (aL e).length)
end
theorem B0 (e:an) (ts:List aH):dJ e ts=.mk e.kind e.name e.num (if bt e.kind=true then ts.headD e.ty else e.ty) e.fr e.label (dX e.kids (if bt e.kind=true then ts.drop 1 else ts)):=by cases e;rfl
theorem ng:∀(a:List an) (ts:List aH),(dX a ts).length=a.length
 |[],ts=>rfl
 |e::r,ts=>by simp[dX,ng r]
theorem lh:∀(e:an),cF (aL e)<=fO e+1/\(aL e).length<=fO e+1:=by
 intro e;induction e using an.ind with
 |h e ih=>
  have hs:∀l:List an,(∀u∈l,cF (aL u)<=fO u+1/\(aL u).length<=fO u+1)->cF (aB l)<=eS l/\(aB l).length<=eS l:=by
   intro l;induction l with
   |nil=>intro _;simp[aB,cF]
   |cons u r ihr=>
    intro h;have h1:=h u (by simp);have h2:=ihr fun v hv=>h v (by simp[hv])
    simp only[aB,px,Vg,eS];omega
  have h1:=hs e.kids ih;rw[oz];have h2:fO e=e.name.length+iK e.ty+iK e.fr+eS e.kids:=by cases e;rw[dU];rfl
  split
  ·simp only[px,Vg,cF,List.length_singleton];omega
  ·simp only[List.nil_append];omega
theorem vF:∀{l:List an} {p:Nat} {u:an} (ts:List aH),l[p]? =some u->(dX l ts)[p]? =some (dJ u (ts.drop (aB (l.take p)).length))
 |[],p,u,ts,h=>by simp at h
 |e::r,0,u,ts,h=>by simp at h;subst h;simp[dX,aB]
 |e::r,p+1,u,ts,h=>by
  simp only[Vi]at h;simp only[dX,Vi,List.take_succ_cons,aB,Vg];rw[vF _ h,List.drop_drop]
theorem oB {l:List an} {p:Nat} {u:an} (ts:List aH) (h:l[p]? =some u):(dX l ts).take (p+1)=(dX l ts).take p++[dJ u (ts.drop (aB (l.take p)).length)]:=by
 rw[Vh,vF ts h];rfl
theorem gN.types {nt:Int} {d:Nat} {e:an} (h:gN nt d e):(∀t∈aL e,ay 4 t=true)/\(aL e).length<=aK e:=by
 induction h with
 |var=>simp[aL,aB,bt]
 |num=>simp[aL,aB,bt]
 |pz=>simp[aL,aB,bt]
 |pA=>simp[aL,aB,bt]
 |lam _ _ h3 _ ih=>
  obtain⟨h1,h2⟩:=ih;simp only[aL,aB,bt,aK,a7];refine⟨fun t ht=>?_,by simp;omega⟩;simp at ht;rcases ht with rfl|ht
  ·exact h3
  ·exact h1 t ht
 |asc _ h3 _ ih=>
  obtain⟨h1,h2⟩:=ih;simp only[aL,aB,bt,aK,a7];refine⟨fun t ht=>?_,by simp;omega⟩;simp at ht;rcases ht with rfl|ht
  ·exact h3
  ·exact h1 t ht
 |n2 _ hk _ _ ih1 ih2=>
  have h5:∀k:Int,k=6\/k=7\/k=8\/k=10->bt k=false:=fun k h=>by rcases h with rfl|rfl|rfl|rfl<;>rfl
  simp only[aL,aB,h5 _ hk,aK,a7];refine⟨fun t ht=>?_,by simp;omega⟩;simp at ht;rcases ht with ht|ht
  ·exact ih1.1 t ht
  ·exact ih2.1 t ht
 |ite _ _ _ _ ih1 ih2 ih3=>
  simp only[aL,aB,bt,aK,a7];refine⟨fun t ht=>?_,by simp;omega⟩;simp at ht;rcases ht with ht|ht|ht
  ·exact ih1.1 t ht
  ·exact ih2.1 t ht
  ·exact ih3.1 t ht
 |n1 _ hk _ ih=>
  have h5:∀k:Int,k=11\/k=12->bt k=false:=fun k h=>by rcases h with rfl|rfl<;>rfl
  simp only[aL,aB,h5 _ hk,aK,a7];refine⟨fun t ht=>?_,by simp;omega⟩;simp at ht;exact ih.1 t ht
 |cast _ _ _ _ _ _ ih=>
  simp only[aL,aB,bt,aK,a7];refine⟨fun t ht=>?_,by simp;omega⟩;simp at ht;exact ih.1 t ht
theorem vG {ts:List aH} {t:aH} (h:ay 4 t=true) (hs:∀u∈ts,ay 4 u=true):ay 4 (ts.headD t)=true:=by
 cases ts with
 |nil=>exact h
 |cons u r=>exact hs u (by simp)
theorem gN.dJ {nt:Int} {d:Nat} {e:an} (h:gN nt d e):∀{ts:List aH},(∀u∈ts,ay 4 u=true)->gN nt d (Av.dJ e ts)/\aK (Av.dJ e ts)=aK e:=by
 induction h with
 |var h1 h2=>intro ts _;exact⟨.var h1 h2,rfl⟩
 |num h1 h2 h3=>intro ts _;exact⟨.num h1 h2 h3,rfl⟩
 |pz h1=>intro ts _;exact⟨.pz h1,rfl⟩
 |pA h1=>intro ts _;exact⟨.pA h1,rfl⟩
 |lam h1 h2 h3 _ ih=>
  intro ts hs;have hd:∀u∈ts.drop 1,ay 4 u=true:=fun u hu=>hs u (Vf hu)
  simp only[Av.dJ,dX,bt,aK,a7];exact⟨.lam h1 h2 (vG h3 hs) (ih hd).1,by have h:=(ih hd).2;simp at h⊢;exact h⟩
 |asc h1 h3 _ ih=>
  intro ts hs;have hd:∀u∈ts.drop 1,ay 4 u=true:=fun u hu=>hs u (Vf hu)
  simp only[Av.dJ,dX,bt,aK,a7];exact⟨.asc h1 (vG h3 hs) (ih hd).1,by have h:=(ih hd).2;simp at h⊢;exact h⟩
 |n2 h1 hk _ _ ih1 ih2=>
  intro ts hs;have h5:∀k:Int,k=6\/k=7\/k=8\/k=10->bt k=false:=fun k h=>by rcases h with rfl|rfl|rfl|rfl<;>rfl
  have hd:∀n,∀u∈ts.drop n,ay 4 u=true:=fun n u hu=>hs u (Vf hu)
  simp only[Av.dJ,dX,h5 _ hk,aK,a7];exact⟨.n2 h1 hk (ih1 hs).1 (ih2 (hd _)).1,by simp[(ih1 hs).2,(ih2 (hd _)).2]⟩
 |ite h1 _ _ _ ih1 ih2 ih3=>
  intro ts hs;have hd:∀n,∀u∈ts.drop n,ay 4 u=true:=fun n u hu=>hs u (Vf hu)
  have jR:∀n m,∀u∈(ts.drop n).drop m,ay 4 u=true:=fun n m u hu=>hd n u (Vf hu)
  simp only[Av.dJ,dX,bt,aK,a7];exact⟨.ite h1 (ih1 hs).1 (ih2 (hd _)).1 (ih3 (jR _ _)).1,by have h1:=(ih1 hs).2;have h2:=fun n=>(ih2 (hd n)).2;have h3:=fun n=>(ih3 (hd n)).2;simp[h1,h2,h3]⟩
 |n1 h1 hk _ ih=>
  intro ts hs;have h5:∀k:Int,k=11\/k=12->bt k=false:=fun k h=>by rcases h with rfl|rfl<;>rfl
  simp only[Av.dJ,dX,h5 _ hk,aK,a7];exact⟨.n1 h1 hk (ih hs).1,by simp[(ih hs).2]⟩
 |cast h1 h2 h3 h4 h6 _ ih=>
  intro ts hs;simp only[Av.dJ,dX,bt,aK,a7];exact⟨.cast h1 h2 h3 h4 h6 (ih hs).1,by simp[(ih hs).2]⟩
def gQ (e:an) (ts:List aH):Option an:=if(aR e && decide (ts.length=(aL e).length)&& ts.all (ay 4))=true then some (dJ e ts)else none
def lM:Option an->List AV
 |some e=>[cw e,.b true]
 |none=>[cw iz,.b false]
def RO (o:Option an):an:=o.getD iz
theorem tL {e x:an} {ts:List aH} (h:gQ e ts=some x):aR e=true/\aR x=true/\x=dJ e ts/\ts.length=(aL e).length/\∀u∈ts,ay 4 u=true:=by
 simp only[gQ]at h;split at h
 ·rename_i hq;simp only[Vd,decide_eq_true_eq,Vj]at hq;obtain⟨⟨h1,h2⟩,h3⟩:=hq;cases h
  obtain⟨h4,h5⟩:=db.1 h1;obtain⟨h6,h7⟩:=h4.dJ h3;exact⟨h1,db.2 ⟨h6,by omega⟩,rfl,h2,h3⟩
 ·cases h
theorem rv {e:an} (h:aR e=true):fO e<=9000:=by
 obtain⟨h1,h2⟩:=db.1 h;have:=h1.small;omega
end Go.Av
namespace Go.Av
open Go
section
variable {P:Program} {n:Nat} {Q:Exit->St->Prop} {s s':St} {y:Code}
structure J7 (P:Program) (all:Array Oper) (ow:Nat->Bool) (wv wa fs:List Nat) (m:Nat) (ex:List Nat) (V0:List (List CV)) (A0:List bp) (K:St->Prop) (i:Nat) (ops:List Oper) (s:St):Prop where
 mk::
 run:Dy P all ow wv wa fs m ex V0 A0 K i ops s
@[congr] theorem HL {all:Array Oper} {ow:Nat->Bool} {wv wa fs:List Nat} {m:Nat} {ex:List Nat} {V0:List (List CV)} {A0:List bp} {K:St->Prop} {i i':Nat} {ops:List Oper} (hi:i=i') (h:s=s'):J7 P all ow wv wa fs m ex V0 A0 K i ops s=J7 P all ow wv wa fs m ex V0 A0 K i' ops s':=by rw[h,hi]
end
end Go.Av
