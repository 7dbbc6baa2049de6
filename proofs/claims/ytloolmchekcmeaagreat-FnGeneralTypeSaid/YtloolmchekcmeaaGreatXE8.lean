/- A part. -/
import Derived.Test.YtloolmchekcmeaaGreatXE7
set_option linter.unusedVariables false
set_option linter.unusedSimpArgs false
open Bool renaming and_eq_true->Zc
open List renaming range->Zd,mem_of_mem_drop->Ze,length_append->Zf,take_add_one->Zg,getElem?_cons_succ->Zh,all_eq_true->Zi
open Nat renaming pow_succ->Zj,le_refl->Zk
namespace Go.Av
attribute [-simp] Go.Av.di Go.Av.yl
open Go
mutual
def aT:ao->Nat
 |.mk _ _ _ _ _ _ l=>1+bk l
def bk:List ao->Nat
 |[]=>0
 |e::r=>aT e+bk r
end
theorem xj:∀(l:List ao),bk l=(l.map aT).sum
 |[]=>rfl
 |e::r=>by simp[bk,xj r]
theorem Dr (e:ao):aT e=1+(e.kids.map aT).sum:=by cases e;simp only[aT,xj];rfl
theorem pG {nt:Int}:∀{d:Nat} {e:ao},bj nt d e=true->∀{n:Nat},d<=n->cN n e=aT e
 |0,e,h,_,_=>by simp[bj]at h
 |d+1,e,h,n,hn=>by
  obtain⟨n,rfl⟩:∃j,n=j+1:=⟨n-1,by omega⟩;simp only[bj,Zc,Zi]at h;rw[Dr];simp only[cN]
  congr 2
  refine List.map_congr_left fun u hu=>pG (h.2 u hu) (by omega)
theorem fh {e:ao}:a6 e=true↔kP 14 12 e/\aT e<=30:=by
 simp only[a6,Zc,decide_eq_true_eq];refine⟨fun h=>⟨kP.of h.1,?_⟩,fun h=>⟨h.1.shape,?_⟩⟩
 ·rw[<-pG h.1 (Zk _)];exact h.2
 ·rw[pG h.1.shape (Zk _)];exact h.2
inductive HN (n:Int) (e:ao) (f t:aE):ao->Int->Prop
 |same:f=t->HN n e f t e n
 |cast:f≠t->HN n e f t (Ey e f t (n+1)) (n+1)
inductive EV:List ea->ao->Int->ao->aE->Int->Prop
 |var {c:List ea} {s:List UInt8} {t:aE} {n:Int}:cX c s=some t->EV c (q8 s) n (q8 s) t n
 |num {c:List ea} {k n:Int}:EV c (tO k) n (tO k) bP n
 |tP {c:List ea} {n:Int}:EV c mR n mR c3 n
 |tQ {c:List ea} {n:Int}:EV c ju n ju c3 n
 |lam {c:List ea} {s:List UInt8} {u t:aE} {b b':ao} {n m:Int}:EV (c++[⟨s,u⟩]) b n b' t m->ak 4 (.mk 4 [u,t])=true->EV c (pD s u b) n (pD s u b') (.mk 4 [u,t]) m
 |app {c:List ea} {a b a' b' a2 b2:ao} {ta tb x y:aE} {n n1 n2 n3 n4:Int}:EV c a n a' ta n1->EV c b n1 b' tb n2->dO 4 ta=some (x,y)->aM tb x=true->
   HN n2 a' ta (.mk 4 [x,y]) a2 n3->HN n3 b' tb x b2 n4->EV c (Ag 6 a b) n (Ag 6 a2 b2) y n4
 |op {c:List ea} {k:Int} {a b a' b' a2 b2:ao} {ta tb t:aE} {n n1 n2 n3 n4:Int}:(k=7/\t=bP\/k=8/\t=c3)->EV c a n a' ta n1->EV c b n1 b' tb n2->aM ta bP=true->aM tb bP=true->
   HN n2 a' ta bP a2 n3->HN n3 b' tb bP b2 n4->EV c (Ag k a b) n (Ag k a2 b2) t n4
 |ite {c:List ea} {p a b p' a' b' p2 a2 b2:ao} {tp ta tb:aE} {n n1 n2 n3 n4 n5 n6:Int}:EV c p n p' tp n1->EV c a n1 a' ta n2->EV c b n2 b' tb n3->aM tp c3=true->aM ta tb=true->
   HN n3 p' tp c3 p2 n4->HN n4 a' ta (cG ta tb) a2 n5->HN n5 b' tb (cG ta tb) b2 n6->EV c (Ex p a b) n (Ex p2 a2 b2) (cG ta tb) n6
 |pair {c:List ea} {a b a' b':ao} {ta tb:aE} {n n1 n2:Int}:EV c a n a' ta n1->EV c b n1 b' tb n2->ak 4 (.mk 5 [ta,tb])=true->EV c (Ag 10 a b) n (Ag 10 a' b') (.mk 5 [ta,tb]) n2
 |VK {c:List ea} {k:Int} {a a' a2:ao} {ta x y t:aE} {n n1 n2:Int}:(k=11/\t=x\/k=12/\t=y)->EV c a n a' ta n1->dO 5 ta=some (x,y)->HN n1 a' ta (.mk 5 [x,y]) a2 n2->EV c (Di k a) n (Di k a2) t n2
 |asc {c:List ea} {a a' a2:ao} {ta t:aE} {n n1 n2:Int}:EV c a n a' ta n1->aM ta t=true->HN n1 a' ta t a2 n2->EV c (MW a t) n a2 t n2
def aS (e:ao):ao:=if e.kind=13\/e.kind=14 then match e.kids with
  |x::_=>x
  |[]=>e
 else if e.kind=5 then .mk 5 e.name e.num kD e.fr e.label e.kids else e
theorem Ds {nt:Int} {d:Nat} {e:ao} (h:kP nt d e) (h5:nt=13\/nt=14):kP 14 d (mapM aS e)/\kP 13 d (mapM aS e)/\aT (mapM aS e)<=aT e:=by
 induction h with
 | @var d s _ hs=>exact⟨by simpa[mapM,eI,aS]using .var (by omega) hs,by simpa[mapM,eI,aS]using .var (by omega) hs,by simp[mapM,eI,aS]⟩
 | @num d k _ h1 h2=>exact⟨by simpa[mapM,eI,aS]using .num (by omega) h1 h2,by simpa[mapM,eI,aS]using .num (by omega) h1 h2,by simp[mapM,eI,aS]⟩
 |tP _=>exact⟨by simpa[mapM,eI,aS]using .tP (by omega),by simpa[mapM,eI,aS]using .tP (by omega),by simp[mapM,eI,aS]⟩
 |tQ _=>exact⟨by simpa[mapM,eI,aS]using .tQ (by omega),by simpa[mapM,eI,aS]using .tQ (by omega),by simp[mapM,eI,aS]⟩
 | @lam d s t b _ hs _ _ ih=>
  refine⟨by simpa[mapM,eI,aS]using .lam (by omega) hs rfl ih.1,by simpa[mapM,eI,aS]using .lam (by omega) hs rfl ih.2.1,?_⟩;simp[mapM,eI,aS,aT,bk];exact ih.2.2
 | @n2 d k a b _ hk _ _ iha ihb=>
  have h1:¬(k=13\/k=14):=by omega
  have h2:¬k=5:=by omega
  refine⟨by simpa[mapM,eI,aS,h1,h2]using .n2 (by omega) hk iha.1 ihb.1,by simpa[mapM,eI,aS,h1,h2]using .n2 (by omega) hk iha.2.1 ihb.2.1,?_⟩;have:=iha.2.2;have:=ihb.2.2;simp[mapM,eI,aS,h1,h2,aT,bk];omega
 | @ite d p a b _ _ _ _ ihp iha ihb=>
  refine⟨by simpa[mapM,eI,aS]using .ite (by omega) ihp.1 iha.1 ihb.1,by simpa[mapM,eI,aS]using .ite (by omega) ihp.2.1 iha.2.1 ihb.2.1,?_⟩;have:=ihp.2.2;have:=iha.2.2;have:=ihb.2.2;simp[mapM,eI,aS,aT,bk];omega
 | @n1 d k a _ hk _ ih=>
  have h1:¬(k=13\/k=14):=by omega
  have h2:¬k=5:=by omega
  refine⟨by simpa[mapM,eI,aS,h1,h2]using .n1 (by omega) hk ih.1,by simpa[mapM,eI,aS,h1,h2]using .n1 (by omega) hk ih.2.1,?_⟩;have:=ih.2.2;simp[mapM,eI,aS,h1,h2,aT,bk];omega
 | @asc d t a _ _ _ ih=>
  have:=ih.2.2;exact⟨by simpa[mapM,eI,aS]using ih.1.mono (by omega),by simpa[mapM,eI,aS]using ih.2.1.mono (by omega),by simp[mapM,eI,aS,aT,bk];omega⟩
 | @cast d f t l a _ _ _ _ _ _ ih=>
  have:=ih.2.2;exact⟨by simpa[mapM,eI,aS]using ih.1.mono (by omega),by simpa[mapM,eI,aS]using ih.2.1.mono (by omega),by simp[mapM,eI,aS,aT,bk];omega⟩
def Dt:List aE->List aE->Bool
 |[],_=>true
 |w::ws,h::hs=>ez w h && Dt ws hs
 |_::_,[]=>false
mutual
def EC:List ea->ao->Option aE
 |c,.mk k s n t f b l=>match ED (if k=5 then c++[⟨s,t⟩]else c) l with
  |none=>none
  |some ts=>if k=14 then match ts with
    |x::_=>if ez x f=true then some t else none
    |[]=>none
   else match cw c k s t ts with
    |none=>none
    |some (ws,u)=>if ak 4 u=true/\Dt ws ts=true then some u else none
def ED:List ea->List ao->Option (List aE)
 |_,[]=>some []
 |c,e::r=>match EC c e with
  |none=>none
  |some t=>match ED c r with
   |none=>none
   |some ts=>some (t::ts)
end
theorem mu.small {d:Nat} {t:aE} (h:mu d t):gl t+2<=2 ^(d+1):=by
 have key:∀d:Nat,2<=2 ^(d+2):=fun d=>by have:0<2 ^ d:=Nat.pow_pos (by omega);rw[Nat.pow_add];omega
 induction h with
 |any d=>have:=key d;simpa[cH,cY]using this
 |int d=>have:=key d;simpa[cH,cY]using this
 |bool d=>have:=key d;simpa[cH,cY]using this
 | @fn d a b _ _ h1 h2=>rw[Zj];simp[cH,cY];omega
 | @pair d a b _ _ h1 h2=>rw[Zj];simp[cH,cY];omega
theorem kP.small {nt:Int} {d:Nat} {e:ao} (h:kP nt d e):fy e+1<=300*aT e:=by
 have key:∀{t:aE},ak 4 t=true->gl t<=100:=fun h=>by have:=(mu.of h).small;omega
 have s9:∀{s:List UInt8},eh s=true->s.length=1:=fun{s} h=>by
  match s,h with
  |[c],_=>rfl
 induction h with
 |var _ hs=>have:=s9 hs;simp[eW,eQ,cH,cY,aT,bk];omega
 |num _ _ _=>simp[eW,eQ,cH,cY,aT,bk]
 |tP _=>simp[eW,eQ,cH,cY,aT,bk]
 |tQ _=>simp[eW,eQ,cH,cY,aT,bk]
 |lam _ hs ht _ ih=>have:=s9 hs;have:=key ht;simp[eW,eQ,cH,cY,aT,bk];omega
 |n2 _ _ _ _ h1 h2=>simp[eW,eQ,cH,cY,aT,bk];omega
 |ite _ _ _ _ h1 h2 h3=>simp[eW,eQ,cH,cY,aT,bk];omega
 |n1 _ _ _ ih=>simp[eW,eQ,cH,cY,aT,bk];omega
 |asc _ ht _ ih=>have:=key ht;simp[eW,eQ,cH,cY,aT,bk];omega
 |cast _ hf ht _ _ _ ih=>have:=key hf;have:=key ht;simp[eW,eQ,cH,cY,aT,bk];omega
end Go.Av
namespace Go.Av
open Go
theorem dh.elim {P:Program} {f:FuncId} {as_:List AV} {α:Type} {enc:α->AV} {arr:α->List bu} {good:α->Prop} (h:dh P f as_ (RV enc arr good)):∃x,good x/\ah P f as_ [] (enc x) [] (arr x):=by
 obtain⟨v,V,A,⟨rfl,x,⟨rfl,rfl⟩,hg⟩,hc⟩:=h;exact⟨x,hg,hc⟩
section
variable {P:Program} {s:St} {f:FuncId} {xs as_:List AV} {K:AV->List (List CV)->List bu->Prop} {r:AV}
theorem j8 (h:Nat) {a a':bu} (hc:eO P f as_ [] [a] r [] [a']) (ha:s.A[h]? =some a) (hw:a.wr=true) (hz:a'.sz=a.sz) (bZ:eS [h] xs=some as_)
  (hK:K (r.dF [h] s.A.length) s.V (s.A.set h a')):gM P s f xs K:=by
 refine .inr ⟨[h],as_,r,[a'],by simp,fun i h' hi=>?_,bZ,?_,?_⟩
 ·match i with
  |0=>simp at hi;subst hi;exact⟨a,a',ha,hw,rfl,hz⟩
  |i+1=>simp at hi
 ·simpa[ha]using hc
 ·simpa[qA]using hK
theorem qJ.g {fn:Func} {e:Exit} {m a:Nat} {V':List (List CV)} {A':List bu} {ys:List AV} (he:e=.normal\/e=.ret) (hr:(e8 P s fn.results.toList).bind (aF s.A (Zd m) (Zd a))=some ys) (h1:one ys=r)
  (hV:fg s.A s.V (Zd m) (Zd a) (Zd m)=some V') (hA:dQ s.A (Zd a)=some A'):qJ P fn m a r V' A' e s:=by
 obtain⟨xs,Ny,mL⟩:=Option.bind_eq_some_iff.1 hr;exact⟨he,[],Zd a,xs,ys,⟨[],by simp⟩,Ny,List.nodup_range,by simp,by simp,by simpa using mL,h1.symm,by simpa using hV,hA⟩
theorem qJ.one {fn:Func} {e:Exit} {A':bu} (he:e=.normal\/e=.ret) (hr:(e8 P s fn.results.toList).bind (aF s.A [] [0])=some [r]) (hA:s.A[0]? =some A'):qJ P fn 0 1 r [] [A'] e s:=
 qJ.g he hr rfl rfl (by simp[dQ,hA,List.range_succ])
end
attribute [simp] eS AV.ew CV.ew iG AV.dF CV.dF
end Go.Av
namespace Go.Av
attribute [-simp] Go.Av.di Go.Av.yl Go.Av.eS Go.Av.AV.ew Go.Av.CV.ew Go.Av.iG Go.Av.AV.dF Go.Av.CV.dF
open Go
mutual
def aH:ao->List aE
 |.mk k _ _ t _ _ l=>(if bD k=true then [t]else [])++aC l
def aC:List ao->List aE
 |[]=>[]
 |e::r=>aH e++aC r
end
theorem nR (e:ao):aH e=(if bD e.kind=true then [e.ty]else [])++aC e.kids:=by cases e;rfl
theorem re:∀(a b:List ao),aC (a++b)=aC a++aC b
 |[],b=>rfl
 |e::r,b=>by simp[aC,re r b]
theorem cK {l:List ao} {p:Nat} {u:ao} (h:l[p]? =some u):aC (l.take (p+1))=aC (l.take p)++aH u:=by
 rw[Zg,h,re];simp[aC]
theorem Am (l:List ao) (p:Nat):aC l=aC (l.take p)++aC (l.drop p):=by rw[<-re,List.take_append_drop]
theorem iO (l:List ao) (p:Nat):(aC (l.take p)).length<=(aC l).length:=by rw[Am l p];simp
mutual
def bF:ao->List aE->ao
 |.mk k s n t f lb l,ts=>.mk k s n (if bD k=true then ts.headD t else t) f lb (c9 l (if bD k=true then ts.drop 1 else ts))
def c9:List ao->List aE->List ao
 |[],_=>[]
 |e::r,ts=>bF e ts::c9 r (ts.drop (aH e).length)
end
theorem zo (e:ao) (ts:List aE):bF e ts=.mk e.kind e.name e.num (if bD e.kind=true then ts.headD e.ty else e.ty) e.fr e.label (c9 e.kids (if bD e.kind=true then ts.drop 1 else ts)):=by cases e;rfl
theorem lf:∀(a:List ao) (ts:List aE),(c9 a ts).length=a.length
 |[],ts=>rfl
 |e::r,ts=>by simp[c9,lf r]
theorem nS:∀(e:ao),cY (aH e)<=fy e+1/\(aH e).length<=fy e+1:=by
 intro e;induction e using ao.ind with
 |h e ih=>
  have hs:∀l:List ao,(∀u∈l,cY (aH u)<=fy u+1/\(aH u).length<=fy u+1)->cY (aC l)<=eQ l/\(aC l).length<=eQ l:=by
   intro l;induction l with
   |nil=>intro _;simp[aC,cY]
   |cons u r ihr=>
    intro h;have h1:=h u (by simp);have h2:=ihr fun v hv=>h v (by simp[hv])
    simp only[aC,sn,Zf,eQ];omega
  have h1:=hs e.kids ih;rw[nR];have h2:fy e=e.name.length+gl e.ty+gl e.fr+eQ e.kids:=by cases e;rw[eW];rfl
  split
  ·simp only[sn,Zf,cY,List.length_singleton];omega
  ·simp only[List.nil_append];omega
theorem zp:∀{l:List ao} {p:Nat} {u:ao} (ts:List aE),l[p]? =some u->(c9 l ts)[p]? =some (bF u (ts.drop (aC (l.take p)).length))
 |[],p,u,ts,h=>by simp at h
 |e::r,0,u,ts,h=>by simp at h;subst h;simp[c9,aC]
 |e::r,p+1,u,ts,h=>by
  simp only[Zh]at h;simp only[c9,Zh,List.take_succ_cons,aC,Zf];rw[zp _ h,List.drop_drop]
theorem ly {l:List ao} {p:Nat} {u:ao} (ts:List aE) (h:l[p]? =some u):(c9 l ts).take (p+1)=(c9 l ts).take p++[bF u (ts.drop (aC (l.take p)).length)]:=by
 rw[Zg,zp ts h];rfl
theorem kP.types {nt:Int} {d:Nat} {e:ao} (h:kP nt d e):(∀t∈aH e,ak 4 t=true)/\(aH e).length<=aT e:=by
 induction h with
 |var=>simp[aH,aC,bD]
 |num=>simp[aH,aC,bD]
 |tP=>simp[aH,aC,bD]
 |tQ=>simp[aH,aC,bD]
 |lam _ _ h3 _ ih=>
  obtain⟨h1,h2⟩:=ih;simp only[aH,aC,bD,aT,bk];refine⟨fun t ht=>?_,by simp;omega⟩;simp at ht;rcases ht with rfl|ht
  ·exact h3
  ·exact h1 t ht
 |asc _ h3 _ ih=>
  obtain⟨h1,h2⟩:=ih;simp only[aH,aC,bD,aT,bk];refine⟨fun t ht=>?_,by simp;omega⟩;simp at ht;rcases ht with rfl|ht
  ·exact h3
  ·exact h1 t ht
 |n2 _ hk _ _ ih1 ih2=>
  have h5:∀k:Int,k=6\/k=7\/k=8\/k=10->bD k=false:=fun k h=>by rcases h with rfl|rfl|rfl|rfl<;>rfl
  simp only[aH,aC,h5 _ hk,aT,bk];refine⟨fun t ht=>?_,by simp;omega⟩;simp at ht;rcases ht with ht|ht
  ·exact ih1.1 t ht
  ·exact ih2.1 t ht
 |ite _ _ _ _ ih1 ih2 ih3=>
  simp only[aH,aC,bD,aT,bk];refine⟨fun t ht=>?_,by simp;omega⟩;simp at ht;rcases ht with ht|ht|ht
  ·exact ih1.1 t ht
  ·exact ih2.1 t ht
  ·exact ih3.1 t ht
 |n1 _ hk _ ih=>
  have h5:∀k:Int,k=11\/k=12->bD k=false:=fun k h=>by rcases h with rfl|rfl<;>rfl
  simp only[aH,aC,h5 _ hk,aT,bk];refine⟨fun t ht=>?_,by simp;omega⟩;simp at ht;exact ih.1 t ht
 |cast _ _ _ _ _ _ ih=>
  simp only[aH,aC,bD,aT,bk];refine⟨fun t ht=>?_,by simp;omega⟩;simp at ht;exact ih.1 t ht
theorem zq {ts:List aE} {t:aE} (h:ak 4 t=true) (hs:∀u∈ts,ak 4 u=true):ak 4 (ts.headD t)=true:=by
 cases ts with
 |nil=>exact h
 |cons u r=>exact hs u (by simp)
theorem kP.bF {nt:Int} {d:Nat} {e:ao} (h:kP nt d e):∀{ts:List aE},(∀u∈ts,ak 4 u=true)->kP nt d (Av.bF e ts)/\aT (Av.bF e ts)=aT e:=by
 induction h with
 |var h1 h2=>intro ts _;exact⟨.var h1 h2,rfl⟩
 |num h1 h2 h3=>intro ts _;exact⟨.num h1 h2 h3,rfl⟩
 |tP h1=>intro ts _;exact⟨.tP h1,rfl⟩
 |tQ h1=>intro ts _;exact⟨.tQ h1,rfl⟩
 |lam h1 h2 h3 _ ih=>
  intro ts hs;have hd:∀u∈ts.drop 1,ak 4 u=true:=fun u hu=>hs u (Ze hu)
  simp only[Av.bF,c9,bD,aT,bk];exact⟨.lam h1 h2 (zq h3 hs) (ih hd).1,by have h:=(ih hd).2;simp at h⊢;exact h⟩
 |asc h1 h3 _ ih=>
  intro ts hs;have hd:∀u∈ts.drop 1,ak 4 u=true:=fun u hu=>hs u (Ze hu)
  simp only[Av.bF,c9,bD,aT,bk];exact⟨.asc h1 (zq h3 hs) (ih hd).1,by have h:=(ih hd).2;simp at h⊢;exact h⟩
 |n2 h1 hk _ _ ih1 ih2=>
  intro ts hs;have h5:∀k:Int,k=6\/k=7\/k=8\/k=10->bD k=false:=fun k h=>by rcases h with rfl|rfl|rfl|rfl<;>rfl
  have hd:∀n,∀u∈ts.drop n,ak 4 u=true:=fun n u hu=>hs u (Ze hu)
  simp only[Av.bF,c9,h5 _ hk,aT,bk];exact⟨.n2 h1 hk (ih1 hs).1 (ih2 (hd _)).1,by simp[(ih1 hs).2,(ih2 (hd _)).2]⟩
 |ite h1 _ _ _ ih1 ih2 ih3=>
  intro ts hs;have hd:∀n,∀u∈ts.drop n,ak 4 u=true:=fun n u hu=>hs u (Ze hu)
  have jm:∀n m,∀u∈(ts.drop n).drop m,ak 4 u=true:=fun n m u hu=>hd n u (Ze hu)
  simp only[Av.bF,c9,bD,aT,bk];exact⟨.ite h1 (ih1 hs).1 (ih2 (hd _)).1 (ih3 (jm _ _)).1,by have h1:=(ih1 hs).2;have h2:=fun n=>(ih2 (hd n)).2;have h3:=fun n=>(ih3 (hd n)).2;simp[h1,h2,h3]⟩
 |n1 h1 hk _ ih=>
  intro ts hs;have h5:∀k:Int,k=11\/k=12->bD k=false:=fun k h=>by rcases h with rfl|rfl<;>rfl
  simp only[Av.bF,c9,h5 _ hk,aT,bk];exact⟨.n1 h1 hk (ih hs).1,by simp[(ih hs).2]⟩
 |cast h1 h2 h3 h4 h6 _ ih=>
  intro ts hs;simp only[Av.bF,c9,bD,aT,bk];exact⟨.cast h1 h2 h3 h4 h6 (ih hs).1,by simp[(ih hs).2]⟩
def jz (e:ao) (ts:List aE):Option ao:=if(a6 e && decide (ts.length=(aH e).length)&& ts.all (ak 4))=true then some (bF e ts)else none
def xk:Option ao->List AV
 |some e=>[c6 e,.b true]
 |none=>[c6 e0,.b false]
def VL (o:Option ao):ao:=o.getD e0
theorem xl {e x:ao} {ts:List aE} (h:jz e ts=some x):a6 e=true/\a6 x=true/\x=bF e ts/\ts.length=(aH e).length/\∀u∈ts,ak 4 u=true:=by
 simp only[jz]at h;split at h
 ·rename_i hq;simp only[Zc,decide_eq_true_eq,Zi]at hq;obtain⟨⟨h1,h2⟩,h3⟩:=hq;cases h
  obtain⟨h4,h5⟩:=fh.1 h1;obtain⟨h6,h7⟩:=h4.bF h3;exact⟨h1,fh.2 ⟨h6,by omega⟩,rfl,h2,h3⟩
 ·cases h
theorem vi {e:ao} (h:a6 e=true):fy e<=9000:=by
 obtain⟨h1,h2⟩:=fh.1 h;have:=h1.small;omega
end Go.Av
namespace Go.Av
open Go
section
variable {P:Program} {n:Nat} {Q:Exit->St->Prop} {s s':St} {y:Code}
structure N3 (P:Program) (all:Array Oper) (ow:Nat->Bool) (wv wa fs:List Nat) (m:Nat) (ex:List Nat) (V0:List (List CV)) (A0:List bu) (K:St->Prop) (i:Nat) (ops:List Oper) (s:St):Prop where
 mk::
 run:HB P all ow wv wa fs m ex V0 A0 K i ops s
@[congr] theorem LF {all:Array Oper} {ow:Nat->Bool} {wv wa fs:List Nat} {m:Nat} {ex:List Nat} {V0:List (List CV)} {A0:List bu} {K:St->Prop} {i i':Nat} {ops:List Oper} (hi:i=i') (h:s=s'):N3 P all ow wv wa fs m ex V0 A0 K i ops s=N3 P all ow wv wa fs m ex V0 A0 K i' ops s':=by rw[h,hi]
end
end Go.Av
