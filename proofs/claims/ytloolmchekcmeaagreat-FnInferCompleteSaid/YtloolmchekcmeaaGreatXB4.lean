/- A part. -/
import Derived.Test.YtloolmchekcmeaaGreatXB3
import Derived.Laws.Cover3
set_option linter.unusedVariables false
set_option linter.unusedSimpArgs false
open Bool renaming and_eq_true->YI
open List renaming mem_of_mem_drop->YJ,range->YK,length_append->YL,take_add_one->YM,nodup_nil->YN,length_cons->YO,getElem?_cons_succ->YP
open Nat renaming pow_succ->YQ,le_refl->YR
namespace Go.Av
open Go
section
variable {P:Program} {n:Nat} {ι:Type} {Q:Exit->St->Prop} {QX:ι->Exit->St->Prop} {s s':St} {y:Code}
theorem T.NW {id:Nat} {src a b:Nat} {ty ty2 e:TypeId} {d:TD} {o1 o2:Oper} {rows:List (List DV)} (h1:o1.op=.move (.tmp src)) (d1:o1.dst=some a) (g1:o1.guard=none)
  (h2:o2.op=.binOp .eql ty (.tmp a) (.const (.slice none 0 0)) ty2) (d2:o2.dst=some b) (g2:o2.guard=none) (ht:td P ty=some d) (tC:d.el=some e) (hs:look s.fr src=some (.c (.d (.sl rows))))
  (h:∀bb:Bool,(bb=true->rows=[])->T P n y Q ⟨(b,.c (.d (.bool bb)))::(a,.c (.d (.sl rows)))::s.fr,s.V,s.A⟩):T P n (.seq (.region id #[o1,o2] false) y) Q s:=by
 refine T.seq ?_;intro eT w0 g0 g A w hR;refine wp_region_list ?_;have hd:da n [o1,o2]=true:=eT;simp only[da,List.all_cons,List.all_nil,Bool.and_true,YI,d1,d2,decide_eq_true_eq]at hd;have w1:Region.wanted o1 (yielded #[o1,o2] A.tmps)=true:=by simp[Region.wanted,g1]
 have w2:∀A':Act,Region.wanted o2 (yielded #[o1,o2] A'.tmps)=true:=fun A'=>by simp[Region.wanted,g2]
 unfold wpList;rw[if_pos w1];have ft:bI P s false o1 fun x V' A'=>x=.c (.d (.sl rows))/\V'=s.V/\A'=s.A:=by
  unfold bI;rw[h1];simp[eS,bF,hs,bU]
 obtain⟨x,V',A',⟨rfl,rfl,rfl⟩,hk⟩:=dk hR.inv hR.fr hR.slot ft;refine .inl (hk _ _ fun v w' g' h5 h6 h7 h8=>?_);have PR:=hR.put (dst:=o1.dst) (fun d e=>by rw[d1]at e;cases e;exact hd.1) h5 h6 h7 h8;unfold wpList;rw[if_pos (w2 _)];have hv:=h5;simp only[aO,dK,bn,bh]at hv;obtain⟨ad,cap,rfl,UM,yk⟩:=hv;have NX:=PR.slot a (.c (.d (.sl rows))) (by simp[St.put,d1,look]);obtain⟨u,hu,PF⟩:=NX;have KD:(A.put o1.dst (.slice ad rows.length cap)).tmps[a]? =some u:=hu;have ax:a<A.tmps.size:=by rw[hR.size];exact hd.1
 have:u=.slice ad rows.length cap:=by
  rw[d1]at KD;simp[Act.put,ax]at KD;exact KD.symm
 subst this;have UN:(A.put o1.dst (.slice ad rows.length cap)).eval (.tmp a)=.slice ad rows.length cap:=by
  simp only[Act.eval];rw[Array.getD_eq_getD_getElem?,KD];rfl
 have fC:(execOp (A.put o1.dst (.slice ad rows.length cap)).eval o2).run P w'=.ok (.value (.bool ad.isNone)) w':=by
  simp only[execOp,h2,UN];refine bp (w':=w') ?_;rw[Sem.run_bind];rw[show(eqGuard .eql ty (.tmp a) (.const (.slice none 0 0)) (.slice ad rows.length cap) ((A.put o1.dst (.slice ad rows.length cap)).eval (.const (.slice none 0 0)))).run P w'=.ok () w' by simp[eqGuard,Act.eval]];simp only[Result.andThen_ok,Act.eval];simp[binOp,run_equal_slice_nil w' ty e ad rows.length cap (mP ht tC)]
 refine .inl ?_;unfold Oper.wp;rw[fC];have UO:=PR.put (dst:=o2.dst) (x:=.c (.d (.bool ad.isNone))) (v:=.bool ad.isNone) (fun d e=>by rw[d2]at e;cases e;exact hd.2) rfl PR.inv (.refl _ _ _) PR.fr;refine⟨_,_,?_,UO⟩;show T P n y Q _;rw[d1,d2];refine h ad.isNone fun hn=>?_
 cases yk with
 |inl h=>exact h
 |inr h=>obtain⟨_,_,_,rfl,_⟩:=h;simp at hn
end
section
variable {P:Program} {s:St} {f:FuncId} {xs as:List AV} {K:AV->List (List CV)->List bu->Prop}
theorem ku (ids:List Nat) {Vc Vc':List (List CV)} {r:AV} {Ac':List bu} (hn:ids.Nodup) (b8:ib s.A ids xs=some as) (hV:ic s.A s.V ids ids=some Vc) (hc:ah P f as Vc r Vc' Ac')
  (hK:K (r.fS ids s.V.length s.A.length) (ck s.A.length s.V.length ids s.V ids Vc') (bQ s.A (bA xs++bK s.V ids)++Ac')):gJ P s f xs K:=
 .inl ⟨ids,as,Vc,r,Vc',Ac',hn,b8,hV,hc,hK⟩
theorem aB.g {fn:Func} {e:Exit} {m:Nat} {r:AV} {V':List (List CV)} (he:e=.normal\/e=.ret) {ys:List AV} (hr:(fu P s fn.results.toList).bind (ay s.A (YK m) [])=some ys) (h1:one ys=r)
  (hV:fD s.A s.V (YK m) [] (YK m)=some V'):aB P fn m r V' [] e s:=by
 cases hx:fu P s fn.results.toList with
 |none=>rw[hx]at hr;simp at hr
 |some xs=>rw[hx]at hr;exact⟨he,[],[],xs,ys,hx,YN,YN,by simp,by simpa using hr,h1.symm,by simpa using hV,rfl⟩
end
attribute [simp] ic ck bK back fD one
end Go.Av
namespace Go.Av
open Go
abbrev Ra (b:dt):AV:=.agg [.d (.str b.name),.d (.i b.ty.kind),.d (.sl (b.ty.kids.map cx))]
abbrev ee:al:=.mk 0 [] 0 aW aW 0 []
abbrev jt:Option (al×aG)->List AV
 |some (e,t)=>[cL e,dF t,.b true]
 |none=>[cL ee,dF aW,.b false]
theorem wY (n:Int) (e:al) (f t:aG):n<=(qN n e f t).2/\(qN n e f t).2<=n+1:=by
 simp only[qN];split<;>simp<;>omega
theorem BU:∀(n:Int) (es:List al) (hs ws:List aG),n<=(je n es hs ws).2/\(je n es hs ws).2<=n+es.length
 |n,[],hs,ws=>by cases hs<;>cases ws<;>simp[je]
 |n,e::es,[],ws=>by cases ws<;>simp[je]<;>omega
 |n,e::es,h::hs,[]=>by simp[je];omega
 |n,e::es,h::hs,w::ws=>by
  have h1:=wY n e h w;have h2:=BU (qN n e h w).2 es hs ws;simp only[je,YO];omega
theorem EO:∀(e:al) (ctx:List dt) (n:Int),n<=(gB ctx e n).2/\(gB ctx e n).2<=n+e9 e:=by
 intro e;induction e using al.ind with
 |h e ih=>
  intro ctx n;have hS:∀(l:List al),(∀u∈l,u∈e.kids)->∀c n,n<=(eW c l n).2/\(eW c l n).2+l.length<=n+fa l:=by
   intro l;induction l with
   |nil=>intro _ c n;simp[eW,fa]
   |cons x r ihl=>
    intro hm c n;have h1:=ih x (hm x (by simp)) c n;simp only[eW,fa,YO];cases he:gB c x n with
    |mk o m=>
     rw[he]at h1;cases o with
     |none=>
      have h2:=pA r;simp only[pF];omega
     |some p=>
      obtain⟨y,t⟩:=p;have h2:=ihl (fun u hu=>hm u (by simp[hu])) c m;simp only[pF];cases hr:eW c r m with
      |mk o2 m2=>
       rw[hr]at h2;cases o2 with
       |none=>simp only;omega
       |some q=>simp only;omega
  rw[tO,j7];have h3:=hS e.kids (fun _ h=>h) (cw ctx e) n;cases hr:eW (cw ctx e) e.kids n with
  |mk o m=>
   rw[hr]at h3;cases o with
   |none=>simp only[nX];omega
   |some p=>
    obtain⟨es,ts⟩:=p;have hl:=tP hr;simp only[nX];cases cD ctx e.kind e.name e.ty ts with
    |none=>simp only;omega
    |some q=>
     obtain⟨ws,t⟩:=q;simp only;have h4:=BU m es ts ws;split
     ·split<;>simp only<;>omega
     ·simp only;omega
mutual
def wZ:al->al->Bool
 |.mk k s n t f b l,.mk k' s' n' t' f' b' l'=>decide (k=k')&&(decide (s=s')&&(decide (n=n')&&(eL t t' &&(eL f f' &&(decide (b=b')&& ml l l')))))
def ml:List al->List al->Bool
 |[],[]=>true
 |x::xs,y::ys=>wZ x y && ml xs ys
 |_,_=>false
end
mutual
theorem FP:∀(a b:al),wZ a b=true->a=b
 |.mk k s n t f b l,.mk k' s' n' t' f' b' l',h=>by
  simp only[wZ,YI,decide_eq_true_eq]at h;obtain⟨rfl,rfl,rfl,h1,h2,rfl,h3⟩:=h;rw[tN t t' h1,tN f f' h2,w7 l l' h3]
theorem w7:∀(l m:List al),ml l m=true->l=m
 |[],[],_=>rfl
 |x::xs,y::ys,h=>by
  simp only[ml,YI]at h;rw[FP x y h.1,w7 xs ys h.2]
 |[],_::_,h=>by simp[ml]at h
 |_::_,[],h=>by simp[ml]at h
end
mutual
theorem BV:∀(a:al),wZ a a=true
 |.mk k s n t f b l=>by simp[wZ,uZ,sG l]
theorem sG:∀(l:List al),ml l l=true
 |[]=>rfl
 |x::xs=>by simp[ml,BV x,sG xs]
end
mutual
def mapM (g:al->al):al->al
 |.mk k s n t f b l=>g (.mk k s n t f b (eb g l))
def eb (g:al->al):List al->List al
 |[]=>[]
 |e::r=>mapM g e::eb g r
end
theorem BW (g:al->al):∀(l:List al),eb g l=l.map (mapM g)
 |[]=>rfl
 |e::r=>by simp[eb,BW g r]
theorem sH (g:al->al) (e:al):mapM g e=g (.mk e.kind e.name e.num e.ty e.fr e.label (e.kids.map (mapM g))):=by
 cases e;simp only[mapM,BW];rfl
mutual
def aN:al->Nat
 |.mk _ _ _ _ _ _ l=>1+bm l
def bm:List al->Nat
 |[]=>0
 |e::r=>aN e+bm r
end
theorem w8:∀(l:List al),bm l=(l.map aN).sum
 |[]=>rfl
 |e::r=>by simp[bm,w8 r]
theorem DG (e:al):aN e=1+(e.kids.map aN).sum:=by cases e;simp only[aN,w8];rfl
theorem pI {nt:Int}:∀{d:Nat} {e:al},bg nt d e=true->∀{n:Nat},d<=n->cT n e=aN e
 |0,e,h,_,_=>by simp[bg]at h
 |d+1,e,h,n,hn=>by
  obtain⟨n,rfl⟩:∃j,n=j+1:=⟨n-1,by omega⟩;simp only[bg,YI,List.all_eq_true]at h;rw[DG];simp only[cT]
  congr 2
  refine List.map_congr_left fun u hu=>pI (h.2 u hu) (by omega)
theorem eu {e:al}:aS e=true↔jF 14 12 e/\aN e<=30:=by
 simp only[aS,YI,decide_eq_true_eq];refine⟨fun h=>⟨jF.of h.1,?_⟩,fun h=>⟨h.1.shape,?_⟩⟩
 ·rw[<-pI h.1 (YR _)];exact h.2
 ·rw[pI h.1.shape (YR _)];exact h.2
inductive HI (n:Int) (e:al) (f t:aG):al->Int->Prop
 |same:f=t->HI n e f t e n
 |cast:f≠t->HI n e f t (BN e f t (n+1)) (n+1)
inductive EV:List dt->al->Int->al->aG->Int->Prop
 |var {c:List dt} {s:List UInt8} {t:aG} {n:Int}:cK c s=some t->EV c (pG s) n (pG s) t n
 |num {c:List dt} {k n:Int}:EV c (rm k) n (rm k) bt n
 |tQ {c:List dt} {n:Int}:EV c lH n lH cm n
 |tR {c:List dt} {n:Int}:EV c iO n iO cm n
 |lam {c:List dt} {s:List UInt8} {u t:aG} {b b':al} {n m:Int}:EV (c++[⟨s,u⟩]) b n b' t m->ak 4 (.mk 4 [u,t])=true->EV c (nY s u b) n (nY s u b') (.mk 4 [u,t]) m
 |app {c:List dt} {a b a' b' a2 b2:al} {ta tb x y:aG} {n n1 n2 n3 n4:Int}:EV c a n a' ta n1->EV c b n1 b' tb n2->ch 4 ta=some (x,y)->aE tb x=true->
   HI n2 a' ta (.mk 4 [x,y]) a2 n3->HI n3 b' tb x b2 n4->EV c (yg 6 a b) n (yg 6 a2 b2) y n4
 |op {c:List dt} {k:Int} {a b a' b' a2 b2:al} {ta tb t:aG} {n n1 n2 n3 n4:Int}:(k=7/\t=bt\/k=8/\t=cm)->EV c a n a' ta n1->EV c b n1 b' tb n2->aE ta bt=true->aE tb bt=true->
   HI n2 a' ta bt a2 n3->HI n3 b' tb bt b2 n4->EV c (yg k a b) n (yg k a2 b2) t n4
 |ite {c:List dt} {p a b p' a' b' p2 a2 b2:al} {tp ta tb:aG} {n n1 n2 n3 n4 n5 n6:Int}:EV c p n p' tp n1->EV c a n1 a' ta n2->EV c b n2 b' tb n3->aE tp cm=true->aE ta tb=true->
   HI n3 p' tp cm p2 n4->HI n4 a' ta (bG ta tb) a2 n5->HI n5 b' tb (bG ta tb) b2 n6->EV c (BM p a b) n (BM p2 a2 b2) (bG ta tb) n6
 |pair {c:List dt} {a b a' b':al} {ta tb:aG} {n n1 n2:Int}:EV c a n a' ta n1->EV c b n1 b' tb n2->ak 4 (.mk 5 [ta,tb])=true->EV c (yg 10 a b) n (yg 10 a' b') (.mk 5 [ta,tb]) n2
 |VT {c:List dt} {k:Int} {a a' a2:al} {ta x y t:aG} {n n1 n2:Int}:(k=11/\t=x\/k=12/\t=y)->EV c a n a' ta n1->ch 5 ta=some (x,y)->HI n1 a' ta (.mk 5 [x,y]) a2 n2->EV c (Bf k a) n (Bf k a2) t n2
 |asc {c:List dt} {a a' a2:al} {ta t:aG} {n n1 n2:Int}:EV c a n a' ta n1->aE ta t=true->HI n1 a' ta t a2 n2->EV c (KQ a t) n a2 t n2
def aK (e:al):al:=if e.kind=13\/e.kind=14 then match e.kids with
  |x::_=>x
  |[]=>e
 else if e.kind=5 then .mk 5 e.name e.num kM e.fr e.label e.kids else e
theorem DH {nt:Int} {d:Nat} {e:al} (h:jF nt d e) (h5:nt=13\/nt=14):jF 14 d (mapM aK e)/\jF 13 d (mapM aK e)/\aN (mapM aK e)<=aN e:=by
 induction h with
 | @var d s _ hs=>exact⟨by simpa[mapM,eb,aK]using .var (by omega) hs,by simpa[mapM,eb,aK]using .var (by omega) hs,by simp[mapM,eb,aK]⟩
 | @num d k _ h1 h2=>exact⟨by simpa[mapM,eb,aK]using .num (by omega) h1 h2,by simpa[mapM,eb,aK]using .num (by omega) h1 h2,by simp[mapM,eb,aK]⟩
 |tQ _=>exact⟨by simpa[mapM,eb,aK]using .tQ (by omega),by simpa[mapM,eb,aK]using .tQ (by omega),by simp[mapM,eb,aK]⟩
 |tR _=>exact⟨by simpa[mapM,eb,aK]using .tR (by omega),by simpa[mapM,eb,aK]using .tR (by omega),by simp[mapM,eb,aK]⟩
 | @lam d s t b _ hs _ _ ih=>
  refine⟨by simpa[mapM,eb,aK]using .lam (by omega) hs rfl ih.1,by simpa[mapM,eb,aK]using .lam (by omega) hs rfl ih.2.1,?_⟩;simp[mapM,eb,aK,aN,bm];exact ih.2.2
 | @n2 d k a b _ hk _ _ iha ihb=>
  have h1:¬(k=13\/k=14):=by omega
  have h2:¬k=5:=by omega
  refine⟨by simpa[mapM,eb,aK,h1,h2]using .n2 (by omega) hk iha.1 ihb.1,by simpa[mapM,eb,aK,h1,h2]using .n2 (by omega) hk iha.2.1 ihb.2.1,?_⟩;have:=iha.2.2;have:=ihb.2.2;simp[mapM,eb,aK,h1,h2,aN,bm];omega
 | @ite d p a b _ _ _ _ ihp iha ihb=>
  refine⟨by simpa[mapM,eb,aK]using .ite (by omega) ihp.1 iha.1 ihb.1,by simpa[mapM,eb,aK]using .ite (by omega) ihp.2.1 iha.2.1 ihb.2.1,?_⟩;have:=ihp.2.2;have:=iha.2.2;have:=ihb.2.2;simp[mapM,eb,aK,aN,bm];omega
 | @n1 d k a _ hk _ ih=>
  have h1:¬(k=13\/k=14):=by omega
  have h2:¬k=5:=by omega
  refine⟨by simpa[mapM,eb,aK,h1,h2]using .n1 (by omega) hk ih.1,by simpa[mapM,eb,aK,h1,h2]using .n1 (by omega) hk ih.2.1,?_⟩;have:=ih.2.2;simp[mapM,eb,aK,h1,h2,aN,bm];omega
 | @asc d t a _ _ _ ih=>
  have:=ih.2.2;exact⟨by simpa[mapM,eb,aK]using ih.1.mono (by omega),by simpa[mapM,eb,aK]using ih.2.1.mono (by omega),by simp[mapM,eb,aK,aN,bm];omega⟩
 | @cast d f t l a _ _ _ _ _ _ ih=>
  have:=ih.2.2;exact⟨by simpa[mapM,eb,aK]using ih.1.mono (by omega),by simpa[mapM,eb,aK]using ih.2.1.mono (by omega),by simp[mapM,eb,aK,aN,bm];omega⟩
def DI:List aG->List aG->Bool
 |[],_=>true
 |w::ws,h::hs=>eL w h && DI ws hs
 |_::_,[]=>false
mutual
def EP:List dt->al->Option aG
 |c,.mk k s n t f b l=>match ER (if k=5 then c++[⟨s,t⟩]else c) l with
  |none=>none
  |some ts=>if k=14 then match ts with
    |x::_=>if eL x f=true then some t else none
    |[]=>none
   else match cD c k s t ts with
    |none=>none
    |some (ws,u)=>if ak 4 u=true/\DI ws ts=true then some u else none
def ER:List dt->List al->Option (List aG)
 |_,[]=>some []
 |c,e::r=>match EP c e with
  |none=>none
  |some t=>match ER c r with
   |none=>none
   |some ts=>some (t::ts)
end
theorem jq.small {d:Nat} {t:aG} (h:jq d t):fE t+2<=2 ^(d+1):=by
 have key:∀d:Nat,2<=2 ^(d+2):=fun d=>by have:0<2 ^ d:=Nat.pow_pos (by omega);rw[Nat.pow_add];omega
 induction h with
 |any d=>have:=key d;simpa[cQ,cS]using this
 |int d=>have:=key d;simpa[cQ,cS]using this
 |bool d=>have:=key d;simpa[cQ,cS]using this
 | @fn d a b _ _ h1 h2=>rw[YQ];simp[cQ,cS];omega
 | @pair d a b _ _ h1 h2=>rw[YQ];simp[cQ,cS];omega
theorem jF.small {nt:Int} {d:Nat} {e:al} (h:jF nt d e):e9 e+1<=300*aN e:=by
 have key:∀{t:aG},ak 4 t=true->fE t<=100:=fun h=>by have:=(jq.of h).small;omega
 have tf:∀{s:List UInt8},dT s=true->s.length=1:=fun{s} h=>by
  match s,h with
  |[c],_=>rfl
 induction h with
 |var _ hs=>have:=tf hs;simp[fg,fa,cQ,cS,aN,bm];omega
 |num _ _ _=>simp[fg,fa,cQ,cS,aN,bm]
 |tQ _=>simp[fg,fa,cQ,cS,aN,bm]
 |tR _=>simp[fg,fa,cQ,cS,aN,bm]
 |lam _ hs ht _ ih=>have:=tf hs;have:=key ht;simp[fg,fa,cQ,cS,aN,bm];omega
 |n2 _ _ _ _ h1 h2=>simp[fg,fa,cQ,cS,aN,bm];omega
 |ite _ _ _ _ h1 h2 h3=>simp[fg,fa,cQ,cS,aN,bm];omega
 |n1 _ _ _ ih=>simp[fg,fa,cQ,cS,aN,bm];omega
 |asc _ ht _ ih=>have:=key ht;simp[fg,fa,cQ,cS,aN,bm];omega
 |cast _ hf ht _ _ _ ih=>have:=key hf;have:=key ht;simp[fg,fa,cQ,cS,aN,bm];omega
mutual
def aF:al->List aG
 |.mk k _ _ t _ _ l=>(if br k=true then [t]else [])++az l
def az:List al->List aG
 |[]=>[]
 |e::r=>aF e++az r
end
theorem iP (e:al):aF e=(if br e.kind=true then [e.ty]else [])++az e.kids:=by cases e;rfl
theorem rr:∀(a b:List al),az (a++b)=az a++az b
 |[],b=>rfl
 |e::r,b=>by simp[az,rr r b]
theorem cq {l:List al} {p:Nat} {u:al} (h:l[p]? =some u):az (l.take (p+1))=az (l.take p)++aF u:=by
 rw[YM,h,rr];simp[az]
theorem Ao (l:List al) (p:Nat):az l=az (l.take p)++az (l.drop p):=by rw[<-rr,List.take_append_drop]
theorem gn (l:List al) (p:Nat):(az (l.take p)).length<=(az l).length:=by rw[Ao l p];simp
mutual
def bx:al->List aG->al
 |.mk k s n t f lb l,ts=>.mk k s n (if br k=true then ts.headD t else t) f lb (dc l (if br k=true then ts.drop 1 else ts))
def dc:List al->List aG->List al
 |[],_=>[]
 |e::r,ts=>bx e ts::dc r (ts.drop (aF e).length)
end
theorem zl (e:al) (ts:List aG):bx e ts=.mk e.kind e.name e.num (if br e.kind=true then ts.headD e.ty else e.ty) e.fr e.label (dc e.kids (if br e.kind=true then ts.drop 1 else ts)):=by cases e;rfl
theorem lu:∀(a:List al) (ts:List aG),(dc a ts).length=a.length
 |[],ts=>rfl
 |e::r,ts=>by simp[dc,lu r]
theorem od:∀(e:al),cS (aF e)<=e9 e+1/\(aF e).length<=e9 e+1:=by
 intro e;induction e using al.ind with
 |h e ih=>
  have hs:∀l:List al,(∀u∈l,cS (aF u)<=e9 u+1/\(aF u).length<=e9 u+1)->cS (az l)<=fa l/\(az l).length<=fa l:=by
   intro l;induction l with
   |nil=>intro _;simp[az,cS]
   |cons u r ihr=>
    intro h;have h1:=h u (by simp);have h2:=ihr fun v hv=>h v (by simp[hv])
    simp only[az,sC,YL,fa];omega
  have h1:=hs e.kids ih;rw[iP];have h2:e9 e=e.name.length+fE e.ty+fE e.fr+fa e.kids:=by cases e;rw[fg];rfl
  split
  ·simp only[sC,YL,cS,List.length_singleton];omega
  ·simp only[List.nil_append];omega
theorem zm:∀{l:List al} {p:Nat} {u:al} (ts:List aG),l[p]? =some u->(dc l ts)[p]? =some (bx u (ts.drop (az (l.take p)).length))
 |[],p,u,ts,h=>by simp at h
 |e::r,0,u,ts,h=>by simp at h;subst h;simp[dc,az]
 |e::r,p+1,u,ts,h=>by
  simp only[YP]at h;simp only[dc,YP,List.take_succ_cons,az,YL];rw[zm _ h,List.drop_drop]
theorem lI {l:List al} {p:Nat} {u:al} (ts:List aG) (h:l[p]? =some u):(dc l ts).take (p+1)=(dc l ts).take p++[bx u (ts.drop (az (l.take p)).length)]:=by
 rw[YM,zm ts h];rfl
theorem jF.types {nt:Int} {d:Nat} {e:al} (h:jF nt d e):(∀t∈aF e,ak 4 t=true)/\(aF e).length<=aN e:=by
 induction h with
 |var=>simp[aF,az,br]
 |num=>simp[aF,az,br]
 |tQ=>simp[aF,az,br]
 |tR=>simp[aF,az,br]
 |lam _ _ h3 _ ih=>
  obtain⟨h1,h2⟩:=ih;simp only[aF,az,br,aN,bm];refine⟨fun t ht=>?_,by simp;omega⟩;simp at ht;rcases ht with rfl|ht
  ·exact h3
  ·exact h1 t ht
 |asc _ h3 _ ih=>
  obtain⟨h1,h2⟩:=ih;simp only[aF,az,br,aN,bm];refine⟨fun t ht=>?_,by simp;omega⟩;simp at ht;rcases ht with rfl|ht
  ·exact h3
  ·exact h1 t ht
 |n2 _ hk _ _ ih1 ih2=>
  have h5:∀k:Int,k=6\/k=7\/k=8\/k=10->br k=false:=fun k h=>by rcases h with rfl|rfl|rfl|rfl<;>rfl
  simp only[aF,az,h5 _ hk,aN,bm];refine⟨fun t ht=>?_,by simp;omega⟩;simp at ht;rcases ht with ht|ht
  ·exact ih1.1 t ht
  ·exact ih2.1 t ht
 |ite _ _ _ _ ih1 ih2 ih3=>
  simp only[aF,az,br,aN,bm];refine⟨fun t ht=>?_,by simp;omega⟩;simp at ht;rcases ht with ht|ht|ht
  ·exact ih1.1 t ht
  ·exact ih2.1 t ht
  ·exact ih3.1 t ht
 |n1 _ hk _ ih=>
  have h5:∀k:Int,k=11\/k=12->br k=false:=fun k h=>by rcases h with rfl|rfl<;>rfl
  simp only[aF,az,h5 _ hk,aN,bm];refine⟨fun t ht=>?_,by simp;omega⟩;simp at ht;exact ih.1 t ht
 |cast _ _ _ _ _ _ ih=>
  simp only[aF,az,br,aN,bm];refine⟨fun t ht=>?_,by simp;omega⟩;simp at ht;exact ih.1 t ht
theorem zn {ts:List aG} {t:aG} (h:ak 4 t=true) (hs:∀u∈ts,ak 4 u=true):ak 4 (ts.headD t)=true:=by
 cases ts with
 |nil=>exact h
 |cons u r=>exact hs u (by simp)
theorem jF.bx {nt:Int} {d:Nat} {e:al} (h:jF nt d e):∀{ts:List aG},(∀u∈ts,ak 4 u=true)->jF nt d (Av.bx e ts)/\aN (Av.bx e ts)=aN e:=by
 induction h with
 |var h1 h2=>intro ts _;exact⟨.var h1 h2,rfl⟩
 |num h1 h2 h3=>intro ts _;exact⟨.num h1 h2 h3,rfl⟩
 |tQ h1=>intro ts _;exact⟨.tQ h1,rfl⟩
 |tR h1=>intro ts _;exact⟨.tR h1,rfl⟩
 |lam h1 h2 h3 _ ih=>
  intro ts hs;have hd:∀u∈ts.drop 1,ak 4 u=true:=fun u hu=>hs u (YJ hu)
  simp only[Av.bx,dc,br,aN,bm];exact⟨.lam h1 h2 (zn h3 hs) (ih hd).1,by have h:=(ih hd).2;simp at h⊢;exact h⟩
 |asc h1 h3 _ ih=>
  intro ts hs;have hd:∀u∈ts.drop 1,ak 4 u=true:=fun u hu=>hs u (YJ hu)
  simp only[Av.bx,dc,br,aN,bm];exact⟨.asc h1 (zn h3 hs) (ih hd).1,by have h:=(ih hd).2;simp at h⊢;exact h⟩
 |n2 h1 hk _ _ ih1 ih2=>
  intro ts hs;have h5:∀k:Int,k=6\/k=7\/k=8\/k=10->br k=false:=fun k h=>by rcases h with rfl|rfl|rfl|rfl<;>rfl
  have hd:∀n,∀u∈ts.drop n,ak 4 u=true:=fun n u hu=>hs u (YJ hu)
  simp only[Av.bx,dc,h5 _ hk,aN,bm];exact⟨.n2 h1 hk (ih1 hs).1 (ih2 (hd _)).1,by simp[(ih1 hs).2,(ih2 (hd _)).2]⟩
 |ite h1 _ _ _ ih1 ih2 ih3=>
  intro ts hs;have hd:∀n,∀u∈ts.drop n,ak 4 u=true:=fun n u hu=>hs u (YJ hu)
  have jk:∀n m,∀u∈(ts.drop n).drop m,ak 4 u=true:=fun n m u hu=>hd n u (YJ hu)
  simp only[Av.bx,dc,br,aN,bm];exact⟨.ite h1 (ih1 hs).1 (ih2 (hd _)).1 (ih3 (jk _ _)).1,by have h1:=(ih1 hs).2;have h2:=fun n=>(ih2 (hd n)).2;have h3:=fun n=>(ih3 (hd n)).2;simp[h1,h2,h3]⟩
 |n1 h1 hk _ ih=>
  intro ts hs;have h5:∀k:Int,k=11\/k=12->br k=false:=fun k h=>by rcases h with rfl|rfl<;>rfl
  simp only[Av.bx,dc,h5 _ hk,aN,bm];exact⟨.n1 h1 hk (ih hs).1,by simp[(ih hs).2]⟩
 |cast h1 h2 h3 h4 h6 _ ih=>
  intro ts hs;simp only[Av.bx,dc,br,aN,bm];exact⟨.cast h1 h2 h3 h4 h6 (ih hs).1,by simp[(ih hs).2]⟩
def oe (e:al) (ts:List aG):Option al:=if(aS e && decide (ts.length=(aF e).length)&& ts.all (ak 4))=true then some (bx e ts)else none
def zo:Option al->List AV
 |some e=>[cL e,.b true]
 |none=>[cL ee,.b false]
def VU (o:Option al):al:=o.getD ee
end Go.Av
