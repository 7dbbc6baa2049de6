/- A part. -/
import Derived.Test.YtloolmchekcmeaaGreatXD4
import Derived.Laws.Cover3
set_option linter.unusedVariables false
set_option linter.unusedSimpArgs false
open List renaming range->YN,mem_append->YO,getElem?_eq_getElem->YP,getElem?_eq_some_iff->YQ,all_eq_true->YR,nodup_append->YS,zipWith->YT,length_cons->YU,take_append_drop->YV,mem_range->YW,getD->YX,append_assoc->YY,mem_of_mem_drop->YZ,mem_of_getElem?->Y0,length_append->Y1,getElem?_append_right->Y2,append_nil->Y3,nodup_nil->Y4,mem_iff_getElem?->Y5,mem_cons->Y6,length_eq_zero_iff->Y7,getElem?_zipIdx->Y8,nil_append->Y9,mem_filterMap->Za,length_take->Zb,length_nil->Zc,length_drop->Zd,idxOf_lt_length_of_mem->Ze,getElem_idxOf->Zf,getElem?_of_mem->Zg,getElem?_map->Zh,flatten_cons->Zi,contains_eq_mem->Zj,zip_append->Zk,zipWith_append->Zl,toArray->Zm,take_add_one->Zn,replicate->Zo,mem_singleton->Zp,mem_filter->Zq,map_map->Zr,map_cons->Zs,length_map->Zt,length_filter_le->Zu,getElem?_take->Zv,getElem?_cons_succ->Zw,getElem?_append_left->Zx,getD_eq_getElem?_getD->Zy,eq_nil_of_length_eq_zero->Zz,drop_eq_getElem_cons->ZA,drop_drop->ZB,cons_append->ZC,all_cons->ZD
open Bool renaming and_eq_true->ZE,or_eq_true->ZF
open Array renaming getElem?_eq_getElem->ZG,getElem?_eq_some_iff->ZH,mem_toList_iff->ZI,getElem?_setIfInBounds_ne->ZJ,replicate->ZK,getD_eq_getD_getElem?->ZL,mem_of_getElem?->ZM,mem_map->ZN,mapM_eq_mapM_toList->ZO,getElem?_setIfInBounds->ZP,getElem?_append_left->ZQ
open Nat renaming le_refl->ZR,zero_le->ZS,lt_or_ge->ZT,le_trans->ZU,zero_add->ZV,lt_trichotomy->ZW,strongRecOn->ZX,add_mul->ZY,lt_of_lt_of_le->ZZ,sub_zero->Z0,pow_succ->Z1,le_total->Z2
open Option renaming map_eq_some_iff->Z3,map_some->Z4,bind_some->Z5
namespace Go.Av
open Go
section
variable {P:Program} {n:Nat} {ι:Type} {Q:Exit->St->Prop} {QX:ι->Exit->St->Prop} {s s':St} {y:Code}
theorem T.ND {id:Nat} {src a b:Nat} {ty ty2 e:TypeId} {d:TD} {o1 o2:Oper} {rows:List (List DV)} (h1:o1.op=.move (.tmp src)) (d1:o1.dst=some a) (g1:o1.guard=none)
  (h2:o2.op=.binOp .eql ty (.tmp a) (.const (.slice none 0 0)) ty2) (d2:o2.dst=some b) (g2:o2.guard=none) (ht:td P ty=some d) (sV:d.el=some e) (hs:look s.fr src=some (.c (.d (.sl rows))))
  (h:∀bb:Bool,(bb=true->rows=[])->T P n y Q ⟨(b,.c (.d (.bool bb)))::(a,.c (.d (.sl rows)))::s.fr,s.V,s.A⟩):T P n (.seq (.region id #[o1,o2] false) y) Q s:=by
 refine T.seq ?_;intro eU w0 g0 g A w hR;refine wp_region_list ?_;have hd:cP n [o1,o2]=true:=eU;simp only[cP,ZD,List.all_nil,Bool.and_true,ZE,d1,d2,decide_eq_true_eq]at hd;have w1:Region.wanted o1 (yielded #[o1,o2] A.tmps)=true:=by simp[Region.wanted,g1]
 have w2:∀A':Act,Region.wanted o2 (yielded #[o1,o2] A'.tmps)=true:=fun A'=>by simp[Region.wanted,g2]
 unfold wpList;rw[if_pos w1];have jt:bA P s false o1 fun x V' A'=>x=.c (.d (.sl rows))/\V'=s.V/\A'=s.A:=by
  unfold bA;rw[h1];simp[eC,bw,hs,bM]
 obtain⟨x,V',A',⟨rfl,rfl,rfl⟩,hk⟩:=cW hR.inv hR.fr hR.slot jt;refine .inl (hk _ _ fun v w' g' h5 h6 h7 h8=>?_);have Pr:=hR.put (dst:=o1.dst) (fun d e=>by rw[d1]at e;cases e;exact hd.1) h5 h6 h7 h8;unfold wpList;rw[if_pos (w2 _)];have hv:=h5;simp only[aR,di,bc,a6]at hv;obtain⟨ad,cap,rfl,Up,xP⟩:=hv;have NF:=Pr.slot a (.c (.d (.sl rows))) (by simp[St.put,d1,look]);obtain⟨u,hu,Pc⟩:=NF;have Kh:(A.put o1.dst (.slice ad rows.length cap)).tmps[a]? =some u:=hu;have ax:a<A.tmps.size:=by rw[hR.size];exact hd.1
 have:u=.slice ad rows.length cap:=by
  rw[d1]at Kh;simp[Act.put,ax]at Kh;exact Kh.symm
 subst this;have Uq:(A.put o1.dst (.slice ad rows.length cap)).eval (.tmp a)=.slice ad rows.length cap:=by
  simp only[Act.eval];rw[ZL,Kh];rfl
 have e0:(execOp (A.put o1.dst (.slice ad rows.length cap)).eval o2).run P w'=.ok (.value (.bool ad.isNone)) w':=by
  simp only[execOp,h2,Uq];refine bh (w':=w') ?_;rw[Sem.run_bind];rw[show(eqGuard .eql ty (.tmp a) (.const (.slice none 0 0)) (.slice ad rows.length cap) ((A.put o1.dst (.slice ad rows.length cap)).eval (.const (.slice none 0 0)))).run P w'=.ok () w' by simp[eqGuard,Act.eval]];simp only[Result.andThen_ok,Act.eval];simp[binOp,run_equal_slice_nil w' ty e ad rows.length cap (mc ht sV)]
 refine .inl ?_;unfold Oper.wp;rw[e0];have Ur:=Pr.put (dst:=o2.dst) (x:=.c (.d (.bool ad.isNone))) (v:=.bool ad.isNone) (fun d e=>by rw[d2]at e;cases e;exact hd.2) rfl Pr.inv (.refl _ _ _) Pr.fr;refine⟨_,_,?_,Ur⟩;show T P n y Q _;rw[d1,d2];refine h ad.isNone fun hn=>?_
 cases xP with
 |inl h=>exact h
 |inr h=>obtain⟨_,_,_,rfl,_⟩:=h;simp at hn
end
section
variable {P:Program} {s:St} {f:FuncId} {xs as_:List AV} {K:AV->List (List CV)->List bu->Prop}
theorem jM (ids:List Nat) {Vc Vc':List (List CV)} {r:AV} {Ac':List bu} (hn:ids.Nodup) (b4:ja s.A ids xs=some as_) (hV:j5 s.A s.V ids ids=some Vc) (hc:ah P f as_ Vc r Vc' Ac')
  (hK:K (r.gn ids s.V.length s.A.length) (df s.A.length s.V.length ids s.V ids Vc') (bO s.A (bB xs++bX s.V ids)++Ac')):je P s f xs K:=
 .inl ⟨ids,as_,Vc,r,Vc',Ac',hn,b4,hV,hc,hK⟩
theorem az.g {fn:Func} {e:Exit} {m:Nat} {r:AV} {V':List (List CV)} (he:e=.normal\/e=.ret) {ys:List AV} (hr:(fy P s fn.results.toList).bind (aE s.A (YN m) [])=some ys) (h1:one ys=r)
  (hV:gW s.A s.V (YN m) [] (YN m)=some V'):az P fn m r V' [] e s:=by
 cases hx:fy P s fn.results.toList with
 |none=>rw[hx]at hr;simp at hr
 |some xs=>rw[hx]at hr;exact⟨he,[],[],xs,ys,hx,Y4,Y4,by simp,by simpa using hr,h1.symm,by simpa using hV,rfl⟩
end
attribute [simp] j5 df bX back gW one
end Go.Av
namespace Go.Av
open Go
abbrev QO (b:dI):AV:=.agg [.d (.str b.name),.d (.i b.ty.kind),.d (.sl (b.ty.kids.map b5))]
abbrev c5:ak:=.mk 0 [] 0 aX aX 0 []
abbrev iT:Option (ak×aF)->List AV
 |some (e,t)=>[cE e,ec t,.b true]
 |none=>[cE c5,ec aX,.b false]
theorem wD (n:Int) (e:ak) (f t:aF):n<=(qy n e f t).2/\(qy n e f t).2<=n+1:=by
 simp only[qy];split<;>simp<;>omega
theorem Bp:∀(n:Int) (es:List ak) (hs ws:List aF),n<=(iy n es hs ws).2/\(iy n es hs ws).2<=n+es.length
 |n,[],hs,ws=>by cases hs<;>cases ws<;>simp[iy]
 |n,e::es,[],ws=>by cases ws<;>simp[iy]<;>omega
 |n,e::es,h::hs,[]=>by simp[iy];omega
 |n,e::es,h::hs,w::ws=>by
  have h1:=wD n e h w;have h2:=Bp (qy n e h w).2 es hs ws;simp only[iy,YU];omega
theorem D1:∀(e:ak) (ctx:List dI) (n:Int),n<=(fU ctx e n).2/\(fU ctx e n).2<=n+fa e:=by
 intro e;induction e using ak.ind with
 |h e ih=>
  intro ctx n;have hS:∀(l:List ak),(∀u∈l,u∈e.kids)->∀c n,n<=(eF c l n).2/\(eF c l n).2+l.length<=n+dW l:=by
   intro l;induction l with
   |nil=>intro _ c n;simp[eF,dW]
   |cons x r ihl=>
    intro hm c n;have h1:=ih x (hm x (by simp)) c n;simp only[eF,dW,YU];cases he:fU c x n with
    |mk o m=>
     rw[he]at h1;cases o with
     |none=>
      have h2:=jK r;simp only[oW];omega
     |some p=>
      obtain⟨y,t⟩:=p;have h2:=ihl (fun u hu=>hm u (by simp[hu])) c m;simp only[oW];cases hr:eF c r m with
      |mk o2 m2=>
       rw[hr]at h2;cases o2 with
       |none=>simp only;omega
       |some q=>simp only;omega
  rw[s8,fS];have h3:=hS e.kids (fun _ h=>h) (cc ctx e) n;cases hr:eF (cc ctx e) e.kids n with
  |mk o m=>
   rw[hr]at h3;cases o with
   |none=>simp only[nv];omega
   |some p=>
    obtain⟨es,ts⟩:=p;have hl:=s9 hr;simp only[nv];cases ck ctx e.kind e.name e.ty ts with
    |none=>simp only;omega
    |some q=>
     obtain⟨ws,t⟩:=q;simp only;have h4:=Bp m es ts ws;split
     ·split<;>simp only<;>omega
     ·simp only;omega
mutual
def wE:ak->ak->Bool
 |.mk k s n t f b l,.mk k' s' n' t' f' b' l'=>decide (k=k')&&(decide (s=s')&&(decide (n=n')&&(ew t t' &&(ew f f' &&(decide (b=b')&& lL l l')))))
def lL:List ak->List ak->Bool
 |[],[]=>true
 |x::xs,y::ys=>wE x y && lL xs ys
 |_,_=>false
end
mutual
theorem Fh:∀(a b:ak),wE a b=true->a=b
 |.mk k s n t f b l,.mk k' s' n' t' f' b' l',h=>by
  simp only[wE,ZE,decide_eq_true_eq]at h;obtain⟨rfl,rfl,rfl,h1,h2,rfl,h3⟩:=h;rw[s7 t t' h1,s7 f f' h2,wF l l' h3]
theorem wF:∀(l m:List ak),lL l m=true->l=m
 |[],[],_=>rfl
 |x::xs,y::ys,h=>by
  simp only[lL,ZE]at h;rw[Fh x y h.1,wF xs ys h.2]
 |[],_::_,h=>by simp[lL]at h
 |_::_,[],h=>by simp[lL]at h
end
mutual
theorem Bq:∀(a:ak),wE a a=true
 |.mk k s n t f b l=>by simp[wE,uq,r7 l]
theorem r7:∀(l:List ak),lL l l=true
 |[]=>rfl
 |x::xs=>by simp[lL,Bq x,r7 xs]
end
mutual
def mapM (g:ak->ak):ak->ak
 |.mk k s n t f b l=>g (.mk k s n t f b (eL g l))
def eL (g:ak->ak):List ak->List ak
 |[]=>[]
 |e::r=>mapM g e::eL g r
end
theorem Br (g:ak->ak):∀(l:List ak),eL g l=l.map (mapM g)
 |[]=>rfl
 |e::r=>by simp[eL,Br g r]
theorem r8 (g:ak->ak) (e:ak):mapM g e=g (.mk e.kind e.name e.num e.ty e.fr e.label (e.kids.map (mapM g))):=by
 cases e;simp only[mapM,Br];rfl
mutual
def aQ:ak->Nat
 |.mk _ _ _ _ _ _ l=>1+bf l
def bf:List ak->Nat
 |[]=>0
 |e::r=>aQ e+bf r
end
theorem wG:∀(l:List ak),bf l=(l.map aQ).sum
 |[]=>rfl
 |e::r=>by simp[bf,wG r]
theorem CS (e:ak):aQ e=1+(e.kids.map aQ).sum:=by cases e;simp only[aQ,wG];rfl
theorem oZ {nt:Int}:∀{d:Nat} {e:ak},a8 nt d e=true->∀{n:Nat},d<=n->cC n e=aQ e
 |0,e,h,_,_=>by simp[a8]at h
 |d+1,e,h,n,hn=>by
  obtain⟨n,rfl⟩:∃j,n=j+1:=⟨n-1,by omega⟩;simp only[a8,ZE,YR]at h;rw[CS];simp only[cC]
  congr 2
  refine List.map_congr_left fun u hu=>oZ (h.2 u hu) (by omega)
theorem gi {e:ak}:aV e=true↔jY 14 12 e/\aQ e<=30:=by
 simp only[aV,ZE,decide_eq_true_eq];refine⟨fun h=>⟨jY.of h.1,?_⟩,fun h=>⟨h.1.shape,?_⟩⟩
 ·rw[<-oZ h.1 (ZR _)];exact h.2
 ·rw[oZ h.1.shape (ZR _)];exact h.2
inductive Hk (n:Int) (e:ak) (f t:aF):ak->Int->Prop
 |same:f=t->Hk n e f t e n
 |cast:f≠t->Hk n e f t (DX e f t (n+1)) (n+1)
inductive EV:List dI->ak->Int->ak->aF->Int->Prop
 |var {c:List dI} {s:List UInt8} {t:aF} {n:Int}:dO c s=some t->EV c (u6 s) n (u6 s) t n
 |num {c:List dI} {k n:Int}:EV c (yf k) n (yf k) bp n
 |vt {c:List dI} {n:Int}:EV c qz n qz cx n
 |vu {c:List dI} {n:Int}:EV c lW n lW cx n
 |lam {c:List dI} {s:List UInt8} {u t:aF} {b b':ak} {n m:Int}:EV (c++[⟨s,u⟩]) b n b' t m->al 4 (.mk 4 [u,t])=true->EV c (rY s u b) n (rY s u b') (.mk 4 [u,t]) m
 |app {c:List dI} {a b a' b' a2 b2:ak} {ta tb x y:aF} {n n1 n2 n3 n4:Int}:EV c a n a' ta n1->EV c b n1 b' tb n2->cQ 4 ta=some (x,y)->aD tb x=true->
   Hk n2 a' ta (.mk 4 [x,y]) a2 n3->Hk n3 b' tb x b2 n4->EV c (Cn 6 a b) n (Cn 6 a2 b2) y n4
 |op {c:List dI} {k:Int} {a b a' b' a2 b2:ak} {ta tb t:aF} {n n1 n2 n3 n4:Int}:(k=7/\t=bp\/k=8/\t=cx)->EV c a n a' ta n1->EV c b n1 b' tb n2->aD ta bp=true->aD tb bp=true->
   Hk n2 a' ta bp a2 n3->Hk n3 b' tb bp b2 n4->EV c (Cn k a b) n (Cn k a2 b2) t n4
 |ite {c:List dI} {p a b p' a' b' p2 a2 b2:ak} {tp ta tb:aF} {n n1 n2 n3 n4 n5 n6:Int}:EV c p n p' tp n1->EV c a n1 a' ta n2->EV c b n2 b' tb n3->aD tp cx=true->aD ta tb=true->
   Hk n3 p' tp cx p2 n4->Hk n4 a' ta (bC ta tb) a2 n5->Hk n5 b' tb (bC ta tb) b2 n6->EV c (G9 p a b) n (G9 p2 a2 b2) (bC ta tb) n6
 |pair {c:List dI} {a b a' b':ak} {ta tb:aF} {n n1 n2:Int}:EV c a n a' ta n1->EV c b n1 b' tb n2->al 4 (.mk 5 [ta,tb])=true->EV c (Cn 10 a b) n (Cn 10 a' b') (.mk 5 [ta,tb]) n2
 |VC {c:List dI} {k:Int} {a a' a2:ak} {ta x y t:aF} {n n1 n2:Int}:(k=11/\t=x\/k=12/\t=y)->EV c a n a' ta n1->cQ 5 ta=some (x,y)->Hk n1 a' ta (.mk 5 [x,y]) a2 n2->EV c (Gc k a) n (Gc k a2) t n2
 |asc {c:List dI} {a a' a2:ak} {ta t:aF} {n n1 n2:Int}:EV c a n a' ta n1->aD ta t=true->Hk n1 a' ta t a2 n2->EV c (MG a t) n a2 t n2
def aO (e:ak):ak:=if e.kind=13\/e.kind=14 then match e.kids with
  |x::_=>x
  |[]=>e
 else if e.kind=5 then .mk 5 e.name e.num km e.fr e.label e.kids else e
theorem CT {nt:Int} {d:Nat} {e:ak} (h:jY nt d e) (h5:nt=13\/nt=14):jY 14 d (mapM aO e)/\jY 13 d (mapM aO e)/\aQ (mapM aO e)<=aQ e:=by
 induction h with
 | @var d s _ hs=>exact⟨by simpa[mapM,eL,aO]using .var (by omega) hs,by simpa[mapM,eL,aO]using .var (by omega) hs,by simp[mapM,eL,aO]⟩
 | @num d k _ h1 h2=>exact⟨by simpa[mapM,eL,aO]using .num (by omega) h1 h2,by simpa[mapM,eL,aO]using .num (by omega) h1 h2,by simp[mapM,eL,aO]⟩
 |vt _=>exact⟨by simpa[mapM,eL,aO]using .vt (by omega),by simpa[mapM,eL,aO]using .vt (by omega),by simp[mapM,eL,aO]⟩
 |vu _=>exact⟨by simpa[mapM,eL,aO]using .vu (by omega),by simpa[mapM,eL,aO]using .vu (by omega),by simp[mapM,eL,aO]⟩
 | @lam d s t b _ hs _ _ ih=>
  refine⟨by simpa[mapM,eL,aO]using .lam (by omega) hs rfl ih.1,by simpa[mapM,eL,aO]using .lam (by omega) hs rfl ih.2.1,?_⟩;simp[mapM,eL,aO,aQ,bf];exact ih.2.2
 | @n2 d k a b _ hk _ _ iha ihb=>
  have h1:¬(k=13\/k=14):=by omega
  have h2:¬k=5:=by omega
  refine⟨by simpa[mapM,eL,aO,h1,h2]using .n2 (by omega) hk iha.1 ihb.1,by simpa[mapM,eL,aO,h1,h2]using .n2 (by omega) hk iha.2.1 ihb.2.1,?_⟩;have:=iha.2.2;have:=ihb.2.2;simp[mapM,eL,aO,h1,h2,aQ,bf];omega
 | @ite d p a b _ _ _ _ ihp iha ihb=>
  refine⟨by simpa[mapM,eL,aO]using .ite (by omega) ihp.1 iha.1 ihb.1,by simpa[mapM,eL,aO]using .ite (by omega) ihp.2.1 iha.2.1 ihb.2.1,?_⟩;have:=ihp.2.2;have:=iha.2.2;have:=ihb.2.2;simp[mapM,eL,aO,aQ,bf];omega
 | @n1 d k a _ hk _ ih=>
  have h1:¬(k=13\/k=14):=by omega
  have h2:¬k=5:=by omega
  refine⟨by simpa[mapM,eL,aO,h1,h2]using .n1 (by omega) hk ih.1,by simpa[mapM,eL,aO,h1,h2]using .n1 (by omega) hk ih.2.1,?_⟩;have:=ih.2.2;simp[mapM,eL,aO,h1,h2,aQ,bf];omega
 | @asc d t a _ _ _ ih=>
  have:=ih.2.2;exact⟨by simpa[mapM,eL,aO]using ih.1.mono (by omega),by simpa[mapM,eL,aO]using ih.2.1.mono (by omega),by simp[mapM,eL,aO,aQ,bf];omega⟩
 | @cast d f t l a _ _ _ _ _ _ ih=>
  have:=ih.2.2;exact⟨by simpa[mapM,eL,aO]using ih.1.mono (by omega),by simpa[mapM,eL,aO]using ih.2.1.mono (by omega),by simp[mapM,eL,aO,aQ,bf];omega⟩
def CU:List aF->List aF->Bool
 |[],_=>true
 |w::ws,h::hs=>ew w h && CU ws hs
 |_::_,[]=>false
mutual
def D2:List dI->ak->Option aF
 |c,.mk k s n t f b l=>match D3 (if k=5 then c++[⟨s,t⟩]else c) l with
  |none=>none
  |some ts=>if k=14 then match ts with
    |x::_=>if ew x f=true then some t else none
    |[]=>none
   else match ck c k s t ts with
    |none=>none
    |some (ws,u)=>if al 4 u=true/\CU ws ts=true then some u else none
def D3:List dI->List ak->Option (List aF)
 |_,[]=>some []
 |c,e::r=>match D2 c e with
  |none=>none
  |some t=>match D3 c r with
   |none=>none
   |some ts=>some (t::ts)
end
theorem nw.small {d:Nat} {t:aF} (h:nw d t):dF t+2<=2 ^(d+1):=by
 have key:∀d:Nat,2<=2 ^(d+2):=fun d=>by have:0<2 ^ d:=Nat.pow_pos (by omega);rw[Nat.pow_add];omega
 induction h with
 |any d=>have:=key d;simpa[dX,aL]using this
 |int d=>have:=key d;simpa[dX,aL]using this
 |bool d=>have:=key d;simpa[dX,aL]using this
 | @fn d a b _ _ h1 h2=>rw[Z1];simp[dX,aL];omega
 | @pair d a b _ _ h1 h2=>rw[Z1];simp[dX,aL];omega
theorem jY.small {nt:Int} {d:Nat} {e:ak} (h:jY nt d e):fa e+1<=300*aQ e:=by
 have key:∀{t:aF},al 4 t=true->dF t<=100:=fun h=>by have:=(nw.of h).small;omega
 have sK:∀{s:List UInt8},dG s=true->s.length=1:=fun{s} h=>by
  match s,h with
  |[c],_=>rfl
 induction h with
 |var _ hs=>have:=sK hs;simp[kZ,dW,dX,aL,aQ,bf];omega
 |num _ _ _=>simp[kZ,dW,dX,aL,aQ,bf]
 |vt _=>simp[kZ,dW,dX,aL,aQ,bf]
 |vu _=>simp[kZ,dW,dX,aL,aQ,bf]
 |lam _ hs ht _ ih=>have:=sK hs;have:=key ht;simp[kZ,dW,dX,aL,aQ,bf];omega
 |n2 _ _ _ _ h1 h2=>simp[kZ,dW,dX,aL,aQ,bf];omega
 |ite _ _ _ _ h1 h2 h3=>simp[kZ,dW,dX,aL,aQ,bf];omega
 |n1 _ _ _ ih=>simp[kZ,dW,dX,aL,aQ,bf];omega
 |asc _ ht _ ih=>have:=key ht;simp[kZ,dW,dX,aL,aQ,bf];omega
 |cast _ hf ht _ _ _ ih=>have:=key hf;have:=key ht;simp[kZ,dW,dX,aL,aQ,bf];omega
section
variable {P:Program} {n:Nat} {Q:Exit->St->Prop} {s:St}
theorem T.seal {c:Code} (t k n':Nat) {r:bu} (ht:look s.fr t=some (.c (.own k n'))) (hk:s.A[k]? =some r) (hn:n'=r.rows.length) (h:T P n c Q ⟨(t,.c (.d (.sl r.rows)))::s.fr,s.V,s.A.set k {r with wr:=false}⟩):T P n c Q s:=by
 intro eU w0 g0 g a w hR;obtain⟨u,hu,Pc⟩:=hR.slot t _ ht;have hd:mN s.A (.own k n')=some (.sl r.rows):=by simp[mN,hk,hn]
 obtain⟨g',hI,hx,hF,_,_,Us⟩:=rH hR.inv hR.fr (show bc g w s.A (.own k n') u from Pc) hd;have hs:fu s.A (.own k n')=s.A.set k {r with wr:=false}:=by simp[fu,hk]
 rw[hs]at hI hx;refine h eU w0 g0 g' a w ⟨hI,hF,hR.size,hR.defers,fun t' x fW=>?_⟩;simp only[look]at fW;by_cases e:t'=t
 ·subst e;simp at fW;subst fW;exact⟨u,hu,Us⟩
 ·rw[if_neg e]at fW;obtain⟨u',h1,h2⟩:=hR.slot t' x fW;exact⟨u',h1,aR.ext hx h2⟩
end
section
variable {P:Program} {s:St}
theorem az.gt {fn:Func} {e:Exit} {m:Nat} {a b:AV} {ys:List AV} {V':List (List CV)} (he:e=.normal\/e=.ret) (hr:(fy P s fn.results.toList).bind (aE s.A (YN m) [])=some (a::b::ys))
  (hV:gW s.A s.V (YN m) [] (YN m)=some V'):az P fn m (.aZ (a::b::ys)) V' [] e s:=az.g he hr rfl hV
theorem az.g1 {fn:Func} {e:Exit} {m:Nat} {r:AV} {V':List (List CV)} (he:e=.normal\/e=.ret) (hr:(fy P s fn.results.toList).bind (aE s.A (YN m) [])=some [r])
  (hV:gW s.A s.V (YN m) [] (YN m)=some V'):az P fn m r V' [] e s:=az.g he hr rfl hV
end
section
attribute [-simp] bA eC ib bM bw gR lU rF mb zl rowsOf look sP St.put gm EP bV zj IS rE rD DH AV.plain AV.cells CV.js mN hP jX fu bO ja AV.j4 CV.j4 qg AV.gn CV.gn bB ia jF nP cy fy uf AV.qi CV.res rN pos? vW CB lC Sub kk kU
attribute [-simp] c8 qW iw gI j5 df bX back gW one
def xO (ex:List Nat) (rs:Nat->bu) (V:List bu):List bu:=ex.foldl (fun W i=>W.set i (rs i)) V
theorem Bs (V:List bu):∀(ex:List Nat),xO ex (fun i=>V.getD i rK) V=V
 |[]=>rfl
 |i::ex=>by
  have h:V.set i (V.getD i rK)=V:=by
   apply List.ext_getElem?;intro j;rw[List.getElem?_set];split
   ·rename_i e;subst e;split
    ·rename_i h;simp[YX,h]
    ·rename_i h;simp[Nat.le_of_not_lt h]
   ·rfl
  show xO ex _ (V.set i (V.getD i rK))=V;rw[h];exact Bs V ex
def c9 (P:Program) (s:St) (ow:Bool) (o:Oper) (ex exa:List Nat) (V0:List (List CV)) (A0:List bu) (x:AV):Prop:=
 ∀(rs:Nat->List CV) (ra:Nat->bu) GV GA,bA P ⟨s.fr,qW ex rs V0++GV,xO exa ra A0++GA⟩ ow o fun y V' A'=>y=x/\V'=qW ex rs V0++GV/\A'=xO exa ra A0++GA
def yK (P:Program) (all:Array Oper) (ow:Nat->Bool) (ws fs:List Nat) (m:Nat) (ex exa:List Nat) (V0:List (List CV)) (A0:List bu) (K:St->Prop):Nat->List Oper->St->Prop
 |_,[],s=>K s
 |i,o::rest,s=>ib all s o (bA P s (ow i) o fun x V A=>(i∈ws\/(V=s.V/\A=s.A))/\(i∈ws->i<m->V.take V0.length=qW ex (fun i=>V.getD i []) V0/\A.take A0.length=xO exa (fun i=>A.getD i rK) A0)/\(i∈fs->c9 P s (ow i) o ex exa V0 A0 x)/\
   yK P all ow ws fs m ex exa V0 A0 K (i+1) rest (s.put o.dst x V A)) (yK P all ow ws fs m ex exa V0 A0 K (i+1) rest (s.put o.dst (.c .undef) s.V s.A))
section
variable {P:Program} {n:Nat} {Q Q':Exit->St->Prop} {s s':St} {w0:World} {g0 g g':Gh} {a:Act} {w w':World} {V:List (List CV)} {A A':List bu}
def NG (P:Program) (all:Array Oper) (ow:Bool) (fs:List Nat) (j:Nat) (ex exa:List Nat) (V0:List (List CV)) (A0:List bu) (o:Oper) (s s':St):Prop:=
 ib all s o True True/\((gw all s o=true/\∃x V A,s'=s.put o.dst x V A/\(∀K:AV->List (List CV)->List bu->Prop,K x V A->bA P s ow o K)/\(j∈fs->c9 P s ow o ex exa V0 A0 x))\/(gw all s o=false/\s'=s.put o.dst (.c .undef) s.V s.A))
def Ls (ex exa:List Nat) (V0:List (List CV)) (A0:List bu) (s:St):Prop:=s.V.take V0.length=qW ex (fun i=>s.V.getD i []) V0/\s.A.take A0.length=xO exa (fun i=>s.A.getD i rK) A0
theorem o0 {all:Array Oper} {ow:Nat->Bool} {ws fs:List Nat} {m:Nat} {ex exa:List Nat} {V0:List (List CV)} {A0:List bu} {K:St->Prop}:∀(ops:List Oper) (i:Nat) (s:St),yK P all ow ws fs m ex exa V0 A0 K i ops s->
  ∃σ:Nat->St,σ 0=s/\K (σ ops.length)/\∀(j:Nat) o,ops[j]? =some o->NG P all (ow (i+j)) fs (i+j) ex exa V0 A0 o (σ j) (σ (j+1))/\(i+j∈ws\/((σ (j+1)).V=(σ j).V/\(σ (j+1)).A=(σ j).A))/\
   (i+j<m->Ls ex exa V0 A0 (σ (j+1))\/((σ (j+1)).V=(σ j).V/\(σ (j+1)).A=(σ j).A))
 |[],i,s,h=>⟨fun _=>s,rfl,h,fun j o h=>by simp at h⟩
 |o::rest,i,s,h=>by
  simp only[yK]at h;obtain⟨h0,hg⟩:=iQ h;rcases h0 with⟨h1,h2⟩|⟨h1,h2⟩
  ·obtain⟨x,V,A,⟨h3,Nr,E7,h4⟩,h5⟩:=jg h2;obtain⟨σ,k1,k2,k3⟩:=o0 rest (i+1) _ h4;refine⟨fun j=>match j with|0=>s|j+1=>σ j,rfl,k2,fun j o' ho=>?_⟩;cases j with
   |zero=>
    simp at ho;subst ho;refine⟨⟨hg,.inl ⟨h1,x,V,A,k1,h5,E7⟩⟩,?_,fun hm=>?_⟩
    ·rcases h3 with h3|⟨h3,vo⟩
     ·exact .inl h3
     ·exact .inr (by simp only[k1];exact⟨h3,vo⟩)
    ·rcases h3 with h3|⟨h3,vo⟩
     ·exact .inl (by simp only[k1];exact Nr h3 hm)
     ·exact .inr (by simp only[k1];exact⟨h3,vo⟩)
   |succ j=>
    simp at ho;have:=k3 j o' ho;rwa[show i+1+j=i+(j+1) by omega]at this
  ·obtain⟨σ,k1,k2,k3⟩:=o0 rest (i+1) _ h2;refine⟨fun j=>match j with|0=>s|j+1=>σ j,rfl,k2,fun j o' ho=>?_⟩;cases j with
   |zero=>
    simp at ho;subst ho;exact⟨⟨hg,.inr ⟨h1,k1⟩⟩,.inr (by simp only[k1];exact⟨rfl,rfl⟩),fun _=>.inr (by simp only[k1];exact⟨rfl,rfl⟩)⟩
   |succ j=>
    simp at ho;have:=k3 j o' ho;rwa[show i+1+j=i+(j+1) by omega]at this
set_option maxHeartbeats 2000000 in
theorem Bt {all:Array Oper} {ow:Nat->Bool} {ws fs:List Nat} {m:Nat} {ex exa:List Nat} {V0:List (List CV)} {A0:List bu} {σ:Nat->St} {K:St->Prop} {Q:Exit->Act->World->Prop} (hd:jv all ws fs m=true) (e5:cP n all.toList=true)
  (jT:∀(j:Nat) o,all[j]? =some o->NG P all (ow j) fs j ex exa V0 A0 o (σ j) (σ (j+1))/\(j∈ws\/((σ (j+1)).V=(σ j).V/\(σ (j+1)).A=(σ j).A))/\(j<m->Ls ex exa V0 A0 (σ (j+1))\/((σ (j+1)).V=(σ j).V/\(σ (j+1)).A=(σ j).A))) (G8:(σ 0).V=V0/\(σ 0).A=A0)
  (hK:K (σ all.size)) (hQ:∀s' g' a' w',K s'->Rp n w0 g0 s' g' a' w'->Q .normal a' w'):
  ∀(fuel:Nat) (af:Array Bool) (k0:Nat) (g:Gh) (a:Act) (w:World),((YN all.size).filter fun i=> !af.getD i true).length<=fuel->xN all ws σ n w0 g0 af k0 g a w->wpAny P .any all Q fuel af a w:=by
 simp only[jv,ZE,YR]at hd;obtain⟨⟨⟨⟨gE,oG⟩,vp⟩,ID⟩,IE⟩:=hd;have cD:∀(j:Nat) o,all[j]? =some o->(o,j)∈all.toList.zipIdx:=fun j o h=>by
  rw[Y5];exact⟨j,by simp[Y8,h]⟩
 have cK:∀(j:Nat) o,all[j]? =some o->∀e∈o.after,Region.binds .any e=true->e.on<j:=fun j o h e he hb=>by
  have:=gE _ (cD j o h) e (ZI.2 he);simpa[hb]using this
 have fC:∀(i j:Nat) oi oj,all[i]? =some oi->all[j]? =some oj->i<j->cn all ws fs m (aW all.toList []) oi oj i j=true:=fun i j oi oj h1 h2 ax=>by
  have:=oG _ (cD j oj h2) _ (cD i oi h1);simpa[ax]using this
 have bU:∀(i j:Nat) oi oj,all[i]? =some oi->all[j]? =some oj->i<j->i∉fs->j∉fs->bj all ws (aW all.toList []) oi oj i j=true:=fun i j oi oj h1 h2 ax hi hj=>by
  have:=fC i j oi oj h1 h2 ax;simpa[cn,bj,hi,hj]using this
 have lI:∀i,i∈ws->i∉fs:=fun i hi hf=>by
  have:=ID i hf;simp[hi]at this
 have CJ:∀k,k<=m->k<=all.size->Ls ex exa V0 A0 (σ k):=by
  intro k;induction k with
  |zero=>
   intro _ _;refine⟨?_,?_⟩
   ·rw[G8.1,oV];simp
   ·rw[G8.2,Bs];simp
  |succ k ih=>
   intro h1 h2;have ho:all[k]? =some all[k]:=ZG (by omega);rcases(jT k _ ho).2.2 (by omega)with h3|⟨h3,h4⟩
   ·exact h3
   ·have:=ih (by omega) (by omega);exact⟨by rw[h3];exact this.1,by rw[h4];exact this.2⟩
 have ui:∀(j:Nat) o,all[j]? =some o->j∈ws->cy o.op=false:=fun j o h hj=>by
  have:=vp _ (cD j o h);simpa[hj]using this
 have fA:∀(i j:Nat) oi oj d,all[i]? =some oi->all[j]? =some oj->i<j->oi.dst=some d->oj.dst≠some d:=fun i j oi oj d h1 h2 ax h3 h4=>by
  have:=fC i j oi oj h1 h2 ax;simp[cn,h3,h4]at this
 have qU:∀(i j:Nat) oi oj d,all[i]? =some oi->all[j]? =some oj->oi.dst=some d->oj.dst=some d->i=j:=fun i j oi oj d h1 h2 h3 h4=>by
  rcases ZW i j with h|h|h
  ·exact absurd h4 (fA i j oi oj d h1 h2 h h3)
  ·exact h
  ·exact absurd h3 (fA j i oj oi d h2 h1 h h4)
 have zt:∀(j:Nat) o d,all[j]? =some o->o.dst=some d->d<n:=fun j o d h1 h2=>by
  have:=YR.1 e5 o (by rw[ZI];exact ZM h1);simpa[h2]using this
 obtain⟨F8,_,ye⟩:=e6 all.toList []
 have mj:∀{af:Array Bool},(∀(i:Nat) o,all[i]? =some o->af[i]? =some true->∀e∈o.after,Region.binds .any e=true->af[e.on]? =some true)->
   ∀(i:Nat) o,all[i]? =some o->(∀e∈o.after,Region.binds .any e=true->af[e.on]? =some true)->∀k,((aW all.toList []).getD i 0).testBit k=true->af[k]? =some true:=by
  intro af j3 i;induction i using ZX with
  |_ i ih=>
   intro o ho cm k hk;obtain⟨pre,h1,h2,h3⟩:=ye i o (by simpa using ho);simp only[Zc,ZV]at h1 h3;have h4:(aW all.toList []).getD i 0=mi pre o:=by simp[YX,h3]
   rw[h4]at hk;obtain⟨e,he,hb,h5⟩:=fz hk;have sI:=cm e he hb;rcases h5 with rfl|h5
   ·exact sI
   ·have ax:=cK i o ho e he hb;have h6:pre.getD e.on 0=(aW all.toList []).getD e.on 0:=by simp only[YX,h2 e.on (by omega)]
    rw[h6]at h5;have eP:e.on<all.size:=by have:=(ZH.1 ho).1;omega
    have uj:all[e.on]? =some all[e.on]:=ZG eP;exact ih e.on ax _ uj (j3 e.on _ uj sI) k h5
 have lF:∀(j:Nat) o t,all[j]? =some o->o.dst≠some t->look (σ (j+1)).fr t=look (σ j).fr t:=fun j o t h1 h2=>by
  obtain⟨⟨_,h3⟩,_⟩:=jT j o h1;have jH:∀(x:AV) V A,look ((σ j).put o.dst x V A).fr t=look (σ j).fr t:=fun x V A=>by
   simp only[St.put];cases qQ:o.dst with
   |none=>rfl
   |some d=>simp only[look];rw[if_neg (fun e=>h2 (by rw[qQ,e]))]
  rcases h3 with⟨_,x,V,A,h4,_,_⟩|⟨_,h4⟩
  ·rw[h4];exact jH x V A
  ·rw[h4];exact jH _ _ _
 have om:∀(j t:Nat),j<=all.size->(∀(i:Nat) o,i<j->all[i]? =some o->o.dst≠some t)->look (σ j).fr t=look (σ 0).fr t:=by
  intro j;induction j with
  |zero=>intro t _ _;rfl
  |succ j ih=>
   intro t hj gQ;have ho:all[j]? =some all[j]:=ZG (by omega);rw[lF j _ t ho (gQ j _ (by omega) ho)];exact ih t (by omega) (fun i o hi=>gQ i o (by omega))
 have oo:∀(j i:Nat) oi t,j<=all.size->i<j->all[i]? =some oi->oi.dst=some t->look (σ j).fr t=look (σ (i+1)).fr t:=by
  intro j;induction j with
  |zero=>intro i oi t _ h;omega
  |succ j ih=>
   intro i oi t hj kK aU b7;by_cases e:i=j
   ·subst e;rfl
   ·have ho:all[j]? =some all[j]:=ZG (by omega);rw[lF j _ t ho (fA i j oi _ t aU ho (by omega) b7)];exact ih i oi t (by omega) (by omega) aU b7
 have s4:∀(b a:Nat),a<=b->b<=all.size->(∀i,a<=i->i<b->i∉ws)->(σ b).V=(σ a).V/\(σ b).A=(σ a).A:=by
  intro b;induction b with
  |zero=>
   intro a h _ _;obtain rfl:a=0:=by omega
   exact⟨rfl,rfl⟩
  |succ b ih=>
   intro a Pf hb gQ;by_cases e:a=b+1
   ·subst e;exact⟨rfl,rfl⟩
   ·have ho:all[b]? =some all[b]:=ZG (by omega);obtain⟨h1,h2⟩:=ih a (by omega) (by omega) (fun i hi EK=>gQ i hi (by omega));rcases(jT b _ ho).2.1 with h3|⟨h3,h4⟩
    ·exact absurd h3 (gQ b (by omega) (by omega))
    ·exact⟨h3.trans h1,h4.trans h2⟩
 have lx:∀{af:Array Bool} {k0:Nat} {g:Gh} {a:Act} {w:World},xN all ws σ n w0 g0 af k0 g a w->Region.ready .any all af=[]->Q .normal a w:=by
  intro af k0 g a w hD hr;have cX:∀i,i<all.size->af[i]? =some true:=by
   intro i;induction i using ZX with
   |_ i ih=>
    intro hi;have ho:all[i]? =some all[i]:=ZG hi;have bt:i<af.size:=by rw[hD.er];exact hi
    cases hl:af[i]with
    |true=>rw[ZG bt,hl]
    |false=>
     exfalso
     have:i∈Region.ready .any all af:=mem_ready.2 ⟨by simp[bt,hl],_,ho,fun e he hb=>cl.2 (ih e.on (cK i _ ho e he hb) (by have:=cK i _ ho e he hb;omega))⟩;rw[hr]at this;simp at this
  have jU:=s4 all.size k0 hD.mX (ZR _) (fun i h1 h2 h3=>by have:=(hD.dT i h3 h2).1 (cX i h2);omega);refine hQ _ g a w hK ⟨by rw[jU.1,jU.2];exact hD.inv,hD.fr,hD.size,hD.defers,fun t x hx=>?_⟩;rw[jU.2];by_cases hex:∃(i:Nat) (o:Oper),all[i]? =some o/\o.dst=some t
  ·obtain⟨i,o,ho,b7⟩:=hex;have hi:=(ZH.1 ho).1;rw[oo all.size i o t (ZR _) hi ho b7]at hx;exact hD.fH i o t x ho (cX i hi) b7 hx
  ·rw[om all.size t (ZR _) (fun i o _ ho b7=>hex ⟨i,o,ho,b7⟩)]at hx;exact hD.fI t x (fun i o ho _ b7=>hex ⟨i,o,ho,b7⟩) hx
 intro fuel;induction fuel with
 |zero=>
  intro af k0 g a w hf hD;have kh:Region.ready .any all af=[]:=by
   have h0:((YN all.size).filter fun i=> !af.getD i true)=[]:=Zz (by omega);rcases hr:Region.ready .any all af with _|⟨j,r⟩
   ·rfl
   ·have hj:j∈Region.ready .any all af:=by rw[hr];simp
    obtain⟨h1,o,h2,_⟩:=mem_ready.1 hj;have:j∈((YN all.size).filter fun i=> !af.getD i true):=by
     rw[Zq,YW];exact⟨(ZH.1 h2).1,by simp[h1]⟩
    rw[h0]at this;simp at this
  exact⟨kh,lx hD kh⟩
 |succ fuel ih=>
  intro af k0 g a w hf hD;refine⟨fun hr=>lx hD hr,fun j hj=>?_⟩;obtain⟨ml,o,ho,cm⟩:=mem_ready.1 hj;have mo:=dU ml;have rv:j<all.size:=(ZH.1 ho).1;have iP:j<af.size:=by rw[hD.er];exact rv
  have ch:∀e∈o.after,Region.binds .any e=true->af[e.on]? =some true:=fun e he hb=>cl.1 (cm e he hb)
  have ca:∀k,((aW all.toList []).getD j 0).testBit k=true->af[k]? =some true:=mj hD.closed j o ho ch;have bR:∀(i:Nat) oi,all[i]? =some oi->af[i]? =some true->((aW all.toList []).getD i 0).testBit j=false:=fun i oi aU bt=>by
   cases hb:((aW all.toList []).getD i 0).testBit j with
   |false=>rfl
   |true=>have:=mj hD.closed i oi aU (hD.closed i oi aU bt) j hb;rw[mo]at this;simp at this
  have jh:∀t∈o.looksAt all,∀x,look (σ j).fr t=some x->∃u,a.tmps[t]? =some u/\aR g w (σ k0).A x u:=by
   intro t ht x hx;by_cases hex:∃(i:Nat) (oi:Oper),i<j/\all[i]? =some oi/\oi.dst=some t
   ·obtain⟨i,oi,kK,aU,b7⟩:=hex;rw[oo j i oi t (by omega) kK aU b7]at hx;have hp:=fC i j oi o aU ho kK;have s5:dk all oi o=true:=by simp only[dk,b7];simpa using ht
    simp only[cn,s5,ZE,ZF]at hp;have hb:((aW all.toList []).getD j 0).testBit i=true:=by simpa using hp.2
    exact hD.fH i oi t x aU (ca i hb) b7 hx
   ·rw[om j t (by omega) (fun i oi kK aU b7=>hex ⟨i,oi,kK,aU,b7⟩)]at hx;refine hD.fI t x (fun i oi aU bt b7=>?_) hx;rcases ZW i j with h|h|h
    ·exact hex ⟨i,oi,h,aU,b7⟩
    ·subst h;rw[mo]at bt;simp at bt
    ·have hp:=fC j i o oi ho aU h;have s5:dk all oi o=true:=by simp only[dk,b7];simpa using ht
     have hb:=bR i oi aU bt;simp only[cn,s5,hb,ZE,ZF]at hp;simp at hp
  let cB:=(σ j).fr.filter fun p=>(o.looksAt all).contains p.1
  have mJ:∀t,look cB t=if(o.looksAt all).contains t then look (σ j).fr t else none:=fun t=>eX (fun t=>(o.looksAt all).contains t) (σ j).fr t
  have hS:∀(V:List (List CV)),gU g w ⟨cB,V,(σ k0).A⟩ a:=fun V t x hx=>by
   simp only[mJ]at hx;split at hx
   ·rename_i hc;exact jh t (by simpa using hc) x hx
   ·cases hx
  have gd:∀(V V':List (List CV)) (A A':List bu),∀x∈o.op.operands.toList,bw ⟨cB,V,A⟩ x=bw ⟨(σ j).fr,V',A'⟩ x:=fun V V' A A' x hx=>by
   cases x with
   |tmp t=>
    simp only[bw,mJ];rw[if_pos];simp only[Oper.looksAt,Zj,decide_eq_true_eq,YO,Za];exact .inl ⟨.tmp t,hx,rfl⟩
   |_=>rfl
  have gg:Rp n w0 g0 ⟨cB,(σ k0).V,(σ k0).A⟩ g a w:=⟨hD.inv,hD.fr,hD.size,hD.defers,hS _⟩;obtain⟨⟨ue,jt⟩,CD,_⟩:=jT j o ho;have ot:ib all ⟨cB,(σ k0).V,(σ k0).A⟩ o True True/\gw all ⟨cB,(σ k0).V,(σ k0).A⟩ o=gw all (σ j) o:=by
   unfold ib gw at*;cases mY:o.guard with
   |none=>simp
   |some jw=>
    obtain⟨q,want⟩:=jw;simp only[mY]at ue⊢;obtain⟨oq,h1,h2⟩:=cj ue;obtain⟨t,h3,h4⟩:=cj h2;have:look cB t=look (σ j).fr t:=by
     rw[mJ,if_pos];simp only[Oper.looksAt,mY,Zj,decide_eq_true_eq,YO];exact .inr (by simp[h1,h3])
    simp only[h1,bM,h3,Z5,this]at h4⊢;exact⟨h4,trivial⟩
  have kV:Region.wanted o (yielded all a.tmps)=gw all (σ j) o:=by
   rw[<-ot.2];have h0:=iQ ot.1;have h1:=ot.1;unfold ib at h1;unfold gw;cases mY:o.guard with
   |none=>simp[Region.wanted,mY]
   |some jw=>
    obtain⟨q,want⟩:=jw;simp only[mY]at h1⊢;obtain⟨oq,h2,h3⟩:=cj h1;obtain⟨t,h4,h5⟩:=cj h3;obtain⟨x,h6,h7⟩:=cj h5;obtain⟨h8,h9⟩:=jf gg h2 h4 h6;simp only[h2,Z5,h4,h6];split at h7
    ·rename_i b;simp[Region.wanted,mY,h8 b rfl]
    ·simp[Region.wanted,mY,h9 rfl]
    ·exact h7.elim
  have bH:∀i,(af.setIfInBounds j true)[i]? =if i=j then some true else af[i]? :=fun i=>by
   by_cases e:i=j
   ·subst e;simp[iP]
   ·rw[if_neg e,ZJ (fun h=>e h.symm)]
  have cI:((YN all.size).filter fun i=> !(af.setIfInBounds j true).getD i true).length<=fuel:=by
   have ax:((YN all.size).filter fun i=> !(af.setIfInBounds j true).getD i true).length<((YN all.size).filter fun i=> !af.getD i true).length:=by
    have ga:∀i,(!(af.setIfInBounds j true).getD i true)=true->(!af.getD i true)=true:=fun i h=>by
     by_cases e:i=j
     ·subst e;simp[iP]at h
     ·have:(af.setIfInBounds j true).getD i true=af.getD i true:=by
       simp only[ZL,bH,if_neg e]
      rwa[this]at h
    exact filter_lt ga (YW.2 rv) (by simp[ml]) (by simp[iP])
   omega
  have cz:∀(k1:Nat) (x:AV) (v:Value) (w':World) (g':Gh),look (σ (j+1)).fr=look ((σ j).put o.dst x [] []).fr->aR g' w' (σ k1).A x v->Inv g' w' (σ k1).V (σ k1).A->Ext g w (σ k0).A g' w' (σ k1).A->Fr w0 g0 w' g'->k1<=all.size->(k1=0\/∃i∈ws,k1=i+1)->
    (∀i∈ws,i<all.size->((af.setIfInBounds j true)[i]? =some true↔i<k1))->xN all ws σ n w0 g0 (af.setIfInBounds j true) k1 g' (a.put o.dst v) w':=by
   intro k1 x v w' g' Cm x9 hI hx hF hk Li E2;have ij:∀t u,o.dst≠some t->a.tmps[t]? =some u->(a.put o.dst v).tmps[t]? =some u:=fun t u cY hu=>by
    cases qQ:o.dst with
    |none=>exact hu
    |some d=>
     simp only[Act.put];rw[ZJ (fun e=>cY (by rw[qQ,e]))];exact hu
   refine⟨hI,hF,?_,?_,by simp[hD.er],fun i oi t y aU bt b7 hy=>?_,fun t y gQ hy=>?_,E2,hk,Li,fun i oi aU bt e he hb=>?_⟩
   ·cases o.dst<;>simp[Act.put,hD.size]
   ·cases o.dst<;>simp[Act.put,hD.defers]
   ·rw[bH]at bt;by_cases e:i=j
    ·subst e;obtain rfl:o=oi:=by rw[ho]at aU;exact Option.some.inj aU
     rw[Cm]at hy;simp only[St.put,b7,look,if_true]at hy;cases hy
     refine⟨v,?_,x9⟩;have:t<a.tmps.size:=by rw[hD.size];exact zt i o t ho b7
     simp[Act.put,b7,this]
    ·rw[if_neg e]at bt;obtain⟨u,h1,h2⟩:=hD.fH i oi t y aU bt b7 hy;exact⟨u,ij t u (fun h=>e (qU i j oi o t aU ho b7 h)) h1,aR.ext hx h2⟩
   ·have cY:o.dst≠some t:=gQ j o ho (by rw[bH,if_pos rfl]);obtain⟨u,h1,h2⟩:=hD.fI t y (fun i oi aU bt=>gQ i oi aU (by
     rw[bH];by_cases e:i=j
     ·rw[if_pos e]
     ·rw[if_neg e];exact bt)) hy
    exact⟨u,ij t u cY h1,aR.ext hx h2⟩
   ·rw[bH]at bt⊢;have:af[e.on]? =some true:=by
     by_cases e':i=j
     ·subst e';obtain rfl:o=oi:=by rw[ho]at aU;exact Option.some.inj aU
      exact ch e he hb
     ·rw[if_neg e']at bt;exact hD.closed i oi aU bt e he hb
    by_cases e':e.on=j
    ·rw[if_pos e']
    ·rw[if_neg e'];exact this
  have gH:j∉ws->∀i∈ws,i<all.size->((af.setIfInBounds j true)[i]? =some true↔i<k0):=fun ea i hi b4=>by
   rw[bH,if_neg (fun e=>ea (by rw[<-e];exact hi))];exact hD.dT i hi b4
  have jU:cy o.op=false->j∉fs->(σ j).V=(σ k0).V/\(σ j).A=(σ k0).A:=by
   intro fq ni;rcases Z2 j k0 with h|h
   ·have:=s4 k0 j h hD.mX (fun i h1 h2 h3=>by
     have b4:i<all.size:=by have:=hD.mX;omega
     have bt:=(hD.dT i h3 b4).2 h2;have aU:all[i]? =some all[i]:=ZG b4;rcases ZT j i with h4|h4
     ·have hp:=bU j i o _ ho aU h4 ni (lI i h3);have hb:=bR i _ aU bt;simp only[bj,hb,ZE,ZF]at hp;simp[h3,fq]at hp
     ·obtain rfl:i=j:=by omega
      rw[mo]at bt;simp at bt)
    exact⟨this.1.symm,this.2.symm⟩
   ·exact s4 j k0 h (by omega) (fun i h1 h2 h3=>by
     have b4:i<all.size:=by omega
     have aU:all[i]? =some all[i]:=ZG b4;have hp:=bU i j _ o aU ho h2 (lI i h3) ni;simp only[bj,ZE,ZF]at hp;have hb:((aW all.toList []).getD j 0).testBit i=true:=by
      rcases hp.2 with h4|h4
      ·simp[h3,fq]at h4
      ·exact h4
     have:=(hD.dT i h3 b4).1 (ca i hb);omega)
  unfold wpOp;simp only[ho];rcases jt with⟨h1,x,V,A,h2,h3,E7⟩|⟨h1,h2⟩
  ·rw[if_pos (by rw[kV,h1])];refine .inl ?_;by_cases hs:cy o.op=true
   ·-- slots alone
    have ea:j∉ws:=fun h=>by have:=ui j o ho h;rw[hs]at this;simp at this
    have h4:bA P ⟨cB,(σ k0).V,(σ k0).A⟩ (ow j) o (fun y V' A'=>y=x/\V'=(σ k0).V/\A'=(σ k0).A):=mW (s:=σ j) (s':=⟨cB,(σ k0).V,(σ k0).A⟩) hs (gd _ _ _ _) h3 ⟨rfl,rfl,rfl⟩;obtain⟨y,V',A',⟨rfl,rfl,rfl⟩,h5⟩:=cW gg.inv gg.fr gg.slot h4;refine h5 _ _ fun v w' g' h6 h7 h8 h9=>ih _ k0 g' _ w' cI (cz k0 y v w' g' (by rw[h2];rfl) h6 h7 h8 h9 hD.mX hD.kw (gH ea))
   ·have fq:cy o.op=false:=by simpa using hs
    by_cases ni:j∈fs
    ·have ea:j∉ws:=fun h=>lI j h ni
     have CK:k0<=m:=by
      rcases hD.kw with h|⟨i,hi,hk⟩
      ·omega
      ·rcases ZT i m with h|h
       ·omega
       ·exfalso
        have b4:i<all.size:=by have:=hD.mX;omega
        have aU:all[i]? =some all[i]:=ZG b4;have bt:=(hD.dT i hi b4).2 (by omega);have Kr:j<i:=by
         have:=IE j ni i hi;simp at this;omega
        have hp:=fC j i o _ ho aU Kr;have hb:=bR i _ aU bt;have sK:¬i<m:=by omega
        simp only[cn,hb,ZE,ZF]at hp;simp[hi,fq,sK,ni,ea]at hp
     obtain⟨yB,zx⟩:=CJ k0 CK hD.mX;have h4:bA P ⟨cB,(σ k0).V,(σ k0).A⟩ (ow j) o (fun y V' A'=>y=x/\V'=(σ k0).V/\A'=(σ k0).A):=by
      have h5:=E7 ni (fun i=>(σ k0).V.getD i []) (fun i=>(σ k0).A.getD i rK) ((σ k0).V.drop V0.length) ((σ k0).A.drop A0.length);have e1:qW ex (fun i=>(σ k0).V.getD i []) V0++(σ k0).V.drop V0.length=(σ k0).V:=by
       rw[<-yB];exact YV _ _
      have e2:xO exa (fun i=>(σ k0).A.getD i rK) A0++(σ k0).A.drop A0.length=(σ k0).A:=by
       rw[<-zx];exact YV _ _
      rw[e1,e2]at h5;exact dS (fr:=(σ j).fr) (gd _ _ _ _) h5
     obtain⟨y,V',A',⟨rfl,rfl,rfl⟩,h5⟩:=cW gg.inv gg.fr gg.slot h4;exact h5 _ _ fun v w' g' h6 h7 h8 h9=>ih _ k0 g' _ w' cI (cz k0 y v w' g' (by rw[h2];rfl) h6 h7 h8 h9 hD.mX hD.kw (gH ea))
    obtain⟨iG,gX⟩:=jU fq ni;have h4:bA P ⟨cB,(σ k0).V,(σ k0).A⟩ (ow j) o (fun y V' A'=>y=x/\V'=V/\A'=A):=by
     rw[<-iG,<-gX];exact dS (fr:=(σ j).fr) (gd _ _ _ _) (h3 _ ⟨rfl,rfl,rfl⟩)
    obtain⟨y,V',A',⟨rfl,rfl,rfl⟩,h5⟩:=cW gg.inv gg.fr gg.slot h4;have sJ:(σ (j+1)).V=V':=by rw[h2];rfl
    have iL:(σ (j+1)).A=A':=by rw[h2];rfl
    by_cases ea:j∈ws
    ·refine h5 _ _ fun v w' g' h6 h7 h8 h9=>ih _ (j+1) g' _ w' cI (cz (j+1) y v w' g' (by rw[h2];rfl) (by rw[iL];exact h6) (by rw[sJ,iL];exact h7) (by rw[iL];exact h8) h9 (by omega) (.inr ⟨j,ea,rfl⟩) (fun i hi b4=>?_))
     have aU:all[i]? =some all[i]:=ZG b4;rw[bH];by_cases e:i=j
     ·subst e;simp
     ·rw[if_neg e];constructor
      ·intro bt;rcases ZT j i with h|h
       ·have hp:=bU j i o _ ho aU h (lI j ea) (lI i hi);have hb:=bR i _ aU bt;simp only[bj,hb,ZE,ZF]at hp;simp[hi,fq]at hp
       ·omega
      ·intro ax;have hp:=bU i j _ o aU ho (by omega) (lI i hi) (lI j ea);simp only[bj,ZE,ZF]at hp;rcases hp.2 with h|h
       ·simp[hi,fq]at h
       ·exact ca i h
    ·rcases CD with CD|⟨pG,l7⟩
     ·exact absurd CD ea
     ·refine h5 _ _ fun v w' g' h6 h7 h8 h9=>ih _ k0 g' _ w' cI (cz k0 y v w' g' (by rw[h2];rfl) ?_ ?_ ?_ h9 hD.mX hD.kw (gH ea))
      ·rw[<-gX,<-l7,iL];exact h6
      ·rw[<-iG,<-gX,<-pG,<-l7,sJ,iL];exact h7
      ·have e1:(σ k0).A=A':=by rw[<-gX,<-l7,iL]
       rw[e1]at h8⊢;exact h8
  ·rw[if_neg (by rw[kV,h1];simp)];have sJ:(σ (j+1)).V=(σ j).V:=by rw[h2];rfl
   have iL:(σ (j+1)).A=(σ j).A:=by rw[h2];rfl
   by_cases ea:j∈ws
   ·have fq:=ui j o ho ea;obtain⟨iG,gX⟩:=jU fq (lI j ea);refine ih _ (j+1) g _ w cI (cz (j+1) (.c .undef) undef w g (by rw[h2];rfl) rfl ?_ ?_ hD.fr (by omega) (.inr ⟨j,ea,rfl⟩) (fun i hi b4=>?_))
    ·rw[sJ,iL,iG,gX];exact hD.inv
    ·rw[iL,gX];exact .refl _ _ _
    ·have aU:all[i]? =some all[i]:=ZG b4;rw[bH];by_cases e:i=j
     ·subst e;simp
     ·rw[if_neg e];constructor
      ·intro bt;rcases ZT j i with h|h
       ·have hp:=bU j i o _ ho aU h (lI j ea) (lI i hi);have hb:=bR i _ aU bt;simp only[bj,hb,ZE,ZF]at hp;simp[hi,fq]at hp
       ·omega
      ·intro ax;have hp:=bU i j _ o aU ho (by omega) (lI i hi) (lI j ea);simp only[bj,ZE,ZF]at hp;rcases hp.2 with h|h
       ·simp[hi,fq]at h
       ·exact ca i h
   ·exact ih _ k0 g _ w cI (cz k0 (.c .undef) undef w g (by rw[h2];rfl) rfl hD.inv (.refl _ _ _) hD.fr hD.mX hD.kw (gH ea))
theorem T.r9 {id:Nat} {ops:Array Oper} (hm:P.follows .mixedOrders=true) (ow:Nat->Bool) (ws fs:List Nat) (m:Nat) (ex exa:List Nat) (hd:jv ops ws fs m=true) (h:yK P ops ow ws fs m ex exa s.V s.A (fun s'=>Q .normal s') 0 ops.toList s):T P n (.region id ops true) Q s:=by
 intro eU w0 g0 g a w hR;obtain⟨σ,h0,hK,jT⟩:=o0 ops.toList 0 s h;obtain⟨hI,hx⟩:=hR.inv.heap (w':={w with drawn:=w.drawn+1}) rfl;refine wp_region_any hm (Bt (ex:=ex) (exa:=exa) (K:=fun s'=>Q .normal s') (w0:=w0) (g0:=g0) (n:=n) (σ:=σ) (ow:=ow) hd eU (fun j o ho=>?_) ⟨by rw[h0],by rw[h0]⟩ ?_ (fun s' g' a' w' h1 h2=>⟨s',g',h1,h2⟩) ops.size (ZK ops.size false) 0 g a _ ?_ ?_)
 ·have:=jT j o (by simpa using ho);simpa only[ZV]using this
 ·simpa using hK
 ·exact ZU (Zu _ _) (by simp)
 ·refine⟨by rw[h0];exact hI,hR.fr.heap rfl rfl rfl rfl,hR.size,hR.defers,by simp,fun i o t x ho hl=>?_,fun t x _ fW=>?_,fun i _ b4=>?_,ZS _,.inl rfl,fun i o ho hl=>?_⟩
  ·have hi:=(ZH.1 ho).1;simp[hi]at hl
  ·rw[h0]at fW⊢;obtain⟨u,h1,h2⟩:=hR.slot t x fW;exact⟨u,h1,aR.ext hx h2⟩
  ·simp[b4]
  ·have hi:=(ZH.1 ho).1;simp[hi]at hl
end
section
variable {P:Program} {n:Nat} {Q:Exit->St->Prop} {s s':St} {y:Code}
structure wH (P:Program) (all:Array Oper) (ow:Nat->Bool) (ws fs:List Nat) (m:Nat) (ex exa:List Nat) (V0:List (List CV)) (A0:List bu) (K:St->Prop) (i:Nat) (ops:List Oper) (s:St):Prop where
 mk::
 run:yK P all ow ws fs m ex exa V0 A0 K i ops s
theorem jN {all:Array Oper} {ow:Nat->Bool} {ws fs:List Nat} {m:Nat} {ex exa:List Nat} {V0:List (List CV)} {A0:List bu} {K:St->Prop} {i:Nat} {o:Oper} {rest:List Oper}
  (h:ib all s o (bA P s (ow i) o fun x V A=>(i∈ws\/(V=s.V/\A=s.A))/\(i∈ws->i<m->V.take V0.length=qW ex (fun i=>V.getD i []) V0/\A.take A0.length=xO exa (fun i=>A.getD i rK) A0)/\(i∈fs->c9 P s (ow i) o ex exa V0 A0 x)/\wH P all ow ws fs m ex exa V0 A0 K (i+1) rest (s.put o.dst x V A)) (wH P all ow ws fs m ex exa V0 A0 K (i+1) rest (s.put o.dst (.c .undef) s.V s.A))):wH P all ow ws fs m ex exa V0 A0 K i (o::rest) s:=
 ⟨nf (fun h=>fN (fun _ _ _ h=>⟨h.1,h.2.1,h.2.2.1,h.2.2.2.run⟩) h) (fun h=>h.run) h⟩
theorem iz {all:Array Oper} {ow:Nat->Bool} {ws fs:List Nat} {m:Nat} {ex exa:List Nat} {V0:List (List CV)} {A0:List bu} {K:St->Prop} {i:Nat} (h:K s):wH P all ow ws fs m ex exa V0 A0 K i [] s:=⟨h⟩
theorem T.QP {id:Nat} {l:List Oper} (hm:P.follows .mixedOrders=true) (ow:Nat->Bool) (ws fs:List Nat) (m:Nat) (ex exa:List Nat) (hd:jv l.toArray ws fs m=true) (h:∀K:St->Prop,(∀s',T P n y Q s'->K s')->wH P l.toArray ow ws fs m ex exa s.V s.A K 0 l s):T P n (.seq (.region id l.toArray true) y) Q s:=
 T.seq (T.r9 hm ow ws fs m ex exa hd (h _ fun _ h=>h).run)
theorem T.Hl {id:Nat} {l:List Oper} (hm:P.follows .mixedOrders=true) (ow:Nat->Bool) (ws fs:List Nat) (m:Nat) (ex exa:List Nat) (hd:jv l.toArray ws fs m=true) (h:∀K:St->Prop,(∀s',Q .normal s'->K s')->wH P l.toArray ow ws fs m ex exa s.V s.A K 0 l s):T P n (.region id l.toArray true) Q s:=
 T.r9 hm ow ws fs m ex exa hd (h _ fun _ h=>h).run
@[congr] theorem Lt {all:Array Oper} {ow:Nat->Bool} {ws fs:List Nat} {m:Nat} {ex exa:List Nat} {V0:List (List CV)} {A0:List bu} {K:St->Prop} {i i':Nat} {ops:List Oper} (hi:i=i') (h:s=s'):wH P all ow ws fs m ex exa V0 A0 K i ops s=wH P all ow ws fs m ex exa V0 A0 K i' ops s':=by rw[h,hi]
theorem wH.gen {all:Array Oper} {ow:Nat->Bool} {ws fs:List Nat} {m:Nat} {ex exa:List Nat} {V0:List (List CV)} {A0:List bu} {K:St->Prop} {i:Nat} {ops:List Oper} {d:Nat} {b:Bool} {fr:List (Nat×AV)} {V:List (List CV)} {A:List bu}
  (h:∀q:Bool,b=q->wH P all ow ws fs m ex exa V0 A0 K i ops ⟨(d,.c (.d (.bool q)))::fr,V,A⟩):wH P all ow ws fs m ex exa V0 A0 K i ops ⟨(d,.c (.d (.bool b)))::fr,V,A⟩:=h b rfl
end
end
attribute [simp] c9 xO
end Go.Av
namespace Go.Av
open Go
section
variable {P:Program} {s:St} {f:FuncId} {xs as_:List AV} {K:AV->List (List CV)->List bu->Prop} {r:AV}
theorem jO (h:Nat) {a a':bu} (hc:eW P f as_ [] [a] r [] [a']) (ha:s.A[h]? =some a) (hw:a.wr=true) (hz:a'.sz=a.sz) (b4:ef [h] xs=some as_)
  (hK:K (r.cJ [h] s.A.length) s.V (s.A.set h a')):je P s f xs K:=by
 refine .inr ⟨[h],as_,r,[a'],by simp,fun i h' hi=>?_,b4,?_,?_⟩
 ·match i with
  |0=>simp at hi;subst hi;exact⟨a,a',ha,hw,rfl,hz⟩
  |i+1=>simp at hi
 ·simpa[ha]using hc
 ·simpa[qh]using hK
theorem qw.g {fn:Func} {e:Exit} {m a:Nat} {V':List (List CV)} {A':List bu} {ys:List AV} (he:e=.normal\/e=.ret) (hr:(fy P s fn.results.toList).bind (aE s.A (YN m) (YN a))=some ys) (h1:one ys=r)
  (hV:gW s.A s.V (YN m) (YN a) (YN m)=some V') (hA:qv s.A (YN a)=some A'):qw P fn m a r V' A' e s:=by
 obtain⟨xs,Lf,Ga⟩:=Option.bind_eq_some_iff.1 hr;exact⟨he,[],YN a,xs,ys,⟨[],by simp⟩,Lf,List.nodup_range,by simp,by simp,by simpa using Ga,h1.symm,by simpa using hV,hA⟩
theorem qw.one {fn:Func} {e:Exit} {A':bu} (he:e=.normal\/e=.ret) (hr:(fy P s fn.results.toList).bind (aE s.A [] [0])=some [r]) (hA:s.A[0]? =some A'):qw P fn 0 1 r [] [A'] e s:=
 qw.g he hr rfl rfl (by simp[qv,hA,List.range_succ])
end
attribute [simp] ef AV.dw CV.dw fR AV.cJ CV.cJ
end Go.Av
namespace Go.Av
open Go
section
variable {P:Program} {n:Nat} {Q:Exit->St->Prop} {s s':St} {y:Code}
structure NH (P:Program) (all:Array Oper) (ow:Nat->Bool) (wv wa fs:List Nat) (m:Nat) (ex:List Nat) (V0:List (List CV)) (A0:List bu) (K:St->Prop) (i:Nat) (ops:List Oper) (s:St):Prop where
 mk::
 run:Hc P all ow wv wa fs m ex V0 A0 K i ops s
@[congr] theorem Lu {all:Array Oper} {ow:Nat->Bool} {wv wa fs:List Nat} {m:Nat} {ex:List Nat} {V0:List (List CV)} {A0:List bu} {K:St->Prop} {i i':Nat} {ops:List Oper} (hi:i=i') (h:s=s'):NH P all ow wv wa fs m ex V0 A0 K i ops s=NH P all ow wv wa fs m ex V0 A0 K i' ops s':=by rw[h,hi]
end
section
variable {P:Program} {g g' g0:Gh} {w w' w0:World} {V V':List (List CV)} {A A':List bu}
end
end Go.Av
namespace Go.Av
attribute [-simp] Go.Av.c9 Go.Av.xO Go.Av.ef Go.Av.AV.dw Go.Av.CV.dw Go.Av.fR Go.Av.AV.cJ Go.Av.CV.cJ
open Go
mutual
def aK:ak->List aF
 |.mk k _ _ t _ _ l=>(if bI k=true then [t]else [])++aC l
def aC:List ak->List aF
 |[]=>[]
 |e::r=>aK e++aC r
end
theorem nB (e:ak):aK e=(if bI e.kind=true then [e.ty]else [])++aC e.kids:=by cases e;rfl
theorem qZ:∀(a b:List ak),aC (a++b)=aC a++aC b
 |[],b=>rfl
 |e::r,b=>by simp[aC,qZ r b]
theorem cA {l:List ak} {p:Nat} {u:ak} (h:l[p]? =some u):aC (l.take (p+1))=aC (l.take p)++aK u:=by
 rw[Zn,h,qZ];simp[aC]
theorem zM (l:List ak) (p:Nat):aC l=aC (l.take p)++aC (l.drop p):=by rw[<-qZ,YV]
theorem iA (l:List ak) (p:Nat):(aC (l.take p)).length<=(aC l).length:=by rw[zM l p];simp
mutual
def cq:ak->List aF->ak
 |.mk k s n t f lb l,ts=>.mk k s n (if bI k=true then ts.headD t else t) f lb (dP l (if bI k=true then ts.drop 1 else ts))
def dP:List ak->List aF->List ak
 |[],_=>[]
 |e::r,ts=>cq e ts::dP r (ts.drop (aK e).length)
end
theorem yL (e:ak) (ts:List aF):cq e ts=.mk e.kind e.name e.num (if bI e.kind=true then ts.headD e.ty else e.ty) e.fr e.label (dP e.kids (if bI e.kind=true then ts.drop 1 else ts)):=by cases e;rfl
theorem kL:∀(a:List ak) (ts:List aF),(dP a ts).length=a.length
 |[],ts=>rfl
 |e::r,ts=>by simp[dP,kL r]
theorem zN:∀(e:ak),aL (aK e)<=fa e+1/\(aK e).length<=fa e+1:=by
 intro e;induction e using ak.ind with
 |h e ih=>
  have hs:∀l:List ak,(∀u∈l,aL (aK u)<=fa u+1/\(aK u).length<=fa u+1)->aL (aC l)<=dW l/\(aC l).length<=dW l:=by
   intro l;induction l with
   |nil=>intro _;simp[aC,aL]
   |cons u r ihr=>
    intro h;have h1:=h u (by simp);have h2:=ihr fun v hv=>h v (by simp[hv])
    simp only[aC,wm,Y1,dW];omega
  have h1:=hs e.kids ih;rw[nB];have h2:fa e=e.name.length+dF e.ty+dF e.fr+dW e.kids:=by cases e;rw[kZ];rfl
  split
  ·simp only[wm,Y1,aL,List.length_singleton];omega
  ·simp only[Y9];omega
theorem yM:∀{l:List ak} {p:Nat} {u:ak} (ts:List aF),l[p]? =some u->(dP l ts)[p]? =some (cq u (ts.drop (aC (l.take p)).length))
 |[],p,u,ts,h=>by simp at h
 |e::r,0,u,ts,h=>by simp at h;subst h;simp[dP,aC]
 |e::r,p+1,u,ts,h=>by
  simp only[Zw]at h;simp only[dP,Zw,List.take_succ_cons,aC,Y1];rw[yM _ h,ZB]
theorem la {l:List ak} {p:Nat} {u:ak} (ts:List aF) (h:l[p]? =some u):(dP l ts).take (p+1)=(dP l ts).take p++[cq u (ts.drop (aC (l.take p)).length)]:=by
 rw[Zn,yM ts h];rfl
theorem jY.types {nt:Int} {d:Nat} {e:ak} (h:jY nt d e):(∀t∈aK e,al 4 t=true)/\(aK e).length<=aQ e:=by
 induction h with
 |var=>simp[aK,aC,bI]
 |num=>simp[aK,aC,bI]
 |vt=>simp[aK,aC,bI]
 |vu=>simp[aK,aC,bI]
 |lam _ _ h3 _ ih=>
  obtain⟨h1,h2⟩:=ih;simp only[aK,aC,bI,aQ,bf];refine⟨fun t ht=>?_,by simp;omega⟩;simp at ht;rcases ht with rfl|ht
  ·exact h3
  ·exact h1 t ht
 |asc _ h3 _ ih=>
  obtain⟨h1,h2⟩:=ih;simp only[aK,aC,bI,aQ,bf];refine⟨fun t ht=>?_,by simp;omega⟩;simp at ht;rcases ht with rfl|ht
  ·exact h3
  ·exact h1 t ht
 |n2 _ hk _ _ ih1 ih2=>
  have h5:∀k:Int,k=6\/k=7\/k=8\/k=10->bI k=false:=fun k h=>by rcases h with rfl|rfl|rfl|rfl<;>rfl
  simp only[aK,aC,h5 _ hk,aQ,bf];refine⟨fun t ht=>?_,by simp;omega⟩;simp at ht;rcases ht with ht|ht
  ·exact ih1.1 t ht
  ·exact ih2.1 t ht
 |ite _ _ _ _ ih1 ih2 ih3=>
  simp only[aK,aC,bI,aQ,bf];refine⟨fun t ht=>?_,by simp;omega⟩;simp at ht;rcases ht with ht|ht|ht
  ·exact ih1.1 t ht
  ·exact ih2.1 t ht
  ·exact ih3.1 t ht
 |n1 _ hk _ ih=>
  have h5:∀k:Int,k=11\/k=12->bI k=false:=fun k h=>by rcases h with rfl|rfl<;>rfl
  simp only[aK,aC,h5 _ hk,aQ,bf];refine⟨fun t ht=>?_,by simp;omega⟩;simp at ht;exact ih.1 t ht
 |cast _ _ _ _ _ _ ih=>
  simp only[aK,aC,bI,aQ,bf];refine⟨fun t ht=>?_,by simp;omega⟩;simp at ht;exact ih.1 t ht
theorem yN {ts:List aF} {t:aF} (h:al 4 t=true) (hs:∀u∈ts,al 4 u=true):al 4 (ts.headD t)=true:=by
 cases ts with
 |nil=>exact h
 |cons u r=>exact hs u (by simp)
theorem jY.cq {nt:Int} {d:Nat} {e:ak} (h:jY nt d e):∀{ts:List aF},(∀u∈ts,al 4 u=true)->jY nt d (Av.cq e ts)/\aQ (Av.cq e ts)=aQ e:=by
 induction h with
 |var h1 h2=>intro ts _;exact⟨.var h1 h2,rfl⟩
 |num h1 h2 h3=>intro ts _;exact⟨.num h1 h2 h3,rfl⟩
 |vt h1=>intro ts _;exact⟨.vt h1,rfl⟩
 |vu h1=>intro ts _;exact⟨.vu h1,rfl⟩
 |lam h1 h2 h3 _ ih=>
  intro ts hs;have hd:∀u∈ts.drop 1,al 4 u=true:=fun u hu=>hs u (YZ hu)
  simp only[Av.cq,dP,bI,aQ,bf];exact⟨.lam h1 h2 (yN h3 hs) (ih hd).1,by have h:=(ih hd).2;simp at h⊢;exact h⟩
 |asc h1 h3 _ ih=>
  intro ts hs;have hd:∀u∈ts.drop 1,al 4 u=true:=fun u hu=>hs u (YZ hu)
  simp only[Av.cq,dP,bI,aQ,bf];exact⟨.asc h1 (yN h3 hs) (ih hd).1,by have h:=(ih hd).2;simp at h⊢;exact h⟩
 |n2 h1 hk _ _ ih1 ih2=>
  intro ts hs;have h5:∀k:Int,k=6\/k=7\/k=8\/k=10->bI k=false:=fun k h=>by rcases h with rfl|rfl|rfl|rfl<;>rfl
  have hd:∀n,∀u∈ts.drop n,al 4 u=true:=fun n u hu=>hs u (YZ hu)
  simp only[Av.cq,dP,h5 _ hk,aQ,bf];exact⟨.n2 h1 hk (ih1 hs).1 (ih2 (hd _)).1,by simp[(ih1 hs).2,(ih2 (hd _)).2]⟩
 |ite h1 _ _ _ ih1 ih2 ih3=>
  intro ts hs;have hd:∀n,∀u∈ts.drop n,al 4 u=true:=fun n u hu=>hs u (YZ hu)
  have oG:∀n m,∀u∈(ts.drop n).drop m,al 4 u=true:=fun n m u hu=>hd n u (YZ hu)
  simp only[Av.cq,dP,bI,aQ,bf];exact⟨.ite h1 (ih1 hs).1 (ih2 (hd _)).1 (ih3 (oG _ _)).1,by have h1:=(ih1 hs).2;have h2:=fun n=>(ih2 (hd n)).2;have h3:=fun n=>(ih3 (hd n)).2;simp[h1,h2,h3]⟩
 |n1 h1 hk _ ih=>
  intro ts hs;have h5:∀k:Int,k=11\/k=12->bI k=false:=fun k h=>by rcases h with rfl|rfl<;>rfl
  simp only[Av.cq,dP,h5 _ hk,aQ,bf];exact⟨.n1 h1 hk (ih hs).1,by simp[(ih hs).2]⟩
 |cast h1 h2 h3 h4 h6 _ ih=>
  intro ts hs;simp only[Av.cq,dP,bI,aQ,bf];exact⟨.cast h1 h2 h3 h4 h6 (ih hs).1,by simp[(ih hs).2]⟩
def nC (e:ak) (ts:List aF):Option ak:=if(aV e && decide (ts.length=(aK e).length)&& ts.all (al 4))=true then some (cq e ts)else none
def yO:Option ak->List AV
 |some e=>[cE e,.b true]
 |none=>[cE c5,.b false]
def VD (o:Option ak):ak:=o.getD c5
theorem Bu {e:ak} (h:aV e=true):fa e<=9000:=by
 obtain⟨h1,h2⟩:=gi.1 h;have:=h1.small;omega
end Go.Av
namespace Go.Av
open Go
inductive GC where
 |d (x:DV)
 |t (e:TypeId) (sz n:Nat) (cs:List GC)
 |b (T e:TypeId) (bs:List Value)
 |n (T:TypeId) (row:List DV)
mutual
def Tr (w:World):GC->Value->List Nat->Prop
 |.d x,v,S=>a6 (fun _=>0) w x v/\S=[]
 |.t e sz n cs,v,S=>∃xs S',w.ownsRow 0 e sz v n xs/\iZ w cs xs S'/\S=v.ownBlock.toList++S'
 |.b T e bs,v,S=>∃b p u,v=.pointer (some ⟨b,0,none⟩)/\w.heap[b]? =some (.cells #[p,u] T (0,0))/\(p=.pointer none\/p=v)/\w.ownsRow 0 e 1 u bs.length bs/\S=b::u.ownBlock.toList
 |.n T row,v,S=>∃b xs,v=.pointer (some ⟨b,0,none⟩)/\w.heap[b]? =some (.cells xs T (0,0))/\xs.size=row.length/\(∀(j:Nat) x u,row[j]? =some x->xs[j]? =some u->a6 (fun _=>0) w x u)/\S=[b]
def iZ (w:World):List GC->List Value->List Nat->Prop
 |[],xs,S=>xs=[]/\S=[]
 |c::cs,xs,S=>∃x xs' S1 S2,xs=x::xs'/\S=S1++S2/\Tr w c x S1/\iZ w cs xs' S2
end
def gl (w:World):List (GC×Value)->List Nat->Prop
 |[],S=>S=[]
 |(c,v)::L,S=>∃S1 S2,S=S1++S2/\Tr w c v S1/\gl w L S2
theorem a6.zero {w w':World} {x:DV} {v:Value} {im:Nat->Nat} (h:a6 (fun _=>0) w x v):a6 im w' x v:=
 a6.ft (im:=fun _=>0) (w:=w) ⟨fun _=>ZS _,fun _ _ ho=>absurd ho (Nat.not_lt_zero _)⟩ x v h
mutual
theorem Tr.dq {w w':World}:∀(c:GC) (v:Value) (S:List Nat),(∀b∈S,w'.heap[b]? =w.heap[b]?)->Tr w c v S->Tr w' c v S
 |.d x,v,S,_,h=>by simp only[Tr]at h⊢;exact⟨h.1.zero,h.2⟩
 |.t e sz n cs,v,S,hk,h=>by
  simp only[Tr]at h⊢;obtain⟨xs,S',h1,h2,rfl⟩:=h;exact⟨xs,S',mL h1 (fun b hb=>hk b (by simp[hb])),iZ.dq cs xs S' (fun b hb=>hk b (by simp[hb])) h2,rfl⟩
 |.b T e bs,v,S,hk,h=>by
  simp only[Tr]at h⊢;obtain⟨b,p,u,rfl,h1,h2,h3,rfl⟩:=h;exact⟨b,p,u,rfl,(hk b (by simp)).trans h1,h2,mL h3 (fun x hx=>hk x (by simp[hx])),rfl⟩
 |.n T row,v,S,hk,h=>by
  simp only[Tr]at h⊢;obtain⟨b,xs,rfl,h1,h2,h3,rfl⟩:=h;exact⟨b,xs,rfl,(hk b (by simp)).trans h1,h2,fun j x u h4 h5=>(h3 j x u h4 h5).zero,rfl⟩
theorem iZ.dq {w w':World}:∀(cs:List GC) (xs:List Value) (S:List Nat),(∀b∈S,w'.heap[b]? =w.heap[b]?)->iZ w cs xs S->iZ w' cs xs S
 |[],xs,S,_,h=>by simp only[iZ]at h⊢;exact h
 |c::cs,xs,S,hk,h=>by
  simp only[iZ]at h⊢;obtain⟨x,xs',S1,S2,rfl,rfl,h1,h2⟩:=h;exact⟨x,xs',S1,S2,rfl,rfl,Tr.dq c x S1 (fun b hb=>hk b (by simp[hb])) h1,iZ.dq cs xs' S2 (fun b hb=>hk b (by simp[hb])) h2⟩
end
theorem gl.dq {w w':World}:∀{L:List (GC×Value)} {S:List Nat},(∀b∈S,w'.heap[b]? =w.heap[b]?)->gl w L S->gl w' L S
 |[],S,_,h=>h
 |(c,v)::L,S,hk,h=>by
  obtain⟨S1,S2,rfl,h1,h2⟩:=h;exact⟨S1,S2,rfl,Tr.dq c v S1 (fun b hb=>hk b (by simp[hb])) h1,gl.dq (fun b hb=>hk b (by simp[hb])) h2⟩
mutual
theorem Tr.lt {w:World}:∀(c:GC) (v:Value) (S:List Nat),Tr w c v S->∀b∈S,b<w.heap.size
 |.d x,v,S,h,b,hb=>by simp only[Tr]at h;rw[h.2]at hb;cases hb
 |.t e sz n cs,v,S,h,b,hb=>by
  simp only[Tr]at h;obtain⟨xs,S',h1,h2,rfl⟩:=h;rcases YO.1 hb with h3|h3
  ·exact(h1.lt b (by simpa using h3)).2
  ·exact iZ.lt cs xs S' h2 b h3
 |.b T e bs,v,S,h,x,hx=>by
  simp only[Tr]at h;obtain⟨b,p,u,rfl,h1,h2,h3,rfl⟩:=h;rcases Y6.1 hx with rfl|hx
  ·exact(ZH.1 h1).1
  ·exact(h3.lt x (by simpa using hx)).2
 |.n T row,v,S,h,x,hx=>by
  simp only[Tr]at h;obtain⟨b,xs,rfl,h1,h2,h3,rfl⟩:=h;rw[Zp]at hx;subst hx;exact(ZH.1 h1).1
theorem iZ.lt {w:World}:∀(cs:List GC) (xs:List Value) (S:List Nat),iZ w cs xs S->∀b∈S,b<w.heap.size
 |[],xs,S,h,b,hb=>by simp only[iZ]at h;rw[h.2]at hb;cases hb
 |c::cs,xs,S,h,b,hb=>by
  simp only[iZ]at h;obtain⟨x,xs',S1,S2,rfl,rfl,h1,h2⟩:=h;rcases YO.1 hb with h3|h3
  ·exact Tr.lt c x S1 h1 b h3
  ·exact iZ.lt cs xs' S2 h2 b h3
end
theorem gl.lt {w:World}:∀{L:List (GC×Value)} {S:List Nat},gl w L S->∀b∈S,b<w.heap.size
 |[],S,h,b,hb=>by simp only[gl]at h;rw[h]at hb;cases hb
 |(c,v)::L,S,h,b,hb=>by
  obtain⟨S1,S2,rfl,h1,h2⟩:=h;rcases YO.1 hb with h3|h3
  ·exact Tr.lt c v S1 h1 b h3
  ·exact gl.lt h2 b h3
theorem gl.app {w:World}:∀{L M:List (GC×Value)} {S:List Nat},gl w (L++M) S↔∃S1 S2,S=S1++S2/\gl w L S1/\gl w M S2
 |[],M,S=>by
  simp only[Y9,gl];constructor
  ·intro h;exact⟨[],S,rfl,rfl,h⟩
  ·rintro⟨_,S2,rfl,rfl,h⟩;exact h
 |(c,v)::L,M,S=>by
  simp only[ZC,gl,gl.app (L:=L)];constructor
  ·rintro⟨S1,S2,rfl,h1,S3,S4,rfl,h2,h3⟩;exact⟨S1++S3,S4,by simp,⟨S1,S3,rfl,h1,h2⟩,h3⟩
  ·rintro⟨S1,S2,rfl,⟨S3,S4,rfl,h1,h2⟩,h3⟩;exact⟨S3,S4++S2,by simp,h1,S4,S2,rfl,h2,h3⟩
theorem gl.perm {w:World} {L M:List (GC×Value)} (hp:L.Perm M):∀{S:List Nat},gl w L S->∃S',S.Perm S'/\gl w M S':=by
 induction hp with
 |nil=>exact fun h=>⟨_,.refl _,h⟩
 |cons x _ ih=>
  obtain⟨c,v⟩:=x;rintro S ⟨S1,S2,rfl,h1,h2⟩;obtain⟨S',h3,h4⟩:=ih h2;exact⟨S1++S',h3.append_left S1,S1,S',rfl,h1,h4⟩
 |swap x y l=>
  obtain⟨c,v⟩:=x;obtain⟨c',v'⟩:=y;rintro S ⟨S1,S2,rfl,h1,S3,S4,rfl,h2,h3⟩;refine⟨S3++(S1++S4),?_,S3,S1++S4,rfl,h2,S1,S4,rfl,h1,h3⟩;rw[<-YY,<-YY];exact List.perm_append_comm.append_right S4
 |trans _ _ ih1 ih2=>
  intro S h;obtain⟨S',h1,h2⟩:=ih1 h;obtain⟨S'',h3,h4⟩:=ih2 h2;exact⟨S'',h1.trans h3,h4⟩
theorem gl.at_ {w:World}:∀{L:List (GC×Value)} {S:List Nat},gl w L S->∀{c v},(c,v)∈L->∃S',Tr w c v S'/\∀b∈S',b∈S
 |(c,v)::L,S,h,c',v',hm=>by
  obtain⟨S1,S2,rfl,h1,h2⟩:=h;rcases Y6.1 hm with e|h3
  ·cases e;exact⟨S1,h1,fun b hb=>by simp[hb]⟩
  ·obtain⟨S',h4,h5⟩:=gl.at_ h2 h3;exact⟨S',h4,fun b hb=>by simp[h5 b hb]⟩
def chunks {α:Type} (sz:Nat):Nat->List α->List (List α)
 |0,_=>[]
 |n+1,l=>l.take sz::chunks sz n (l.drop sz)
theorem nD {α:Type} (sz:Nat):∀(n:Nat) (l:List α),(chunks sz n l).length=n
 |0,_=>rfl
 |n+1,l=>by simp[chunks,nD sz n]
theorem ux {α:Type} {sz:Nat}:∀{n:Nat} {l:List α},l.length=n*sz->(chunks sz n l).flatten=l
 |0,l,h=>by
  have:l=[]:=Y7.1 (by simpa using h);simp[this,chunks]
 |n+1,l,h=>by
  simp only[chunks,Zi];rw[ux (by rw[Zd,h,ZY];omega)];exact YV sz l
theorem wI {α:Type} {sz:Nat}:∀{n:Nat} {l:List α},l.length=n*sz->∀r∈chunks sz n l,r.length=sz
 |n+1,l,h,r,hr=>by
  simp only[chunks,Y6]at hr;rw[ZY]at h;rcases hr with rfl|hr
  ·rw[Zb];omega
  ·exact wI (by rw[Zd];omega) r hr
mutual
def GC.dv:GC->DV
 |.d x=>x
 |.t _ sz n cs=>.sl (chunks sz n (yj cs))
 |.b _ _ _=>.bool false
 |.n _ _=>.bool false
def yj:List GC->List DV
 |[]=>[]
 |c::cs=>c.dv::yj cs
end
theorem D4:∀(cs:List GC),yj cs=cs.map GC.dv
 |[]=>rfl
 |c::cs=>by simp[yj,D4 cs]
theorem iZ.len {w:World}:∀{cs:List GC} {xs:List Value} {S:List Nat},iZ w cs xs S->cs.length=xs.length
 |[],xs,S,h=>by simp only[iZ]at h;rw[h.1];rfl
 |c::cs,xs,S,h=>by
  simp only[iZ]at h;obtain⟨x,xs',S1,S2,rfl,rfl,h1,h2⟩:=h;simp[iZ.len h2]
mutual
def GC.pl:GC->Bool
 |.d _=>true
 |.t _ _ _ cs=>Bv cs
 |.b _ _ _=>false
 |.n _ _=>false
def Bv:List GC->Bool
 |[]=>true
 |c::cs=>c.pl && Bv cs
end
def MJ (w:World) (b:Nat):Nat:=match w.heap[b]? with
 |some (.cells cs _ _)=>cs.size
 |_=>0
theorem o4 {im:Nat->Nat} {w:World} {b sz:Nat}:∀{n:Nat} {l:List DV} {off:Nat},l.length=n*sz->(∀j x,l[j]? =some x->∃u,w.cell? ⟨b,off+j,none⟩=some u/\a6 im w x u)->b9 im w b sz off (chunks sz n l)
 |0,l,off,_,_=>by simp[chunks,b9]
 |n+1,l,off,hl,h=>by
  rw[ZY]at hl;simp only[chunks,b9];refine⟨by rw[Zb];omega,dh.mk fun j x hx=>?_,o4 (by rw[Zd];omega) fun j x hx=>?_⟩
  ·refine h j x ?_;rw[Zv]at hx;split at hx
   ·exact hx
   ·cases hx
  ·rw[List.getElem?_drop]at hx;have:=h (sz+j) x hx;rwa[<-Nat.add_assoc]at this
mutual
theorem Tr.rep {w:World} {im:Nat->Nat}:∀(c:GC) (v:Value) (S:List Nat),c.pl=true->Tr w c v S->(∀b∈S,MJ w b<=im b)->a6 im w c.dv v
 |.d x,v,S,_,h,_=>by simp only[Tr]at h;exact h.1.zero
 |.b _ _ _,v,S,hp,_,_=>by simp[GC.pl]at hp
 |.n _ _,v,S,hp,_,_=>by simp[GC.pl]at hp
 |.t e sz n cs,v,S,hp,h,hS=>by
  simp only[Tr]at h;simp only[GC.pl]at hp;obtain⟨xs,S',h1,h2,rfl⟩:=h;have xK:=iZ.rep cs xs S' hp h2 (fun b hb=>hS b (by simp[hb]));have hlen:(yj cs).length=n*sz:=by rw[D4,Zt,h2.len,h1.1]
  obtain⟨Kc,h3⟩:=h1;rcases h3 with⟨rfl,rfl⟩|⟨g,cap,cur,rfl,_,hh,hc,hm,QQ,yq⟩
  ·simp only[GC.dv,a6,chunks];exact⟨none,0,rfl,ZR _,.inl trivial⟩
  ·have hb:=hS g (by simp[Value.ownBlock]);have NI:MJ w g=cap*sz:=by simp[MJ,hh,QQ]
   have hmul:n*sz<=cap*sz:=Nat.mul_le_mul_right sz hc;simp only[GC.dv,a6,nD];refine⟨_,cap,rfl,hc,.inr ⟨g,0,sz,rfl,by omega,o4 hlen fun j x hx=>?_⟩⟩;obtain⟨u,hu,hd⟩:=xK j x hx;refine⟨u,?_,hd⟩;rw[<-yq,Zv]at hu;split at hu
   ·have Kh:cur[0+j]? =some u:=by simpa using hu
    simp only[World.cell?,hh];exact Kh
   ·cases hu
theorem iZ.rep {w:World} {im:Nat->Nat}:∀(cs:List GC) (xs:List Value) (S:List Nat),Bv cs=true->iZ w cs xs S->(∀b∈S,MJ w b<=im b)->∀(j:Nat) x,(yj cs)[j]? =some x->∃u,xs[j]? =some u/\a6 im w x u
 |[],xs,S,_,_,_,j,x,hx=>by simp[yj]at hx
 |c::cs,xs,S,hp,h,hS,j,x,hx=>by
  simp only[iZ]at h;simp only[Bv,ZE]at hp;obtain⟨y,xs',S1,S2,rfl,rfl,h1,h2⟩:=h;cases j with
  |zero=>
   simp[yj]at hx;subst hx;exact⟨y,rfl,Tr.rep c y S1 hp.1 h1 (fun b hb=>hS b (by simp[hb]))⟩
  |succ j=>
   simp[yj]at hx;obtain⟨u,h3,h4⟩:=iZ.rep cs xs' S2 hp.2 h2 (fun b hb=>hS b (by simp[hb])) j x hx;exact⟨u,by simpa using h3,h4⟩
end
def DV.eM:DV->Bool
 |.sl rows=>rows.isEmpty
 |_=>true
inductive Mk:List GC->List DV->List (GC×Value)->Prop
 |nil:Mk [] [] []
 |d {x cs ds L}:x.eM=true->Mk cs ds L->Mk (.d x::cs) (x::ds) L
 |t {e sz n k cs ds L v}:Mk cs ds L->Mk (.t e sz n k::cs) (.raw v::ds) ((.t e sz n k,v)::L)
 |b {T e bs cs ds L v}:Mk cs ds L->Mk (.b T e bs::cs) (.raw v::ds) ((.b T e bs,v)::L)
 |n {T row cs ds L v}:Mk cs ds L->Mk (.n T row::cs) (.raw v::ds) ((.n T row,v)::L)
theorem DV.gY {x:DV} {v:Value} {im im':Nat->Nat} {w w':World} (hs:x.eM=true) (h:a6 im w x v):a6 im' w' x v:=by
 cases x with
 |sl rows=>
  have:rows=[]:=by simpa[DV.eM]using hs
  subst this;simp only[a6]at h⊢;obtain⟨a,cap,e,h1,_⟩:=h;exact⟨a,cap,e,h1,.inl trivial⟩
 |_=>exact h
theorem Mk.len {cs:List GC} {ds:List DV} {L:List (GC×Value)} (h:Mk cs ds L):cs.length=ds.length:=by
 induction h with
 |nil=>rfl
 |d _ _ ih=>simp[ih]
 |t _ ih=>simp[ih]
 |b _ ih=>simp[ih]
 |n _ ih=>simp[ih]
theorem Mk.NJ {w:World} {im:Nat->Nat} {cs:List GC} {ds:List DV} {L:List (GC×Value)} (h:Mk cs ds L):∀{xs:List Value} {S:List Nat},xs.length=ds.length->(∀(j:Nat) x u,ds[j]? =some x->xs[j]? =some u->a6 im w x u)->gl w L S->iZ w cs xs S:=by
 induction h with
 |nil=>
  intro xs S hl _ hS;simp only[gl]at hS;simp only[iZ];exact⟨Y7.1 (by simpa using hl),hS⟩
 | @d x cs ds L hs _ ih=>
  intro xs S hl hr hS
  match xs,hl with
  |u::us,hl=>
   simp only[iZ];exact⟨u,us,[],S,rfl,rfl,by simp only[Tr];exact⟨DV.gY hs (hr 0 x u rfl rfl),trivial⟩,ih (by simpa using hl) (fun j x u h1 h2=>hr (j+1) x u (by simpa using h1) (by simpa using h2)) hS⟩
 | @t e sz n k cs ds L v _ ih=>
  intro xs S hl hr hS
  match xs,hl with
  |u::us,hl=>
   obtain⟨S1,S2,rfl,h1,h2⟩:=hS;have hu:=hr 0 _ u rfl rfl;simp only[a6]at hu;obtain⟨rfl,_⟩:=hu;simp only[iZ];exact⟨u,us,S1,S2,rfl,rfl,h1,ih (by simpa using hl) (fun j x u h1 h2=>hr (j+1) x u (by simpa using h1) (by simpa using h2)) h2⟩
 | @b T e bs cs ds L v _ ih=>
  intro xs S hl hr hS
  match xs,hl with
  |u::us,hl=>
   obtain⟨S1,S2,rfl,h1,h2⟩:=hS;have hu:=hr 0 _ u rfl rfl;simp only[a6]at hu;obtain⟨rfl,_⟩:=hu;simp only[iZ];exact⟨u,us,S1,S2,rfl,rfl,h1,ih (by simpa using hl) (fun j x u h1 h2=>hr (j+1) x u (by simpa using h1) (by simpa using h2)) h2⟩
 | @n T row cs ds L v _ ih=>
  intro xs S hl hr hS
  match xs,hl with
  |u::us,hl=>
   obtain⟨S1,S2,rfl,h1,h2⟩:=hS;have hu:=hr 0 _ u rfl rfl;simp only[a6]at hu;obtain⟨rfl,_⟩:=hu;simp only[iZ];exact⟨u,us,S1,S2,rfl,rfl,h1,ih (by simpa using hl) (fun j x u h1 h2=>hr (j+1) x u (by simpa using h1) (by simpa using h2)) h2⟩
theorem Tr.NK {w:World} {e:TypeId} {sz n:Nat} {k:List GC} {v:Value} {S:List Nat} (h:Tr w (.t e sz n k) v S):v.oneCell'=true:=by
 simp only[Tr]at h;obtain⟨xs,S',h1,_,_⟩:=h;rcases h1.2 with⟨rfl,_⟩|⟨g,cap,cur,rfl,_⟩<;>rfl
theorem Tr.NL {w:World} {T e:TypeId} {bs:List Value} {v:Value} {S:List Nat} (h:Tr w (.b T e bs) v S):v.oneCell'=true:=by
 simp only[Tr]at h;obtain⟨b,p,u,rfl,_⟩:=h
 rfl
theorem Tr.NM {w:World} {T:TypeId} {row:List DV} {v:Value} {S:List Nat} (h:Tr w (.n T row) v S):v.oneCell'=true:=by
 simp only[Tr]at h;obtain⟨b,xs,rfl,_⟩:=h
 rfl
theorem iZ.mk {w:World}:∀{cs:List GC} {xs:List Value} {S:List Nat},(∀x,GC.d x∈cs->x.eM=true)->iZ w cs xs S->∃ds L,Mk cs ds L/\gl w L S/\∀(im:Nat->Nat) (j:Nat) x u,ds[j]? =some x->xs[j]? =some u->a6 im w x u
 |[],xs,S,_,h=>by
  simp only[iZ]at h;exact⟨[],[],.nil,h.2,fun _ j x u h1=>by simp at h1⟩
 |c::cs,xs,S,uy,h=>by
  simp only[iZ]at h;obtain⟨y,xs',S1,S2,rfl,rfl,h1,h2⟩:=h;obtain⟨ds,L,h3,h4,h5⟩:=iZ.mk (fun x hx=>uy x (by simp[hx])) h2;cases c with
  |d x=>
   simp only[Tr]at h1;obtain⟨h6,rfl⟩:=h1;refine⟨x::ds,L,.d (uy x (by simp)) h3,h4,fun im j x' u h7 h8=>?_⟩;cases j with
   |zero=>simp at h7 h8;subst h7;subst h8;exact h6.zero
   |succ j=>exact h5 im j x' u (by simpa using h7) (by simpa using h8)
  |t e sz n k=>
   refine⟨.raw y::ds,(.t e sz n k,y)::L,.t h3,⟨S1,S2,rfl,h1,h4⟩,fun im j x' u h7 h8=>?_⟩;cases j with
   |zero=>simp at h7 h8;subst h7;subst h8;exact⟨rfl,h1.NK⟩
   |succ j=>exact h5 im j x' u (by simpa using h7) (by simpa using h8)
  |b T e bs=>
   refine⟨.raw y::ds,(.b T e bs,y)::L,.b h3,⟨S1,S2,rfl,h1,h4⟩,fun im j x' u h7 h8=>?_⟩;cases j with
   |zero=>simp at h7 h8;subst h7;subst h8;exact⟨rfl,h1.NL⟩
   |succ j=>exact h5 im j x' u (by simpa using h7) (by simpa using h8)
  |n T row=>
   refine⟨.raw y::ds,(.n T row,y)::L,.n h3,⟨S1,S2,rfl,h1,h4⟩,fun im j x' u h7 h8=>?_⟩;cases j with
   |zero=>simp at h7 h8;subst h7;subst h8;exact⟨rfl,h1.NM⟩
   |succ j=>exact h5 im j x' u (by simpa using h7) (by simpa using h8)
abbrev Ts:=List (GC×Value)
inductive c4 (L:Ts):CV->CV->Prop
 |d {x}:c4 L (.d x) (.d x)
 |nil:c4 L .nil (.d (.sl []))
 |QR:c4 L .nil .nil
 |np:c4 L .np .np
 |fn {f}:c4 L (.fn f []) (.fn f [])
 |NN {c v}:(c,v)∈L->c.pl=true->c4 L (.d (.raw v)) (.d c.dv)
inductive jV (L:Ts):List CV->List CV->Prop
 |nil:jV L [] []
 |cons {x y xs ys}:c4 L x y->jV L xs ys->jV L (x::xs) (y::ys)
inductive jA (L:Ts):AV->AV->Prop
 |c {x y}:c4 L x y->jA L (.c x) (.c y)
 |agg {xs ys}:jV L xs ys->jA L (.agg xs) (.agg ys)
inductive dj (L:Ts):List AV->List AV->Prop
 |nil:dj L [] []
 |cons {x y xs ys}:jA L x y->dj L xs ys->dj L (x::xs) (y::ys)
structure vv (w0:World) (g0:Gh) (X:List Nat) (w:World) (g:Gh):Prop where
 os:w.os=w0.os
 tape:w.tape=w0.tape
 output:w.output=w0.output
 size:w0.heap.size<=w.heap.size
 pF:∀b,b<w0.heap.size->b∉g0.ob->b∉g0.iF->b∉X->w.heap[b]? =w0.heap[b]?
 iO:∀b,b<w0.heap.size->b∉g0.iF->b∉X->g.im b=g0.im b
 ob:∃new,g.ob=g0.ob++new/\∀b∈new,w0.heap.size<=b
 ar:∀(k:Nat) v b,g.ar[k]? =some v->v.ownBlock=some b->w0.heap.size<=b\/b∈g0.iF\/b∈X
 vk:∀(k:Nat) v,g0.ar[k]? =some v->∃v',g.ar[k]? =some v'/\rC v<=rC v'/\(rC v'=rC v->v'=v)
 xR:As w0 g0
 Bw:∀b∈X,¬oC b
section
variable {P:Program} {n:Nat} {w0 w w':World} {g0 g g':Gh} {X S S':List Nat} {s s':St} {L L':Ts} {a a':Act}
theorem vv.refl (ht:As w g) (hx:∀b∈X,¬oC b):vv w g X w g:=
 ⟨rfl,rfl,rfl,ZR _,fun _ _ _ _ _=>rfl,fun _ _ _ _=>rfl,⟨[],by simp,by simp⟩,fun k v b hk hb=>.inr (.inl (Gh.iN hk hb)),fun k v h=>⟨v,h,ZR _,fun _=>rfl⟩,ht,hx⟩
theorem vv.DZ (h:vv w0 g0 X w g) {b:Nat} (hb:b<w0.heap.size) (h1:b∉g0.ob):b∉g.ob:=fun hm=>by
 obtain⟨new,e,hn⟩:=h.ob;rw[e]at hm;rcases YO.1 hm with q|q
 ·exact h1 q
 ·exact absurd (hn b q) (by omega)
theorem vv.tj (h:vv w0 g0 X w g) {b:Nat} (hb:b<w0.heap.size) (h1:b∉g0.iF) (h2:b∉X):b∉g.iF:=fun hm=>by
 obtain⟨k,v,q1,q2⟩:=Gh.fw hm;rcases h.ar k v b q1 q2 with q|q|q
 ·omega
 ·exact h1 q
 ·exact h2 q
theorem vv.now (h:vv w0 g0 X w g):As w g:=fun b hb=>by
 obtain⟨h1,h2,h3,h4⟩:=h.xR b hb;refine⟨ZZ h1 h.size,h.DZ h1 h2,h.tj h1 h3 (fun hx=>h.Bw b hx hb),?_⟩;rw[h.pF b h1 h2 h3 (fun hx=>h.Bw b hx hb)];exact h4
theorem vv.fr (h:vv w0 g0 X w g) (k:Fr w g w' g'):vv w0 g0 X w' g':=by
 refine⟨k.os.trans h.os,k.tape.trans h.tape,k.output.trans h.output,ZU h.size k.size,fun b h1 h2 h3 h4=>?_,fun b h1 h2 h3=>?_,?_,fun i v b h1 h2=>?_,fun i v h1=>?_,h.xR,h.Bw⟩
 ·rw[k.pF b (ZZ h1 h.size) (h.DZ h1 h2) (h.tj h1 h3 h4)];exact h.pF b h1 h2 h3 h4
 ·rw[k.iO b (ZZ h1 h.size) (h.tj h1 h2 h3)];exact h.iO b h1 h2 h3
 ·obtain⟨new,e,hn⟩:=h.ob;obtain⟨new',e',Ms⟩:=k.ob;refine⟨new++new',by rw[e',e,YY],fun b hb=>?_⟩;rcases YO.1 hb with q|q
  ·exact hn b q
  ·exact ZU h.size (Ms b q)
 ·rcases k.ar i v b h1 h2 with q|q
  ·exact .inl (ZU h.size q)
  ·obtain⟨j,v',q1,q2⟩:=Gh.fw q;exact h.ar j v' b q1 q2
 ·obtain⟨v1,q1,q2,q3⟩:=h.vk i v h1;obtain⟨v2,q4,q5,q6⟩:=k.vk i v1 q1;exact⟨v2,q4,ZU q2 q5,fun e=>(q6 (by omega)).trans (q3 (by omega))⟩
structure qE (n:Nat) (w0:World) (g0:Gh) (X:List Nat) (s:St) (L:Ts) (S:List Nat) (g:Gh) (a:Act) (w:World):Prop where
 inv:Inv g w s.V s.A
 fr:vv w0 g0 X w g
 size:a.tmps.size=n
 defers:a.defers=[]
 slot:∀t x,look s.fr t=some x->∃u,a.tmps[t]? =some u/\aR g w s.A x u
 mu:gl w L S
 nd:S.Nodup
 out:∀b∈S,g.im b=0/\b∉g.ob/\b∉g.iF/\¬oC b/\(w0.heap.size<=b\/b∈X)
theorem qE.rp (h:qE n w0 g0 X s L S g a w):Rp n w g s g a w:=⟨h.inv,.refl h.fr.now,h.size,h.defers,h.slot⟩
theorem qE.wJ (h:qE n w0 g0 X s L S g a w) (k:Fr w g w' g'):gl w' L S/\∀b∈S,g'.im b=0/\b∉g'.ob/\b∉g'.iF/\¬oC b/\(w0.heap.size<=b\/b∈X):=by
 have ax:=h.mu.lt;refine⟨h.mu.dq fun b hb=>k.pF b (ax b hb) (h.out b hb).2.1 (h.out b hb).2.2.1,fun b hb=>?_⟩;obtain⟨h1,h2,h3,h4,h5⟩:=h.out b hb;have QS:=ax b hb;refine⟨(k.iO b QS h3).trans h1,fun hm=>?_,fun hm=>?_,h4,h5⟩
 ·obtain⟨new,e,hn⟩:=k.ob;rw[e]at hm;rcases YO.1 hm with q|q
  ·exact h2 q
  ·exact absurd (hn b q) (by omega)
 ·obtain⟨i,v,q1,q2⟩:=Gh.fw hm;rcases k.ar i v b q1 q2 with q|q
  ·omega
  ·exact h3 q
theorem qE.back (h:qE n w0 g0 X s L S g a w) (k:Rp n w g s' g' a' w'):qE n w0 g0 X s' L S g' a' w':=
 ⟨k.inv,h.fr.fr k.fr,k.size,k.defers,k.slot,(h.wJ k.fr).1,h.nd,(h.wJ k.fr).2⟩
theorem qE.less (h:qE n w0 g0 X s L S g a w) {M:Ts} (hp:L.Perm (L'++M)):∃S',qE n w0 g0 X s L' S' g a w:=by
 obtain⟨S1,h1,h2⟩:=h.mu.perm hp;obtain⟨S2,S3,rfl,h3,_⟩:=gl.app.1 h2;exact⟨S2,h.inv,h.fr,h.size,h.defers,h.slot,h3,(YS.1 (h1.nodup_iff.1 h.nd)).1,fun b hb=>h.out b (h1.mem_iff.2 (by simp[hb]))⟩
def TJ (P:Program) (n:Nat) (c:Code) (Q:Exit->St->Ts->Prop) (s:St) (L:Ts):Prop:=
 codeOk n c=true->∀w0 g0 X S g a w,qE n w0 g0 X s L S g a w->c.wp P (fun e a' w'=>∃s' g' L' S',Q e s' L'/\qE n w0 g0 X s' L' S' g' a' w') a w
variable {Q Q':Exit->St->Ts->Prop} {c x y:Code}
theorem TJ.mono (h:TJ P n c Q s L) (hq:∀e s' L',Q e s' L'->Q' e s' L'):TJ P n c Q' s L:=
 fun eU w0 g0 X S g a w hR=>Go.wp_mono (h eU w0 g0 X S g a w hR) fun _ _ _ ⟨s',g',L',S',h1,h2⟩=>⟨s',g',L',S',hq _ _ _ h1,h2⟩
theorem TJ.less {M:Ts} (hp:L.Perm (L'++M)) (h:TJ P n c Q s L'):TJ P n c Q s L:=by
 intro eU w0 g0 X S g a w hR;obtain⟨S',oh⟩:=hR.less hp;exact h eU w0 g0 X S' g a w oh
def nT (P:Program) (n:Nat) (c:Code) (Q:Exit->St->Ts->Prop):Exit->St->Ts->Prop
 |.normal,s,L=>TJ P n c Q s L
 |e,s,L=>Q e s L
theorem TJ.seq (h:TJ P n x (nT P n y Q) s L):TJ P n (.seq x y) Q s L:=by
 intro eU w0 g0 X S g a w hR;simp only[codeOk,ZE]at eU;refine wp_seq (Go.wp_mono (h eU.1 w0 g0 X S g a w hR) ?_);rintro e a' w' ⟨s',g',L',S',h1,h2⟩;cases e with
 |normal=>exact h1 eU.2 w0 g0 X S' g' a' w' h2
 |_=>exact⟨s',g',L',S',h1,h2⟩
theorem TJ.skip (h:Q .normal s L):TJ P n .skip Q s L:=fun _ _ _ _ S g _ _ hR=>wp_skip ⟨s,g,L,S,h,hR⟩
theorem TJ.exit {id:Nat} (h:Q (.exit id) s L):TJ P n (.exit id) Q s L:=fun _ _ _ _ S g _ _ hR=>wp_exit ⟨s,g,L,S,h,hR⟩
theorem TJ.ret (h:Q .ret s L):TJ P n .ret Q s L:=fun _ _ _ _ S g _ _ hR=>wp_ret ⟨s,g,L,S,h,hR⟩
theorem TJ.cond {o:Operand} {b:Bool} (hc:bw s o=some (.c (.d (.bool b)))) (ht:b=true->TJ P n x Q s L) (hf:b=false->TJ P n y Q s L):TJ P n (.cond o x y) Q s L:=by
 intro eU w0 g0 X S g a w hR;simp only[codeOk,ZE]at eU;have hv:=aI hR.slot hc;simp only[aR,di,bc,a6]at hv;exact wp_cond_split hv (fun e=>ht e eU.1 w0 g0 X S g a w hR) (fun e=>hf e eU.2 w0 g0 X S g a w hR)
def fj (id:Nat) (Q:Exit->St->Ts->Prop):Exit->St->Ts->Prop
 |.exit id',s,L=>if id'=id then Q .normal s L else Q (.exit id') s L
 |e,s,L=>Q e s L
theorem TJ.block {id:Nat} (h:TJ P n c (fj id Q) s L):TJ P n (.block id c) Q s L:=by
 intro eU w0 g0 X S g a w hR;refine wp_block (Go.wp_mono (h eU w0 g0 X S g a w hR) ?_);rintro e a' w' ⟨s',g',L',S',h1,h2⟩;cases e with
 |exit id'=>
  simp only[fj]at h1;simp only[Exit.inBlock];split
  ·rename_i e;rw[if_pos e]at h1;exact⟨s',g',L',S',h1,h2⟩
  ·rename_i e;rw[if_neg e]at h1;exact⟨s',g',L',S',h1,h2⟩
 |_=>exact⟨s',g',L',S',h1,h2⟩
def o5 (P:Program) (n:Nat) (c:Code) (Q:Exit->St->Ts->Prop):Nat->St->Ts->Prop
 |0,_,_=>False
 |k+1,s,L=>TJ P n c (fun e s' L'=>match e with|.normal=>o5 P n c Q k s' L'|e=>Q e s' L') s L
theorem o5.succ:∀{k:Nat} {s:St} {L:Ts},o5 P n c Q k s L->o5 P n c Q (k+1) s L
 |0,_,_,h=>h.elim
 |k+1,s,L,h=>TJ.mono h fun e s' L' h1=>by cases e<;>first|exact o5.succ h1|exact h1
theorem o5.le {k k':Nat} (hk:k<=k') {s:St} {L:Ts} (h:o5 P n c Q k s L):o5 P n c Q k' s L:=by
 induction hk with
 |refl=>exact h
 |step _ ih=>exact ih.succ
theorem TJ.sZ {k:Nat} (h:o5 P n c Q k s L):TJ P n (.loop c) Q s L:=by
 intro eU w0 g0 X S g a w hR;refine wp_loop_rounds k ?_;have key:∀k s L S g a w,o5 P n c Q k s L->qE n w0 g0 X s L S g a w->Code.rounds P c (fun e a' w'=>∃s' g' L' S',Q e s' L'/\qE n w0 g0 X s' L' S' g' a' w') k a w:=by
  intro k;induction k with
  |zero=>intro s L S g a w h _;exact h.elim
  |succ k ih=>
   intro s L S g a w h hR;rw[rounds_succ];refine Go.wp_mono (h eU w0 g0 X S g a w hR) ?_;rintro e a' w' ⟨s',g',L',S',h1,h2⟩;cases e with
   |normal=>exact ih s' L' S' g' a' w' h1 h2
   |_=>exact⟨s',g',L',S',h1,h2⟩
 exact key k s L S g a w h hR
theorem TJ.loop (I:Nat->St->Ts->Prop) (h:∀k s L,I k s L->TJ P n c (fun e s' L'=>match e with|.normal=>∃k',k'<k/\I k' s' L'|e=>Q e s' L') s L) {k:Nat} (h0:I k s L):TJ P n (.loop c) Q s L:=by
 have key:∀k s L,I k s L->o5 P n c Q (k+1) s L:=by
  intro k;induction k using ZX with
  |_ k ih=>
   intro s L hs;refine TJ.mono (h k s L hs) fun e s' L' h1=>?_
   cases e with
   |normal=>obtain⟨k',hk,h2⟩:=h1;exact(ih k' hk s' L' h2).le hk
   |_=>exact h1
 exact TJ.sZ (key k s L h0)
theorem TJ.forget (cB:List (Nat×AV)) (ga:∀t x,look cB t=some x->look s.fr t=some x) (h:TJ P n c Q ⟨cB,s.V,s.A⟩ L):TJ P n c Q s L:=
 fun eU w0 g0 X S g a w hR=>h eU w0 g0 X S g a w ⟨hR.inv,hR.fr,hR.size,hR.defers,fun t x hx=>hR.slot t x (ga t x hx),hR.mu,hR.nd,hR.out⟩
def CW {α:Type} (St_:α->St) (Tr_:α->Ts) (m:α->Nat) (H:α->Prop) (k:Nat) (Q:Exit->St->Ts->Prop):Exit->St->Ts->Prop
 |.normal,s',L'=>∃a' M,m a'<k/\H a'/\Sub (St_ a') s'/\L'.Perm (Tr_ a'++M)
 |e,s',L'=>Q e s' L'
theorem TJ.fJ {α:Type} (St_:α->St) (Tr_:α->Ts) (m:α->Nat) (H:α->Prop) (h:∀a,H a->TJ P n c (CW St_ Tr_ m H (m a) Q) (St_ a) (Tr_ a)) (a:α) (ha:H a) (hs:Sub (St_ a) s) {M:Ts} (hL:L.Perm (Tr_ a++M)):TJ P n (.loop c) Q s L:=by
 refine TJ.loop (fun k s L=>∃a M,m a=k/\H a/\(St_ a).V=s.V/\(St_ a).A=s.A/\(∀t x,look (St_ a).fr t=some x->look s.fr t=some x)/\L.Perm (Tr_ a++M)) ?_ (k:=m a) ⟨a,M,rfl,ha,hs.1,hs.2.1,kk.look hs.2.2,hL⟩;rintro k s1 L1 ⟨a',M',rfl,h2,h3,h4,h5,h6⟩;refine TJ.less h6 (TJ.forget (St_ a').fr h5 ?_);rw[<-h3,<-h4];refine TJ.mono (h a' h2) fun e s2 L2 h7=>?_
 cases e with
 |normal=>
  obtain⟨a2,M2,h8,h9,cv,ep⟩:=h7;exact⟨_,h8,a2,M2,rfl,h9,cv.1,cv.2.1,kk.look cv.2.2,ep⟩
 |_=>exact h7
def CX (r:AV) (v:Value):Prop:=∀g w A,aR g w A r v
def aH (P:Program) (f:FuncId) (as_:List AV) (L:Ts) (R:AV->Ts->Prop):Prop:=
 (∀args w,(callFunc f args).run P w=.ok (.enter f args) w)/\
 ∀(g:Gh) (w:World) (vs:Array Value) (S:List Nat),g.ob=[]->g.ar=[]->Inv g w [] []->As w g->vs.size=as_.length->(∀(i:Nat) x u,as_[i]? =some x->vs[i]? =some u->aR g w [] x u)->
  gl w L S->S.Nodup->(∀b∈S,g.im b=0/\¬oC b)->
  Calls P f vs w fun e w'=>∃v r L' S',e=.returned v/\R r L'/\CX r v/\gl w' L' S'/\S'.Nodup/\(∀b∈S',b∈S\/w.heap.size<=b)/\
   w'.os=w.os/\w'.tape=w.tape/\w'.output=w.output/\w.heap.size<=w'.heap.size/\∀b,b<w.heap.size->b∉S->w'.heap[b]? =w.heap[b]?
theorem dj.len {L:Ts} {xs as_:List AV} (h:dj L xs as_):xs.length=as_.length:=by
 induction h with
 |nil=>rfl
 |cons _ _ ih=>simp[ih]
theorem dj.at_ {L:Ts} {xs as_:List AV} (h:dj L xs as_):∀{i:Nat} {y:AV},as_[i]? =some y->∃x,xs[i]? =some x/\jA L x y:=by
 induction h with
 |nil=>intro i y hy;simp at hy
 |cons h1 _ ih=>
  intro i y hy;cases i with
  |zero=>simp at hy;subst hy;exact⟨_,rfl,h1⟩
  |succ i=>simp at hy;simpa using ih hy
theorem jV.len {L:Ts} {xs as_:List CV} (h:jV L xs as_):xs.length=as_.length:=by
 induction h with
 |nil=>rfl
 |cons _ _ ih=>simp[ih]
theorem jV.at_ {L:Ts} {xs as_:List CV} (h:jV L xs as_):∀{i:Nat} {y:CV},as_[i]? =some y->∃x,xs[i]? =some x/\c4 L x y:=by
 induction h with
 |nil=>intro i y hy;simp at hy
 |cons h1 _ ih=>
  intro i y hy;cases i with
  |zero=>simp at hy;subst hy;exact⟨_,rfl,h1⟩
  |succ i=>simp at hy;simpa using ih hy
def u7 (g:Gh) (w:World) (S:List Nat):Gh:={ob:=[],ar:=[],im:=fun b=>if b∈S then MJ w b else g.im b}
theorem c4.rep {A:List bu} {x y:CV} (h:c4 L x y) (hS:∀b∈S,g.im b=0) (hT:gl w L S) {u:Value} (hr:bc g w A x u):bc (u7 g w S) w [] y u:=by
 have hle:∀b,g.im b<=(u7 g w S).im b:=fun b=>by
  simp only[u7];split
  ·rename_i h;rw[hS b h];exact ZS _
  ·exact ZR _
 cases h with
 | @d x=>exact a6.ft ⟨hle,fun _ _ _=>rfl⟩ x u hr
 |nil=>
  simp only[bc]at hr;subst hr;simp only[bc,a6];exact⟨none,0,rfl,ZR _,.inl trivial⟩
 |QR=>exact hr
 |np=>exact hr
 |fn=>
  obtain⟨bks,h1,h2,_⟩:=hr;exact⟨bks,h1,h2,fun i l b h=>by simp at h⟩
 | @NN c v hm og=>
  simp only[bc,a6]at hr;obtain⟨rfl,_⟩:=hr;obtain⟨S',h1,h2⟩:=hT.at_ hm;exact Tr.rep c _ S' og h1 fun b hb=>by simp[u7,h2 b hb]
theorem jA.rep {A:List bu} {x y:AV} (h:jA L x y) (hS:∀b∈S,g.im b=0) (hT:gl w L S) {u:Value} (hr:aR g w A x u):aR (u7 g w S) w [] y u:=by
 cases h with
 | @c x y h=>exact c4.rep (A:=A) h hS hT hr
 | @agg xs ys h=>
  obtain⟨vs,e,hl,hc⟩:=hr;refine⟨vs,e,by rw[hl,h.len],fun i y u h1 h2=>?_⟩;obtain⟨x,h3,h4⟩:=h.at_ h1;exact h4.rep hS hT (hc i x u h3 h2)
def lM (P:Program) (s:St) (L:Ts) (f:FuncId) (xs:List AV) (K:AV->List (List CV)->List bu->Ts->Prop):Prop:=
 je P s f xs (fun x V A=>K x V A L)\/
 ∃(as_:List AV) (L1 L2:Ts) (R:AV->Ts->Prop),L.Perm (L1++L2)/\dj L2 xs as_/\aH P f as_ L1 R/\∀r L1',R r L1'->K r s.V s.A (L1'++L2)
theorem gl.yP {S1 S2:List Nat} (h:(S1++S2).Nodup):∀b∈S1,b∉S2:=fun b h1 h2=>(YS.1 h).2.2 b h1 b h2 rfl
theorem Bx (hR:qE n w0 g0 X s L S g a w) {f:FuncId} {xs as_:List AV} {L1 L2:Ts} {R:AV->Ts->Prop} (hp:L.Perm (L1++L2)) (By:dj L2 xs as_) (hc:aH P f as_ L1 R) {vs:Array Value} (hl:vs.size=xs.length)
  (hr:∀(i:Nat) x u,xs[i]? =some x->vs[i]? =some u->aR g w s.A x u):
  Calls P f vs w fun e w'=>∃v r L' S',e=.returned v/\R r L'/\CX r v/\Inv g w' s.V s.A/\Ext g w s.A g w' s.A/\vv w0 g0 X w' g/\gl w' (L'++L2) S'/\S'.Nodup/\∀b∈S',g.im b=0/\b∉g.ob/\b∉g.iF/\¬oC b/\(w0.heap.size<=b\/b∈X):=by
 obtain⟨S0,u9,hT⟩:=hR.mu.perm hp;obtain⟨S1,S2,rfl,Lv,zO⟩:=gl.app.1 hT;have l8:(S1++S2).Nodup:=u9.nodup_iff.1 hR.nd;have iX:∀b∈S1++S2,_:=fun b hb=>hR.out b (u9.mem_iff.2 hb)
 have fG:=gl.yP l8;have Ut:∀b∈S1,g.im b=0:=fun b hb=>(iX b (by simp[hb])).1
 have CY:∀b∈S2,g.im b=0:=fun b hb=>(iX b (by simp[hb])).1
 have NO:=hR.fr.now;have NQ:Inv (u7 g w S2) w [] []:=⟨rfl,rfl,fun l row b h=>by simp at h,fun k r v h=>by simp at h,fun l l' b h=>by simp[u7]at h,fun k k' v v' b h=>by simp[u7]at h,fun l k v b h=>by simp[u7]at h,fun b hb=>by
  have:b∉S2:=fun h=>absurd (zO.lt b h) (by omega)
  simp only[u7,if_neg this];exact hR.inv.fresh b hb⟩
 have NR:As w (u7 g w S2):=NO.less (by simp[u7]) (by simp[u7,Gh.iF]);refine(hc.2 (u7 g w S2) w vs S1 rfl rfl NQ NR (by rw[hl,By.len]) (fun i y u h1 h2=>?_) Lv (YS.1 l8).1 (fun b hb=>⟨by simp only[u7,if_neg (fG b hb)];exact Ut b hb,(iX b (by simp[hb])).2.2.2.1⟩)).mono ?_
 ·obtain⟨x,h3,h4⟩:=By.at_ h1;exact h4.rep CY zO (hr i x u h3 h2)
 rintro e w' ⟨v,r,L',S',rfl,gg,Lw,Jn,tv,b4,ho,ht,gd,eP,yc⟩;have Hm:∀b,b<w.heap.size->b∈g.ob\/b∈g.iF\/0<g.im b->w'.heap[b]? =w.heap[b]? :=fun b hb hx=>yc b hb fun hm=>by
  obtain⟨q1,q2,q3,_⟩:=iX b (by simp[hm]);rcases hx with h|h|h
  ·exact q2 h
  ·exact q3 h
  ·omega
 have hx:Ext g w s.A g w' s.A:=⟨fun _ _ h=>h,⟨fun _=>ZR _,fun b o ax=>by
  have hb:=hR.inv.EL ax;exact World.cell?_of_block (a:=⟨b,o,none⟩) (Hm b hb (.inr (.inr (by omega))))⟩,fun _ r h=>⟨r,h,rfl,ZR _,fun _=>rfl⟩⟩
 have QT:Inv g w' s.V s.A:=⟨hR.inv.oe,hR.inv.lq,fun l row b h1 h2=>hR.inv.ff hx h1 h2 (Hm b (hR.inv.qN h2) (.inl (Y0 h2))) (hR.inv.obj l row b h1 h2).1,
  fun k r v h1 h2=>hR.inv.fg hx h1 h2 (fun b hb=>Hm b (hR.inv.ma h2 hb) (.inr (.inl (Gh.iN h2 hb)))) (fun _ _=>rfl),hR.inv.jW,hR.inv.iE,hR.inv.iM,fun b hb=>hR.inv.fresh b (by omega)⟩
 have hX:∀b∈S1,w0.heap.size<=b\/b∈X:=fun b hb=>(iX b (by simp[hb])).2.2.2.2
 have hF:vv w0 g0 X w' g:=⟨ho.trans hR.fr.os,ht.trans hR.fr.tape,gd.trans hR.fr.output,ZU hR.fr.size eP,fun b h1 h2 h3 h4=>by
  rw[yc b (ZZ h1 hR.fr.size) (fun hm=>by rcases hX b hm with q|q;omega;exact h4 q)];exact hR.fr.pF b h1 h2 h3 h4,hR.fr.iO,hR.fr.ob,hR.fr.ar,hR.fr.vk,hR.fr.xR,hR.fr.Bw⟩
 have QU:gl w' L2 S2:=zO.dq fun b hb=>yc b (zO.lt b hb) fun hm=>fG b hm hb
 have NS:∀b∈g.ob,b<w.heap.size:=fun b hb=>by
  obtain⟨l,hl⟩:=Zg hb;exact hR.inv.qN hl
 have Gr:∀b∈g.iF,b<w.heap.size:=fun b hb=>by
  obtain⟨k,v,q1,q2⟩:=Gh.fw hb;exact hR.inv.ma q1 q2
 refine⟨v,r,L',S'++S2,rfl,gg,Lw,QT,hx,hF,gl.app.2 ⟨S',S2,rfl,Jn,QU⟩,YS.2 ⟨tv,(YS.1 l8).2.1,fun b hb c hc=>?_⟩,fun b hb=>?_⟩
 ·rintro rfl;rcases b4 b hb with q|q
  ·exact fG b q hc
  ·exact absurd (zO.lt b hc) (by omega)
 ·rcases YO.1 hb with hb|hb
  ·rcases b4 b hb with q|q
   ·exact iX b (by simp[q])
   ·refine⟨hR.inv.fresh b q,fun hm=>absurd (NS b hm) (by omega),fun hm=>absurd (Gr b hm) (by omega),fun hm=>?_,.inl (ZU hR.fr.size q)⟩;have:=(NO b hm).1;omega
  ·exact iX b (by simp[hb])
end
section
variable {P:Program} {n:Nat} {w0 w w':World} {g0 g g':Gh} {X S S':List Nat} {s s':St} {L L':Ts} {a a':Act} {Q:Exit->St->Ts->Prop} {x y:Code}
def bP (P:Program) (s:St) (L:Ts) (ow:Bool) (o:Oper) (K:AV->List (List CV)->List bu->Ts->Prop):Prop:=
 match o.op with
 |.call {callee:=.value f,args,.. }=>bM (bw s f) fun fv=>match fv with
  |.c (.fn fid cap)=>bM (gR s args.toList) fun xs=>lM P s L fid (xs++cap.map fun l=>.c (.ptr l 0)) K
  |_=>False
 |op=>eC P s ow op fun x V A=>K x V A L
theorem pR (hR:qE n w0 g0 X s L S g a w) {ow:Bool} {o:Oper} {K:AV->List (List CV)->List bu->Ts->Prop} (h:bP P s L ow o K) (next:Act->World->Prop) (Q:Exit->Act->World->Prop)
  (hn:∀x V' A' L' S' v w' g',K x V' A' L'->aR g' w' A' x v->Inv g' w' V' A'->Ext g w s.A g' w' A'->vv w0 g0 X w' g'->gl w' L' S'->S'.Nodup->(∀b∈S',g'.im b=0/\b∉g'.ob/\b∉g'.iF/\¬oC b/\(w0.heap.size<=b\/b∈X))->next (a.put o.dst v) w'):o.wp P a w next Q:=by
 have plain:bA P s ow o (fun x V A=>K x V A L)->o.wp P a w next Q:=by
  intro h;obtain⟨x,V',A',h1,h2⟩:=cW hR.inv (Fr.refl hR.fr.now) hR.slot h;exact h2 next Q fun v w' g' h3 h4 h5 h6=>hn x V' A' L S v w' g' h1 h3 h4 h5 (hR.fr.fr h6) (hR.wJ h6).1 hR.nd (hR.wJ h6).2
 unfold bP at h;split at h
 ·rename_i f args argTypes heq;refine ai h fun fv h1 h2=>?_
  split at h2
  ·rename_i fid cap;refine ai h2 fun xs h3 h4=>?_
   rcases h4 with h4|⟨as_,L1,L2,R,hp,By,hc,hK⟩
   ·refine plain ?_;unfold bA;rw[heq];simp only[h1,h3,bM];exact h4
   ·have Qs:=aI hR.slot h1;obtain⟨h5,h6⟩:=lB hR.slot h3;have TV:xs.length=args.size:=by rw[h5,Array.length_toList]
    obtain⟨bks,h7,h8,h9⟩:bc g w s.A (.fn fid cap) (a.eval f):=Qs;have oL:args.map a.eval++(bks.map fun b=>Value.pointer (some ⟨b,0,none⟩)).toArray=((args.toList.map a.eval)++bks.map fun b=>Value.pointer (some ⟨b,0,none⟩)).toArray:=by
     apply Array.ext';simp
    have gV:=Bx (vs:=((args.toList.map a.eval)++bks.map fun b=>Value.pointer (some ⟨b,0,none⟩)).toArray) hR hp By hc (by simp[h5,h8]) (fun i x u cv ep=>by
     simp only[List.getElem?_toArray]at ep;by_cases hi:i<xs.length
     ·rw[Zx hi]at cv;rw[Zx (by simp;omega)]at ep;exact h6 i x u cv ep
     ·rw[Y2 (by omega)]at cv;rw[Y2 (by simp;omega)]at ep;simp only[Zh,Z3]at cv ep;obtain⟨l,fG,rfl⟩:=cv;obtain⟨b,dn,rfl⟩:=ep;exact⟨b,h9 _ l b fG (by rw[<-dn];congr 1;simp[h5]),rfl⟩)
    have e0:(execOp a.eval o).run P w=.ok (.enter fid ((args.toList.map a.eval)++bks.map fun b=>Value.pointer (some ⟨b,0,none⟩)).toArray) w:=by
     simp only[execOp,heq,resolve,h7,Deferred.ofValue,Sem.run_bind,Sem.run_pure,Result.andThen_ok,invoke,Array.empty_append];rw[hc.1,oL]
    unfold Oper.wp;rw[e0];show Calls P fid _ w _;refine gV.mono ?_;rintro e w' ⟨v,r,L1',S',rfl,fX,qu,ry,AJ,rz,K5,IA,Nc⟩;exact hn r s.V s.A _ S' v w' g (hK r L1' fX) (qu g w' s.A) ry AJ rz K5 IA Nc
  ·exact h2.elim
 ·rename_i cY;refine plain ?_;unfold bA;split
  ·rename_i heq;exact absurd heq (cY _ _ _)
  ·exact h
theorem qE.put (h:qE n w0 g0 X s L S g a w) {dst:Option Tmp} (hd:∀d,dst=some d->d<n) {x:AV} {v:Value} {V':List (List CV)} {A':List bu} (hr:aR g' w' A' x v) (hI:Inv g' w' V' A') (hx:Ext g w s.A g' w' A') (hF:vv w0 g0 X w' g')
  (hT:gl w' L' S') (l8:S'.Nodup) (ho:∀b∈S',g'.im b=0/\b∉g'.ob/\b∉g'.iF/\¬oC b/\(w0.heap.size<=b\/b∈X)):qE n w0 g0 X (s.put dst x V' A') L' S' g' (a.put dst v) w':=by
 refine⟨hI,hF,?_,?_,fun t y hy=>?_,hT,l8,ho⟩
 ·cases dst<;>simp[Act.put,h.size]
 ·cases dst<;>simp[Act.put,h.defers]
 ·cases dst with
  |none=>
   obtain⟨u,h1,h2⟩:=h.slot t y hy;exact⟨u,h1,aR.ext hx h2⟩
  |some d=>
   have zt:=hd d rfl;simp only[St.put,look]at hy;by_cases e:t=d
   ·subst e;simp at hy;subst hy;refine⟨v,?_,hr⟩;have:t<a.tmps.size:=by rw[h.size];exact zt
    simp[Act.put,this]
   ·rw[if_neg e]at hy;obtain⟨u,h1,h2⟩:=h.slot t y hy;refine⟨u,?_,aR.ext hx h2⟩;simp only[Act.put];rw[ZJ (fun e'=>e e'.symm)];exact h1
structure jP (P:Program) (n:Nat) (all:Array Oper) (ow:Nat->Bool) (K:St->Ts->Prop) (i:Nat) (ops:List Oper) (s:St) (L:Ts):Prop where
 mk::
 run:cP n ops=true->∀(w0:World) (g0:Gh) (X S:List Nat) (g:Gh) (a:Act) (w:World) (Q:Exit->Act->World->Prop),qE n w0 g0 X s L S g a w->
  (∀s' L' S' g' a' w',K s' L'->qE n w0 g0 X s' L' S' g' a' w'->Q .normal a' w')->wpList P all Q ops a w
theorem ay {all:Array Oper} {ow:Nat->Bool} {K:St->Ts->Prop} {i:Nat} {o:Oper} {rest:List Oper} (h:ib all s o (bP P s L (ow i) o fun x V A L'=>jP P n all ow K (i+1) rest (s.put o.dst x V A) L') (jP P n all ow K (i+1) rest (s.put o.dst (.c .undef) s.V s.A) L)):jP P n all ow K i (o::rest) s L:=by
 refine⟨fun hd w0 g0 X S g a w Q hR hQ=>?_⟩;simp only[cP,ZD,ZE]at hd;have e5:∀d,o.dst=some d->d<n:=fun d e=>by have:=hd.1;rw[e]at this;simpa using this
 unfold wpList;rcases pK hR.rp h with⟨h1,h2⟩|⟨h1,h2⟩
 ·rw[if_pos h1];exact .inl (pR hR h2 _ _ fun x V' A' L' S' v w' g' h3 h4 h5 h6 h7 h8 h9 cv=>h3.run hd.2 w0 g0 X S' g' _ w' Q (hR.put e5 h4 h5 h6 h7 h8 h9 cv) hQ)
 ·rw[if_neg (by rw[h1];simp)];exact h2.run hd.2 w0 g0 X S g _ w Q (hR.put e5 (x:=.c .undef) (v:=undef) rfl hR.inv (.refl _ _ _) hR.fr hR.mu hR.nd hR.out) hQ
theorem aq {all:Array Oper} {ow:Nat->Bool} {K:St->Ts->Prop} {i:Nat} (h:K s L):jP P n all ow K i [] s L:=⟨fun _ _ _ _ S g a w _ hR hQ=>hQ s L S g a w h hR⟩
theorem jP.gen {all:Array Oper} {ow:Nat->Bool} {K:St->Ts->Prop} {i:Nat} {ops:List Oper} {d:Nat} {b:Bool} {fr:List (Nat×AV)} {V:List (List CV)} {A:List bu} (h:∀q:Bool,b=q->jP P n all ow K i ops ⟨(d,.c (.d (.bool q)))::fr,V,A⟩ L):jP P n all ow K i ops ⟨(d,.c (.d (.bool b)))::fr,V,A⟩ L:=h b rfl
@[congr] theorem Lx {all:Array Oper} {ow:Nat->Bool} {K:St->Ts->Prop} {i i':Nat} {ops:List Oper} (hi:i=i') (h:s=s'):jP P n all ow K i ops s L=jP P n all ow K i' ops s' L:=by rw[h,hi]
@[congr] theorem Kx {o:Oper} {ow:Bool} {K:AV->List (List CV)->List bu->Ts->Prop} (h:s=s'):bP P s L ow o K=bP P s' L ow o K:=by rw[h]
@[congr] theorem Jo {f:FuncId} {xs xs':List AV} {K:AV->List (List CV)->List bu->Ts->Prop} (hs:s=s') (hx:xs=xs'):lM P s L f xs K=lM P s' L f xs' K:=by subst hs;subst hx;rfl
theorem TJ.region {id:Nat} {ops:Array Oper} (ow:Nat->Bool) (h:jP P n ops ow (fun s' L'=>Q .normal s' L') 0 ops.toList s L):TJ P n (.region id ops false) Q s L:=by
 intro eU w0 g0 X S g a w hR;exact wp_region_list (h.run eU w0 g0 X S g a w _ hR fun s' L' S' g' a' w' h1 h2=>⟨s',g',L',S',h1,h2⟩)
theorem TJ.rs {id:Nat} {l:List Oper} (ow:Nat->Bool) (h:∀K:St->Ts->Prop,(∀s' L',TJ P n y Q s' L'->K s' L')->jP P n l.toArray ow K 0 l s L):TJ P n (.seq (.region id l.toArray false) y) Q s L:=
 TJ.seq (TJ.region ow (h _ fun _ _ h=>h))
theorem TJ.cw {id:Nat} {l:List Oper} (ow:Nat->Bool) (h:∀K:St->Ts->Prop,(∀s' L',Q .normal s' L'->K s' L')->jP P n l.toArray ow K 0 l s L):TJ P n (.region id l.toArray false) Q s L:=
 TJ.region ow (h _ fun _ _ h=>h)
def SK (P:Program) (n:Nat) (c:Code) (Q:Exit->St->Ts->Prop) (L:Ts):Exit->St->Prop
 |.normal,s=>TJ P n c Q s L
 |e,s=>Q e s L
variable {f:FuncId} {xs as_:List AV} {r:AV} {K:AV->List (List CV)->List bu->Ts->Prop}
theorem Fi (h:je P s f xs fun x V A=>K x V A L):lM P s L f xs K:=.inl h
theorem bx (b4:ja s.A [] xs=some as_) (hc:ah P f as_ [] r [] []) (hK:K (r.gn [] s.V.length s.A.length) s.V (bO s.A (bB xs)) L):lM P s L f xs K:=.inl (aa b4 hc hK)
theorem bT {R:AV->Ts->Prop} (By:dj L xs as_) (hc:aH P f as_ [] R) (hK:∀r L1,R r L1->K r s.V s.A (L1++L)):lM P s L f xs K:=.inr ⟨as_,[],L,R,by simp,By,hc,hK⟩
theorem aJ {R:AV->Ts->Prop} {L1 L2:Ts} (hp:L.Perm (L1++L2)) (By:dj L2 xs as_) (hc:aH P f as_ L1 R) (hK:∀r L1,R r L1->K r s.V s.A (L1++L2)):lM P s L f xs K:=.inr ⟨as_,L1,L2,R,hp,By,hc,hK⟩
def CV.eM:CV->Bool
 |.d x=>x.eM
 |.np=>true
 |_=>false
def AV.D5:AV->Bool
 |.c x=>x.eM
 |.agg xs=>xs.all CV.eM
 |.aZ _=>false
def AV.eM:AV->Bool
 |.aZ xs=>xs.all AV.D5
 |x=>x.D5
theorem CV.gY {c:CV} {v:Value} {A A':List bu} (hs:c.eM=true) (h:bc g w A c v):bc g' w' A' c v:=by
 cases c with
 |d x=>exact DV.gY hs h
 |np=>exact h
 |_=>simp[CV.eM]at hs
theorem AV.tz {x:AV} {v:Value} {A A':List bu} (hs:x.D5=true) (h:di g w A x v):di g' w' A' x v:=by
 cases x with
 |c x=>exact CV.gY hs h
 |agg xs=>
  obtain⟨vs,e,hl,hc⟩:=h;simp only[AV.D5,YR]at hs;exact⟨vs,e,hl,fun i x u h1 h2=>CV.gY (hs x (Y0 h1)) (hc i x u h1 h2)⟩
 |aZ _=>exact h.elim
theorem AV.gY {x:AV} {v:Value} {A A':List bu} (hs:x.eM=true) (h:aR g w A x v):aR g' w' A' x v:=by
 cases x with
 |aZ xs=>
  obtain⟨vs,e,hl,hc⟩:=h;simp only[AV.eM,YR]at hs;exact⟨vs,e,hl,fun i x u h1 h2=>AV.tz (hs x (Y0 h1)) (hc i x u h1 h2)⟩
 |c x=>exact AV.tz (x:=.c x) hs h
 |agg xs=>exact AV.tz (x:=.agg xs) hs h
theorem aH.Bz (hc:ah P f as_ [] r [] []) (hs:r.eM=true):aH P f as_ [] fun r' L'=>r'=r/\L'=[]:=by
 refine⟨hc.1,fun g w vs S h1 h2 hI hT hl hr hS l8 hz=>?_⟩;simp only[gl]at hS;subst hS;refine(hc.2.2 g w vs h2 hI hT hl hr).mono ?_;rintro e w' ⟨v,g',rfl,h3,h4,h5⟩;exact⟨v,r,[],[],rfl,⟨rfl,rfl⟩,fun g w A=>AV.gY hs h3,rfl,Y4,by simp,h5.os,h5.tape,h5.output,h5.size,fun b hb _=>h5.pF b hb (by simp[h1]) (by simp[Gh.iF,h2])⟩
theorem eZ (By:dj L xs as_) (hc:ah P f as_ [] r [] []) (hs:r.eM=true) (hK:K r s.V s.A L):lM P s L f xs K:=
 bT By (aH.Bz hc hs) (by rintro _ _ ⟨rfl,rfl⟩;exact hK)
theorem aH.plain (hc:aH P f as_ [] fun r' L'=>r'=r):ah P f as_ [] r [] []:=by
 refine⟨hc.1,ZR _,fun g w vs h2 hI hT hl hr=>?_⟩;have h1:g.ob=[]:=Y7.1 (by simpa using hI.oe);refine(hc.2 g w vs [] h1 h2 hI hT hl hr rfl Y4 (by simp)).mono ?_;rintro e w' ⟨v,r',L',S',rfl,rfl,h3,_,_,_,h4,h5,h6,h7,h8⟩;have ax:∀b o,o<g.im b->b<w.heap.size:=fun b o h=>hI.EL h
 refine⟨v,g,rfl,h3 g w' [],⟨hI.oe,hI.lq,fun l row b h=>by simp at h,fun k r v h=>by simp at h,hI.jW,hI.iE,hI.iM,fun b hb=>hI.fresh b (by omega)⟩,
  h4,h5,h6,h7,fun b hb _ _=>h8 b hb (by simp),fun _ _ _=>rfl,⟨[],by simp,by simp⟩,fun k v b h=>by rw[h2]at h;simp at h,fun k v h=>by rw[h2]at h;simp at h,hT⟩
end
def eu (k:Option (Nat×Nat×Value)):CV->Option CV
 |.d x=>if x.eM=true then some (.d x)else none
 |.np=>some .np
 |.nil=>some (.d (.raw (.slice none 0 0)))
 |.own j m=>match k with
  |some (i,m',v)=>if j=i/\m=m' then some (.d (.raw v))else none
  |none=>none
 |_=>none
def eN (k:Option (Nat×Nat×Value)):List CV->Option (List CV)
 |[]=>some []
 |c::r=>match eu k c,eN k r with
  |some d,some ds=>some (d::ds)
  |_,_=>none
def eG (k:Option (Nat×Nat×Value)):AV->Option AV
 |.c x=>(eu k x).map AV.c
 |.agg xs=>(eN k xs).map AV.agg
 |.aZ _=>none
def b8 (k:Option (Nat×Nat×Value)):List AV->Option (List AV)
 |[]=>some []
 |c::r=>match eG k c,b8 k r with
  |some d,some ds=>some (d::ds)
  |_,_=>none
section
variable {g g':Gh} {w w':World} {A A':List bu} {k:Option (Nat×Nat×Value)}
def Hn (g:Gh) (A:List bu) (k:Option (Nat×Nat×Value)):Prop:=∀i m v,k=some (i,m,v)->v.oneCell'=true/\∃r,A[i]? =some r/\m=r.rows.length/\g.ar[i]? =some v
theorem wK (hk:Hn g A k) {c d:CV} {u:Value} (h:eu k c=some d) (hr:bc g w A c u):bc g' w' A' d u:=by
 cases c with
 |d x=>
  simp only[eu]at h;split at h
  ·rename_i hs;simp at h;subst h;exact DV.gY hs hr
  ·cases h
 |np=>simp only[eu,Option.some.injEq]at h;subst h;exact hr
 |nil=>
  simp only[eu,Option.some.injEq]at h;subst h;simp only[bc]at hr;subst hr;exact⟨rfl,rfl⟩
 |own j m=>
  simp only[eu]at h;split at h
  ·rename_i i m' v;split at h
   ·rename_i e;obtain⟨rfl,rfl⟩:=e;simp at h;subst h;obtain⟨h1,r,h2,h3,h4⟩:=hk _ _ _ rfl;obtain⟨a,cap,_,r',h5,_,h6⟩:=hr;rw[h2]at h5;cases h5;have h7:=h6 h3;rw[h4]at h7;cases h7
    exact⟨rfl,h1⟩
   ·cases h
  ·cases h
 |_=>simp[eu]at h
theorem D6:∀{cs ds:List CV},eN k cs=some ds->ds.length=cs.length/\∀(j:Nat) c d,cs[j]? =some c->ds[j]? =some d->eu k c=some d
 |[],ds,h=>by simp[eN]at h;subst h;exact⟨rfl,fun j c d h=>by simp at h⟩
 |c::r,ds,h=>by
  simp only[eN]at h;split at h
  ·rename_i d ds' h1 h2;simp at h;subst h;obtain⟨h3,h4⟩:=D6 h2;refine⟨by simp[h3],fun j c' d' h5 h6=>?_⟩;cases j with
   |zero=>simp at h5 h6;subst h5;subst h6;exact h1
   |succ j=>simp at h5 h6;exact h4 j c' d' h5 h6
  ·simp at h
theorem BA:∀{cs ds:List AV},b8 k cs=some ds->ds.length=cs.length/\∀(j:Nat) c d,cs[j]? =some c->ds[j]? =some d->eG k c=some d
 |[],ds,h=>by simp[b8]at h;subst h;exact⟨rfl,fun j c d h=>by simp at h⟩
 |c::r,ds,h=>by
  simp only[b8]at h;split at h
  ·rename_i d ds' h1 h2;simp at h;subst h;obtain⟨h3,h4⟩:=BA h2;refine⟨by simp[h3],fun j c' d' h5 h6=>?_⟩;cases j with
   |zero=>simp at h5 h6;subst h5;subst h6;exact h1
   |succ j=>simp at h5 h6;exact h4 j c' d' h5 h6
  ·simp at h
theorem CZ (hk:Hn g A k) {c d:AV} {u:Value} (h:eG k c=some d) (hr:aR g w A c u):di g' w' A' d u:=by
 cases c with
 |c x=>
  simp only[eG,Z3]at h;obtain⟨y,h1,rfl⟩:=h;exact wK (w:=w) hk h1 hr
 |agg xs=>
  simp only[eG,Z3]at h;obtain⟨ys,h1,rfl⟩:=h;obtain⟨h2,h3⟩:=D6 h1;obtain⟨vs,e,hl,hc⟩:=hr;refine⟨vs,e,by omega,fun i y u h4 h5=>?_⟩;have hi:i<xs.length:=by have:=(YQ.1 h4).1;omega
  exact wK (w:=w) hk (h3 i _ y (YP hi) h4) (hc i _ u (YP hi) h5)
 |aZ _=>simp[eG]at h
theorem tA (hk:Hn g A k) {xs ys:List AV} {us:List Value} (h:b8 k xs=some ys) (hl:us.length=xs.length) (hr:∀(i:Nat) x u,xs[i]? =some x->us[i]? =some u->aR g w A x u):
  CX (one ys) (if h:us.toArray.size=1 then us.toArray[0]else .tuple us.toArray):=by
 obtain⟨h1,h2⟩:=BA h;have hE:∀(i:Nat) y u,ys[i]? =some y->us[i]? =some u->∀g w A,di g w A y u:=fun i y u h4 h5 g' w' A'=>by
  have hi:i<xs.length:=by have:=(YQ.1 h4).1;omega
  exact CZ (w:=w) hk (h2 i _ y (YP hi) h4) (hr i _ u (YP hi) h5)
 have cY:∀y∈ys,∀zs,y≠.aZ zs:=fun y hy zs e=>by
  subst e;obtain⟨i,hi⟩:=Zg hy;have EK:i<us.length:=by have:=(YQ.1 hi).1;omega
  exact hE i _ us[i] hi (YP EK) g w A
 intro g' w' A'
 match ys,us with
 |[y],[u]=>
  have:=hE 0 y u rfl rfl g' w' A';simp only[one,List.size_toArray,YU,Zc,ZV,dite_true,List.getElem_toArray,List.getElem_cons_zero];cases y with
  |aZ zs=>exact absurd rfl (cY _ (by simp) zs)
  |c x=>exact this
  |agg x=>exact this
 |[],us=>
  have:us=[]:=Y7.1 (by simp at h1;omega);subst this;exact⟨[],rfl,rfl,fun i x u h=>by simp at h⟩
 |y::z::r,us=>
  have eP:¬us.toArray.size=1:=by simp at h1⊢;omega
  rw[dif_neg eP];exact⟨us,rfl,by omega,fun i x u h3 h4=>hE i x u h3 h4 g' w' A'⟩
 |[y],[]=>simp at h1 hl;omega
 |[y],_::_::_=>simp at h1 hl;omega
end
def q0 (L:Ts):Prop:=∀p∈L,∃e sz,p=(.t e sz 0 [],.slice none 0 0)
theorem q0.mu {w:World}:∀{L:Ts},q0 L->gl w L []
 |[],_=>rfl
 |p::L,h=>by
  obtain⟨e,sz,rfl⟩:=h p (by simp);refine⟨[],[],rfl,?_,q0.mu fun q hq=>h q (by simp[hq])⟩;simp only[Tr];exact⟨[],[],⟨by simp,.inl ⟨rfl,rfl⟩⟩,by simp[iZ],rfl⟩
theorem q0.nil:q0 []:=fun p hp=>by cases hp
def bk (P:Program) (fn:Func) (R:AV->Ts->Prop) (e:Exit) (s:St) (L:Ts):Prop:=
 (e=.normal\/e=.ret)/\∃xs,fy P s fn.results.toList=some xs/\
  ((∃ys L' M Ln,b8 none xs=some ys/\q0 Ln/\(L++Ln).Perm (L'++M)/\R (one ys) L')\/
  (∃k r cs Lc L2 Ln,s.A[k]? =some r/\r.wr=true/\Mk cs r.rows.flatten Lc/\L.Perm (Lc++L2)/\q0 Ln/\
    ∀v,∃ys L' M,b8 (some (k,r.rows.length,v)) xs=some ys/\((.t r.dE r.sz r.rows.length cs,v)::L2++Ln).Perm (L'++M)/\R (one ys) L'))
section
variable {P:Program} {f:FuncId} {fn:Func} {c:Code} {as_:List AV} {L:Ts} {R:AV->Ts->Prop}
theorem BB {w:World} {e:TypeId} {sz n:Nat} {v:Value} {xs:List Value} (h:w.ownsRow 0 e sz v n xs):v.oneCell'=true:=by
 rcases h.2 with⟨rfl,_⟩|⟨g,cap,cur,rfl,_⟩<;>rfl
set_option maxHeartbeats 1000000 in
theorem aH.kg (hf:P.funcs[f]? =some fn) (mh:(fn.name== "runtime.NumGoroutine")=false) (hb:fn.body=some c) (eU:codeOk fn.ntmps c=true) (hn:as_.length<=fn.ntmps)
  (h:TJ P fn.ntmps c (bk P fn R) ⟨kU as_,[],[]⟩ L):aH P f as_ L R:=by
 refine⟨enters hf mh hb,fun g w vs S F7 K6 hI hT hl hr hS l8 hz=>calls_of_wp hf hb ?_⟩;have hR:qE fn.ntmps w g S ⟨kU as_,[],[]⟩ L S g {tmps:=vs++ZK (fn.ntmps-vs.size) undef,defers:=[]} w:=by
  refine⟨hI,vv.refl hT fun b hb=>(hz b hb).2,by simp;omega,rfl,fun t x hx=>?_,hS,l8,fun b hb=>⟨(hz b hb).1,by simp[F7],by simp[Gh.iF,K6],(hz b hb).2,.inr hb⟩⟩;obtain⟨_,hx⟩:=mV as_ 0 t x hx;rw[Z0]at hx;have ht:t<vs.size:=by have:=(YQ.1 hx).1;omega
  exact⟨vs[t],by rw[ZQ ht];simp[ht],hr t x _ hx (by simp[ht])⟩
 refine Go.wp_mono (h eU w g S S g _ w hR) ?_;rintro e a' w' ⟨s',g',L',S',⟨hex,xs,Lf,hd⟩,oh⟩;obtain⟨us,zn,Kf,e0⟩:=mU oh.inv oh.slot Lf;have oP:(results fn a'.tmps).run P w'=.ok (if h:us.toArray.size=1 then us.toArray[0]else .tuple us.toArray) w':=by
  rw[qT,Sem.run_bind,ZO];have hm:(Zm<$>fn.results.toList.mapM (mS a'.tmps)).run P w'=.ok us.toArray w':=by
   simp[e0]
  rw[hm]
  rfl
 have hF:=oh.fr
 have NT:∀(r:AV) (L'':Ts) (S'':List Nat),R r L''->CX r (if h:us.toArray.size=1 then us.toArray[0]else .tuple us.toArray)->gl w' L'' S''->S''.Nodup->(∀b∈S'',b∈S\/w.heap.size<=b)->
   a'.defers=[]/\∃v,(results fn a'.tmps).run P w'=.ok v w'/\∃v1 r L' S',Ending.returned v=.returned v1/\R r L'/\CX r v1/\gl w' L' S'/\S'.Nodup/\(∀b∈S',b∈S\/w.heap.size<=b)/\
    w'.os=w.os/\w'.tape=w.tape/\w'.output=w.output/\w.heap.size<=w'.heap.size/\∀b,b<w.heap.size->b∉S->w'.heap[b]? =w.heap[b]? :=
  fun r L'' S'' h1 h2 h3 h4 h5=>⟨oh.defers,_,oP,_,r,L'',S'',rfl,h1,h2,h3,h4,h5,hF.os,hF.tape,hF.output,hF.size,fun b hb NI=>hF.pF b hb (by simp[F7]) (by simp[Gh.iF,K6]) NI⟩
 have NU:∀b∈S',b∈S\/w.heap.size<=b:=fun b hb=>by rcases(oh.out b hb).2.2.2.2 with q|q;exact .inr q;exact .inl q
 have AR:a'.defers=[]/\∃v,(results fn a'.tmps).run P w'=.ok v w'/\∃v1 r L' S',Ending.returned v=.returned v1/\R r L'/\CX r v1/\gl w' L' S'/\S'.Nodup/\(∀b∈S',b∈S\/w.heap.size<=b)/\
    w'.os=w.os/\w'.tape=w.tape/\w'.output=w.output/\w.heap.size<=w'.heap.size/\∀b,b<w.heap.size->b∉S->w'.heap[b]? =w.heap[b]? :=by
  rcases hd with⟨ys,L1,M,Ln,h1,h2,h3,h4⟩|⟨k,r,cs,Lc,L2,Ln,hk,hw,vz,hp,kh,hv⟩
  ·have Jn:gl w' (L'++Ln) (S'++[]):=gl.app.2 ⟨S',[],rfl,oh.mu,h2.mu⟩;rw[Y3]at Jn;obtain⟨S1,h5,h6⟩:=Jn.perm h3;obtain⟨S2,S3,rfl,h7,_⟩:=gl.app.1 h6;refine NT (one ys) L1 S2 h4 (tA (g:=g') (A:=s'.A) (w:=w') (k:=none) (fun i m v e=>by cases e) h1 zn Kf) h7 (YS.1 (h5.nodup_iff.1 oh.nd)).1 fun b hb=>NU b (h5.mem_iff.2 (by simp[hb]))
  ·obtain⟨v,qC⟩:∃v,g'.ar[k]? =some v:=by
    have:k<g'.ar.length:=by rw[oh.inv.lq];exact(YQ.1 hk).1
    exact⟨_,YP this⟩
   obtain⟨hlen,qo,cells,c7,kT⟩:=oh.inv.arr k r v hk qC;obtain⟨ys,L1,M,h1,h3,h4⟩:=hv v;obtain⟨S0,h5,h6⟩:=oh.mu.perm hp;obtain⟨Sc,S2,rfl,h7,h8⟩:=gl.app.1 h6;have vm:cells.length=r.rows.flatten.length:=by
    have hx:∀(rows:List (List DV)),(∀row∈rows,row.length=r.sz)->rows.flatten.length=rows.length*r.sz:=by
     intro rows;induction rows with
     |nil=>simp
     |cons x xs ih=>intro hx;rw[Zi,Y1,hx x (by simp),ih (fun y hy=>hx y (by simp[hy])),YU,ZY];omega
    rw[c7.1,hx r.rows hlen]
   have Ps:=vz.NJ vm kT h7;have jT:Tr w' (.t r.dE r.sz r.rows.length cs) v (v.ownBlock.toList++Sc):=by
    simp only[Tr];exact⟨cells,Sc,c7,Ps,rfl⟩
   have Jn:gl w' ((.t r.dE r.sz r.rows.length cs,v)::L2++Ln) ((v.ownBlock.toList++Sc)++S2):=by
    refine⟨_,S2++[],by simp,jT,gl.app.2 ⟨S2,[],rfl,h8,kh.mu⟩⟩
   obtain⟨S1,h9,cv⟩:=Jn.perm h3;obtain⟨S4,S5,rfl,ep,_⟩:=gl.app.1 cv;have tv:(Sc++S2).Nodup:=h5.nodup_iff.1 oh.nd;have IP:∀b,v.ownBlock=some b->b∉Sc++S2/\(b∈S\/w.heap.size<=b):=fun b hb=>by
    refine⟨fun hm=>(oh.out b (h5.mem_iff.2 hm)).2.2.1 (Gh.iN qC hb),?_⟩;rcases hF.ar k v b qC hb with q|q|q
    ·exact .inr q
    ·simp[Gh.iF,K6]at q
    ·exact .inl q
   have Ho:((v.ownBlock.toList++Sc)++S2).Nodup:=by
    rw[YY];cases EY:v.ownBlock with
    |none=>simpa using tv
    |some b=>simpa using⟨by simpa using(IP b EY).1,by simpa using tv⟩
   refine NT (one ys) L1 S4 h4 (tA (g:=g') (A:=s'.A) (w:=w') (k:=some (k,r.rows.length,v)) (fun i m v' e=>by cases e;exact⟨BB c7,r,hk,rfl,qC⟩) h1 zn Kf) ep (YS.1 (h9.nodup_iff.1 Ho)).1 fun b hb=>?_
   have hm:b∈(v.ownBlock.toList++Sc)++S2:=h9.mem_iff.2 (by simp[hb]);rw[YY]at hm;rcases YO.1 hm with q|q
   ·exact(IP b (by simpa using q)).2
   ·exact NU b (h5.mem_iff.2 q)
 rcases hex with rfl|rfl<;>exact AR
theorem aH.ob {N:Nat} (hf:P.funcs[f]? =some fn) (hN:fn.ntmps=N) (hb:fn.body=some c) (h:TJ P N c (bk P fn R) ⟨kU as_,[],[]⟩ L) (mh:(fn.name== "runtime.NumGoroutine")=false:=by kernel_rfl) (eU:codeOk N c=true:=by kernel_rfl) (hn:as_.length<=N:=by simp):aH P f as_ L R:=by
 subst hN;exact aH.kg hf mh hb eU hn h
def BC (P:Program) (fn:Func) (dE:TypeId) (sz n:Nat) (R:AV->List GC->Prop) (e:Exit) (s:St) (L:Ts):Prop:=
 (e=.normal\/e=.ret)/\∃xs ys rows cs Lc M,fy P s fn.results.toList=some xs/\b8 none xs=some ys/\s.A[0]? =some ⟨sz,dE,rows,true⟩/\rows.length=n/\Mk cs rows.flatten Lc/\L.Perm (Lc++M)/\R (one ys) cs
set_option maxHeartbeats 1000000 in
theorem aH.BD {dE:TypeId} {sz n:Nat} {cs:List GC} {v:Value} {R:AV->List GC->Prop} (hf:P.funcs[f]? =some fn) (mh:(fn.name== "runtime.NumGoroutine")=false) (hb:fn.body=some c) (eU:codeOk fn.ntmps c=true) (hn:as_.length+1<=fn.ntmps)
  (uy:∀x,GC.d x∈cs->x.eM=true) (h:∀ds Lc,Mk cs ds Lc->ds.length=n*sz->TJ P fn.ntmps c (BC P fn dE sz n R) ⟨kU (.c (.own 0 n)::as_),[],[⟨sz,dE,chunks sz n ds,true⟩]⟩ Lc):
  aH P f (.c (.d (.raw v))::as_) [(.t dE sz n cs,v)] fun r L'=>∃cs',L'=[(.t dE sz n cs',v)]/\R r cs':=by
 refine⟨enters hf mh hb,fun g w vs S F7 K6 hI hT hl hr hS l8 hz=>calls_of_wp hf hb ?_⟩;obtain⟨S1,S2,rfl,jT,h0⟩:=hS;simp only[gl]at h0;subst h0;rw[Y3]at l8 hz;simp only[Tr]at jT;obtain⟨cells,Sc,c7,Ps,rfl⟩:=jT;obtain⟨ds,Lc,vz,NV,kT⟩:=iZ.mk uy Ps;have ES:ds.length=n*sz:=by rw[<-vz.len,Ps.len,c7.1]
 let gA:Gh:={ob:=[],ar:=[v],im:=g.im}
 have xV:∀b,v.ownBlock=some b->b∈v.ownBlock.toList++Sc:=fun b hb=>by simp[hb]
 have Uu:Inv gA w [] [⟨sz,dE,chunks sz n ds,true⟩]:=by
  refine⟨rfl,rfl,fun l row b h=>by simp at h,fun k r v' h1 h2=>?_,fun l l' b h=>by simp[gA]at h,fun k k' v1 v2 b h1 h2 _ _=>?_,fun l k v' b h=>by simp[gA]at h,hI.fresh⟩
  ·cases k with
   |zero=>
    simp[gA]at h1 h2;subst h1;subst h2;refine⟨wI ES,fun b hb=>by show g.im b<=_;rw[(hz b (xV b hb)).1];exact ZS _,cells,by simpa[nD]using c7,fun j x u h3 h4=>?_⟩;rw[ux ES]at h3;exact kT g.im j x u h3 h4
   |succ k=>simp at h1
  ·cases k with
   |zero=>cases k' with
    |zero=>rfl
    |succ k'=>simp[gA]at h2
   |succ k=>simp[gA]at h1
 have v8:∀b,b∈gA.iF->v.ownBlock=some b:=fun b hb=>by
  simp only[Gh.iF,gA,Za,Zp]at hb;obtain⟨x,rfl,h⟩:=hb;exact h
 have Uv:As w gA:=fun b hb=>by
  obtain⟨h1,_,_,h4⟩:=hT b hb;exact⟨h1,by simp[gA],fun hm=>(hz b (xV b (v8 b hm))).2 hb,h4⟩
 have hR:qE fn.ntmps w gA Sc ⟨kU (.c (.own 0 n)::as_),[],[⟨sz,dE,chunks sz n ds,true⟩]⟩ Lc Sc gA {tmps:=vs++ZK (fn.ntmps-vs.size) undef,defers:=[]} w:=by
  have GF:vs.size=as_.length+1:=by simpa using hl
  refine⟨Uu,vv.refl Uv fun b hb=>(hz b (by simp[hb])).2,by simp;omega,rfl,fun t x hx=>?_,NV,(YS.1 l8).2.1,fun b hb=>⟨(hz b (by simp[hb])).1,by simp[gA],fun hm=>?_,(hz b (by simp[hb])).2,.inr hb⟩⟩
  ·obtain⟨_,hx⟩:=mV _ 0 t x hx;rw[Z0]at hx;have ht:t<vs.size:=by have:=(YQ.1 hx).1;simp at this;omega
   refine⟨vs[t],by rw[ZQ ht];simp[ht],?_⟩;cases t with
   |zero=>
    simp at hx;subst hx;have hu:=hr 0 _ vs[0] rfl (by simp[ht]);simp only[aR,di,bc,a6]at hu;have x5:∃a cap,v=.slice a n cap:=by
     rcases c7.2 with⟨rfl,rfl⟩|⟨b,cap,cur,rfl,_⟩
     ·exact⟨_,_,rfl⟩
     ·exact⟨_,_,rfl⟩
    obtain⟨a,cap,jU⟩:=x5;rw[hu.1];exact⟨a,cap,jU,_,rfl,by simp[nD],fun _=>rfl⟩
   |succ t=>
    have fW:as_[t]? =some x:=by simpa using hx
    have E0:Ext g w [] gA w [⟨sz,dE,chunks sz n ds,true⟩]:=⟨fun l b h=>by rw[F7]at h;simp at h,.refl _ _,fun k r h=>by simp at h⟩;exact aR.ext E0 (hr (t+1) x _ (by simpa using fW) (by simp[ht]))
  ·have h2:=v8 b hm;exact(YS.1 l8).2.2 b (by simp[h2]) b hb rfl
 refine Go.wp_mono (h ds Lc vz ES eU w gA Sc Sc gA _ w hR) ?_;rintro e a' w' ⟨s',g',L',S',⟨hex,xs,ys,rows,cs',Lc',M,Lf,Ga,Qo,pH,QV,hp,gg⟩,oh⟩;obtain⟨us,zn,Kf,e0⟩:=mU oh.inv oh.slot Lf;have oP:(results fn a'.tmps).run P w'=.ok (if h:us.toArray.size=1 then us.toArray[0]else .tuple us.toArray) w':=by
  rw[qT,Sem.run_bind,ZO];have hm:(Zm<$>fn.results.toList.mapM (mS a'.tmps)).run P w'=.ok us.toArray w':=by
   simp[e0]
  rw[hm]
  rfl
 have hF:=oh.fr;obtain⟨v',qC,_,QW⟩:=hF.vk 0 v rfl;obtain⟨hlen,qo,cells',nR,D7⟩:=oh.inv.arr 0 _ v' Qo qC;obtain rfl:v'=v:=QW (by rw[l9 nR,l9 c7];exact pH);dsimp only at hlen nR D7;rw[pH]at nR;obtain⟨S0,h5,h6⟩:=oh.mu.perm hp;obtain⟨Sc',S2,rfl,h7,_⟩:=gl.app.1 h6;have vm:cells'.length=rows.flatten.length:=by
  have hx:∀(rows:List (List DV)),(∀row∈rows,row.length=sz)->rows.flatten.length=rows.length*sz:=by
   intro rows;induction rows with
   |nil=>simp
   |cons x xs ih=>intro hx;rw[Zi,Y1,hx x (by simp),ih (fun y hy=>hx y (by simp[hy])),YU,ZY];omega
  rw[nR.1,hx rows hlen,pH]
 have QY:=QV.NJ vm D7 h7;have jT:Tr w' (.t dE sz n cs') v' (v'.ownBlock.toList++Sc'):=by
  simp only[Tr];exact⟨cells',Sc',nR,QY,rfl⟩
 have tv:(Sc'++S2).Nodup:=h5.nodup_iff.1 oh.nd
 have AR:a'.defers=[]/\∃u,(results fn a'.tmps).run P w'=.ok u w'/\∃v1 r L'' S'',Ending.returned u=.returned v1/\(∃cs',L''=[(GC.t dE sz n cs',v')]/\R r cs')/\CX r v1/\gl w' L'' S''/\S''.Nodup/\(∀b∈S'',b∈(v'.ownBlock.toList++Sc)++[]\/w.heap.size<=b)/\
    w'.os=w.os/\w'.tape=w.tape/\w'.output=w.output/\w.heap.size<=w'.heap.size/\∀b,b<w.heap.size->b∉(v'.ownBlock.toList++Sc)++[]->w'.heap[b]? =w.heap[b]? :=by
  refine⟨oh.defers,_,oP,_,one ys,[(.t dE sz n cs',v')],v'.ownBlock.toList++Sc',rfl,⟨cs',rfl,gg⟩,tA (g:=g') (A:=s'.A) (w:=w') (k:=none) (fun i m v e=>by cases e) Ga zn Kf,⟨_,[],by simp,jT,rfl⟩,?_,fun b hb=>?_,hF.os,hF.tape,hF.output,hF.size,fun b hb NI=>hF.pF b hb (by simp[gA]) (fun hm=>NI (by simp[v8 b hm])) (fun hm=>NI (by simp[hm]))⟩
  ·have hx:∀b,v'.ownBlock=some b->b∉Sc':=fun b hb hm=>(oh.out b (h5.mem_iff.2 (by simp[hm]))).2.2.1 (Gh.iN qC hb)
   cases EY:v'.ownBlock with
   |none=>simpa using(YS.1 tv).1
   |some b=>simpa using⟨hx b EY,(YS.1 tv).1⟩
  ·rcases YO.1 hb with q|q
   ·exact .inl (by simp only[Y3,YO];exact .inl q)
   ·rcases(oh.out b (h5.mem_iff.2 (by simp[q]))).2.2.2.2 with q2|q2
    ·exact .inr q2
    ·exact .inl (by simp[q2])
 rcases hex with rfl|rfl<;>exact AR
end
theorem c4.cR {L:Ts} {c:GC} {v:Value} {x:DV} (h:(c,v)∈L) (e:c.dv=x/\c.pl=true):c4 L (.d (.raw v)) (.d x):=e.1▸c4.NN h e.2
mutual
def BE (e:TypeId):aF->List GC
 |.mk k l=>[.d (.i k),.t e 2 l.length (bZ e l)]
def bZ (e:TypeId):List aF->List GC
 |[]=>[]
 |t::r=>BE e t++bZ e r
end
def dt (e:TypeId) (l:List aF):GC:=.t e 2 l.length (bZ e l)
theorem mw (e:TypeId) (t:aF):BE e t=[.d (.i t.kind),dt e t.kids]:=by cases t;simp[BE,dt]
theorem q7:∀(l m:List GC),yj (l++m)=yj l++yj m
 |[],_=>rfl
 |x::l,m=>by simp[yj,q7 l m]
theorem lN {α:Type} {sz:Nat} (n:Nat) {r l:List α} (h:r.length=sz):chunks sz (n+1) (r++l)=r::chunks sz n l:=by
 simp only[chunks];rw[List.take_left' h,List.drop_left' h]
mutual
theorem Hp (e:TypeId):∀(t:aF),yj (BE e t)=b5 t
 |.mk k l=>by
  have:=tB e l;rw[mw,aN];simp only[yj,GC.dv,dt,aF.cb,aF.bD,this]
theorem tB (e:TypeId):∀(l:List aF),chunks 2 l.length (yj (bZ e l))=l.map b5
 |[]=>rfl
 |t::r=>by
  have h1:=Hp e t;have h2:=tB e r;rw[bZ,q7,h1,YU,lN _ (by rw[aN];rfl),h2,Zs]
end
theorem Hq (e:TypeId) (l:List aF):(dt e l).dv=.sl (l.map b5):=by
 simp only[dt,GC.dv,tB]
theorem q8:∀(l m:List GC),Bv (l++m)=(Bv l && Bv m)
 |[],_=>by simp[Bv]
 |x::l,m=>by simp[Bv,q8 l m,Bool.and_assoc]
mutual
theorem Hr (e:TypeId):∀(t:aF),Bv (BE e t)=true
 |.mk k l=>by
  have:=tC e l;rw[mw];simp only[Bv,GC.pl,dt,aF.bD,this,Bool.and_self]
theorem tC (e:TypeId):∀(l:List aF),Bv (bZ e l)=true
 |[]=>rfl
 |t::r=>by rw[bZ,q8,Hr e t,tC e r];rfl
end
theorem eh (e:TypeId) (l:List aF):(dt e l).dv=.sl (l.map b5)/\(dt e l).pl=true:=⟨Hq e l,by simp only[dt,GC.pl,tC]⟩
abbrev Fj (t:aF) (v:Value):List DV:=[.i t.kind,.raw v]
theorem kM (e:TypeId):∀{l:List aF} {vs:List Value},vs.length=l.length->Mk (bZ e l) (YT Fj l vs).flatten ((l.map fun t=>dt e t.kids).zip vs)
 |[],[],_=>.nil
 |t::r,v::vs,h=>by
  rw[bZ,mw];exact .d rfl (.t (kM e (by simpa using h)))
theorem qF (e:TypeId):∀{l:List aF} {ds:List DV} {L:Ts},Mk (bZ e l) ds L->∃vs:List Value,vs.length=l.length/\chunks 2 l.length ds=YT Fj l vs/\L=(l.map fun t=>dt e t.kids).zip vs
 |[],ds,L,h=>by
  rw[bZ]at h;cases h
  exact⟨[],rfl,rfl,rfl⟩
 |t::r,ds,L,h=>by
  rw[bZ,mw]at h;cases h with
  |d _ h=>
   cases h with
   | @t _ _ _ _ _ ds' L' v h=>
    obtain⟨vs,h1,h2,h3⟩:=qF e h;refine⟨v::vs,by simp[h1],?_,by rw[h3];rfl⟩;rw[YU,show DV.i t.kind::DV.raw v::ds'=[DV.i t.kind,DV.raw v]++ds' from rfl,lN (sz:=2) _ (r:=[DV.i t.kind,DV.raw v]) rfl,h2]
    rfl
theorem uz (e:TypeId):∀(l:List aF),∀x,GC.d x∈bZ e l->x.eM=true
 |[],x,h=>by simp[bZ]at h
 |t::r,x,h=>by
  rw[bZ,mw]at h;simp only[ZC,Y9,Y6,dt]at h;rcases h with h|h|h
  ·cases h;rfl
  ·cases h
  ·exact uz e r x h
def j9 {α β:Type} (f:α->β->List DV) (z:List DV) (l:List α) (vs:List β):List (List DV):=YT f l vs++Zo (l.length-vs.length) z
section
variable {α β:Type} {f:α->β->List DV} {z:List DV} {l:List α} {vs:List β}
theorem eV (h:vs.length<=l.length):(j9 f z l vs).length=l.length:=by simp[j9];omega
theorem wL:j9 f z l ([]:List β)=Zo l.length z:=by simp[j9]
theorem wM (h:vs.length=l.length):j9 f z l vs=YT f l vs:=by simp[j9,h]
theorem Fk (h:vs.length<l.length):(j9 f z l vs)[vs.length]? =some z:=by
 rw[j9,Y2 (by simp;omega),List.getElem?_replicate,if_pos (by simp;omega)]
theorem jQ (h:vs.length<l.length) (h':vs.length<(j9 f z l vs).length):(j9 f z l vs)[vs.length]=z:=by
 have:=Fk (f:=f) (z:=z) h;rw[YP h']at this;exact Option.some.inj this
theorem yQ {a:α} (h:l[vs.length]? =some a) (v:β):(j9 f z l vs).set vs.length (f a v)=j9 f z l (vs++[v]):=by
 obtain⟨h1,h2⟩:=YQ.1 h;have e2:l.length-vs.length=(l.length-(vs++[v]).length)+1:=by simp;omega
 have hz:(YT f l vs).length=vs.length:=by simp;omega
 rw[j9,j9,List.set_append_right _ _ (by omega),e2,hz,Nat.sub_self,List.replicate_succ,List.set_cons_zero];have e:YT f l (vs++[v])=YT f l vs++[f a v]:=by
  have hl:l=l.take vs.length++a::l.drop (vs.length+1):=by rw[<-h2,<-ZA h1,YV]
  have ht:(l.take vs.length).length=vs.length:=by simp;omega
  conv=>lhs;rw[hl]
  conv=>rhs;rw[hl]
  rw[Zl (by rw[ht])];rw[show vs=vs++([]:List β) by simp,Zl (by simp[ht])];simp
 rw[e,YY];rfl
theorem BF {γ:Type} {g:α->γ} {a:α} (h:l[vs.length]? =some a) (v:β):(l.map g).zip (vs++[v])=(l.map g).zip vs++[(g a,v)]:=by
 obtain⟨h1,h2⟩:=YQ.1 h;have hl:l.map g=(l.take vs.length).map g++g a::(l.drop (vs.length+1)).map g:=by
  rw[<-h2,<-Zs,<-List.map_append,<-ZA h1,YV]
 have ht:((l.take vs.length).map g).length=vs.length:=by rw[Zt,Zb];omega
 rw[hl];generalize (l.take vs.length).map g=A at ht;generalize (l.drop (vs.length+1)).map g=B;have e:(A++g a::B).zip (vs++[])=A.zip vs:=by rw[Zk ht];simp
 rw[Y3]at e;rw[e,Zk ht];simp
end
attribute [simp] bP eu eN eG b8
section
variable {P:Program} {fn:Func} {R:AV->Ts->Prop} {e:Exit} {s:St} {L L' M Lc:Ts} {r r':AV}
theorem bk.agg (he:e=.normal\/e=.ret) (hr:fy P s fn.results.toList=some [r]) (hs:b8 none [r]=some [r']) (hp:L.Perm (L'++M)) (hR:R r' L'):bk P fn R e s L:=
 ⟨he,[r],hr,.inl ⟨[r'],L',M,[],hs,.nil,by simpa using hp,hR⟩⟩
theorem bk.eM (he:e=.normal\/e=.ret) (hr:fy P s fn.results.toList=some [r]) (hs:b8 none [r]=some [r]) (hR:R r []):bk P fn R e s L:=
 bk.agg (L':=[]) (M:=L) he hr hs (by simp) hR
theorem bk.eq (he:e=.normal\/e=.ret) (hr:fy P s fn.results.toList=some [r]) (hs:b8 none [r]=some [r]):bk P fn (fun r' _=>r'=r) e s L:=bk.eM he hr hs rfl
theorem bk.tD {Ln:Ts} (he:e=.normal\/e=.ret) {rs rs':List AV} (hr:fy P s fn.results.toList=some rs) (hs:b8 none rs=some rs') (hn:q0 Ln) (hR:R (one rs') Ln):bk P fn R e s L:=
 ⟨he,rs,hr,.inl ⟨rs',Ln,L,Ln,hs,hn,List.perm_append_comm,hR⟩⟩
theorem bk.aZ (he:e=.normal\/e=.ret) {rs rs':List AV} (hr:fy P s fn.results.toList=some rs) (hs:b8 none rs=some rs') (hp:L.Perm (L'++M)) (hR:R (one rs') L'):bk P fn R e s L:=
 ⟨he,rs,hr,.inl ⟨rs',L',M,[],hs,.nil,by simpa using hp,hR⟩⟩
theorem bk.own {k n:Nat} {a:bu} {cs:List GC} (he:e=.normal\/e=.ret) (hr:fy P s fn.results.toList=some [.c (.own k n)]) (hA:s.A[k]? =some a) (hw:a.wr=true) (hn:n=a.rows.length) (vz:Mk cs a.rows.flatten Lc) (hp:L.Perm (Lc++M))
  (hR:∀v,R (.c (.d (.raw v))) [(.t a.dE a.sz a.rows.length cs,v)]):bk P fn R e s L:=by
 subst hn;exact⟨he,_,hr,.inr ⟨k,a,cs,Lc,M,[],hA,hw,vz,hp,.nil,fun v=>⟨[.c (.d (.raw v))],[(.t a.dE a.sz a.rows.length cs,v)],M,by simp,by simp,hR v⟩⟩⟩
end
section
variable {P:Program} {n:Nat} {Q:Exit->St->Ts->Prop} {s s':St} {L L':Ts} {c:Code}
theorem TJ.conv (h:∀(g:Gh) (a:Act) (w:World),Rp n w g s g a w->∃g',Rp n w g s' g' a w) (h2:TJ P n c Q s' L):TJ P n c Q s L:=by
 intro eU w0 g0 X S g a w hR;obtain⟨g',oh⟩:=h g a w hR.rp;exact h2 eU w0 g0 X S g' a w (hR.back oh)
theorem TJ.qS (t:Nat) (sz:Nat) (e:TypeId) (ht:look s.fr t=some (.c .nil)) (h:TJ P n c Q ⟨(t,.c (.own s.A.length 0))::s.fr,s.V,s.A++[⟨sz,e,[],true⟩]⟩ L):TJ P n c Q s L:=by
 refine TJ.conv (fun g a w hR=>?_) h
 obtain⟨g1,K4,pG,xX,e9,lu,jS⟩:=hR.inv.qO hR.fr {sz:=sz,dE:=e,rows:=[],wr:=true} (.slice none 0 0) [] (by simp) (World.ownsRow_nil w 0 e sz) (fun j x u h=>by simp at h) (fun b h=>by simp[Value.ownBlock]at h);refine⟨g1,e9,jS,hR.size,hR.defers,fun t' x hx=>?_⟩;simp only[look]at hx;by_cases e':t'=t
 ·subst e';simp at hx;subst hx;obtain⟨u,h1,h2⟩:=hR.slot t' _ ht;refine⟨u,h1,?_⟩;simp only[aR,di,bc]at h2;subst h2;exact⟨none,0,rfl,_,by simp;rfl,ZS _,fun _=>by rw[xX,Y2 (by rw[hR.inv.lq];exact ZR _),hR.inv.lq];simp⟩
 ·rw[if_neg e']at hx;obtain⟨u,h1,h2⟩:=hR.slot t' x hx;exact⟨u,h1,aR.ext lu h2⟩
theorem TJ.dK (l j:Nat) (sz:Nat) (e:TypeId) {row:List CV} (hl:s.V[l]? =some row) (hj:row[j]? =some .nil) (h:TJ P n c Q ⟨s.fr,s.V.set l (row.set j (.own s.A.length 0)),s.A++[⟨sz,e,[],true⟩]⟩ L):TJ P n c Q s L:=by
 refine TJ.conv (fun g a w hR=>?_) h
 obtain⟨g1,K4,pG,xX,e9,lu,jS⟩:=hR.inv.qO hR.fr {sz:=sz,dE:=e,rows:=[],wr:=true} (.slice none 0 0) [] (by simp) (World.ownsRow_nil w 0 e sz) (fun j x u h=>by simp at h) (fun b h=>by simp[Value.ownBlock]at h);refine⟨g1,?_,jS,hR.size,hR.defers,fun t' x hx=>?_⟩
 ·refine⟨by simpa using e9.oe,e9.lq,fun l' row' b h1 h2=>?_,e9.arr,e9.jW,e9.iE,e9.iM,e9.fresh⟩;have oJ:(s.V.set l (row.set j (.own s.A.length 0)))[l']? =some row':=h1;rw[dc hl]at oJ;by_cases e':l'=l
  ·subst e';simp at oJ;subst oJ;obtain⟨h3,cs,ty,h4,h5,h6⟩:=e9.obj l' row b hl h2;refine⟨h3,cs,ty,h4,by simpa using h5,fun i c u h7 h8=>?_⟩;rw[dc hj]at h7;by_cases e'':i=j
   ·subst e'';simp at h7;subst h7;have h9:=h6 i _ u hj h8;simp only[bc]at h9;subst h9;exact⟨none,0,rfl,_,by simp;rfl,ZS _,fun _=>by rw[xX,Y2 (by rw[hR.inv.lq];exact ZR _),hR.inv.lq];simp⟩
   ·rw[if_neg e'']at h7;exact h6 i c u h7 h8
  ·rw[if_neg e']at oJ;exact e9.obj l' row' b oJ h2
 ·obtain⟨u,h1,h2⟩:=hR.slot t' x hx;exact⟨u,h1,aR.ext lu h2⟩
theorem TJ.dr {α:Type} (ks:List Nat) (ph:α->List (Nat×AV)) (ob:α->List (Nat×List CV)) (G:α->List (List CV)) (ar:α->List bu->List bu) (tr:α->Ts) (m:α->Nat) (H:α->Prop) {fr0:List (Nat×AV)} (hk:iw ks s.fr=fr0)
  (h:∀a,H a->TJ P n c (CW (fun a=>⟨ph a++fr0,gI (ob a) s.V++G a,ar a s.A⟩) tr m H (m a) Q) ⟨ph a++fr0,gI (ob a) s.V++G a,ar a s.A⟩ (tr a)) (a:α) (ha:H a) (hV:gI (ob a) s.V++G a=s.V) (hA:ar a s.A=s.A) (hp:kk (ph a) s.fr) {M:Ts} (hL:L.Perm (tr a++M)):TJ P n (.loop c) Q s L:=by
 subst hk;exact TJ.fJ (fun a=>⟨ph a++iw ks s.fr,gI (ob a) s.V++G a,ar a s.A⟩) tr m H h a ha ⟨hV,hA,hp.app (yE ks s.fr)⟩ hL
end
end Go.Av
namespace Go.Av
open Go
def QZ (o:Oper):Oper:={o with dst:=none,op:=.assign (.const (.bool true)),guard:=none}
def SM (l:List Oper):List Oper:=match l.getLast? with
 |some o=>l.dropLast++[QZ o]
 |none=>[]
def Q0 (l:List Oper):Bool:=match l.getLast? with
 |some o=>o.guard.isNone &&(l.zipIdx.all fun(x,j)=>x.after.all fun e=> !Region.binds .any e||decide (e.on<j))&&(l.dropLast.all fun x=>match x.guard with|some (q,_)=>decide (q<l.length-1)|none=>true)
   &&((YN (l.length-1)).all fun k=>((aW l []).getD (l.length-1) 0).testBit k)
 |none=>false
section
variable {P:Program}
def Q1 (l:List Oper):List Oper:=match l.getLast? with
 |some o=>[o]
 |none=>[]
end
section
variable {P:Program} {n:Nat} {w0 w w':World} {g0 g g':Gh} {X S S':List Nat} {s s':St} {L L':Ts} {a a':Act} {x y:Code} {all:Array Oper} {ws:List Nat}
def pS (P:Program) (L:Ts) (f:FuncId) (xs:List AV) (K:AV->Ts->Prop):Prop:=∃(as_:List AV) (L1 L2:Ts) (R:AV->Ts->Prop),L.Perm (L1++L2)/\dj L2 xs as_/\aH P f as_ L1 R/\∀r L1',R r L1'->K r (L1'++L2)
def bN (P:Program) (s:St) (L:Ts) (o:Oper) (K:AV->Ts->Prop):Prop:=
 match o.op with
 |.call {callee:=.value f,args,.. }=>bM (bw s f) fun fv=>match fv with
  |.c (.fn fid [])=>bM (gR s args.toList) fun xs=>pS P L fid xs K
  |_=>False
 |_=>False
theorem pT {o:Oper} {K K':AV->Ts->Prop} (hk:∀x L,K x L->K' x L) (h:bN P s L o K):bN P s L o K':=by
 unfold bN at h⊢;split at h
 ·refine mZ (fun fv h1=>?_) h;split at h1
  ·exact mZ (fun xs ⟨as_,L1,L2,R,h2,h3,h4,h5⟩=>⟨as_,L1,L2,R,h2,h3,h4,fun r L1' hr=>hk _ _ (h5 r L1' hr)⟩) h1
  ·exact h1
 ·exact h
theorem o6 {cB:List (Nat×AV)} {V:List (List CV)} {A:List bu} {ow:Bool} {o:Oper} {K:AV->Ts->Prop} (he:∀x∈o.op.operands.toList,bw ⟨cB,V,A⟩ x=bw s x) (h:bN P s L o K):bP P ⟨cB,V,A⟩ L ow o fun x V' A' L'=>V'=V/\A'=A/\K x L':=by
 unfold bN at h;unfold bP;split at h
 ·rename_i f args VE heq;simp only[heq]at he⊢;have e1:bw ⟨cB,V,A⟩ f=bw s f:=he f (by simp[Op.operands,Call.operands]);have e2:gR ⟨cB,V,A⟩ args.toList=gR s args.toList:=lE fun p hp=>he p (by simp[Op.operands,Call.operands];exact .inr (by simpa using hp))
  rw[e1];refine mZ (fun fv h1=>?_) h;split at h1
  ·simp only[e2,List.map_nil,Y3];refine mZ (fun xs h2=>?_) h1;obtain⟨as_,L1,L2,R,h2,h3,h4,h5⟩:=h2;exact .inr ⟨as_,L1,L2,R,h2,h3,h4,fun r L1' hr=>⟨rfl,rfl,h5 r L1' hr⟩⟩
  ·exact h1.elim
 ·exact h.elim
def qG (P:Program) (ow:Nat->Bool) (ws cs:List Nat) (K:St->Ts->Prop):Nat->List Oper->St->Ts->Prop
 |_,[],s,L=>K s L
 |i,o::rest,s,L=>(i∈cs/\bN P s L o fun x L'=>qG P ow ws cs K (i+1) rest (s.put o.dst x s.V s.A) L')\/
   (i∉cs/\bA P s (ow i) o fun x V A=>(i∈ws\/(V=s.V/\A=s.A))/\qG P ow ws cs K (i+1) rest (s.put o.dst x V A) L)
def Jp (P:Program) (ow:Bool) (o:Oper) (s s':St):Prop:=∃x V A,s'=s.put o.dst x V A/\∀K:AV->List (List CV)->List bu->Prop,K x V A->bA P s ow o K
def MK (ws:List Nat) (j:Nat) (o:Oper) (s s':St):Prop:=∃x V A,s'=s.put o.dst x V A/\(j∈ws\/(V=s.V/\A=s.A))
theorem o7 {ow:Nat->Bool} {cs:List Nat} {K:St->Ts->Prop}:∀(ops:List Oper) (i:Nat) (s:St) (L:Ts),qG P ow ws cs K i ops s L->
  ∃(τ:Nat->St) (m:Nat),m<=ops.length/\τ 0=s/\(∀(j:Nat) o,j<m->ops[j]? =some o->Jp P (ow (i+j)) o (τ j) (τ (j+1))/\MK ws (i+j) o (τ j) (τ (j+1)))/\
   ((m=ops.length/\K (τ m) L)\/(i+m∈cs/\∃o,ops[m]? =some o/\bN P (τ m) L o fun x L'=>qG P ow ws cs K (i+m+1) (ops.drop (m+1)) ((τ m).put o.dst x (τ m).V (τ m).A) L'))
 |[],i,s,L,h=>⟨fun _=>s,0,ZR _,rfl,fun j o hj=>by omega,.inl ⟨rfl,h⟩⟩
 |o::rest,i,s,L,h=>by
  rcases h with⟨h1,h2⟩|⟨h1,h2⟩
  ·exact⟨fun _=>s,0,by simp,rfl,fun j o hj=>by omega,.inr ⟨h1,o,rfl,h2⟩⟩
  ·obtain⟨x,V,A,⟨h3,h4⟩,h5⟩:=jg h2;obtain⟨τ,m,k1,k2,k3,k4⟩:=o7 rest (i+1) _ L h4;refine⟨fun j=>match j with|0=>s|j+1=>τ j,m+1,by simp;omega,rfl,fun j o' hj ho=>?_,?_⟩
   ·cases j with
    |zero=>
     simp at ho;subst ho;exact⟨⟨x,V,A,k2,h5⟩,x,V,A,k2,h3⟩
    |succ j=>
     simp at ho;have:=k3 j o' (by omega) ho;rwa[show i+1+j=i+(j+1) by omega]at this
   ·rcases k4 with⟨k5,k6⟩|⟨k5,o',k6,k7⟩
    ·exact .inl ⟨by simp[k5],k6⟩
    ·refine .inr ⟨by rw[show i+(m+1)=i+1+m by omega];exact k5,o',by simpa using k6,?_⟩;rw[show i+(m+1)+1=i+1+m+1 by omega];exact k7
structure Fl (all:Array Oper) (ws:List Nat) (σ:Nat->St) (c:Nat):Prop where
 le:c<=all.size
 tr:∀(j:Nat) o,j<c->all[j]? =some o->MK ws j o (σ j) (σ (j+1))
section
variable {σ:Nat->St} {c:Nat} (hT:Fl all ws σ c) (qU:∀(i j:Nat) oi oj d,all[i]? =some oi->all[j]? =some oj->oi.dst=some d->oj.dst=some d->i=j)
include hT
theorem Fl.step {j:Nat} {o:Oper} {t:Nat} (hj:j<c) (h1:all[j]? =some o) (h2:o.dst≠some t):look (σ (j+1)).fr t=look (σ j).fr t:=by
 obtain⟨x,V,A,h3,_⟩:=hT.tr j o hj h1;rw[h3];simp only[St.put];cases qQ:o.dst with
 |none=>rfl
 |some d=>simp only[look];rw[if_neg (fun e=>h2 (by rw[qQ,e]))]
theorem Fl.NW:∀(j t:Nat),j<=c->(∀(i:Nat) o,i<j->all[i]? =some o->o.dst≠some t)->look (σ j).fr t=look (σ 0).fr t:=by
 have hc:=hT.le;intro j;induction j with
 |zero=>intro t _ _;rfl
 |succ j ih=>
  intro t hj gQ;have ho:all[j]? =some all[j]:=ZG (by omega);rw[hT.step (by omega) ho (gQ j _ (by omega) ho)];exact ih t (by omega) (fun i o hi=>gQ i o (by omega))
theorem Fl.VA:∀(b a:Nat),a<=b->b<=c->(∀i,a<=i->i<b->i∉ws)->(σ b).V=(σ a).V/\(σ b).A=(σ a).A:=by
 have hc:=hT.le;intro b;induction b with
 |zero=>
  intro a h _ _;obtain rfl:a=0:=by omega
  exact⟨rfl,rfl⟩
 |succ b ih=>
  intro a Pf hb gQ;by_cases e:a=b+1
  ·subst e;exact⟨rfl,rfl⟩
  ·have ho:all[b]? =some all[b]:=ZG (by omega);obtain⟨h1,h2⟩:=ih a (by omega) (by omega) (fun i hi EK=>gQ i hi (by omega));obtain⟨x,V,A,h3,h4⟩:=hT.tr b _ (by omega) ho;rcases h4 with h4|⟨h4,h5⟩
   ·exact absurd h4 (gQ b (by omega) (by omega))
   ·rw[h3];exact⟨h4.trans h1,h5.trans h2⟩
include qU
theorem Fl.NX:∀(j i:Nat) oi t,j<=c->i<j->all[i]? =some oi->oi.dst=some t->look (σ j).fr t=look (σ (i+1)).fr t:=by
 have hc:=hT.le;intro j;induction j with
 |zero=>intro i oi t _ h;omega
 |succ j ih=>
  intro i oi t hj kK aU b7;by_cases e:i=j
  ·subst e;rfl
  ·have ho:all[j]? =some all[j]:=ZG (by omega);rw[hT.step (by omega) ho (fun h=>e (qU i j oi _ t aU ho b7 h))];exact ih i oi t (by omega) (by omega) aU b7
end
structure Jb (w0:World) (g0:Gh) (X:List Nat) (L:Ts) (S:List Nat) (g:Gh) (w:World):Prop where
 fr:vv w0 g0 X w g
 mu:gl w L S
 nd:S.Nodup
 out:∀b∈S,g.im b=0/\b∉g.ob/\b∉g.iF/\¬oC b/\(w0.heap.size<=b\/b∈X)
theorem Jb.cB (h:Jb w0 g0 X L S g w) (k:Fr w g w' g'):Jb w0 g0 X L S g' w':=by
 have ax:=h.mu.lt;refine⟨h.fr.fr k,h.mu.dq fun b hb=>k.pF b (ax b hb) (h.out b hb).2.1 (h.out b hb).2.2.1,h.nd,fun b hb=>?_⟩;obtain⟨h1,h2,h3,h4,h5⟩:=h.out b hb;have QS:=ax b hb;refine⟨(k.iO b QS h3).trans h1,fun hm=>?_,fun hm=>?_,h4,h5⟩
 ·obtain⟨new,e,hn⟩:=k.ob;rw[e]at hm;rcases YO.1 hm with q|q
  ·exact h2 q
  ·exact absurd (hn b q) (by omega)
 ·obtain⟨i,v,q1,q2⟩:=Gh.fw hm;rcases k.ar i v b q1 q2 with q|q
  ·omega
  ·exact h3 q
set_option maxHeartbeats 2000000 in
theorem Fm {cs:List Nat} {ow:Nat->Bool} (hd:eE all ws=true) (Ly:∀(j:Nat) o,all[j]? =some o->o.guard=none) (e5:cP n all.toList=true) {σ:Nat->St} {c:Nat} (hT:Fl all ws σ c) {af:Array Bool} {k0:Nat} (hD:DS all ws σ n w g af k0 g a w) (gx:k0<=c) (mR:∀i,af[i]? =some true->i<c)
  {j:Nat} (hj:j∈Region.ready .any all af) (D8:j<=c) {o:Oper} (ho:all[j]? =some o) {next:Act->World->Prop} {Q:Exit->Act->World->Prop}:
  (j<c->Jp P (ow j) o (σ j) (σ (j+1))->(∀k1 v g' w',k1<=c->DS all ws σ n w' g' (af.setIfInBounds j true) k1 g' (a.put o.dst v) w'->Fr w g w' g'->next (a.put o.dst v) w')->wpOp P all Q j next a w)/\
  (j=c->cy o.op=false->j∉ws->Jb w0 g0 X L S g w->(∀K:AV->Ts->Prop,bN P (σ j) L o K->(∀x L' S' v g' w',K x L'->(∀σ':Nat->St,(∀i,i<=c->σ' i=σ i)->σ' (c+1)=(σ c).put o.dst x (σ c).V (σ c).A->DS all ws σ' n w' g' (af.setIfInBounds j true) k0 g' (a.put o.dst v) w')->Jb w0 g0 X L' S' g' w'->next (a.put o.dst v) w')->wpOp P all Q j next a w)):=by
 simp only[eE,ZE,YR]at hd;obtain⟨⟨gE,oG⟩,vp⟩:=hd;have cD:∀(j:Nat) o,all[j]? =some o->(o,j)∈all.toList.zipIdx:=fun j o h=>by
  rw[Y5];exact⟨j,by simp[Y8,h]⟩
 have cK:∀(j:Nat) o,all[j]? =some o->∀e∈o.after,Region.binds .any e=true->e.on<j:=fun j o h e he hb=>by
  have:=gE _ (cD j o h) e (ZI.2 he);simpa[hb]using this
 have bU:∀(i j:Nat) oi oj,all[i]? =some oi->all[j]? =some oj->i<j->bj all ws (aW all.toList []) oi oj i j=true:=fun i j oi oj h1 h2 ax=>by
  have:=oG _ (cD j oj h2) _ (cD i oi h1);simpa[ax]using this
 have ui:∀(j:Nat) o,all[j]? =some o->j∈ws->cy o.op=false:=fun j o h hj=>by
  have:=vp _ (cD j o h);simpa[hj]using this
 have fA:∀(i j:Nat) oi oj d,all[i]? =some oi->all[j]? =some oj->i<j->oi.dst=some d->oj.dst≠some d:=fun i j oi oj d h1 h2 ax h3 h4=>by
  have:=bU i j oi oj h1 h2 ax;simp[bj,h3,h4]at this
 have qU:∀(i j:Nat) oi oj d,all[i]? =some oi->all[j]? =some oj->oi.dst=some d->oj.dst=some d->i=j:=fun i j oi oj d h1 h2 h3 h4=>by
  rcases ZW i j with h|h|h
  ·exact absurd h4 (fA i j oi oj d h1 h2 h h3)
  ·exact h
  ·exact absurd h3 (fA j i oj oi d h2 h1 h h4)
 have zt:∀(j:Nat) o d,all[j]? =some o->o.dst=some d->d<n:=fun j o d h1 h2=>by
  have:=YR.1 e5 o (by rw[ZI];exact ZM h1);simpa[h2]using this
 obtain⟨F8,_,ye⟩:=e6 all.toList []
 have mj:∀{af:Array Bool},(∀(i:Nat) o,all[i]? =some o->af[i]? =some true->∀e∈o.after,Region.binds .any e=true->af[e.on]? =some true)->
   ∀(i:Nat) o,all[i]? =some o->(∀e∈o.after,Region.binds .any e=true->af[e.on]? =some true)->∀k,((aW all.toList []).getD i 0).testBit k=true->af[k]? =some true:=by
  intro af j3 i;induction i using ZX with
  |_ i ih=>
   intro o ho cm k hk;obtain⟨pre,h1,h2,h3⟩:=ye i o (by simpa using ho);simp only[Zc,ZV]at h1 h3;have h4:(aW all.toList []).getD i 0=mi pre o:=by simp[YX,h3]
   rw[h4]at hk;obtain⟨e,he,hb,h5⟩:=fz hk;have sI:=cm e he hb;rcases h5 with rfl|h5
   ·exact sI
   ·have ax:=cK i o ho e he hb;have h6:pre.getD e.on 0=(aW all.toList []).getD e.on 0:=by simp only[YX,h2 e.on (by omega)]
    rw[h6]at h5;have eP:e.on<all.size:=by have:=(ZH.1 ho).1;omega
    have uj:all[e.on]? =some all[e.on]:=ZG eP;exact ih e.on ax _ uj (j3 e.on _ uj sI) k h5
 have IG:=hT.le;have om:=hT.NW;have oo:=hT.NX qU;have s4:=hT.VA;obtain⟨ml,o2,l7,cm⟩:=mem_ready.1 hj;obtain rfl:o=o2:=by rw[ho]at l7;exact Option.some.inj l7
 have mo:=dU ml;have rv:j<all.size:=(ZH.1 ho).1;have iP:j<af.size:=by rw[hD.er];exact rv
 have ch:∀e∈o.after,Region.binds .any e=true->af[e.on]? =some true:=fun e he hb=>cl.1 (cm e he hb)
 have ca:∀k,((aW all.toList []).getD j 0).testBit k=true->af[k]? =some true:=mj hD.closed j o ho ch;have bR:∀(i:Nat) oi,all[i]? =some oi->af[i]? =some true->((aW all.toList []).getD i 0).testBit j=false:=fun i oi aU bt=>by
  cases hb:((aW all.toList []).getD i 0).testBit j with
  |false=>rfl
  |true=>have:=mj hD.closed i oi aU (hD.closed i oi aU bt) j hb;rw[mo]at this;simp at this
 have jh:∀t∈o.looksAt all,∀x,look (σ j).fr t=some x->∃u,a.tmps[t]? =some u/\aR g w (σ k0).A x u:=by
  intro t ht x hx;by_cases hex:∃(i:Nat) (oi:Oper),i<j/\all[i]? =some oi/\oi.dst=some t
  ·obtain⟨i,oi,kK,aU,b7⟩:=hex;rw[oo j i oi t (by omega) kK aU b7]at hx;have hp:=bU i j oi o aU ho kK;have s5:dk all oi o=true:=by simp only[dk,b7];simpa using ht
   simp only[bj,s5,ZE,ZF]at hp;have hb:((aW all.toList []).getD j 0).testBit i=true:=by simpa using hp.2
   exact hD.fH i oi t x aU (ca i hb) b7 hx
  ·rw[om j t (by omega) (fun i oi kK aU b7=>hex ⟨i,oi,kK,aU,b7⟩)]at hx;refine hD.fI t x (fun i oi aU bt b7=>?_) hx;rcases ZW i j with h|h|h
   ·exact hex ⟨i,oi,h,aU,b7⟩
   ·subst h;rw[mo]at bt;simp at bt
   ·have hp:=bU j i o oi ho aU h;have s5:dk all oi o=true:=by simp only[dk,b7];simpa using ht
    have hb:=bR i oi aU bt;simp only[bj,s5,hb,ZE,ZF]at hp;simp at hp
 let cB:=(σ j).fr.filter fun p=>(o.looksAt all).contains p.1
 have mJ:∀t,look cB t=if(o.looksAt all).contains t then look (σ j).fr t else none:=fun t=>eX (fun t=>(o.looksAt all).contains t) (σ j).fr t
 have hS:∀(V:List (List CV)),gU g w ⟨cB,V,(σ k0).A⟩ a:=fun V t x hx=>by
  simp only[mJ]at hx;split at hx
  ·rename_i hc;exact jh t (by simpa using hc) x hx
  ·cases hx
 have gd:∀(V V':List (List CV)) (A A':List bu),∀x∈o.op.operands.toList,bw ⟨cB,V,A⟩ x=bw ⟨(σ j).fr,V',A'⟩ x:=fun V V' A A' x hx=>by
  cases x with
  |tmp t=>
   simp only[bw,mJ];rw[if_pos];simp only[Oper.looksAt,Zj,decide_eq_true_eq,YO,Za];exact .inl ⟨.tmp t,hx,rfl⟩
  |_=>rfl
 have gg:Rp n w g ⟨cB,(σ k0).V,(σ k0).A⟩ g a w:=⟨hD.inv,hD.fr,hD.size,hD.defers,hS _⟩;have kV:Region.wanted o (yielded all a.tmps)=true:=by simp[Region.wanted,Ly j o ho]
 have bH:∀i,(af.setIfInBounds j true)[i]? =if i=j then some true else af[i]? :=fun i=>by
  by_cases e:i=j
  ·subst e;simp[iP]
  ·rw[if_neg e,ZJ (fun h=>e h.symm)]
 have cz:∀(σ':Nat->St) (k1:Nat) (x:AV) (v:Value) (w':World) (g':Gh),(∀i,i<=c->σ' i=σ i)->look (σ' (j+1)).fr=look ((σ j).put o.dst x [] []).fr->aR g' w' (σ k1).A x v->Inv g' w' (σ k1).V (σ k1).A->Ext g w (σ k0).A g' w' (σ k1).A->As w' g'->k1<=c->
   (∀i∈ws,i<all.size->((af.setIfInBounds j true)[i]? =some true↔i<k1))->DS all ws σ' n w' g' (af.setIfInBounds j true) k1 g' (a.put o.dst v) w':=by
  intro σ' k1 x v w' g' hσ Cm x9 hI hx hF hk E2;have ij:∀t u,o.dst≠some t->a.tmps[t]? =some u->(a.put o.dst v).tmps[t]? =some u:=fun t u cY hu=>by
   cases qQ:o.dst with
   |none=>exact hu
   |some d=>
    simp only[Act.put];rw[ZJ (fun e=>cY (by rw[qQ,e]))];exact hu
  refine⟨by rw[hσ k1 hk];exact hI,.refl hF,?_,?_,by simp[hD.er],fun i oi t y aU bt b7 hy=>?_,fun t y gQ hy=>?_,E2,by omega,fun i oi aU bt e he hb=>?_⟩
  ·cases o.dst<;>simp[Act.put,hD.size]
  ·cases o.dst<;>simp[Act.put,hD.defers]
  ·rw[hσ k1 hk];rw[bH]at bt;by_cases e:i=j
   ·subst e;obtain rfl:o=oi:=by rw[ho]at aU;exact Option.some.inj aU
    rw[Cm]at hy;simp only[St.put,b7,look,if_true]at hy;cases hy
    refine⟨v,?_,x9⟩;have:t<a.tmps.size:=by rw[hD.size];exact zt i o t ho b7
    simp[Act.put,b7,this]
   ·rw[if_neg e]at bt;rw[hσ (i+1) (mR i bt)]at hy;obtain⟨u,h1,h2⟩:=hD.fH i oi t y aU bt b7 hy;exact⟨u,ij t u (fun h=>e (qU i j oi o t aU ho b7 h)) h1,aR.ext hx h2⟩
  ·rw[hσ k1 hk];rw[hσ 0 (ZS _)]at hy;have cY:o.dst≠some t:=gQ j o ho (by rw[bH,if_pos rfl]);obtain⟨u,h1,h2⟩:=hD.fI t y (fun i oi aU bt=>gQ i oi aU (by
    rw[bH];by_cases e:i=j
    ·rw[if_pos e]
    ·rw[if_neg e];exact bt)) hy
   exact⟨u,ij t u cY h1,aR.ext hx h2⟩
  ·rw[bH]at bt⊢;have:af[e.on]? =some true:=by
    by_cases e':i=j
    ·subst e';obtain rfl:o=oi:=by rw[ho]at aU;exact Option.some.inj aU
     exact ch e he hb
    ·rw[if_neg e']at bt;exact hD.closed i oi aU bt e he hb
   by_cases e':e.on=j
   ·rw[if_pos e']
   ·rw[if_neg e'];exact this
 have gH:j∉ws->∀i∈ws,i<all.size->((af.setIfInBounds j true)[i]? =some true↔i<k0):=fun ea i hi b4=>by
  rw[bH,if_neg (fun e=>ea (by rw[<-e];exact hi))];exact hD.dT i hi b4
 have jU:cy o.op=false->(σ j).V=(σ k0).V/\(σ j).A=(σ k0).A:=by
  intro fq;rcases Z2 j k0 with h|h
  ·have:=s4 k0 j h gx (fun i h1 h2 h3=>by
    have b4:i<all.size:=by omega
    have bt:=(hD.dT i h3 b4).2 h2;have aU:all[i]? =some all[i]:=ZG b4;rcases ZT j i with h4|h4
    ·have hp:=bU j i o _ ho aU h4;have hb:=bR i _ aU bt;simp only[bj,hb,ZE,ZF]at hp;simp[h3,fq,-cy]at hp
    ·obtain rfl:i=j:=by omega
     rw[mo]at bt;simp at bt)
   exact⟨this.1.symm,this.2.symm⟩
  ·exact s4 j k0 h D8 (fun i h1 h2 h3=>by
    have b4:i<all.size:=by omega
    have aU:all[i]? =some all[i]:=ZG b4;have hp:=bU i j _ o aU ho h2;simp only[bj,ZE,ZF]at hp;have hb:((aW all.toList []).getD j 0).testBit i=true:=by
     rcases hp.2 with h4|h4
     ·simp[h3,fq,-cy]at h4
     ·exact h4
    have:=(hD.dT i h3 b4).1 (ca i hb);omega)
 unfold wpOp;simp only[ho];rw[if_pos kV];refine⟨fun ly jt ih=>.inl ?_,fun ly fq ea hJ K gV ih=>.inl ?_⟩
 ·obtain⟨x,V,A,h2,h3⟩:=jt;have oz:look (σ (j+1)).fr=look ((σ j).put o.dst x [] []).fr:=by rw[h2];rfl
  by_cases hs:cy o.op=true
  ·-- slots alone
   have ea:j∉ws:=fun h=>by have:=ui j o ho h;rw[hs]at this;simp at this
   have h4:bA P ⟨cB,(σ k0).V,(σ k0).A⟩ (ow j) o (fun y V' A'=>y=x/\V'=(σ k0).V/\A'=(σ k0).A):=mW (s:=σ j) (s':=⟨cB,(σ k0).V,(σ k0).A⟩) hs (gd _ _ _ _) h3 ⟨rfl,rfl,rfl⟩;obtain⟨y,V',A',⟨rfl,rfl,rfl⟩,h5⟩:=cW gg.inv gg.fr gg.slot h4;exact h5 _ _ fun v w' g' h6 h7 h8 h9=>ih k0 v g' w' gx (cz σ k0 y v w' g' (fun _ _=>rfl) oz h6 h7 h8 h9.now gx (gH ea)) h9
  ·have fq:cy o.op=false:=by simpa[-cy]using hs
   obtain⟨iG,gX⟩:=jU fq;have h4:bA P ⟨cB,(σ k0).V,(σ k0).A⟩ (ow j) o (fun y V' A'=>y=x/\V'=V/\A'=A):=by
    rw[<-iG,<-gX];exact dS (fr:=(σ j).fr) (gd _ _ _ _) (h3 _ ⟨rfl,rfl,rfl⟩)
   obtain⟨y,V',A',⟨rfl,rfl,rfl⟩,h5⟩:=cW gg.inv gg.fr gg.slot h4;have sJ:(σ (j+1)).V=V':=by rw[h2];rfl
   have iL:(σ (j+1)).A=A':=by rw[h2];rfl
   by_cases ea:j∈ws
   ·refine h5 _ _ fun v w' g' h6 h7 h8 h9=>ih (j+1) v g' w' ly (cz σ (j+1) y v w' g' (fun _ _=>rfl) oz (by rw[iL];exact h6) (by rw[sJ,iL];exact h7) (by rw[iL];exact h8) h9.now ly (fun i hi b4=>?_)) h9
    have aU:all[i]? =some all[i]:=ZG b4;rw[bH];by_cases e:i=j
    ·subst e;simp
    ·rw[if_neg e];constructor
     ·intro bt;rcases ZT j i with h|h
      ·have hp:=bU j i o _ ho aU h;have hb:=bR i _ aU bt;simp only[bj,hb,ZE,ZF]at hp;simp[hi,fq,-cy]at hp
      ·omega
     ·intro ax;have hp:=bU i j _ o aU ho (by omega);simp only[bj,ZE,ZF]at hp;rcases hp.2 with h|h
      ·simp[hi,fq,-cy]at h
      ·exact ca i h
   ·obtain⟨x2,V2,A2,q1,q2⟩:=hT.tr j o ly ho;rcases q2 with q2|⟨q2,q3⟩
    ·exact absurd q2 ea
    have pG:(σ (j+1)).V=(σ j).V:=by rw[q1];exact q2
    have l7:(σ (j+1)).A=(σ j).A:=by rw[q1];exact q3
    refine h5 _ _ fun v w' g' h6 h7 h8 h9=>ih k0 v g' w' gx (cz σ k0 y v w' g' (fun _ _=>rfl) oz ?_ ?_ ?_ h9.now gx (gH ea)) h9
    ·rw[<-gX,<-l7,iL];exact h6
    ·rw[<-iG,<-gX,<-pG,<-l7,sJ,iL];exact h7
    ·have e1:(σ k0).A=A':=by rw[<-gX,<-l7,iL]
     rw[e1]at h8⊢;exact h8
 ·-- the call
  subst ly;have NY:qE n w0 g0 X ⟨cB,(σ k0).V,(σ k0).A⟩ L S g a w:=⟨hD.inv,hJ.fr,hD.size,hD.defers,hS _,hJ.mu,hJ.nd,hJ.out⟩;obtain⟨iG,gX⟩:=jU fq;refine pR NY (o6 (s:=σ j) (ow:=ow j) (gd _ _ _ _) gV) _ _ ?_;rintro x V' A' L' S' v w' g' ⟨rfl,rfl,hk⟩ h6 h7 h8 h9 cv ep fG;refine ih x L' S' v g' w' hk (fun σ' hσ hn=>cz σ' k0 x v w' g' hσ (by rw[hn];rfl) h6 h7 h8 h9.now gx (gH ea)) ⟨h9,cv,ep,fG⟩
theorem yR (hd:eE all ws=true) {σ:Nat->St} (hT:Fl all ws σ all.size) {af:Array Bool} {k0:Nat} (hD:DS all ws σ n w g af k0 g a w) (cX:∀i,i<all.size->af[i]? =some true) (hJ:Jb w0 g0 X L S g w):qE n w0 g0 X (σ all.size) L S g a w:=by
 simp only[eE,ZE,YR]at hd;obtain⟨⟨gE,oG⟩,vp⟩:=hd;have cD:∀(j:Nat) o,all[j]? =some o->(o,j)∈all.toList.zipIdx:=fun j o h=>by
  rw[Y5];exact⟨j,by simp[Y8,h]⟩
 have cK:∀(j:Nat) o,all[j]? =some o->∀e∈o.after,Region.binds .any e=true->e.on<j:=fun j o h e he hb=>by
  have:=gE _ (cD j o h) e (ZI.2 he);simpa[hb]using this
 have bU:∀(i j:Nat) oi oj,all[i]? =some oi->all[j]? =some oj->i<j->bj all ws (aW all.toList []) oi oj i j=true:=fun i j oi oj h1 h2 ax=>by
  have:=oG _ (cD j oj h2) _ (cD i oi h1);simpa[ax]using this
 have ui:∀(j:Nat) o,all[j]? =some o->j∈ws->cy o.op=false:=fun j o h hj=>by
  have:=vp _ (cD j o h);simpa[hj]using this
 have fA:∀(i j:Nat) oi oj d,all[i]? =some oi->all[j]? =some oj->i<j->oi.dst=some d->oj.dst≠some d:=fun i j oi oj d h1 h2 ax h3 h4=>by
  have:=bU i j oi oj h1 h2 ax;simp[bj,h3,h4]at this
 have qU:∀(i j:Nat) oi oj d,all[i]? =some oi->all[j]? =some oj->oi.dst=some d->oj.dst=some d->i=j:=fun i j oi oj d h1 h2 h3 h4=>by
  rcases ZW i j with h|h|h
  ·exact absurd h4 (fA i j oi oj d h1 h2 h h3)
  ·exact h
  ·exact absurd h3 (fA j i oj oi d h2 h1 h h4)
 have jU:=hT.VA all.size k0 hD.mX (ZR _) (fun i h1 h2 h3=>by have:=(hD.dT i h3 h2).1 (cX i h2);omega);refine⟨by rw[jU.1,jU.2];exact hD.inv,hJ.fr,hD.size,hD.defers,fun t x hx=>?_,hJ.mu,hJ.nd,hJ.out⟩;rw[jU.2];by_cases hex:∃(i:Nat) (o:Oper),all[i]? =some o/\o.dst=some t
 ·obtain⟨i,o,ho,b7⟩:=hex;have hi:=(ZH.1 ho).1;rw[hT.NX qU all.size i o t (ZR _) hi ho b7]at hx;exact hD.fH i o t x ho (cX i hi) b7 hx
 ·rw[hT.NW all.size t (ZR _) (fun i o _ ho b7=>hex ⟨i,o,ho,b7⟩)]at hx;exact hD.fI t x (fun i o ho _ b7=>hex ⟨i,o,ho,b7⟩) hx
def kq (all:Array Oper) (ws cs:List Nat):Bool:=
 let l:=all.toList.zipIdx
 let ms:=aW all.toList []
 (cs.all fun c=> !ws.contains c && l.all fun(_,j)=> !(decide (c<j))||(ms.getD j 0).testBit c)&&(l.all fun(o,_)=>o.guard.isNone)&&(l.all fun(o,j)=> !cs.contains j|| !cy o.op)
theorem BG {cs:List Nat} {ow:Nat->Bool} {K:St->Ts->Prop} {Q:Exit->Act->World->Prop} (hd:eE all ws=true) (hc:kq all ws cs=true) (e5:cP n all.toList=true)
  (hQ:∀s' L' S' g' a' w',K s' L'->qE n w0 g0 X s' L' S' g' a' w'->Q .normal a' w'):
  ∀(fuel:Nat) (σ:Nat->St) (c:Nat) (L:Ts) (S:List Nat) (af:Array Bool) (k0:Nat) (g:Gh) (a:Act) (w:World),((YN all.size).filter fun i=> !af.getD i true).length<=fuel->Fl all ws σ c->k0<=c->
   (∀(j:Nat) o,j<c->all[j]? =some o->af[j]? ≠some true->Jp P (ow j) o (σ j) (σ (j+1)))->(∀i,af[i]? =some true->i<c)->
   ((c=all.size/\K (σ c) L)\/(c∈cs/\∃o,all[c]? =some o/\bN P (σ c) L o fun x L'=>qG P ow ws cs K (c+1) (all.toList.drop (c+1)) ((σ c).put o.dst x (σ c).V (σ c).A) L'))->
   DS all ws σ n w g af k0 g a w->Jb w0 g0 X L S g w->wpAny P .any all Q fuel af a w:=by
 have Ky:=hd;simp only[eE,ZE,YR]at hd;obtain⟨⟨gE,oG⟩,vp⟩:=hd;have cD:∀(j:Nat) o,all[j]? =some o->(o,j)∈all.toList.zipIdx:=fun j o h=>by
  rw[Y5];exact⟨j,by simp[Y8,h]⟩
 have cK:∀(j:Nat) o,all[j]? =some o->∀e∈o.after,Region.binds .any e=true->e.on<j:=fun j o h e he hb=>by
  have:=gE _ (cD j o h) e (ZI.2 he);simpa[hb]using this
 have bU:∀(i j:Nat) oi oj,all[i]? =some oi->all[j]? =some oj->i<j->bj all ws (aW all.toList []) oi oj i j=true:=fun i j oi oj h1 h2 ax=>by
  have:=oG _ (cD j oj h2) _ (cD i oi h1);simpa[ax]using this
 have ui:∀(j:Nat) o,all[j]? =some o->j∈ws->cy o.op=false:=fun j o h hj=>by
  have:=vp _ (cD j o h);simpa[hj]using this
 have fA:∀(i j:Nat) oi oj d,all[i]? =some oi->all[j]? =some oj->i<j->oi.dst=some d->oj.dst≠some d:=fun i j oi oj d h1 h2 ax h3 h4=>by
  have:=bU i j oi oj h1 h2 ax;simp[bj,h3,h4]at this
 have qU:∀(i j:Nat) oi oj d,all[i]? =some oi->all[j]? =some oj->oi.dst=some d->oj.dst=some d->i=j:=fun i j oi oj d h1 h2 h3 h4=>by
  rcases ZW i j with h|h|h
  ·exact absurd h4 (fA i j oi oj d h1 h2 h h3)
  ·exact h
  ·exact absurd h3 (fA j i oj oi d h2 h1 h h4)
 simp only[kq,ZE,YR]at hc;obtain⟨⟨rJ,zo⟩,Fo⟩:=hc;have Ly:∀(j:Nat) o,all[j]? =some o->o.guard=none:=fun j o h=>by
  have:=zo _ (cD j o h);simpa using this
 have Jq:∀c∈cs,c∉ws:=fun c h=>by simpa using(rJ c h).1
 have NZ:∀c∈cs,∀o,all[c]? =some o->cy o.op=false:=fun c h o ho=>by
  have:=Fo _ (cD c o ho);simpa[h,-cy]using this
 have IF:∀c∈cs,∀(j:Nat) o,all[j]? =some o->c<j->((aW all.toList []).getD j 0).testBit c=true:=fun c h j o ho ax=>by
  have:=(rJ c h).2 _ (cD j o ho);simpa[ax]using this
 have oX:∀{af:Array Bool},Region.ready .any all af=[]->af.size=all.size->∀i,i<all.size->af[i]? =some true:=by
  intro af hr wx i;induction i using ZX with
  |_ i ih=>
   intro hi;have ho:all[i]? =some all[i]:=ZG hi;have bt:i<af.size:=by omega
   cases hl:af[i]with
   |true=>rw[ZG bt,hl]
   |false=>
    exfalso
    have:i∈Region.ready .any all af:=mem_ready.2 ⟨by simp[bt,hl],_,ho,fun e he hb=>cl.2 (ih e.on (cK i _ ho e he hb) (by have:=cK i _ ho e he hb;omega))⟩;rw[hr]at this;simp at this
 have lx:∀{σ:Nat->St} {c:Nat} {L:Ts} {S:List Nat} {af:Array Bool} {k0:Nat} {g:Gh} {a:Act} {w:World},Fl all ws σ c->(∀i,af[i]? =some true->i<c)->
   ((c=all.size/\K (σ c) L)\/(c∈cs/\∃o,all[c]? =some o/\bN P (σ c) L o fun x L'=>qG P ow ws cs K (c+1) (all.toList.drop (c+1)) ((σ c).put o.dst x (σ c).V (σ c).A) L'))->
   DS all ws σ n w g af k0 g a w->Jb w0 g0 X L S g w->Region.ready .any all af=[]->Q .normal a w:=by
  intro σ c L S af k0 g a w hT mR hK hD hJ hr;have cX:=oX hr hD.er;rcases hK with⟨rfl,hK⟩|⟨vd,o,ho,_⟩
  ·exact hQ _ _ _ _ _ _ hK (yR Ky hT hD cX hJ)
  ·have b4:=(ZH.1 ho).1;have:=mR c (cX c b4);omega
 intro fuel;induction fuel with
 |zero=>
  intro σ c L S af k0 g a w hf hT gx q9 mR hK hD hJ;have kh:Region.ready .any all af=[]:=by
   have h0:((YN all.size).filter fun i=> !af.getD i true)=[]:=Zz (by omega);rcases hr:Region.ready .any all af with _|⟨j,r⟩
   ·rfl
   ·have hj:j∈Region.ready .any all af:=by rw[hr];simp
    obtain⟨h1,o,h2,_⟩:=mem_ready.1 hj;have:j∈((YN all.size).filter fun i=> !af.getD i true):=by
     rw[Zq,YW];exact⟨(ZH.1 h2).1,by simp[h1]⟩
    rw[h0]at this;simp at this
  exact⟨kh,lx hT mR hK hD hJ kh⟩
 |succ fuel ih=>
  intro σ c L S af k0 g a w hf hT gx q9 mR hK hD hJ;refine⟨fun hr=>lx hT mR hK hD hJ hr,fun j hj=>?_⟩;obtain⟨ml,o,ho,cm⟩:=mem_ready.1 hj;have mo:=dU ml;have rv:j<all.size:=(ZH.1 ho).1;have iP:j<af.size:=by rw[hD.er];exact rv
  have ch:∀e∈o.after,Region.binds .any e=true->af[e.on]? =some true:=fun e he hb=>cl.1 (cm e he hb)
  have bH:∀i,(af.setIfInBounds j true)[i]? =if i=j then some true else af[i]? :=fun i=>by
   by_cases e:i=j
   ·subst e;simp[iP]
   ·rw[if_neg e,ZJ (fun h=>e h.symm)]
  have cI:((YN all.size).filter fun i=> !(af.setIfInBounds j true).getD i true).length<=fuel:=by
   have ax:((YN all.size).filter fun i=> !(af.setIfInBounds j true).getD i true).length<((YN all.size).filter fun i=> !af.getD i true).length:=by
    have ga:∀i,(!(af.setIfInBounds j true).getD i true)=true->(!af.getD i true)=true:=fun i h=>by
     by_cases e:i=j
     ·subst e;simp[iP]at h
     ·have:(af.setIfInBounds j true).getD i true=af.getD i true:=by
       simp only[ZL,bH,if_neg e]
      rwa[this]at h
    exact filter_lt ga (YW.2 rv) (by simp[ml]) (by simp[iP])
   omega
  have D8:j<=c:=by
   rcases hK with⟨rfl,_⟩|⟨vd,oc,D9,_⟩
   ·omega
   ·rcases ZT c j with h|h
    ·have:=mR c (ny cK hD.closed j o ho ch c (IF c vd j o ho h));omega
    ·exact h
  obtain⟨one1,one2⟩:=Fm (cs:=cs) (w0:=w0) (g0:=g0) (X:=X) (L:=L) (S:=S) (ow:=ow) Ky Ly e5 hT hD gx mR hj D8 ho (next:=wpAny P .any all Q fuel (af.setIfInBounds j true)) (Q:=Q);rcases Nat.lt_or_eq_of_le D8 with ax|rfl
  ·refine one1 ax (q9 j o ax ho (by rw[mo];simp)) fun k1 v g' w' gF Je hF=>ih σ c L S _ k1 g' _ w' cI hT gF (fun i oi hi aU bt=>q9 i oi hi aU fun h=>bt ?_) (fun i hi=>?_) hK Je (hJ.cB hF)
   ·rw[bH];by_cases e:i=j
    ·rw[if_pos e]
    ·rw[if_neg e];exact h
   ·rw[bH]at hi;by_cases e:i=j
    ·subst e;exact ax
    ·rw[if_neg e]at hi;exact mR i hi
  ·rcases hK with⟨h,_⟩|⟨vd,oc,D9,gV⟩
   ·omega
   obtain rfl:o=oc:=by rw[ho]at D9;exact Option.some.inj D9
   refine one2 rfl (NZ j vd o ho) (Jq j vd) hJ _ gV fun x L' S' v g' w' hk N0 N1=>?_
   obtain⟨τ,m,k1,k2,k3,k4⟩:=o7 _ _ _ _ hk;have hlen:(all.toList.drop (j+1)).length=all.size-(j+1):=by simp
   let σ':Nat->St:=fun i=>if i<=j then σ i else τ (i-(j+1))
   have e1:∀i,i<=j->σ' i=σ i:=fun i hi=>by simp only[σ',if_pos hi]
   have e2:∀i,σ' (j+1+i)=τ i:=fun i=>by simp only[σ',if_neg (show¬j+1+i<=j by omega)];congr 1;omega
   have e3:∀i,(all.toList.drop (j+1))[i]? =all[j+1+i]? :=fun i=>by simp
   have jH:σ' (j+1)=(σ j).put o.dst x (σ j).V (σ j).A:=by rw[<-k2];exact e2 0
   refine ih σ' (j+1+m) L' S' _ k0 g' _ w' cI ⟨by omega,fun i oi hi aU=>?_⟩ (by omega) (fun i oi hi aU bt=>?_) (fun i hi=>?_) ?_ (N0 σ' e1 jH) N1
   ·rcases ZW i j with h|h|h
    ·rw[e1 i (by omega),e1 (i+1) (by omega)];exact hT.tr i oi h aU
    ·subst h;obtain rfl:o=oi:=by rw[ho]at aU;exact Option.some.inj aU
     rw[e1 i (by omega),jH];exact⟨x,_,_,rfl,.inr ⟨rfl,rfl⟩⟩
    ·obtain⟨q,rfl⟩:∃q,i=j+1+q:=⟨i-(j+1),by omega⟩;rw[e2 q,show j+1+q+1=j+1+(q+1) by omega,e2 (q+1)];exact(k3 q oi (by omega) (by rw[e3];exact aU)).2
   ·rw[bH]at bt;by_cases e:i=j
    ·rw[if_pos e]at bt;simp at bt
    ·rw[if_neg e]at bt;rcases ZT i j with h|h
     ·rw[e1 i (by omega),e1 (i+1) (by omega)];exact q9 i oi h aU bt
     ·obtain⟨q,rfl⟩:∃q,i=j+1+q:=⟨i-(j+1),by omega⟩;rw[e2 q,show j+1+q+1=j+1+(q+1) by omega,e2 (q+1)];exact(k3 q oi (by omega) (by rw[e3];exact aU)).1
   ·rw[bH]at hi;by_cases e:i=j
    ·omega
    ·rw[if_neg e]at hi;have:=mR i hi;omega
   ·rcases k4 with⟨h1,h2⟩|⟨h1,oc,h2,h3⟩
    ·exact .inl ⟨by omega,by rw[e2];exact h2⟩
    ·refine .inr ⟨h1,oc,by rw[<-e3];exact h2,?_⟩;rw[e2];rw[ZB,show j+1+(m+1)=j+1+m+1 by omega]at h3;exact h3
end
def ee (l:List Oper) (p:List Nat):List Oper:=p.map fun i=>l.getD i default
def ic (p:List Nat) (o:Oper):Oper:={o with after:=o.after.map fun e=>{e with on:=p.idxOf e.on}}
def bG (l:List Oper) (p:List Nat):List Oper:=(ee l p).map (ic p)
def jZ (l:List Oper) (p:List Nat):Bool:=p.length==l.length && p.all (fun i=>decide (i<l.length))&&(YN l.length).all (fun i=>p.contains i)&& l.all (fun o=>o.guard.isNone)&&(YN p.length).all (fun j=>p.idxOf (p.getD j 0)==j)
section
variable {P:Program} {l:List Oper} {p:List Nat} {md:Region.Mode} {Q:Exit->Act->World->Prop}
theorem iB (h:jZ l p=true):p.length=l.length/\(∀i∈p,i<l.length)/\(∀i,i<l.length->i∈p)/\(∀o∈l,o.guard=none)/\∀j,j<p.length->p.idxOf (p.getD j 0)=j:=by
 simp only[jZ,ZE,YR]at h;obtain⟨⟨⟨⟨h1,h2⟩,h3⟩,h4⟩,h5⟩:=h;refine⟨by simpa using h1,fun i hi=>by simpa using h2 i hi,fun i hi=>by simpa using h3 i (YW.2 hi),fun o ho=>by simpa using h4 o ho,fun j hj=>by simpa using h5 j (YW.2 hj)⟩
theorem da:(bG l p).length=p.length:=by simp[bG,ee]
theorem wN (h:jZ l p=true) {i:Nat} {o:Oper} (ho:l[i]? =some o):(bG l p)[p.idxOf i]? =some (ic p o):=by
 obtain⟨h1,h2,h3,h4,h5⟩:=iB h;have hi:=(YQ.1 ho).1;have hx:p[p.idxOf i]? =some i:=by
  have ax:=Ze (h3 i hi);rw[YP ax,Zf ax]
 simp only[bG,ee,Zr,Zh,hx,Z4,Function.comp];rw[Zy,ho];rfl
theorem ku (h:jZ l p=true) {j:Nat} {o':Oper} (ho:(bG l p)[j]? =some o'):∃o,l[p.getD j 0]? =some o/\o'=ic p o/\p[j]? =some (p.getD j 0):=by
 obtain⟨h1,h2,h3,h4,h5⟩:=iB h;have hj:j<p.length:=by have:=(YQ.1 ho).1;rwa[da]at this
 have e:p.getD j 0=p[j]:=by simp[YX,hj]
 have ax:=h2 p[j] (List.getElem_mem hj);simp only[bG,ee,Zr,Zh,YP hj,Z4,Function.comp,Option.some.injEq]at ho;refine⟨l[p[j]],by rw[e];exact YP ax,?_,by rw[e];exact YP hj⟩;rw[<-ho,Zy,YP ax];rfl
theorem lO {α:Type} {l:Array α} {i:Nat} {d:α}:l.getD i d=(l[i]?).getD d:=ZL
theorem re (h:jZ l p=true):∀(fuel:Nat) (af listed':Array Bool) (a:Act) (w:World),af.size=l.length->listed'.size=l.length->(∀i,listed'[p.idxOf i]? =af[i]?)->wpAny P md (bG l p).toArray Q fuel listed' a w->wpAny P md l.toArray Q fuel af a w:=by
 obtain⟨h1,h2,h3,h4,h5⟩:=iB h;have hr:∀(af listed':Array Bool),(∀i,listed'[p.idxOf i]? =af[i]?)->∀j,j∈Region.ready md l.toArray af->p.idxOf j∈Region.ready md (bG l p).toArray listed':=fun af listed' wO j hj=>by
  obtain⟨q1,o,q2,q3⟩:=mem_ready.1 hj;refine mem_ready.2 ⟨by rw[lO,wO,<-lO];exact q1,ic p o,?_,fun e' he hb=>?_⟩
  ·have:=wN h (i:=j) (o:=o) (by simpa using q2);simpa using this
  ·simp only[ic,ZN]at he;obtain⟨e,sI,rfl⟩:=he;have:=q3 e sI hb;rw[lO,wO,<-lO];exact this
 have Cs:∀(af listed':Array Bool),(∀i,listed'[p.idxOf i]? =af[i]?)->listed'.size=l.length->Region.ready md l.toArray af=[]->Region.ready md (bG l p).toArray listed'=[]:=fun af listed' wO eP hn=>by
  cases hx:Region.ready md (bG l p).toArray listed' with
  |nil=>rfl
  |cons j r=>
   exfalso
   have hj:j∈Region.ready md (bG l p).toArray listed':=by rw[hx];simp
   obtain⟨q1,o',q2,q3⟩:=mem_ready.1 hj;obtain⟨o,q4,rfl,q5⟩:=ku h (j:=j) (o':=o') (by simpa using q2);have Uw:j<p.length:=(YQ.1 q5).1;have hi:=h5 j Uw;have IH:listed'[j]? =af[p.getD j 0]? :=by rw[<-wO,hi]
   have b4:p.getD j 0∈Region.ready md l.toArray af:=by
    refine mem_ready.2 ⟨by rw[lO,<-IH,<-lO];exact q1,o,by simpa using q4,fun e he hb=>?_⟩;have:=q3 {e with on:=p.idxOf e.on} (by simp only[ic,ZN];exact⟨e,he,rfl⟩) hb;rw[lO,<-wO,<-lO];exact this
   rw[hn]at b4;simp at b4
 intro fuel;induction fuel with
 |zero=>
  intro af listed' a w s1 s2 wO hh;refine⟨?_,hh.2⟩;cases hx:Region.ready md l.toArray af with
  |nil=>rfl
  |cons j r=>
   have:=hr af listed' wO j (by rw[hx];simp);rw[hh.1]at this;simp at this
 |succ fuel ih=>
  intro af listed' a w s1 s2 wO hh;refine⟨fun h0=>hh.1 (Cs af listed' wO s2 h0),fun j hj=>?_⟩;have gd:=hh.2 _ (hr af listed' wO j hj);obtain⟨q1,o,q2,q3⟩:=mem_ready.1 hj;have q2':l[j]? =some o:=by simpa using q2
  have rv:=(YQ.1 q2').1;have q4:(bG l p).toArray[p.idxOf j]? =some (ic p o):=by simpa using wN h q2'
  have N2:o.guard=none:=h4 o (Y0 q2');have hK:∀a w,wpAny P md (bG l p).toArray Q fuel (listed'.setIfInBounds (p.idxOf j) true) a w->wpAny P md l.toArray Q fuel (af.setIfInBounds j true) a w:=fun a w=>by
   refine ih _ _ a w (by simp[s1]) (by simp[s2]) fun i=>?_
   have ax:=Ze (h3 j rv);rw[ZP,ZP];by_cases e:j=i
   ·subst e;rw[if_pos rfl,if_pos rfl,if_pos (by omega),if_pos (by omega)]
   ·rw[if_neg e,if_neg (fun e'=>?_),wO];have hx:p[p.idxOf j]? =some j:=by rw[YP ax,Zf ax]
    have eR:p.idxOf i<p.length:=by omega
    have hy:p[p.idxOf i]? =some i:=by rw[YP eR,Zf eR]
    rw[<-e',hx]at hy;exact e (Option.some.inj hy)
  unfold wpOp at gd⊢;simp only[q4]at gd;simp only[q2];rw[if_pos (by simp[Region.wanted,ic,N2])]at gd;rw[if_pos (by simp[Region.wanted,N2])];rcases gd with gd|⟨gd,hl⟩
  ·exact .inl (Oper.wp_mono hK gd)
  ·exact .inr ⟨gd,hl⟩
end
section
variable {P:Program} {n:Nat} {s s':St} {L L':Ts} {x y:Code} {ws cs:List Nat} {ow:Nat->Bool} {K:St->Ts->Prop}
theorem wP (p:List Nat):∀(ops:List Oper) (i:Nat) (s:St) (L:Ts),qG P ow ws cs K i ops s L->qG P ow ws cs K i (ops.map (ic p)) s L
 |[],_,_,_,h=>h
 |o::rest,i,s,L,h=>by
  rcases h with⟨h1,h2⟩|⟨h1,h2⟩
  ·exact .inl ⟨h1,pT (o:=o) (fun x L' h=>wP p rest _ _ _ h) h2⟩
  ·exact .inr ⟨h1,fN (o:=o) (fun x V A h=>⟨h.1,wP p rest _ _ _ h.2⟩) h2⟩
theorem TJ.sd {Q:Exit->St->Ts->Prop} {id:Nat} {l:List Oper} (hm:P.follows .mixedOrders=true) (p:List Nat) (ow:Nat->Bool) (ws cs:List Nat) (hp:jZ l p=true) (hd:eE (bG l p).toArray ws=true) (hc:kq (bG l p).toArray ws cs=true)
  (h:qG P ow ws cs (fun s' L'=>Q .normal s' L') 0 (ee l p) s L):TJ P n (.region id l.toArray true) Q s L:=by
 obtain⟨p1,p2,p3,p4,p5⟩:=iB hp;intro eU w0 g0 X S g a w hR;have C0:cP n (bG l p).toArray.toList=true:=by
  have hx:cP n l=true:=by simpa[codeOk]using eU
  simp only[cP,YR]at hx⊢;intro o' sG;obtain⟨j,hj⟩:=Zg sG;obtain⟨o,q1,rfl,_⟩:=ku hp (j:=j) (o':=o') (by simpa using hj);exact hx o (Y0 q1)
 obtain⟨τ,m,k1,k2,k3,k4⟩:=o7 (ee l p|>.map (ic p)) 0 s L (wP p _ _ _ _ h);obtain⟨hI,hx⟩:=hR.inv.heap (w':={w with drawn:=w.drawn+1}) rfl;have hF:Fr w g {w with drawn:=w.drawn+1} g:=(Fr.refl hR.fr.now).heap rfl rfl rfl rfl;have hJ:Jb w0 g0 X L S g {w with drawn:=w.drawn+1}:=(Jb.mk hR.fr hR.mu hR.nd hR.out).cB hF;have eP:(bG l p).toArray.size=l.length:=by simp[da,p1]
 have vO:∀(i:Nat),(bG l p).toArray[i]? =(bG l p)[i]? :=fun i=>by simp
 refine wp_region_any hm (re hp _ _ (ZK l.length false) a _ (by simp) (by simp) (fun i=>?_) (BG (K:=fun s' L'=>Q .normal s' L') (ow:=ow) hd hc C0 (fun s' L' S' g' a' w' h1 h2=>⟨s',g',L',S',h1,h2⟩) _ τ m L S _ 0 g a _ ?_ ?_ (ZS _) ?_ ?_ ?_ ?_ hJ))
 ·simp only[Array.getElem?_replicate];by_cases hi:i<l.length
  ·have:=Ze (p3 i hi);rw[if_pos (by omega),if_pos (by simpa using hi)]
  ·have N3:i∉p:=fun h=>hi (p2 i h)
   rw[if_neg (by rw[List.idxOf_eq_length N3];omega),if_neg (by simpa using hi)]
 ·refine ZU (Zu _ _) (by simp[da,p1])
 ·refine⟨by rw[eP,<-p1,<-da (l:=l)];exact k1,fun j o hj ho=>?_⟩;have:=(k3 j o hj (by rw[vO]at ho;exact ho)).2;simpa only[ZV]using this
 ·intro j o hj ho _;have:=(k3 j o hj (by rw[vO]at ho;exact ho)).1;simpa only[ZV]using this
 ·intro i hi;have Au:=(ZH.1 hi).1;simp at Au;simp[Au]at hi
 ·rcases k4 with⟨h1,h2⟩|⟨h1,oc,h2,h3⟩
  ·exact .inl ⟨by rw[h1];simp[bG],h2⟩
  ·refine .inr ⟨by simpa using h1,oc,by rw[vO];exact h2,?_⟩;simp only[ZV]at h3;exact h3
 ·refine⟨by rw[k2];exact hI,.refl hF.now,hR.size,hR.defers,by simp[da,p1],fun i o t x ho hl=>?_,fun t x _ fW=>?_,fun i _ b4=>?_,ZS _,fun i o ho hl=>?_⟩
  ·have hi:=(ZH.1 hl).1;simp at hi;simp[hi]at hl
  ·rw[k2]at fW⊢;obtain⟨u,h1,h2⟩:=hR.slot t x fW;exact⟨u,h1,aR.ext hx h2⟩
  ·rw[eP]at b4;simp[b4]
  ·have hi:=(ZH.1 hl).1;simp at hi;simp[hi]at hl
structure ve (P:Program) (ow:Nat->Bool) (ws cs:List Nat) (K:St->Ts->Prop) (i:Nat) (ops:List Oper) (s:St) (L:Ts):Prop where
 mk::
 run:qG P ow ws cs K i ops s L
variable {i:Nat} {o:Oper} {rest:List Oper}
theorem wQ (hi:cs.contains i=false) (h:bA P s (ow i) o fun x V A=>(i∈ws\/(V=s.V/\A=s.A))/\ve P ow ws cs K (i+1) rest (s.put o.dst x V A) L):ve P ow ws cs K i (o::rest) s L:=
 ⟨.inr ⟨by simpa using hi,fN (fun x V A h=>⟨h.1,h.2.run⟩) h⟩⟩
theorem rf (hi:cs.contains i=true) (h:bN P s L o fun x L'=>ve P ow ws cs K (i+1) rest (s.put o.dst x s.V s.A) L'):ve P ow ws cs K i (o::rest) s L:=
 ⟨.inl ⟨by simpa using hi,pT (fun x L' h=>h.run) h⟩⟩
theorem tE (h:K s L):ve P ow ws cs K i [] s L:=⟨h⟩
theorem ve.gen {ops:List Oper} {d:Nat} {b:Bool} {fr:List (Nat×AV)} {V:List (List CV)} {A:List bu} (h:∀q:Bool,b=q->ve P ow ws cs K i ops ⟨(d,.c (.d (.bool q)))::fr,V,A⟩ L):ve P ow ws cs K i ops ⟨(d,.c (.d (.bool b)))::fr,V,A⟩ L:=h b rfl
@[congr] theorem Lz {i i':Nat} {ops:List Oper} (hi:i=i') (h:s=s'):ve P ow ws cs K i ops s L=ve P ow ws cs K i' ops s' L:=by rw[h,hi]
@[congr] theorem Jr {f:FuncId} {xs xs':List AV} {K:AV->Ts->Prop} (hx:xs=xs'):pS P L f xs K=pS P L f xs' K:=by subst hx;rfl
attribute [simp] bN
theorem TJ.SN {Q:Exit->St->Ts->Prop} {id:Nat} {l:List Oper} (hm:P.follows .mixedOrders=true) (p:List Nat) (ow:Nat->Bool) (ws cs:List Nat) (hp:jZ l p=true) (hd:eE (bG l p).toArray ws=true) (hc:kq (bG l p).toArray ws cs=true)
  (h:∀K:St->Ts->Prop,(∀s' L',TJ P n y Q s' L'->K s' L')->ve P ow ws cs K 0 (ee l p) s L):TJ P n (.seq (.region id l.toArray true) y) Q s L:=
 TJ.seq (TJ.sd hm p ow ws cs hp hd hc (h _ fun _ _ h=>h).run)
theorem TJ.Q2 {Q:Exit->St->Ts->Prop} {id:Nat} {l:List Oper} (hm:P.follows .mixedOrders=true) (p:List Nat) (ow:Nat->Bool) (ws cs:List Nat) (hp:jZ l p=true) (hd:eE (bG l p).toArray ws=true) (hc:kq (bG l p).toArray ws cs=true)
  (h:∀K:St->Ts->Prop,(∀s' L',Q .normal s' L'->K s' L')->ve P ow ws cs K 0 (ee l p) s L):TJ P n (.region id l.toArray true) Q s L:=
 TJ.sd hm p ow ws cs hp hd hc (h _ fun _ _ h=>h).run
variable {f:FuncId} {xs as_:List AV} {r:AV} {K':AV->Ts->Prop}
theorem lP {R:AV->Ts->Prop} (By:dj L xs as_) (hc:aH P f as_ [] R) (hK:∀r L1,R r L1->K' r (L1++L)):pS P L f xs K':=⟨as_,[],L,R,by simp,By,hc,hK⟩
theorem db {R:AV->Ts->Prop} {L1 L2:Ts} (hp:L.Perm (L1++L2)) (By:dj L2 xs as_) (hc:aH P f as_ L1 R) (hK:∀r L1,R r L1->K' r (L1++L2)):pS P L f xs K':=⟨as_,L1,L2,R,hp,By,hc,hK⟩
theorem zP (By:dj L xs as_) (hc:ah P f as_ [] r [] []) (hs:r.eM=true) (hK:K' r L):pS P L f xs K':=
 ⟨as_,[],L,_,by simp,By,aH.Bz hc hs,by rintro r' L1 ⟨rfl,rfl⟩;exact hK⟩
end
end Go.Av
