/- A part. -/
import Derived.Test.YtloolmchekcmeaaGreatXE3
import Derived.Laws.Cover3
set_option linter.unusedVariables false
set_option linter.unusedSimpArgs false
open Bool renaming and_eq_true->Yw
open List renaming range->Yx,nodup_nil->Yy,length_cons->Yz
namespace Go.Av
open Go
section
variable {P:Program} {n:Nat} {ι:Type} {Q:Exit->St->Prop} {QX:ι->Exit->St->Prop} {s s':St} {y:Code}
theorem T.NS {id:Nat} {src a b:Nat} {ty ty2 e:TypeId} {d:TD} {o1 o2:Oper} {rows:List (List DV)} (h1:o1.op=.move (.tmp src)) (d1:o1.dst=some a) (g1:o1.guard=none)
  (h2:o2.op=.binOp .eql ty (.tmp a) (.const (.slice none 0 0)) ty2) (d2:o2.dst=some b) (g2:o2.guard=none) (ht:td P ty=some d) (tz:d.el=some e) (hs:look s.fr src=some (.c (.d (.sl rows))))
  (h:∀bb:Bool,(bb=true->rows=[])->T P n y Q ⟨(b,.c (.d (.bool bb)))::(a,.c (.d (.sl rows)))::s.fr,s.V,s.A⟩):T P n (.seq (.region id #[o1,o2] false) y) Q s:=by
 refine T.seq ?_;intro eK w0 g0 g A w hR;refine wp_region_list ?_;have hd:c7 n [o1,o2]=true:=eK;simp only[c7,List.all_cons,List.all_nil,Bool.and_true,Yw,d1,d2,decide_eq_true_eq]at hd;have w1:Region.wanted o1 (yielded #[o1,o2] A.tmps)=true:=by simp[Region.wanted,g1]
 have w2:∀A':Act,Region.wanted o2 (yielded #[o1,o2] A'.tmps)=true:=fun A'=>by simp[Region.wanted,g2]
 unfold wpList;rw[if_pos w1];have kn:bH P s false o1 fun x V' A'=>x=.c (.d (.sl rows))/\V'=s.V/\A'=s.A:=by
  unfold bH;rw[h1];simp[eD,bE,hs,bS]
 obtain⟨x,V',A',⟨rfl,rfl,rfl⟩,hk⟩:=db hR.inv hR.fr hR.slot kn;refine .inl (hk _ _ fun v w' g' h5 h6 h7 h8=>?_);have PF:=hR.put (dst:=o1.dst) (fun d e=>by rw[d1]at e;cases e;exact hd.1) h5 h6 h7 h8;unfold wpList;rw[if_pos (w2 _)];have hv:=h5;simp only[aV,dD,bm,bh]at hv;obtain⟨ad,cap,rfl,Us,yo⟩:=hv;have NT:=PF.slot a (.c (.d (.sl rows))) (by simp[St.put,d1,look]);obtain⟨u,hu,Pt⟩:=NT;have KE:(A.put o1.dst (.slice ad rows.length cap)).tmps[a]? =some u:=hu;have az:a<A.tmps.size:=by rw[hR.size];exact hd.1
 have:u=.slice ad rows.length cap:=by
  rw[d1]at KE;simp[Act.put,az]at KE;exact KE.symm
 subst this;have Ut:(A.put o1.dst (.slice ad rows.length cap)).eval (.tmp a)=.slice ad rows.length cap:=by
  simp only[Act.eval];rw[Array.getD_eq_getD_getElem?,KE];rfl
 have ff:(execOp (A.put o1.dst (.slice ad rows.length cap)).eval o2).run P w'=.ok (.value (.bool ad.isNone)) w':=by
  simp only[execOp,h2,Ut];refine bp (w':=w') ?_;rw[Sem.run_bind];rw[show(eqGuard .eql ty (.tmp a) (.const (.slice none 0 0)) (.slice ad rows.length cap) ((A.put o1.dst (.slice ad rows.length cap)).eval (.const (.slice none 0 0)))).run P w'=.ok () w' by simp[eqGuard,Act.eval]];simp only[Result.andThen_ok,Act.eval];simp[binOp,run_equal_slice_nil w' ty e ad rows.length cap (mG ht tz)]
 refine .inl ?_;unfold Oper.wp;rw[ff];have Uu:=PF.put (dst:=o2.dst) (x:=.c (.d (.bool ad.isNone))) (v:=.bool ad.isNone) (fun d e=>by rw[d2]at e;cases e;exact hd.2) rfl PF.inv (.refl _ _ _) PF.fr;refine⟨_,_,?_,Uu⟩;show T P n y Q _;rw[d1,d2];refine h ad.isNone fun hn=>?_
 cases yo with
 |inl h=>exact h
 |inr h=>obtain⟨_,_,_,rfl,_⟩:=h;simp at hn
end
section
variable {P:Program} {s:St} {f:FuncId} {xs as:List AV} {K:AV->List (List CV)->List bu->Prop}
theorem j6 (ids:List Nat) {Vc Vc':List (List CV)} {r:AV} {Ac':List bu} (hn:ids.Nodup) (bZ:ib s.A ids xs=some as) (hV:gJ s.A s.V ids ids=some Vc) (hc:ah P f as Vc r Vc' Ac')
  (hK:K (r.fN ids s.V.length s.A.length) (cc s.A.length s.V.length ids s.V ids Vc') (bT s.A (bB xs++bK s.V ids)++Ac')):gM P s f xs K:=
 .inl ⟨ids,as,Vc,r,Vc',Ac',hn,bZ,hV,hc,hK⟩
theorem aD.g {fn:Func} {e:Exit} {m:Nat} {r:AV} {V':List (List CV)} (he:e=.normal\/e=.ret) {ys:List AV} (hr:(e8 P s fn.results.toList).bind (aF s.A (Yx m) [])=some ys) (h1:one ys=r)
  (hV:fg s.A s.V (Yx m) [] (Yx m)=some V'):aD P fn m r V' [] e s:=by
 cases hx:e8 P s fn.results.toList with
 |none=>rw[hx]at hr;simp at hr
 |some xs=>rw[hx]at hr;exact⟨he,[],[],xs,ys,hx,Yy,Yy,by simp,by simpa using hr,h1.symm,by simpa using hV,rfl⟩
end
attribute [simp] gJ cc bK back fg one
end Go.Av
namespace Go.Av
open Go
abbrev Q0 (b:ea):AV:=.agg [.d (.str b.name),.d (.i b.ty.kind),.d (.sl (b.ty.kids.map cA))]
abbrev e0:ao:=.mk 0 [] 0 bx bx 0 []
abbrev ja:Option (ao×aE)->List AV
 |some (e,t)=>[c6 e,eu t,.b true]
 |none=>[c6 e0,eu bx,.b false]
theorem w7 (n:Int) (e:ao) (f t:aE):n<=(qK n e f t).2/\(qK n e f t).2<=n+1:=by
 simp only[qK];split<;>simp<;>omega
theorem BC:∀(n:Int) (es:List ao) (hs ws:List aE),n<=(iL n es hs ws).2/\(iL n es hs ws).2<=n+es.length
 |n,[],hs,ws=>by cases hs<;>cases ws<;>simp[iL]
 |n,e::es,[],ws=>by cases ws<;>simp[iL]<;>omega
 |n,e::es,h::hs,[]=>by simp[iL];omega
 |n,e::es,h::hs,w::ws=>by
  have h1:=w7 n e h w;have h2:=BC (qK n e h w).2 es hs ws;simp only[iL,Yz];omega
theorem EB:∀(e:ao) (ctx:List ea) (n:Int),n<=(gd ctx e n).2/\(gd ctx e n).2<=n+fy e:=by
 intro e;induction e using ao.ind with
 |h e ih=>
  intro ctx n;have hS:∀(l:List ao),(∀u∈l,u∈e.kids)->∀c n,n<=(eF c l n).2/\(eF c l n).2+l.length<=n+eQ l:=by
   intro l;induction l with
   |nil=>intro _ c n;simp[eF,eQ]
   |cons x r ihl=>
    intro hm c n;have h1:=ih x (hm x (by simp)) c n;simp only[eF,eQ,Yz];cases he:gd c x n with
    |mk o m=>
     rw[he]at h1;cases o with
     |none=>
      have h2:=px r;simp only[pC];omega
     |some p=>
      obtain⟨y,t⟩:=p;have h2:=ihl (fun u hu=>hm u (by simp[hu])) c m;simp only[pC];cases hr:eF c r m with
      |mk o2 m2=>
       rw[hr]at h2;cases o2 with
       |none=>simp only;omega
       |some q=>simp only;omega
  rw[tM,jO];have h3:=hS e.kids (fun _ h=>h) (cB ctx e) n;cases hr:eF (cB ctx e) e.kids n with
  |mk o m=>
   rw[hr]at h3;cases o with
   |none=>simp only[nO];omega
   |some p=>
    obtain⟨es,ts⟩:=p;have hl:=tN hr;simp only[nO];cases cw ctx e.kind e.name e.ty ts with
    |none=>simp only;omega
    |some q=>
     obtain⟨ws,t⟩:=q;simp only;have h4:=BC m es ts ws;split
     ·split<;>simp only<;>omega
     ·simp only;omega
mutual
def w8:ao->ao->Bool
 |.mk k s n t f b l,.mk k' s' n' t' f' b' l'=>decide (k=k')&&(decide (s=s')&&(decide (n=n')&&(ez t t' &&(ez f f' &&(decide (b=b')&& l9 l l')))))
def l9:List ao->List ao->Bool
 |[],[]=>true
 |x::xs,y::ys=>w8 x y && l9 xs ys
 |_,_=>false
end
mutual
theorem FI:∀(a b:ao),w8 a b=true->a=b
 |.mk k s n t f b l,.mk k' s' n' t' f' b' l',h=>by
  simp only[w8,Yw,decide_eq_true_eq]at h;obtain⟨rfl,rfl,rfl,h1,h2,rfl,h3⟩:=h;rw[tL t t' h1,tL f f' h2,w9 l l' h3]
theorem w9:∀(l m:List ao),l9 l m=true->l=m
 |[],[],_=>rfl
 |x::xs,y::ys,h=>by
  simp only[l9,Yw]at h;rw[FI x y h.1,w9 xs ys h.2]
 |[],_::_,h=>by simp[l9]at h
 |_::_,[],h=>by simp[l9]at h
end
mutual
theorem BD:∀(a:ao),w8 a a=true
 |.mk k s n t f b l=>by simp[w8,u7,ss l]
theorem ss:∀(l:List ao),l9 l l=true
 |[]=>rfl
 |x::xs=>by simp[l9,BD x,ss xs]
end
mutual
def mapM (g:ao->ao):ao->ao
 |.mk k s n t f b l=>g (.mk k s n t f b (eI g l))
def eI (g:ao->ao):List ao->List ao
 |[]=>[]
 |e::r=>mapM g e::eI g r
end
theorem BE (g:ao->ao):∀(l:List ao),eI g l=l.map (mapM g)
 |[]=>rfl
 |e::r=>by simp[eI,BE g r]
theorem sw (g:ao->ao) (e:ao):mapM g e=g (.mk e.kind e.name e.num e.ty e.fr e.label (e.kids.map (mapM g))):=by
 cases e;simp only[mapM,BE];rfl
end Go.Av
