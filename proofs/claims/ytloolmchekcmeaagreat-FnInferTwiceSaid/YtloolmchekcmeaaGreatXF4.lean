/- A part. -/
import Derived.Test.YtloolmchekcmeaaGreatXF3
import Derived.Laws.Cover3
set_option linter.unusedVariables false
set_option linter.unusedSimpArgs false
open Bool renaming and_eq_true->YE
open List renaming range->YF,nodup_nil->YG,length_cons->YH
namespace Go.Av
open Go
section
variable {P:Program} {n:Nat} {ι:Type} {Q:Exit->St->Prop} {QX:ι->Exit->St->Prop} {s s':St} {y:Code}
theorem T.NV {id:Nat} {src a b:Nat} {ty ty2 e:TypeId} {d:TD} {o1 o2:Oper} {rows:List (List DV)} (h1:o1.op=.move (.tmp src)) (d1:o1.dst=some a) (g1:o1.guard=none)
  (h2:o2.op=.binOp .eql ty (.tmp a) (.const (.slice none 0 0)) ty2) (d2:o2.dst=some b) (g2:o2.guard=none) (ht:td P ty=some d) (tq:d.el=some e) (hs:look s.fr src=some (.c (.d (.sl rows))))
  (h:∀bb:Bool,(bb=true->rows=[])->T P n y Q ⟨(b,.c (.d (.bool bb)))::(a,.c (.d (.sl rows)))::s.fr,s.V,s.A⟩):T P n (.seq (.region id #[o1,o2] false) y) Q s:=by
 refine T.seq ?_;intro eP w0 g0 g A w hR;refine wp_region_list ?_;have hd:da n [o1,o2]=true:=eP;simp only[da,List.all_cons,List.all_nil,Bool.and_true,YE,d1,d2,decide_eq_true_eq]at hd;have w1:Region.wanted o1 (yielded #[o1,o2] A.tmps)=true:=by simp[Region.wanted,g1]
 have w2:∀A':Act,Region.wanted o2 (yielded #[o1,o2] A'.tmps)=true:=fun A'=>by simp[Region.wanted,g2]
 unfold wpList;rw[if_pos w1];have jG:bJ P s false o1 fun x V' A'=>x=.c (.d (.sl rows))/\V'=s.V/\A'=s.A:=by
  unfold bJ;rw[h1];simp[eO,bH,hs,bU]
 obtain⟨x,V',A',⟨rfl,rfl,rfl⟩,hk⟩:=dj hR.inv hR.fr hR.slot jG;refine .inl (hk _ _ fun v w' g' h5 h6 h7 h8=>?_);have PR:=hR.put (dst:=o1.dst) (fun d e=>by rw[d1]at e;cases e;exact hd.1) h5 h6 h7 h8;unfold wpList;rw[if_pos (w2 _)];have hv:=h5;simp only[aW,dL,br,bn]at hv;obtain⟨ad,cap,rfl,UH,xU⟩:=hv;have NW:=PR.slot a (.c (.d (.sl rows))) (by simp[St.put,d1,look]);obtain⟨u,hu,PF⟩:=NW;have KF:(A.put o1.dst (.slice ad rows.length cap)).tmps[a]? =some u:=hu;have ay:a<A.tmps.size:=by rw[hR.size];exact hd.1
 have:u=.slice ad rows.length cap:=by
  rw[d1]at KF;simp[Act.put,ay]at KF;exact KF.symm
 subst this;have UI:(A.put o1.dst (.slice ad rows.length cap)).eval (.tmp a)=.slice ad rows.length cap:=by
  simp only[Act.eval];rw[Array.getD_eq_getD_getElem?,KF];rfl
 have fC:(execOp (A.put o1.dst (.slice ad rows.length cap)).eval o2).run P w'=.ok (.value (.bool ad.isNone)) w':=by
  simp only[execOp,h2,UI];refine bt (w':=w') ?_;rw[Sem.run_bind];rw[show(eqGuard .eql ty (.tmp a) (.const (.slice none 0 0)) (.slice ad rows.length cap) ((A.put o1.dst (.slice ad rows.length cap)).eval (.const (.slice none 0 0)))).run P w'=.ok () w' by simp[eqGuard,Act.eval]];simp only[Result.andThen_ok,Act.eval];simp[binOp,run_equal_slice_nil w' ty e ad rows.length cap (mQ ht tq)]
 refine .inl ?_;unfold Oper.wp;rw[fC];have UJ:=PR.put (dst:=o2.dst) (x:=.c (.d (.bool ad.isNone))) (v:=.bool ad.isNone) (fun d e=>by rw[d2]at e;cases e;exact hd.2) rfl PR.inv (.refl _ _ _) PR.fr;refine⟨_,_,?_,UJ⟩;show T P n y Q _;rw[d1,d2];refine h ad.isNone fun hn=>?_
 cases xU with
 |inl h=>exact h
 |inr h=>obtain⟨_,_,_,rfl,_⟩:=h;simp at hn
end
section
variable {P:Program} {s:St} {f:FuncId} {xs as:List AV} {K:AV->List (List CV)->List bz->Prop}
theorem kp (ids:List Nat) {Vc Vc':List (List CV)} {r:AV} {Ac':List bz} (hn:ids.Nodup) (b8:ig s.A ids xs=some as) (hV:ij s.A s.V ids ids=some Vc) (hc:ah P f as Vc r Vc' Ac')
  (hK:K (r.fN ids s.V.length s.A.length) (cl s.A.length s.V.length ids s.V ids Vc') (bT s.A (bD xs++bO s.V ids)++Ac')):gE P s f xs K:=
 .inl ⟨ids,as,Vc,r,Vc',Ac',hn,b8,hV,hc,hK⟩
theorem aB.g {fn:Func} {e:Exit} {m:Nat} {r:AV} {V':List (List CV)} (he:e=.normal\/e=.ret) {ys:List AV} (hr:(ft P s fn.results.toList).bind (aA s.A (YF m) [])=some ys) (h1:one ys=r)
  (hV:fD s.A s.V (YF m) [] (YF m)=some V'):aB P fn m r V' [] e s:=by
 cases hx:ft P s fn.results.toList with
 |none=>rw[hx]at hr;simp at hr
 |some xs=>rw[hx]at hr;exact⟨he,[],[],xs,ys,hx,YG,YG,by simp,by simpa using hr,h1.symm,by simpa using hV,rfl⟩
end
attribute [simp] ij cl bO back fD one
end Go.Av
namespace Go.Av
open Go
abbrev Q7 (b:dF):AV:=.agg [.d (.str b.name),.d (.i b.ty.kind),.d (.sl (b.ty.kids.map ck))]
abbrev ee:ao:=.mk 0 [] 0 bk bk 0 []
abbrev jt:Option (ao×aI)->List AV
 |some (e,t)=>[cM e,dE t,.b true]
 |none=>[cM ee,dE bk,.b false]
theorem wF (n:Int) (e:ao) (f t:aI):n<=(qK n e f t).2/\(qK n e f t).2<=n+1:=by
 simp only[qK];split<;>simp<;>omega
theorem Bm:∀(n:Int) (es:List ao) (hs ws:List aI),n<=(jc n es hs ws).2/\(jc n es hs ws).2<=n+es.length
 |n,[],hs,ws=>by cases hs<;>cases ws<;>simp[jc]
 |n,e::es,[],ws=>by cases ws<;>simp[jc]<;>omega
 |n,e::es,h::hs,[]=>by simp[jc];omega
 |n,e::es,h::hs,w::ws=>by
  have h1:=wF n e h w;have h2:=Bm (qK n e h w).2 es hs ws;simp only[jc,YH];omega
theorem Eh:∀(e:ao) (ctx:List dF) (n:Int),n<=(gu ctx e n).2/\(gu ctx e n).2<=n+eR e:=by
 intro e;induction e using ao.ind with
 |h e ih=>
  intro ctx n;have hS:∀(l:List ao),(∀u∈l,u∈e.kids)->∀c n,n<=(eT c l n).2/\(eT c l n).2+l.length<=n+eW l:=by
   intro l;induction l with
   |nil=>intro _ c n;simp[eT,eW]
   |cons x r ihl=>
    intro hm c n;have h1:=ih x (hm x (by simp)) c n;simp only[eT,eW,YH];cases he:gu c x n with
    |mk o m=>
     rw[he]at h1;cases o with
     |none=>
      have h2:=pE r;simp only[pI];omega
     |some p=>
      obtain⟨y,t⟩:=p;have h2:=ihl (fun u hu=>hm u (by simp[hu])) c m;simp only[pI];cases hr:eT c r m with
      |mk o2 m2=>
       rw[hr]at h2;cases o2 with
       |none=>simp only;omega
       |some q=>simp only;omega
  rw[tK,iJ];have h3:=hS e.kids (fun _ h=>h) (cx ctx e) n;cases hr:eT (cx ctx e) e.kids n with
  |mk o m=>
   rw[hr]at h3;cases o with
   |none=>simp only[nZ];omega
   |some p=>
    obtain⟨es,ts⟩:=p;have hl:=tL hr;simp only[nZ];cases cJ ctx e.kind e.name e.ty ts with
    |none=>simp only;omega
    |some q=>
     obtain⟨ws,t⟩:=q;simp only;have h4:=Bm m es ts ws;split
     ·split<;>simp only<;>omega
     ·simp only;omega
mutual
def kM:ao->ao->Bool
 |.mk k s n t f b l,.mk k' s' n' t' f' b' l'=>decide (k=k')&&(decide (s=s')&&(decide (n=n')&&(dS t t' &&(dS f f' &&(decide (b=b')&& j3 l l')))))
def j3:List ao->List ao->Bool
 |[],[]=>true
 |x::xs,y::ys=>kM x y && j3 xs ys
 |_,_=>false
end
theorem ss:∀(l m:List ao),j3 l m=gk kM l m
 |[],[]=>rfl
 |x::xs,y::ys=>by simp[j3,gk,ss xs ys]
 |[],_::_=>rfl
 |_::_,[]=>rfl
theorem C0 (a b:ao):kM a b=(decide (a.kind=b.kind)&&(decide (a.name=b.name)&&(decide (a.num=b.num)&&(dS a.ty b.ty &&(dS a.fr b.fr &&(decide (a.label=b.label)&& gk kM a.kids b.kids)))))):=by
 cases a;cases b;simp only[kM,ss];rfl
mutual
theorem Fl:∀(a b:ao),kM a b=true->a=b
 |.mk k s n t f b l,.mk k' s' n' t' f' b' l',h=>by
  simp only[kM,YE,decide_eq_true_eq]at h;obtain⟨rfl,rfl,rfl,h1,h2,rfl,h3⟩:=h;rw[tJ t t' h1,tJ f f' h2,wG l l' h3]
theorem wG:∀(l m:List ao),j3 l m=true->l=m
 |[],[],_=>rfl
 |x::xs,y::ys,h=>by
  simp only[j3,YE]at h;rw[Fl x y h.1,wG xs ys h.2]
 |[],_::_,h=>by simp[j3]at h
 |_::_,[],h=>by simp[j3]at h
end
mutual
theorem kq:∀(a:ao),kM a a=true
 |.mk k s n t f b l=>by simp[kM,kn,sw l]
theorem sw:∀(l:List ao),j3 l l=true
 |[]=>rfl
 |x::xs=>by simp[j3,kq x,sw xs]
end
mutual
def mapM (g:ao->ao):ao->ao
 |.mk k s n t f b l=>g (.mk k s n t f b (dn g l))
def dn (g:ao->ao):List ao->List ao
 |[]=>[]
 |e::r=>mapM g e::dn g r
end
theorem Bn (g:ao->ao):∀(l:List ao),dn g l=l.map (mapM g)
 |[]=>rfl
 |e::r=>by simp[dn,Bn g r]
theorem sA (g:ao->ao) (e:ao):mapM g e=g (.mk e.kind e.name e.num e.ty e.fr e.label (e.kids.map (mapM g))):=by
 cases e;simp only[mapM,Bn];rfl
end Go.Av
