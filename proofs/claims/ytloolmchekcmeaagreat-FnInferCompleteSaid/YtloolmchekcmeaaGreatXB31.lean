/- A part. -/
import Derived.Test.YtloolmchekcmeaaGreatXB30
set_option linter.unusedVariables false
set_option linter.unusedSimpArgs false
open Go.Proofs.Tryz renaming prog->adH
open Option renaming map_eq_some_iff->adI,bind->adJ
open List renaming set_cons_zero->adK,set_cons_succ->adL,nil_append->adM,cons_append->adN,append_nil->adO,getElem?_eq_getElem->adP,mem_of_getElem?->adQ,drop_eq_getElem_cons->adR,mem_append->adS,length_append->adT
open Nat renaming le_of_lt->adU
open Bool renaming false_eq_true->adV,true_and->adW,false_and->adX,and_eq_true->adY
namespace Go.Proofs.YtloolmchekcmeaaGreat
attribute [-simp] Go.Av.cj Go.Av.e0 Go.Av.fH Go.Av.fy Go.Av.cW Go.Av.cg
open Go Go.Av
attribute [local irreducible] T ah TX EX LX bB dn bW cx ie aG.kind aG.kids al.kind al.name al.num al.ty al.fr al.label al.kids
attribute [local simp] aL au
set_option maxHeartbeats 16000000
set_option maxRecDepth 8000
attribute [local simp] adJ
@[simp] theorem wh:td adH 72=some {ag:=true,sz:=3,lS:=40,zero:=some [.d (.int .i64 0),.d (.int .i64 0),.nil],el:=none,ar:=none,fl:=[(0,1),(1,1),(2,1)],ik:=none,cO:=false,nz:=false}:=dQ (by kernel_rfl)
@[simp] theorem Pn:td adH 68=some {ag:=false,sz:=1,lS:=24,zero:=some [.nil],el:=some 72,ar:=none,fl:=[],ik:=none,cO:=false,nz:=false}:=dQ (by kernel_rfl)
@[simp] theorem Qa:td adH 70=some {ag:=true,sz:=2,lS:=48,zero:=some [.nil,.nil],el:=none,ar:=none,fl:=[(0,1),(1,1)],ik:=none,cO:=false,nz:=false}:=dQ (by kernel_rfl)
theorem eF (k:Int):ah adH 135 [.i k] [] (jV (.b k)) [] []:=by
 refine ah.ob Tryz.func135 Tryz.ntmps135 rfl ?_;repeat' first|(refine ab (hK _ ?_);clear hK K)|(refine ae ?_;simp;(try(refine gen2 ?_ ?_<;>intro hq<;>try simp at hq)))|(refine T.ret (aB.val (Or.inr rfl) ?_)<;>simp[ay,Tryz.results135,an]<;>omega)|refine T.r0 fun K hK=>?_
theorem qy (k:Int) (x y:IT):ah adH 100 [.i k,jV x,jV y] [] (jV (.p k x y)) [] []:=by
 refine ah.ob Tryz.func100 Tryz.ntmps100 rfl ?_;repeat' first|(refine ab (hK _ ?_);clear hK K)|(refine ae ?_;simp;(try(refine gen2 ?_ ?_<;>intro hq<;>try simp at hq)))|(refine T.ret (aB.val (Or.inr rfl) ?_)<;>simp[ay,Tryz.results100,an]<;>omega)|refine T.r0 fun K hK=>?_
theorem uA (B ls:List IT) (hB:B.length<=1048576):ah adH 99 [hP B ls] [] (.a8 [hP (B++[.v B.length]) ls,jV (.v B.length)]) [] []:=by
 refine ah.ob Tryz.func99 Tryz.ntmps99 rfl ?_;repeat' first|(refine ab (hK _ ?_);clear hK K)|(refine ae ?_;simp;(try(refine gen2 ?_ ?_<;>intro hq<;>try simp at hq)))|refine T.rs (id:=0) (fun _=>false) fun K hK=>?_|refine T.rs (id:=1) (fun _=>false) fun K hK=>?_|refine T.seq ?_
 refine T.LI 3 2 (row:=[.d (.i 0),.d (.i B.length),.nil]) (by simp) (by simp) ?_;simp;repeat' first|(refine bc (hK _ ?_);clear hK K)|(refine bw ?_;simp;(try(refine gen2 ?_ ?_<;>intro hq<;>try simp at hq)))|(refine⟨by omega,by omega,?_⟩)|(refine T.ret (aB.a8 (Or.inr rfl) ?_)<;>simp[ay,Tryz.results99,kG]<;>omega)|refine T.Dy (id:=2) mixed (fun i=>i==0) [0,3,6,8] [2,4,5] 4 [1] (by kernel_rfl) fun K hK=>?_|refine T.mK (id:=3) mixed (fun _=>false) [2,3] [1] 3 [1] (by kernel_rfl) fun K hK=>?_
theorem lP (B ls:List IT) (hS:qU B) (oL:lp B) (hB:B.length<=1048576) (k:Nat) (t:IT) (hx:ex B k t=true) (ht:sc B.length t=true) (hk:ir t):ah adH 102 [hP B ls,jV t] [] (jV (hd B k t)) [] []:=by
 obtain⟨R,hR⟩:∃R,hd B k t=R:=⟨_,rfl⟩;rw[hR];refine ah.ob Tryz.func102 Tryz.ntmps102 rfl ?_;repeat' first|(refine ab (hK _ ?_);clear hK K)|(refine ae ?_;simp;(try(refine gen2 ?_ ?_<;>intro hq<;>try simp at hq)))|refine T.r0 fun K hK=>?_|refine T.seq ?_|refine T.block ?_
 refine T.dU (α:=Nat×IT) [2,3,4] (fun x=>[]) (fun x=>[(1,(jV x.2).cells)]) (fun x=>[]) (fun x A=>A) (fun x=>x.1) (fun x=>ex B x.1 x.2=true/\sc B.length x.2=true/\ir x.2/\hd B x.1 x.2=R) (by simp;rfl) (fun x hx=>?_) (k,t) ⟨hx,ht,hk,hR⟩ (by simp) (by simp) (by simp);obtain⟨j,u⟩:=x;obtain⟨hx,hs,Sh,he⟩:=hx;dsimp only at hx hs Sh he⊢;simp only[iy,adK,adL,adN,adM,adO];cases u with
 |b c=>
  have gC:=jW Sh (by simp);simp only[IT.fJ]at gC;have hr:R=.b c:=by rw[<-he];cases j<;>rfl
  subst hr;repeat' first|((first|refine ab (hK _ ?_)|refine aC (hK _ ?_));clear hK K)|((first|refine ae ?_|refine aI ?_);simp[gC];(try(refine gen2 ?_ ?_<;>intro hq<;>try simp[gC]at hq)))|(refine T.ret (aB.val (Or.inr rfl) ?_)<;>simp[ay,Tryz.results102]<;>omega)|refine T.rd (id:=1) mixed (fun _=>false) [] (by kernel_rfl) fun K hK=>?_|refine T.r0 fun K hK=>?_|refine T.cf rfl ?_|refine T.seq ?_|refine T.exit ?_
 |p c a b=>
  have gC:=jW Sh (by simp);simp only[IT.fi]at gC;have hr:R=.p c a b:=by rw[<-he];cases j<;>rfl
  subst hr;repeat' first|((first|refine ab (hK _ ?_)|refine aC (hK _ ?_));clear hK K)|((first|refine ae ?_|refine aI ?_);simp[gC];(try(refine gen2 ?_ ?_<;>intro hq<;>try simp[gC]at hq)))|(refine T.ret (aB.val (Or.inr rfl) ?_)<;>simp[ay,Tryz.results102]<;>omega)|refine T.rd (id:=1) mixed (fun _=>false) [] (by kernel_rfl) fun K hK=>?_|refine T.r0 fun K hK=>?_|refine T.cf rfl ?_|refine T.seq ?_|refine T.exit ?_
 |v m=>
  have ax:m<B.length:=by simpa[sc]using hs
  obtain⟨w,ht⟩:=bR ax;have eQ:w∈B:=adQ ht;have bf:B[m]=w:=by rw[adP ax]at ht;exact Option.some.inj ht
  have gP:B.drop m=w::B.drop (m+1):=by rw[adR ax,bf]
  cases hb:bd B m with
  |none=>
   have hw:w=.v m:=by have:=Kg ax hb;rw[ht]at this;exact Option.some.inj this
   subst hw;have hr:R=.v m:=by rw[<-he,Ff hb]
   subst hr;repeat' first|((first|refine ab (hK _ ?_)|refine aC (hK _ ?_));clear hK K)|((first|refine ae ?_|refine aI ?_);simp[ax,bf,kG];(try(refine gen2 ?_ ?_<;>intro hq<;>try simp[ax,bf,kG]at hq)))|(refine T.ret (aB.val (Or.inr rfl) ?_)<;>simp[ay,Tryz.results102]<;>omega)|refine T.rd (id:=1) mixed (fun _=>false) [] (by kernel_rfl) fun K hK=>?_|refine T.r0 fun K hK=>?_|refine T.cf rfl ?_|refine T.seq ?_|refine T.exit ?_
  |some w'=>
   obtain⟨h1,h2⟩:=ql hb;have hw:w'=w:=by rw[ht]at h1;exact(Option.some.inj h1).symm
   subst hw;cases j with
   |zero=>simp[ex]at hx
   |succ j=>
    have kR:ex B j w'=true:=by simpa[ex,hb]using hx
    rw[Fe hb]at he;have CJ:=CG hS hb;have kA:=Lb oL hb;cases w' with
    |v m2=>
     have dj:¬(m2:Int)=m:=by intro e;exact h2 (by rw[show m2=m by omega])
     repeat' first|((first|refine ab (hK _ ?_)|refine aC (hK _ ?_));clear hK K)|((first|refine ae ?_|refine aI ?_);simp[ax,bf,dj,kG];(try(refine gen2 ?_ ?_<;>intro hq<;>try simp[ax,bf,dj,kG]at hq)))|(refine⟨(j,.v m2),by dsimp only;omega,⟨kR,CJ,kA,he⟩,rfl,?_,?_⟩<;>simp(disch:=omega))|refine T.rd (id:=1) mixed (fun _=>false) [] (by kernel_rfl) fun K hK=>?_|refine T.r1 fun K hK=>?_|refine T.ct rfl ?_|refine T.seq ?_|refine T.block ?_|refine T.skip ?_
    |b c=>
     have gC:=jW kA (by simp);simp only[IT.fJ]at gC;repeat' first|((first|refine ab (hK _ ?_)|refine aC (hK _ ?_));clear hK K)|((first|refine ae ?_|refine aI ?_);simp[ax,bf,gC,Fb,Fc];(try(refine gen2 ?_ ?_<;>intro hq<;>try simp[ax,bf,gC,Fb,Fc]at hq)))|(refine⟨(j,.b c),by dsimp only;omega,⟨kR,CJ,kA,he⟩,rfl,?_,?_⟩<;>simp(disch:=omega))|refine T.rd (id:=1) mixed (fun _=>false) [] (by kernel_rfl) fun K hK=>?_|refine T.r1 fun K hK=>?_|refine T.ct rfl ?_|refine T.seq ?_|refine T.block ?_|refine T.skip ?_
    |p c a b=>
     have gC:=jW kA (by simp);simp only[IT.fi]at gC;repeat' first|((first|refine ab (hK _ ?_)|refine aC (hK _ ?_));clear hK K)|((first|refine ae ?_|refine aI ?_);simp[ax,bf,gC,Fb,Fc];(try(refine gen2 ?_ ?_<;>intro hq<;>try simp[ax,bf,gC,Fb,Fc]at hq)))|(refine⟨(j,.p c a b),by dsimp only;omega,⟨kR,CJ,kA,he⟩,rfl,?_,?_⟩<;>simp(disch:=omega))|refine T.rd (id:=1) mixed (fun _=>false) [] (by kernel_rfl) fun K hK=>?_|refine T.r1 fun K hK=>?_|refine T.ct rfl ?_|refine T.seq ?_|refine T.block ?_|refine T.skip ?_
theorem AU (B ls:List IT) (hS:qU B) (oL:lp B) (hB:B.length<=1048576) (n:Nat):∀(k:Nat) (t:IT),ex B k t=true->sc B.length t=true->ir t->ah adH 167 [hP B ls,.i n,jV t] [] (.b (jC B n k t)) [] []:=by
 intro k;induction k using Nat.strongRecOn with
 |_ k ih=>
  intro t hx ht hk;have h1:=lP B ls hS oL hB k t hx ht hk;have Jh:=iJ hx;have CJ:=lM hS (k:=k) ht;have kA:=pY oL (k:=k) hk;have kR:=ng hx;have Bg:=fun c x y=>wc (c:=c) (x:=x) (y:=y) hx
  rw[<-Ef hx];generalize hd B k t=u at*;have key:(∀n,u≠.v n)->(∀w∈u.kids,ah adH 167 [hP B ls,.i n,jV w] [] (.b (jC B n k w)) [] [])->ah adH 167 [hP B ls,.i n,jV t] [] (.b (jC B n k u)) [] []:=by
   intro Po mD;have gC:=jW kA Po;rw[IJ kR Po];have tg:u.kids.length<=2:=by cases u<;>simp
   clear ih Bg Jh CJ kA kR;obtain⟨f,hf⟩:∃f,(fun w=>jC B n k w)=f:=⟨_,rfl⟩;replace mD:∀w∈u.kids,ah adH 167 [hP B ls,.i n,jV w] [] (.b (f w)) [] []:=fun w hw=>by rw[<-hf];exact mD w hw
   rw[hf];obtain⟨R,hR⟩:∃R,u.kids.any f=R:=⟨_,rfl⟩;rw[hR];obtain⟨L,hL⟩:∃L,u.kids=L:=⟨_,rfl⟩;rw[hL]at hR mD tg;replace h1:ah adH 102 [hP B ls,jV t] [] (.agg [.d (.i u.kind),.d (.i u.name),.d (.sl (L.map oM))]) [] []:=by rw[<-hL];exact h1
   refine ah.ob Tryz.func167 Tryz.ntmps167 rfl ?_;repeat' first|(refine ab (hK _ ?_);clear hK K)|((first|refine ae ?_|refine aa rfl (h1) ?_);simp[gC];(try(refine gen2 ?_ ?_<;>intro hq<;>try simp[gC]at hq)))|refine T.r0 fun K hK=>?_|refine T.cf rfl ?_|refine T.seq ?_|refine T.block ?_|refine T.skip ?_
   refine T.dU (α:=Nat) [1,3,5] (fun x=>[(6,.b false),(7,.i x)]) (fun x=>[]) (fun x=>[]) (fun x A=>A) (fun x=>L.length+1-x) (fun x=>x<=L.length/\(L.drop x).any f=R) (by simp;rfl) (fun p hx=>?_) 0 ⟨by simp,by simpa using hR⟩ (by simp) (by simp) (by simp);obtain⟨hx,he⟩:=hx;dsimp only at hx he⊢;simp only[iy,adK,adL,adN,adM,adO];by_cases ax:p<L.length
   ·obtain⟨w,ht⟩:=bR ax;have eQ:w∈L:=adQ ht;have bf:L[p]=w:=by rw[adP ax]at ht;exact Option.some.inj ht
    have gP:L.drop p=w::L.drop (p+1):=by rw[adR ax,bf]
    have hw:=mD w eQ;rw[gP,List.any_cons]at he;cases hb:f w with
    |true=>
     rw[hb,Bool.true_or]at he;rw[hb]at hw;subst he;repeat' first|((first|refine ab (hK _ ?_)|refine aC (hK _ ?_));clear hK K)|((first|refine ae ?_|refine aI ?_|refine aa rfl (hw) ?_);simp[ax,bf,an w];(try simp(disch:=omega)only[wrap64]);(try(refine gen2 ?_ ?_<;>intro hq<;>try simp[ax,bf,an w]at hq)))|(refine T.ret (aB.data (Or.inr rfl) ?_ ?_)<;>simp[Tryz.results167]<;>omega)|refine T.rd (id:=7) mixed (fun _=>false) [] (by kernel_rfl) fun K hK=>?_|refine T.r0 fun K hK=>?_|refine T.ct rfl ?_|refine T.seq ?_|refine T.block ?_|refine T.skip ?_
    |false=>
     rw[hb,Bool.false_or]at he;rw[hb]at hw;repeat' first|((first|refine ab (hK _ ?_)|refine aC (hK _ ?_));clear hK K)|((first|refine ae ?_|refine aI ?_|refine aa rfl (hw) ?_);simp[ax,bf,an w];(try simp(disch:=omega)only[wrap64]);(try(refine gen2 ?_ ?_<;>intro hq<;>try simp[ax,bf,an w]at hq)))|(refine⟨p+1,by dsimp only;omega,⟨by omega,he⟩,?_,?_,?_⟩<;>simp(disch:=omega) [wrap64])|refine T.rd (id:=7) mixed (fun _=>false) [] (by kernel_rfl) fun K hK=>?_|refine T.r0 fun K hK=>?_|refine T.r1 fun K hK=>?_|refine T.ct rfl ?_|refine T.cf rfl ?_|refine T.seq ?_|refine T.block ?_|refine T.skip ?_
   ·have ff:p=L.length:=by omega
    subst ff;simp at he;subst he;repeat' first|(refine ab (hK _ ?_);clear hK K)|(refine ae ?_;simp[ax];(try(refine gen2 ?_ ?_<;>intro hq<;>try simp[ax]at hq)))|(refine T.ret (aB.data (Or.inr rfl) ?_ ?_)<;>simp[Tryz.results167]<;>omega)|refine T.r0 fun K hK=>?_|refine T.cf rfl ?_|refine T.seq ?_|refine T.exit ?_
  cases hu:u with
  |v m=>
   subst hu;have hb:=Jh m rfl;have ho:jC B n k (.v m)=decide (m=n):=by
    cases k with
    |zero=>simp[ex]at hx
    |succ k=>simp[jC,hb]
   rw[ho];have hc:decide ((m:Int)=n)=decide (m=n):=decide_eq_decide.2 (by omega);by_cases e:m=n
   ·subst e;refine ah.ob Tryz.func167 Tryz.ntmps167 rfl ?_;repeat' first|(refine ab (hK _ ?_);clear hK K)|((first|refine ae ?_|refine aa rfl (h1) ?_);simp;(try(refine gen2 ?_ ?_<;>intro hq<;>try simp at hq)))|(refine T.ret (aB.data (Or.inr rfl) ?_ ?_)<;>simp[Tryz.results167]<;>omega)|refine T.r0 fun K hK=>?_|refine T.ct rfl ?_|refine T.seq ?_
   ·have e':¬(m:Int)=n:=by omega
    refine ah.ob Tryz.func167 Tryz.ntmps167 rfl ?_;repeat' first|(refine ab (hK _ ?_);clear hK K)|((first|refine ae ?_|refine aa rfl (h1) ?_);simp[e,e'];(try(refine gen2 ?_ ?_<;>intro hq<;>try simp[e,e']at hq)))|(refine T.ret (aB.data (Or.inr rfl) ?_ ?_)<;>simp[Tryz.results167,e,e']<;>omega)|refine T.r0 fun K hK=>?_|refine T.ct rfl ?_|refine T.seq ?_
  |b c=>
   rw[<-hu];exact key (by rw[hu];simp) (by rw[hu];simp)
  |p c x y=>
   rw[<-hu];refine key (by rw[hu];simp) fun w hw=>?_
   obtain⟨j,hj,TP,TQ⟩:=Bg c x y hu;rw[hu,IT.gv]at hw;simp only[List.mem_cons,List.not_mem_nil,or_false]at hw;rcases hw with rfl|rfl
   ·have g1:=ih j hj w TP (AQ CJ w (by simp[hu])) (xU kA w (by simp[hu]));rwa[<-eE TP (adU hj)]at g1
   ·have g2:=ih j hj w TQ (AQ CJ w (by simp[hu])) (xU kA w (by simp[hu]));rwa[<-eE TQ (adU hj)]at g2
theorem Ep (B ls:List IT) (hS:qU B) (oL:lp B) (hB:B.length<=1048576) (n:Nat) (hn:n<B.length) (k:Nat) (t:IT) (hx:ex B k t=true) (ht:sc B.length t=true) (hk:ir t):ah adH 158 [hP B ls,.i n,jV t] [] (.a8 [hP (zQ k B n t).1 ls,.b (zQ k B n t).2]) [] []:=by
 have g:=AU B ls hS oL hB n k t hx ht hk;obtain⟨q,hq⟩:∃q,jC B n k t=q:=⟨_,rfl⟩;rw[hq]at g;have bN:(B.map oM).set n (oM t)=(B.set n t).map oM:=by rw[List.map_set]
 rw[an t]at bN;by_cases hv:t=.v n
 ·subst hv;rw[zQ,if_pos rfl];refine ah.ob Tryz.func158 Tryz.ntmps158 rfl ?_;repeat' first|(refine ab (hK _ ?_);clear hK K)|(refine ae ?_;simp;(try(refine gen2 ?_ ?_<;>intro hq<;>(try simp at hq)<;>try(have:True:=hq;clear this hq))))|(refine T.ret (aB.a8 (Or.inr rfl) ?_)<;>simp[ay,Tryz.results158]<;>omega)|refine T.r0 fun K hK=>?_|refine T.ct rfl ?_|refine T.seq ?_
 have Bh:(t.kind=0/\(t.name:Int)≠n)\/t.kind≠0:=by
  cases t with
  |v m=>exact .inl ⟨rfl,fun e=>hv (by simp only[IT.jv]at e;rw[show m=n by omega])⟩
  |b c=>exact .inr (jW hk (by simp))
  |p c x y=>exact .inr (jW hk (by simp))
 rw[zQ,if_neg hv,hq];clear hx ht hk hv;rcases Bh with⟨h0,hm⟩|h0<;>cases q<;>simp only[if_true,adV,if_false]
 ·rw[h0]at bN;refine ah.ob Tryz.func158 Tryz.ntmps158 rfl ?_;repeat' first|(refine ab (hK _ ?_);clear hK K)|((first|refine ae ?_|(refine aa ?_ (g) ?_;(focus(solve|simp[h0,hm,hn,nk,bN]))));simp[h0,hm,hn,nk,bN];(try(refine gen2 ?_ ?_<;>intro hq<;>(try simp[h0,hm,hn,nk,bN]at hq)<;>try(have:True:=hq;clear this hq))))|(refine⟨by omega,by omega,?_⟩)|(refine T.ret (aB.a8 (Or.inr rfl) ?_)<;>simp[ay,Tryz.results158]<;>omega)|refine T.rs (id:=5) (fun i=>i==0) fun K hK=>?_|refine T.rs (id:=0) (fun _=>false) fun K hK=>?_|refine T.rs (id:=1) (fun _=>false) fun K hK=>?_|refine T.rs (id:=3) (fun _=>false) fun K hK=>?_|refine T.rs (id:=6) (fun _=>false) fun K hK=>?_|refine T.rs (id:=7) (fun _=>false) fun K hK=>?_|refine T.cf rfl ?_|refine T.seq ?_|refine T.skip ?_
 ·refine ah.ob Tryz.func158 Tryz.ntmps158 rfl ?_;repeat' first|(refine ab (hK _ ?_);clear hK K)|((first|refine ae ?_|(refine aa ?_ (g) ?_;(focus(solve|simp[h0,hm,hn]))));simp[h0,hm,hn];(try(refine gen2 ?_ ?_<;>intro hq<;>(try simp[h0,hm,hn]at hq)<;>try(have:True:=hq;clear this hq))))|(refine T.ret (aB.a8 (Or.inr rfl) ?_)<;>simp[ay,Tryz.results158]<;>omega)|refine T.r0 fun K hK=>?_|refine T.ct rfl ?_|refine T.cf rfl ?_|refine T.seq ?_|refine T.skip ?_
 ·refine ah.ob Tryz.func158 Tryz.ntmps158 rfl ?_;repeat' first|(refine ab (hK _ ?_);clear hK K)|((first|refine ae ?_|(refine aa ?_ (g) ?_;(focus(solve|simp[h0,hn,nk,bN]))));simp[h0,hn,nk,bN];(try(refine gen2 ?_ ?_<;>intro hq<;>(try simp[h0,hn,nk,bN]at hq)<;>try(have:True:=hq;clear this hq))))|(refine⟨by omega,by omega,?_⟩)|(refine T.ret (aB.a8 (Or.inr rfl) ?_)<;>simp[ay,Tryz.results158]<;>omega)|refine T.rs (id:=5) (fun i=>i==0) fun K hK=>?_|refine T.rs (id:=0) (fun _=>false) fun K hK=>?_|refine T.rs (id:=1) (fun _=>false) fun K hK=>?_|refine T.rs (id:=3) (fun _=>false) fun K hK=>?_|refine T.rs (id:=6) (fun _=>false) fun K hK=>?_|refine T.rs (id:=7) (fun _=>false) fun K hK=>?_|refine T.cf rfl ?_|refine T.seq ?_|refine T.skip ?_
 ·refine ah.ob Tryz.func158 Tryz.ntmps158 rfl ?_;repeat' first|(refine ab (hK _ ?_);clear hK K)|((first|refine ae ?_|refine aa rfl (g) ?_);simp[h0,hn];(try(refine gen2 ?_ ?_<;>intro hq<;>(try simp[h0,hn]at hq)<;>try(have:True:=hq;clear this hq))))|(refine T.ret (aB.a8 (Or.inr rfl) ?_)<;>simp[ay,Tryz.results158]<;>omega)|refine T.r0 fun K hK=>?_|refine T.ct rfl ?_|refine T.cf rfl ?_|refine T.seq ?_|refine T.skip ?_
theorem CW (ls:List IT):∀(k:Nat) (B:List IT) (a b:IT) (B':List IT) (q:Bool),qU B->lp B->B.length<=1048576->sc B.length a=true->sc B.length b=true->ir a->ir b->iT k B a b=some (B',q)->ah adH 136 [hP B ls,jV a,jV b] [] (.a8 [hP B' ls,.b q]) [] []:=by
 intro k;induction k with
 |zero=>intro B a b B' q _ _ _ _ _ _ _ h;simp[iT]at h
 |succ k ih=>
  intro B a b B' q hS oL hB ha hb FQ M5 h;rw[iT]at h;split at h
  case isFalse=>simp at h
  rename_i hex;rw[adY]at hex;have h1:=lP B ls hS oL hB k a hex.1 ha FQ;have h2:=lP B ls hS oL hB k b hex.2 hb M5;have xa:=ng hex.1;have xb:=ng hex.2;have sa:=lM hS (k:=k) ha;have sb:=lM hS (k:=k) hb;have ka:=pY oL (k:=k) FQ;have kb:=pY oL (k:=k) M5;generalize hd B k a=u at*;generalize hd B k b=v at*;have Lf:∀n t,n<B.length->ex B k t=true->sc B.length t=true->ir t->(if t=.v n then some (B,true)else if jC B n k t=true then some (B,false)else some (B.set n t,true))=some (B',q)->ah adH 158 [hP B ls,.i n,jV t] [] (.a8 [hP B' ls,.b q]) [] []:=by
   intro n t hn hx hs hk he;have g:=Ep B ls hS oL hB n hn k t hx hs hk;have:zQ k B n t=(B',q):=by
    rw[zQ];split at he
    ·rename_i e;rw[if_pos e];simpa using he
    ·rename_i e;rw[if_neg e];split at he
     ·rename_i e2;rw[if_pos e2];simpa using he
     ·rename_i e2;rw[if_neg e2];simpa using he
   rw[this]at g;exact g
  by_cases hu:u.kind=0
  ·obtain⟨n,rfl⟩:∃n,u=.v n:=by
    cases u with
    |v n=>exact⟨n,rfl⟩
    |b c=>exact absurd hu (jW ka (by simp))
    |p c x y=>exact absurd hu (jW ka (by simp))
   have g:=Lf n v (by simpa[sc]using sa) xb sb kb (by cases v<;>exact h);clear ih Lf h;refine ah.ob Tryz.func136 Tryz.ntmps136 rfl ?_;repeat' first|(refine ab (hK _ ?_);clear hK K)|((first|refine ae ?_|refine aa rfl (h1) ?_|refine aa rfl (h2) ?_|refine aa rfl (g) ?_);simp;(try(refine gen2 ?_ ?_<;>intro hq<;>(try simp at hq)<;>try(have:True:=hq;clear this hq))))|(refine T.ret (aB.a8 (Or.inr rfl) ?_)<;>simp[ay,Tryz.results136]<;>omega)|refine T.r0 fun K hK=>?_|refine T.ct rfl ?_|refine T.seq ?_
  have mX:∀n,u≠.v n:=fun n e=>hu (by rw[e];rfl)
  by_cases hv:v.kind=0
  ·obtain⟨n,rfl⟩:∃n,v=.v n:=by
    cases v with
    |v n=>exact⟨n,rfl⟩
    |b c=>exact absurd hv (jW kb (by simp))
    |p c x y=>exact absurd hv (jW kb (by simp))
   have g:=Lf n u (by simpa[sc]using sb) xa sa ka (by
    cases u with
    |v m=>exact absurd rfl (mX m)
    |b c=>rw[if_neg (by simp)];exact h
    |p c x y=>rw[if_neg (by simp)];exact h)
   clear ih Lf h;refine ah.ob Tryz.func136 Tryz.ntmps136 rfl ?_;repeat' first|(refine ab (hK _ ?_);clear hK K)|((first|refine ae ?_|refine aa rfl (h1) ?_|refine aa rfl (h2) ?_|refine aa rfl (g) ?_);simp[hu];(try(refine gen2 ?_ ?_<;>intro hq<;>(try simp[hu]at hq)<;>try(have:True:=hq;clear this hq))))|(refine T.ret (aB.a8 (Or.inr rfl) ?_)<;>simp[ay,Tryz.results136]<;>omega)|refine T.r0 fun K hK=>?_|refine T.ct rfl ?_|refine T.cf rfl ?_|refine T.seq ?_|refine T.skip ?_
  by_cases hk:u.kind=v.kind
  ·cases u with
   |v m=>exact absurd rfl (mX m)
   |b i=>
    cases v with
    |v m=>exact absurd rfl hv
    |p j x y=>
     exfalso
     simp only[IT.fJ,IT.fi]at hk;simp only[ir]at ka kb;omega
    |b j=>
     simp only[IT.fJ]at hk hu hv;subst hk;simp at h;obtain⟨rfl,rfl⟩:=h;clear ih Lf;refine ah.ob Tryz.func136 Tryz.ntmps136 rfl ?_;repeat' first|(refine ab (hK _ ?_);clear hK K)|((first|refine ae ?_|refine aa rfl (h1) ?_|refine aa rfl (h2) ?_);simp[hu];(try(refine gen2 ?_ ?_<;>intro hq<;>(try simp[hu]at hq)<;>try(have:True:=hq;clear this hq))))|refine T.r0 fun K hK=>?_|refine T.cf rfl ?_|refine T.seq ?_|refine T.block ?_|refine T.skip ?_
     refine T.dU (α:=Nat) [3,4,5,6,7] (fun x=>[(8,.b true),(9,.i 0)]) (fun x=>[]) (fun x=>[]) (fun x A=>A) (fun x=>1) (fun x=>True) (by simp;rfl) (fun x hx=>?_) 0 trivial (by simp) (by simp) (by simp);simp only[iy,adK,adL,adN,adM,adO];repeat' first|(refine ab (hK _ ?_);clear hK K)|(refine ae ?_;simp;(try(refine gen2 ?_ ?_<;>intro hq<;>(try simp at hq)<;>try(have:True:=hq;clear this hq))))|(refine T.ret (aB.a8 (Or.inr rfl) ?_)<;>simp[ay,Tryz.results136]<;>omega)|refine T.r0 fun K hK=>?_|refine T.cf rfl ?_|refine T.seq ?_|refine T.exit ?_
   |p i x y=>
    cases v with
    |v m=>exact absurd rfl hv
    |b j=>
     exfalso
     simp only[IT.fJ,IT.fi]at hk;simp only[ir]at ka kb;omega
    |p j x' y'=>
     simp only[IT.fi]at hk hu hv;subst hk;simp only[if_true]at h;simp only[ir]at ka kb;simp only[sc,adY]at sa sb;obtain⟨r1,Mw⟩:∃r1,iT k B x x'=r1:=⟨_,rfl⟩;rw[Mw]at h;cases r1 with
     |none=>simp at h
     |some r1=>
      obtain⟨B1,q1⟩:=r1;obtain⟨s1,l1⟩:=ui hS sa.1 sb.1 Mw;have d1:=mH oL ka.2.1 kb.2.1 Mw;have g1:=ih B x x' B1 q1 hS oL hB sa.1 sb.1 ka.2.1 kb.2.1 Mw;have g2:q1=true->ah adH 136 [hP B1 ls,jV y,jV y'] [] (.a8 [hP B' ls,.b q]) [] []:=fun e=>by
       subst e;exact ih B1 y y' B' q s1 d1 (by omega) (by rw[l1];exact sa.2) (by rw[l1];exact sb.2) ka.2.2 kb.2.2 h
      have hf:q1=false->B'=B1/\q=false:=fun e=>by subst e;simp at h;exact⟨h.1.symm,h.2⟩
      clear ih Lf h Mw;refine ah.ob Tryz.func136 Tryz.ntmps136 rfl ?_;repeat' first|(refine ab (hK _ ?_);clear hK K)|((first|refine ae ?_|refine aa rfl (h1) ?_|refine aa rfl (h2) ?_);simp[hu,hv];(try(refine gen2 ?_ ?_<;>intro hq<;>(try simp[hu,hv]at hq)<;>try(have:True:=hq;clear this hq))))|refine T.r0 fun K hK=>?_|refine T.cf rfl ?_|refine T.seq ?_|refine T.block ?_|refine T.skip ?_
      refine T.dU (α:=Nat×List IT×Bool) [3,4,5,6,7] (fun x=>[(8,.b x.2.2),(9,.i x.1)]) (fun x=>[(0,[.d (.sl (x.2.1.map oM)),.d (.sl (ls.map oM))])]) (fun x=>[]) (fun x A=>A) (fun x=>3-x.1) (fun x=>(x.1=0/\x.2.1=B/\x.2.2=true)\/(x.1=1/\x.2.1=B1/\x.2.2=q1)\/(x.1=2/\x.2.1=B'/\x.2.2=q/\q1=true)) (by simp;rfl) (fun x hx=>?_) (0,B,true) (.inl ⟨rfl,rfl,rfl⟩) (by simp) (by simp) (by simp);obtain⟨p,C,ok⟩:=x;dsimp only at hx⊢;simp only[iy,adK,adL,adN,adM,adO];rcases hx with⟨rfl,rfl,rfl⟩|⟨rfl,rfl,rfl⟩|⟨rfl,rfl,rfl,hq⟩
      ·cases q1
       ·repeat' first|((first|refine ab (hK _ ?_)|refine aC (hK _ ?_));clear hK K)|((first|refine ae ?_|refine aI ?_|(refine aa ?_ (g1) ?_;(focus(solve|simp[an x,an x']))));simp[an x,an x'];(try simp(disch:=omega)only[wrap64]);(try(refine gen2 ?_ ?_<;>intro hq<;>(try simp[an x,an x']at hq)<;>try(have:True:=hq;clear this hq))))|refine T.yA (id:=11) mixed (fun _=>false) [15] (by kernel_rfl) fun K hK=>?_|refine T.r0 fun K hK=>?_|refine T.r1 fun K hK=>?_|refine T.ct rfl ?_|refine T.seq ?_|refine T.block ?_|refine T.skip ?_
        refine⟨(1,B1,false),by dsimp only;omega,Or.inr (Or.inl ⟨rfl,rfl,rfl⟩),?_,?_,?_⟩<;>simp(disch:=omega) [wrap64,an x,an x']
       ·repeat' first|((first|refine ab (hK _ ?_)|refine aC (hK _ ?_));clear hK K)|((first|refine ae ?_|refine aI ?_|(refine aa ?_ (g1) ?_;(focus(solve|simp[an x,an x']))));simp[an x,an x'];(try simp(disch:=omega)only[wrap64]);(try(refine gen2 ?_ ?_<;>intro hq<;>(try simp[an x,an x']at hq)<;>try(have:True:=hq;clear this hq))))|refine T.yA (id:=11) mixed (fun _=>false) [15] (by kernel_rfl) fun K hK=>?_|refine T.r0 fun K hK=>?_|refine T.r1 fun K hK=>?_|refine T.ct rfl ?_|refine T.seq ?_|refine T.block ?_|refine T.skip ?_
        refine⟨(1,B1,true),by dsimp only;omega,Or.inr (Or.inl ⟨rfl,rfl,rfl⟩),?_,?_,?_⟩<;>simp(disch:=omega) [wrap64,an x,an x']
      ·cases ok with
       |false=>
        obtain⟨rfl,rfl⟩:=hf rfl;repeat' first|(refine ab (hK _ ?_);clear hK K)|(refine ae ?_;simp;(try(refine gen2 ?_ ?_<;>intro hq<;>(try simp at hq)<;>try(have:True:=hq;clear this hq))))|(refine T.ret (aB.a8 (Or.inr rfl) ?_)<;>simp[ay,Tryz.results136]<;>omega)|refine T.r0 fun K hK=>?_|refine T.cf rfl ?_|refine T.seq ?_|refine T.exit ?_
       |true=>
        have g2:=g2 rfl;cases q
        ·repeat' first|((first|refine ab (hK _ ?_)|refine aC (hK _ ?_));clear hK K)|((first|refine ae ?_|refine aI ?_|(refine aa ?_ (g2) ?_;(focus(solve|simp[an y,an y']))));simp[an y,an y'];(try simp(disch:=omega)only[wrap64]);(try(refine gen2 ?_ ?_<;>intro hq<;>(try simp[an y,an y']at hq)<;>try(have:True:=hq;clear this hq))))|refine T.yA (id:=11) mixed (fun _=>false) [15] (by kernel_rfl) fun K hK=>?_|refine T.r0 fun K hK=>?_|refine T.r1 fun K hK=>?_|refine T.ct rfl ?_|refine T.seq ?_|refine T.block ?_|refine T.skip ?_
         refine⟨(2,B',false),by dsimp only;omega,Or.inr (Or.inr ⟨rfl,rfl,rfl,rfl⟩),?_,?_,?_⟩<;>simp(disch:=omega) [wrap64,an y,an y']
        ·repeat' first|((first|refine ab (hK _ ?_)|refine aC (hK _ ?_));clear hK K)|((first|refine ae ?_|refine aI ?_|(refine aa ?_ (g2) ?_;(focus(solve|simp[an y,an y']))));simp[an y,an y'];(try simp(disch:=omega)only[wrap64]);(try(refine gen2 ?_ ?_<;>intro hq<;>(try simp[an y,an y']at hq)<;>try(have:True:=hq;clear this hq))))|refine T.yA (id:=11) mixed (fun _=>false) [15] (by kernel_rfl) fun K hK=>?_|refine T.r0 fun K hK=>?_|refine T.r1 fun K hK=>?_|refine T.ct rfl ?_|refine T.seq ?_|refine T.block ?_|refine T.skip ?_
         refine⟨(2,B',true),by dsimp only;omega,Or.inr (Or.inr ⟨rfl,rfl,rfl,rfl⟩),?_,?_,?_⟩<;>simp(disch:=omega) [wrap64,an y,an y']
      ·subst hq;cases ok
       ·repeat' first|(refine ab (hK _ ?_);clear hK K)|(refine ae ?_;simp;(try(refine gen2 ?_ ?_<;>intro hq<;>(try simp at hq)<;>try(have:True:=hq;clear this hq))))|(refine T.ret (aB.a8 (Or.inr rfl) ?_)<;>simp[ay,Tryz.results136]<;>omega)|refine T.r0 fun K hK=>?_|refine T.cf rfl ?_|refine T.seq ?_|refine T.exit ?_
       ·repeat' first|(refine ab (hK _ ?_);clear hK K)|(refine ae ?_;simp;(try(refine gen2 ?_ ?_<;>intro hq<;>(try simp at hq)<;>try(have:True:=hq;clear this hq))))|(refine T.ret (aB.a8 (Or.inr rfl) ?_)<;>simp[ay,Tryz.results136]<;>omega)|refine T.r0 fun K hK=>?_|refine T.cf rfl ?_|refine T.seq ?_|refine T.exit ?_
  ·have hr:B'=B/\q=false:=by
    cases u with
    |v m=>exact absurd rfl (mX m)
    |b i=>
     cases v with
     |v m=>exact absurd rfl hv
     |b j=>simp only[IT.fJ]at hk;simp[hk]at h;exact⟨h.1.symm,h.2⟩
     |p j x y=>simp at h;exact⟨h.1.symm,h.2⟩
    |p i x y=>
     cases v with
     |v m=>exact absurd rfl hv
     |b j=>simp at h;exact⟨h.1.symm,h.2⟩
     |p j x' y'=>simp only[IT.fi]at hk;simp[hk]at h;exact⟨h.1.symm,h.2⟩
   obtain⟨rfl,rfl⟩:=hr;have tg:u.kids.length<=2:=by cases u<;>simp
   clear ih Lf h;refine ah.ob Tryz.func136 Tryz.ntmps136 rfl ?_;repeat' first|(refine ab (hK _ ?_);clear hK K)|((first|refine ae ?_|refine aa rfl (h1) ?_|refine aa rfl (h2) ?_);simp[hu,hv,hk];(try(refine gen2 ?_ ?_<;>intro hq<;>(try simp[hu,hv,hk]at hq)<;>try(have:True:=hq;clear this hq))))|refine T.r0 fun K hK=>?_|refine T.cf rfl ?_|refine T.seq ?_|refine T.block ?_|refine T.skip ?_
   refine T.dU (α:=Nat) [3,4,5,6,7] (fun x=>[(8,.b false),(9,.i 0)]) (fun x=>[]) (fun x=>[]) (fun x A=>A) (fun x=>1) (fun x=>True) (by simp;rfl) (fun x hx=>?_) 0 trivial (by simp) (by simp) (by simp);simp only[iy,adK,adL,adN,adM,adO];by_cases ax:(0:Int)<u.kids.length
   ·repeat' first|(refine ab (hK _ ?_);clear hK K)|(refine ae ?_;simp[ax];(try(refine gen2 ?_ ?_<;>intro hq<;>(try simp[ax]at hq)<;>try(have:True:=hq;clear this hq))))|(refine T.ret (aB.a8 (Or.inr rfl) ?_)<;>simp[ay,Tryz.results136]<;>omega)|refine T.r0 fun K hK=>?_|refine T.cf rfl ?_|refine T.seq ?_|refine T.exit ?_
   ·repeat' first|(refine ab (hK _ ?_);clear hK K)|(refine ae ?_;simp[ax];(try(refine gen2 ?_ ?_<;>intro hq<;>(try simp[ax]at hq)<;>try(have:True:=hq;clear this hq))))|(refine T.ret (aB.a8 (Or.inr rfl) ?_)<;>simp[ay,Tryz.results136]<;>omega)|refine T.r0 fun K hK=>?_|refine T.cf rfl ?_|refine T.seq ?_|refine T.exit ?_
theorem jY {k:Nat} {B:List IT} {a b:IT} {r:Option (List IT)} (h:iU k B a b=some r):∃B2 q,iT k B a b=some (B2,q)/\(q=true/\r=some B2\/q=false/\r=none):=by
 rw[iU]at h;split at h
 ·cases h
 ·rename_i B' e;cases h;exact⟨B',true,e,.inl ⟨rfl,rfl⟩⟩
 ·rename_i B' e;cases h;exact⟨B',false,e,.inr ⟨rfl,rfl⟩⟩
def Pp (C:List IT) (u:IT) (q:Bool):Option (List IT×IT)->Prop
 |some (B',t)=>C=B'/\u=t/\q=true
 |none=>q=false
abbrev IS (ls:List IT) (B:List IT) (e:al) (ts:List IT) (r:Option (List IT×IT)):Prop:=
 ∃C u q,ah adH 101 [hP B ls,cL e,.l (ts.map oM)] [] (.a8 [hP C ls,jV u,.b q]) [] []/\Pp C u q r
theorem Gv (ls B:List IT) (e:al) (hk:e.kind=2\/e.kind=3\/e.kind=4):ah adH 101 [hP B ls,cL e,.l []] [] (.a8 [hP B ls,jV (.b (if e.kind=2 then 2 else 3)),.b true]) [] []:=by
 have b2:=eF 2;have b3:=eF 3;rcases hk with h|h|h
 ·rw[if_pos h];refine ah.ob Tryz.func101 Tryz.ntmps101 rfl ?_;repeat' first|((first|refine ab (hK _ ?_)|refine bc (hK _ ?_));clear hK K)|((first|refine ae ?_|refine bw ?_|refine aa rfl (b2) ?_|refine aa rfl (b3) ?_);simp[h];(try(refine gen2 ?_ ?_<;>intro hq<;>try simp[h]at hq)))|(refine T.ret (aB.a8 (Or.inr rfl) ?_)<;>simp[ay,Tryz.results101]<;>omega)|refine T.mK (id:=7) mixed (fun _=>false) [2,3] [1] 3 [2] (by kernel_rfl) fun K hK=>?_|refine T.r0 fun K hK=>?_|refine T.ct rfl ?_|refine T.seq ?_|refine T.block ?_
 ·rw[if_neg (by omega)];refine ah.ob Tryz.func101 Tryz.ntmps101 rfl ?_;repeat' first|((first|refine ab (hK _ ?_)|refine bc (hK _ ?_));clear hK K)|((first|refine ae ?_|refine bw ?_|refine aa rfl (b2) ?_|refine aa rfl (b3) ?_);simp[h];(try(refine gen2 ?_ ?_<;>intro hq<;>try simp[h]at hq)))|(refine T.ret (aB.a8 (Or.inr rfl) ?_)<;>simp[ay,Tryz.results101]<;>omega)|refine T.mK (id:=10) mixed (fun _=>false) [2,3] [1] 3 [2] (by kernel_rfl) fun K hK=>?_|refine T.r0 fun K hK=>?_|refine T.ct rfl ?_|refine T.cf rfl ?_|refine T.seq ?_|refine T.block ?_|refine T.skip ?_
 ·rw[if_neg (by omega)];refine ah.ob Tryz.func101 Tryz.ntmps101 rfl ?_;repeat' first|((first|refine ab (hK _ ?_)|refine bc (hK _ ?_));clear hK K)|((first|refine ae ?_|refine bw ?_|refine aa rfl (b2) ?_|refine aa rfl (b3) ?_);simp[h];(try(refine gen2 ?_ ?_<;>intro hq<;>try simp[h]at hq)))|(refine T.ret (aB.a8 (Or.inr rfl) ?_)<;>simp[ay,Tryz.results101]<;>omega)|refine T.mK (id:=10) mixed (fun _=>false) [2,3] [1] 3 [2] (by kernel_rfl) fun K hK=>?_|refine T.r0 fun K hK=>?_|refine T.r1 fun K hK=>?_|refine T.ct rfl ?_|refine T.cf rfl ?_|refine T.seq ?_|refine T.block ?_
theorem Gw (ls B:List IT) (e:al) (x y:IT) (h:e.kind=10):ah adH 101 [hP B ls,cL e,.l [oM x,oM y]] [] (.a8 [hP B ls,jV (.p 5 x y),.b true]) [] []:=by
 have b2:=eF 2;have b3:=eF 3;have tw:=qy 5 x y;refine ah.ob Tryz.func101 Tryz.ntmps101 rfl ?_;repeat' first|((first|refine ab (hK _ ?_)|refine aC (hK _ ?_));clear hK K)|((first|refine ae ?_|refine aI ?_|refine aa rfl (b2) ?_|refine aa rfl (b3) ?_|(refine aa ?_ (tw) ?_;(focus(solve|simp[h,an x,an y]))));simp[h,an x,an y];(try(refine gen2 ?_ ?_<;>intro hq<;>try simp[h,an x,an y]at hq)))|(refine T.ret (aB.a8 (Or.inr rfl) ?_)<;>simp[ay,Tryz.results101,an x,an y]<;>omega)|refine T.rd (id:=12) mixed (fun _=>false) [8,9] (by kernel_rfl) fun K hK=>?_|refine T.r0 fun K hK=>?_|refine T.r1 fun K hK=>?_|refine T.ct rfl ?_|refine T.cf rfl ?_|refine T.seq ?_|refine T.block ?_
theorem Fj (ls B B1 B2:List IT) (e:al) (x y:IT) (q1 q2:Bool) (h:e.kind=7\/e.kind=8) (g1:ah adH 136 [hP B ls,jV x,jV (.b 2)] [] (.a8 [hP B1 ls,.b q1]) [] []) (g2:q1=true->ah adH 136 [hP B1 ls,jV y,jV (.b 2)] [] (.a8 [hP B2 ls,.b q2]) [] []):
  ah adH 101 [hP B ls,cL e,.l [oM x,oM y]] [] (.a8 [hP (if q1 then B2 else B1) ls,jV (.b (if e.kind=8 then 3 else 2)),.b (q1 && q2)]) [] []:=by
 have b2:=eF 2;have b3:=eF 3;cases q1 with
 |false=>
  clear g2;simp only[adV,if_false,adX];rcases h with h|h
  ·rw[if_neg (by omega)];refine ah.ob Tryz.func101 Tryz.ntmps101 rfl ?_;repeat' first|((first|refine ab (hK _ ?_)|refine aC (hK _ ?_)|refine bc (hK _ ?_));clear hK K)|((first|refine ae ?_|refine aI ?_|refine bw ?_|refine aa rfl (b2) ?_|refine aa rfl (b3) ?_|(refine aa ?_ (g1) ?_;(focus(solve|simp[h,an x,an y]))));simp[h,an x,an y];(try(refine gen2 ?_ ?_<;>intro hq<;>try simp[h,an x,an y]at hq)))|(refine T.ret (aB.a8 (Or.inr rfl) ?_)<;>simp[ay,Tryz.results101]<;>omega)|refine T.rd (id:=15) mixed (fun _=>false) [9] (by kernel_rfl) fun K hK=>?_|refine T.mK (id:=20) mixed (fun _=>false) [6,7] [1] 7 [2] (by kernel_rfl) fun K hK=>?_|refine T.r0 fun K hK=>?_|refine T.r1 fun K hK=>?_|refine T.ct rfl ?_|refine T.cf rfl ?_|refine T.seq ?_|refine T.block ?_|refine T.skip ?_
  ·rw[if_pos h];refine ah.ob Tryz.func101 Tryz.ntmps101 rfl ?_;repeat' first|((first|refine ab (hK _ ?_)|refine aC (hK _ ?_)|refine bc (hK _ ?_));clear hK K)|((first|refine ae ?_|refine aI ?_|refine bw ?_|refine aa rfl (b2) ?_|refine aa rfl (b3) ?_|(refine aa ?_ (g1) ?_;(focus(solve|simp[h,an x,an y]))));simp[h,an x,an y];(try(refine gen2 ?_ ?_<;>intro hq<;>try simp[h,an x,an y]at hq)))|(refine T.ret (aB.a8 (Or.inr rfl) ?_)<;>simp[ay,Tryz.results101]<;>omega)|refine T.rd (id:=15) mixed (fun _=>false) [9] (by kernel_rfl) fun K hK=>?_|refine T.mK (id:=19) mixed (fun _=>false) [6,7] [1] 7 [2] (by kernel_rfl) fun K hK=>?_|refine T.r0 fun K hK=>?_|refine T.r1 fun K hK=>?_|refine T.ct rfl ?_|refine T.cf rfl ?_|refine T.seq ?_|refine T.block ?_|refine T.skip ?_
 |true=>
  have g2:=g2 rfl;simp only[if_true,adW];rcases h with h|h
  ·rw[if_neg (by omega)];cases q2
   ·refine ah.ob Tryz.func101 Tryz.ntmps101 rfl ?_;repeat' first|((first|refine ab (hK _ ?_)|refine aC (hK _ ?_)|refine bc (hK _ ?_));clear hK K)|((first|refine ae ?_|refine aI ?_|refine bw ?_|refine aa rfl (b2) ?_|refine aa rfl (b3) ?_|(refine aa ?_ (g1) ?_;(focus(solve|simp[h,an x,an y])))|(refine aa ?_ (g2) ?_;(focus(solve|simp[h,an x,an y]))));simp[h,an x,an y];(try(refine gen2 ?_ ?_<;>intro hq<;>try simp[h,an x,an y]at hq)))|(refine T.ret (aB.a8 (Or.inr rfl) ?_)<;>simp[ay,Tryz.results101]<;>omega)|refine T.rd (id:=15) mixed (fun _=>false) [9] (by kernel_rfl) fun K hK=>?_|refine T.yA (id:=17) mixed (fun _=>false) [9] (by kernel_rfl) fun K hK=>?_|refine T.mK (id:=20) mixed (fun _=>false) [6,7] [1] 7 [2] (by kernel_rfl) fun K hK=>?_|refine T.r0 fun K hK=>?_|refine T.r1 fun K hK=>?_|refine T.ct rfl ?_|refine T.cf rfl ?_|refine T.seq ?_|refine T.block ?_|refine T.skip ?_
   ·refine ah.ob Tryz.func101 Tryz.ntmps101 rfl ?_;repeat' first|((first|refine ab (hK _ ?_)|refine aC (hK _ ?_)|refine bc (hK _ ?_));clear hK K)|((first|refine ae ?_|refine aI ?_|refine bw ?_|refine aa rfl (b2) ?_|refine aa rfl (b3) ?_|(refine aa ?_ (g1) ?_;(focus(solve|simp[h,an x,an y])))|(refine aa ?_ (g2) ?_;(focus(solve|simp[h,an x,an y]))));simp[h,an x,an y];(try(refine gen2 ?_ ?_<;>intro hq<;>try simp[h,an x,an y]at hq)))|(refine T.ret (aB.a8 (Or.inr rfl) ?_)<;>simp[ay,Tryz.results101]<;>omega)|refine T.rd (id:=15) mixed (fun _=>false) [9] (by kernel_rfl) fun K hK=>?_|refine T.yA (id:=17) mixed (fun _=>false) [9] (by kernel_rfl) fun K hK=>?_|refine T.mK (id:=20) mixed (fun _=>false) [6,7] [1] 7 [2] (by kernel_rfl) fun K hK=>?_|refine T.r0 fun K hK=>?_|refine T.r1 fun K hK=>?_|refine T.ct rfl ?_|refine T.cf rfl ?_|refine T.seq ?_|refine T.block ?_|refine T.skip ?_
  ·rw[if_pos h];cases q2
   ·refine ah.ob Tryz.func101 Tryz.ntmps101 rfl ?_;repeat' first|((first|refine ab (hK _ ?_)|refine aC (hK _ ?_)|refine bc (hK _ ?_));clear hK K)|((first|refine ae ?_|refine aI ?_|refine bw ?_|refine aa rfl (b2) ?_|refine aa rfl (b3) ?_|(refine aa ?_ (g1) ?_;(focus(solve|simp[h,an x,an y])))|(refine aa ?_ (g2) ?_;(focus(solve|simp[h,an x,an y]))));simp[h,an x,an y];(try(refine gen2 ?_ ?_<;>intro hq<;>try simp[h,an x,an y]at hq)))|(refine T.ret (aB.a8 (Or.inr rfl) ?_)<;>simp[ay,Tryz.results101]<;>omega)|refine T.rd (id:=15) mixed (fun _=>false) [9] (by kernel_rfl) fun K hK=>?_|refine T.yA (id:=17) mixed (fun _=>false) [9] (by kernel_rfl) fun K hK=>?_|refine T.mK (id:=19) mixed (fun _=>false) [6,7] [1] 7 [2] (by kernel_rfl) fun K hK=>?_|refine T.r0 fun K hK=>?_|refine T.r1 fun K hK=>?_|refine T.ct rfl ?_|refine T.cf rfl ?_|refine T.seq ?_|refine T.block ?_
   ·refine ah.ob Tryz.func101 Tryz.ntmps101 rfl ?_;repeat' first|((first|refine ab (hK _ ?_)|refine aC (hK _ ?_)|refine bc (hK _ ?_));clear hK K)|((first|refine ae ?_|refine aI ?_|refine bw ?_|refine aa rfl (b2) ?_|refine aa rfl (b3) ?_|(refine aa ?_ (g1) ?_;(focus(solve|simp[h,an x,an y])))|(refine aa ?_ (g2) ?_;(focus(solve|simp[h,an x,an y]))));simp[h,an x,an y];(try(refine gen2 ?_ ?_<;>intro hq<;>try simp[h,an x,an y]at hq)))|(refine T.ret (aB.a8 (Or.inr rfl) ?_)<;>simp[ay,Tryz.results101]<;>omega)|refine T.rd (id:=15) mixed (fun _=>false) [9] (by kernel_rfl) fun K hK=>?_|refine T.yA (id:=17) mixed (fun _=>false) [9] (by kernel_rfl) fun K hK=>?_|refine T.mK (id:=19) mixed (fun _=>false) [6,7] [1] 7 [2] (by kernel_rfl) fun K hK=>?_|refine T.r0 fun K hK=>?_|refine T.r1 fun K hK=>?_|refine T.ct rfl ?_|refine T.cf rfl ?_|refine T.seq ?_|refine T.block ?_
theorem Fk (ls B B1 B2:List IT) (e:al) (x y z:IT) (q1 q2:Bool) (h:e.kind=9) (g1:ah adH 136 [hP B ls,jV x,jV (.b 3)] [] (.a8 [hP B1 ls,.b q1]) [] []) (g2:q1=true->ah adH 136 [hP B1 ls,jV y,jV z] [] (.a8 [hP B2 ls,.b q2]) [] []):
  ah adH 101 [hP B ls,cL e,.l [oM x,oM y,oM z]] [] (.a8 [hP (if q1 then B2 else B1) ls,jV y,.b (q1 && q2)]) [] []:=by
 have b2:=eF 2;have b3:=eF 3;cases q1 with
 |false=>
  clear g2;simp only[adV,if_false,adX];refine ah.ob Tryz.func101 Tryz.ntmps101 rfl ?_;repeat' first|((first|refine ab (hK _ ?_)|refine aC (hK _ ?_)|refine bc (hK _ ?_));clear hK K)|((first|refine ae ?_|refine aI ?_|refine bw ?_|refine aa rfl (b2) ?_|refine aa rfl (b3) ?_|(refine aa ?_ (g1) ?_;(focus(solve|simp[h,an x,an y,an z]))));simp[h,an x,an y,an z];(try(refine gen2 ?_ ?_<;>intro hq<;>try simp[h,an x,an y,an z]at hq)))|(refine T.ret (aB.a8 (Or.inr rfl) ?_)<;>simp[ay,Tryz.results101]<;>omega)|refine T.rd (id:=22) mixed (fun _=>false) [9] (by kernel_rfl) fun K hK=>?_|refine T.mK (id:=25) mixed (fun _=>false) [8,9] [2,3] 9 [2] (by kernel_rfl) fun K hK=>?_|refine T.r0 fun K hK=>?_|refine T.r1 fun K hK=>?_|refine T.ct rfl ?_|refine T.cf rfl ?_|refine T.seq ?_|refine T.block ?_|refine T.skip ?_
 |true=>
  have g2:=g2 rfl;simp only[if_true,adW];cases q2
  ·refine ah.ob Tryz.func101 Tryz.ntmps101 rfl ?_;repeat' first|((first|refine ab (hK _ ?_)|refine aC (hK _ ?_)|refine bc (hK _ ?_));clear hK K)|((first|refine ae ?_|refine aI ?_|refine bw ?_|refine aa rfl (b2) ?_|refine aa rfl (b3) ?_|(refine aa ?_ (g1) ?_;(focus(solve|simp[h,an x,an y,an z])))|(refine aa ?_ (g2) ?_;(focus(solve|simp[h,an x,an y,an z]))));simp[h,an x,an y,an z];(try(refine gen2 ?_ ?_<;>intro hq<;>try simp[h,an x,an y,an z]at hq)))|(refine T.ret (aB.a8 (Or.inr rfl) ?_)<;>simp[ay,Tryz.results101]<;>omega)|refine T.rd (id:=22) mixed (fun _=>false) [9] (by kernel_rfl) fun K hK=>?_|refine T.yA (id:=24) mixed (fun _=>false) [11] (by kernel_rfl) fun K hK=>?_|refine T.mK (id:=25) mixed (fun _=>false) [8,9] [2,3] 9 [2] (by kernel_rfl) fun K hK=>?_|refine T.r0 fun K hK=>?_|refine T.r1 fun K hK=>?_|refine T.ct rfl ?_|refine T.cf rfl ?_|refine T.seq ?_|refine T.block ?_
  ·refine ah.ob Tryz.func101 Tryz.ntmps101 rfl ?_;repeat' first|((first|refine ab (hK _ ?_)|refine aC (hK _ ?_)|refine bc (hK _ ?_));clear hK K)|((first|refine ae ?_|refine aI ?_|refine bw ?_|refine aa rfl (b2) ?_|refine aa rfl (b3) ?_|(refine aa ?_ (g1) ?_;(focus(solve|simp[h,an x,an y,an z])))|(refine aa ?_ (g2) ?_;(focus(solve|simp[h,an x,an y,an z]))));simp[h,an x,an y,an z];(try(refine gen2 ?_ ?_<;>intro hq<;>try simp[h,an x,an y,an z]at hq)))|(refine T.ret (aB.a8 (Or.inr rfl) ?_)<;>simp[ay,Tryz.results101]<;>omega)|refine T.rd (id:=22) mixed (fun _=>false) [9] (by kernel_rfl) fun K hK=>?_|refine T.yA (id:=24) mixed (fun _=>false) [11] (by kernel_rfl) fun K hK=>?_|refine T.mK (id:=25) mixed (fun _=>false) [8,9] [2,3] 9 [2] (by kernel_rfl) fun K hK=>?_|refine T.r0 fun K hK=>?_|refine T.r1 fun K hK=>?_|refine T.ct rfl ?_|refine T.cf rfl ?_|refine T.seq ?_|refine T.block ?_
theorem IU (ls B B1 B2 B3:List IT) (e:al) (x y:IT) (n m:Nat) (q:Bool) (h:e.kind=6) (n1:ah adH 99 [hP B ls] [] (.a8 [hP B1 ls,jV (.v n)]) [] []) (n2:ah adH 99 [hP B1 ls] [] (.a8 [hP B2 ls,jV (.v m)]) [] [])
  (g1:ah adH 136 [hP B2 ls,jV x,jV (.p 4 y (.v n))] [] (.a8 [hP B3 ls,.b q]) [] []):ah adH 101 [hP B ls,cL e,.l [oM x,oM y]] [] (.a8 [hP B3 ls,jV (.v n),.b q]) [] []:=by
 have b2:=eF 2;have b3:=eF 3;have tw:=qy 4 y (.v n);cases q
 ·refine ah.ob Tryz.func101 Tryz.ntmps101 rfl ?_;repeat' first|((first|refine ab (hK _ ?_)|refine aC (hK _ ?_)|refine bc (hK _ ?_));clear hK K)|((first|refine ae ?_|refine aI ?_|refine bw ?_|refine aa rfl (b2) ?_|refine aa rfl (b3) ?_|refine aa rfl (n1) ?_|refine aa rfl (n2) ?_|(refine aa ?_ (tw) ?_;(focus(solve|simp[h,an x,an y])))|(refine aa ?_ (g1) ?_;(focus(solve|simp[h,an x,an y]))));simp[h,an x,an y];(try(refine gen2 ?_ ?_<;>intro hq<;>try simp[h,an x,an y]at hq)))|(refine T.ret (aB.a8 (Or.inr rfl) ?_)<;>simp[ay,Tryz.results101]<;>omega)|refine T.rd (id:=29) mixed (fun _=>false) [13] (by kernel_rfl) fun K hK=>?_|refine T.mK (id:=30) mixed (fun _=>false) [3,4] [1] 4 [2] (by kernel_rfl) fun K hK=>?_|refine T.r0 fun K hK=>?_|refine T.r1 fun K hK=>?_|refine T.ct rfl ?_|refine T.cf rfl ?_|refine T.seq ?_|refine T.block ?_|refine T.skip ?_
 ·refine ah.ob Tryz.func101 Tryz.ntmps101 rfl ?_;repeat' first|((first|refine ab (hK _ ?_)|refine aC (hK _ ?_)|refine bc (hK _ ?_));clear hK K)|((first|refine ae ?_|refine aI ?_|refine bw ?_|refine aa rfl (b2) ?_|refine aa rfl (b3) ?_|refine aa rfl (n1) ?_|refine aa rfl (n2) ?_|(refine aa ?_ (tw) ?_;(focus(solve|simp[h,an x,an y])))|(refine aa ?_ (g1) ?_;(focus(solve|simp[h,an x,an y]))));simp[h,an x,an y];(try(refine gen2 ?_ ?_<;>intro hq<;>try simp[h,an x,an y]at hq)))|(refine T.ret (aB.a8 (Or.inr rfl) ?_)<;>simp[ay,Tryz.results101]<;>omega)|refine T.rd (id:=29) mixed (fun _=>false) [13] (by kernel_rfl) fun K hK=>?_|refine T.mK (id:=30) mixed (fun _=>false) [3,4] [1] 4 [2] (by kernel_rfl) fun K hK=>?_|refine T.r0 fun K hK=>?_|refine T.r1 fun K hK=>?_|refine T.ct rfl ?_|refine T.cf rfl ?_|refine T.seq ?_|refine T.block ?_|refine T.skip ?_
theorem IV (ls B B1 B2 B3:List IT) (e:al) (x:IT) (n m:Nat) (q:Bool) (h:e.kind=11\/e.kind=12) (n1:ah adH 99 [hP B ls] [] (.a8 [hP B1 ls,jV (.v n)]) [] []) (n2:ah adH 99 [hP B1 ls] [] (.a8 [hP B2 ls,jV (.v m)]) [] [])
  (g1:ah adH 136 [hP B2 ls,jV x,jV (.p 5 (.v n) (.v m))] [] (.a8 [hP B3 ls,.b q]) [] []):ah adH 101 [hP B ls,cL e,.l [oM x]] [] (.a8 [hP B3 ls,jV (.v (if e.kind=12 then m else n)),.b q]) [] []:=by
 have b2:=eF 2;have b3:=eF 3;have tw:=qy 5 (.v n) (.v m);rcases h with h|h
 ·rw[if_neg (by omega)];cases q
  ·refine ah.ob Tryz.func101 Tryz.ntmps101 rfl ?_;repeat' first|((first|refine ab (hK _ ?_)|refine aC (hK _ ?_)|refine bc (hK _ ?_));clear hK K)|((first|refine ae ?_|refine aI ?_|refine bw ?_|refine aa rfl (b2) ?_|refine aa rfl (b3) ?_|refine aa rfl (n1) ?_|refine aa rfl (n2) ?_|(refine aa ?_ (tw) ?_;(focus(solve|simp[h,an x])))|(refine aa ?_ (g1) ?_;(focus(solve|simp[h,an x]))));simp[h,an x];(try(refine gen2 ?_ ?_<;>intro hq<;>try simp[h,an x]at hq)))|(refine T.ret (aB.a8 (Or.inr rfl) ?_)<;>simp[ay,Tryz.results101]<;>omega)|refine T.rd (id:=31) mixed (fun _=>false) [11] (by kernel_rfl) fun K hK=>?_|refine T.mK (id:=34) mixed (fun _=>false) [3,4] [1] 4 [2] (by kernel_rfl) fun K hK=>?_|refine T.r0 fun K hK=>?_|refine T.r1 fun K hK=>?_|refine T.cf rfl ?_|refine T.seq ?_|refine T.block ?_|refine T.skip ?_
  ·refine ah.ob Tryz.func101 Tryz.ntmps101 rfl ?_;repeat' first|((first|refine ab (hK _ ?_)|refine aC (hK _ ?_)|refine bc (hK _ ?_));clear hK K)|((first|refine ae ?_|refine aI ?_|refine bw ?_|refine aa rfl (b2) ?_|refine aa rfl (b3) ?_|refine aa rfl (n1) ?_|refine aa rfl (n2) ?_|(refine aa ?_ (tw) ?_;(focus(solve|simp[h,an x])))|(refine aa ?_ (g1) ?_;(focus(solve|simp[h,an x]))));simp[h,an x];(try(refine gen2 ?_ ?_<;>intro hq<;>try simp[h,an x]at hq)))|(refine T.ret (aB.a8 (Or.inr rfl) ?_)<;>simp[ay,Tryz.results101]<;>omega)|refine T.rd (id:=31) mixed (fun _=>false) [11] (by kernel_rfl) fun K hK=>?_|refine T.mK (id:=34) mixed (fun _=>false) [3,4] [1] 4 [2] (by kernel_rfl) fun K hK=>?_|refine T.r0 fun K hK=>?_|refine T.r1 fun K hK=>?_|refine T.cf rfl ?_|refine T.seq ?_|refine T.block ?_|refine T.skip ?_
 ·rw[if_pos h];cases q
  ·refine ah.ob Tryz.func101 Tryz.ntmps101 rfl ?_;repeat' first|((first|refine ab (hK _ ?_)|refine aC (hK _ ?_)|refine bc (hK _ ?_));clear hK K)|((first|refine ae ?_|refine aI ?_|refine bw ?_|refine aa rfl (b2) ?_|refine aa rfl (b3) ?_|refine aa rfl (n1) ?_|refine aa rfl (n2) ?_|(refine aa ?_ (tw) ?_;(focus(solve|simp[h,an x])))|(refine aa ?_ (g1) ?_;(focus(solve|simp[h,an x]))));simp[h,an x];(try(refine gen2 ?_ ?_<;>intro hq<;>try simp[h,an x]at hq)))|(refine T.ret (aB.a8 (Or.inr rfl) ?_)<;>simp[ay,Tryz.results101]<;>omega)|refine T.rd (id:=31) mixed (fun _=>false) [11] (by kernel_rfl) fun K hK=>?_|refine T.mK (id:=33) mixed (fun _=>false) [3,4] [1] 4 [2] (by kernel_rfl) fun K hK=>?_|refine T.r0 fun K hK=>?_|refine T.r1 fun K hK=>?_|refine T.ct rfl ?_|refine T.cf rfl ?_|refine T.seq ?_|refine T.block ?_|refine T.skip ?_
  ·refine ah.ob Tryz.func101 Tryz.ntmps101 rfl ?_;repeat' first|((first|refine ab (hK _ ?_)|refine aC (hK _ ?_)|refine bc (hK _ ?_));clear hK K)|((first|refine ae ?_|refine aI ?_|refine bw ?_|refine aa rfl (b2) ?_|refine aa rfl (b3) ?_|refine aa rfl (n1) ?_|refine aa rfl (n2) ?_|(refine aa ?_ (tw) ?_;(focus(solve|simp[h,an x])))|(refine aa ?_ (g1) ?_;(focus(solve|simp[h,an x]))));simp[h,an x];(try(refine gen2 ?_ ?_<;>intro hq<;>try simp[h,an x]at hq)))|(refine T.ret (aB.a8 (Or.inr rfl) ?_)<;>simp[ay,Tryz.results101]<;>omega)|refine T.rd (id:=31) mixed (fun _=>false) [11] (by kernel_rfl) fun K hK=>?_|refine T.mK (id:=33) mixed (fun _=>false) [3,4] [1] 4 [2] (by kernel_rfl) fun K hK=>?_|refine T.r0 fun K hK=>?_|refine T.r1 fun K hK=>?_|refine T.ct rfl ?_|refine T.cf rfl ?_|refine T.seq ?_|refine T.block ?_|refine T.skip ?_
end Go.Proofs.YtloolmchekcmeaaGreat
namespace Go.Proofs.YtloolmchekcmeaaGreat
attribute [-simp] Go.Av.cj Go.Av.e0 Go.Av.fH Go.Av.fy Go.Av.cW Go.Av.cg
open Go Go.Av
attribute [local irreducible] T ah TX EX LX bB dn bW cx ie aG.kind aG.kids al.kind al.name al.num al.ty al.fr al.label al.kids
attribute [local simp] aL au
set_option maxHeartbeats 16000000
set_option maxRecDepth 8000
attribute [local simp] adJ
attribute [local irreducible] ey dD
theorem xY (s:List UInt8) (c:UInt8):dD s c=ey s c s.length:=by unfold dD;rfl
theorem AW (s:List UInt8) (c:UInt8):ey s c 0=-1:=by unfold ey;rfl
theorem AX (s:List UInt8) (c:UInt8) (p:Nat):ey s c (p+1)=if s[p]? =some c then(p:Int)else ey s c p:=by rw[ey]
theorem AY (s:List UInt8) (c:UInt8) (hs:s.length<=1099511627776):ah adH 98 [.s s,.s [c]] [] (.i (if 0<=dD s c then s.length-1-dD s c else-1)) [] []:=by
 obtain⟨R,hR⟩:∃R,dD s c=R:=⟨_,rfl⟩;rw[hR];rw[xY]at hR;refine ah.ob Tryz.func98 Tryz.ntmps98 rfl ?_;repeat' first|(refine ab (hK _ ?_);clear hK K)|(refine ae ?_;simp;(try simp(disch:=omega)only[wrap64]);(try(refine gen2 ?_ ?_<;>intro hq<;>try simp at hq)))|refine T.r0 fun K hK=>?_|refine T.seq ?_|refine T.block ?_
 refine T.dU (α:=Nat) [0,1] (fun p=>[(4,.i 0),(5,.i ((p:Int)-1))]) (fun _=>[]) (fun _=>[]) (fun _ A=>A) (fun p=>p) (fun p=>p<=s.length/\ey s c p=R) (by simp;rfl) (fun p hx=>?_) s.length ⟨by omega,hR⟩ (by simp) (by simp) (by simp(disch:=omega) [wrap64]);obtain⟨hp,he⟩:=hx;dsimp only;simp only[iy,adK,adL,adN,adM];cases p with
 |zero=>
  rw[AW]at he;subst he;repeat' first|(refine ab (hK _ ?_);clear hK K)|(refine ae ?_;simp;(try simp(disch:=omega)only[wrap64]);(try(refine gen2 ?_ ?_<;>intro hq<;>try simp at hq)))|(refine T.ret (aB.data (Or.inr rfl) ?_ ?_)<;>simp[Tryz.results98]<;>omega)|refine T.r0 fun K hK=>?_|refine T.cf rfl ?_|refine T.seq ?_|refine T.exit ?_
 |succ p=>
  have ax:p<s.length:=by omega
  have uM:=zc ax;obtain⟨x,hx⟩:=bR ax;have bf:s[p]=x:=by rw[adP ax]at hx;exact Option.some.inj hx
  rw[bf]at uM;rw[AX,hx]at he;have oC:(0:Int)<=p:=by omega
  have HN:((p+1:Nat):Int)-1=p:=by omega
  have HS:((p:Int)+1).toNat=p+1:=by omega
  have jl:(p:Int)<=p+1:=by omega
  have kA:(p:Int)+1<=s.length:=by omega
  rw[HN];by_cases hc:x=c
  ·subst hc;rw[if_pos rfl]at he;rw[<-he];repeat' first|(refine ab (hK _ ?_);clear hK K)|(refine ae ?_;simp[ax,oC,HS,uM,kA];(try simp(disch:=omega)only[wrap64]);(try(refine gen2 ?_ ?_<;>intro hq<;>try simp[ax,oC,HS,uM,kA]at hq)))|(refine T.ret (aB.data (Or.inr rfl) ?_ ?_)<;>simp[Tryz.results98,oC]<;>omega)|refine T.r0 fun K hK=>?_|(refine⟨by omega,?_⟩)|refine T.ct rfl ?_|refine T.seq ?_|refine T.block ?_|refine T.skip ?_
  ·rw[if_neg (by simpa using hc)]at he;repeat' first|(refine ab (hK _ ?_);clear hK K)|(refine ae ?_;simp[ax,oC,HS,uM,kA,hc];(try simp(disch:=omega)only[wrap64]);(try(refine gen2 ?_ ?_<;>intro hq<;>try simp[ax,oC,HS,uM,kA,hc]at hq)))|(refine⟨p,by dsimp only;omega,⟨by omega,he⟩,?_⟩;simp(disch:=omega) [wrap64])|refine T.r0 fun K hK=>?_|refine T.r1 fun K hK=>?_|(refine⟨by omega,?_⟩)|refine T.ct rfl ?_|refine T.cf rfl ?_|refine T.seq ?_|refine T.block ?_|refine T.skip ?_
theorem Er (ls:List IT) (k:Nat) (e:al) (B ts:List IT) (r:Option (List IT×IT)) (hO:sV B) (oL:lp B) (hB:B.length<=1000000) (yR:∀u∈ts,sc B.length u=true) (fx:∀u∈ts,ir u)
  (jK:((e.kind=2\/e.kind=3\/e.kind=4)/\ts=[])\/((e.kind=11\/e.kind=12)/\ts.length=1)\/((e.kind=6\/e.kind=7\/e.kind=8\/e.kind=10)/\ts.length=2)\/(e.kind=9/\ts.length=3)) (h:fz k e.kind B ts=some r):IS ls B e ts r:=by
 have uc:∀{B2:List IT} {a b:IT} {B3:List IT} {q:Bool},sV B2->lp B2->B2.length<=1048576->sc B2.length a=true->sc B2.length b=true->ir a->ir b->iT k B2 a b=some (B3,q)->ah adH 136 [hP B2 ls,jV a,jV b] [] (.a8 [hP B3 ls,.b q]) [] []:=
  fun h1 h2 h3 h4 h5 h6 h7 h8=>CW ls k _ _ _ _ _ h1.sc h2 h3 h4 h5 h6 h7 h8
 have ubOk:∀{B2:List IT} {a b:IT} {B3:List IT},sV B2->sc B2.length a=true->sc B2.length b=true->iT k B2 a b=some (B3,true)->sV B3/\B3.length=B2.length:=fun h1 h2 h3 h4=>gE (k:=k) h1 h2 h3 (by simp[iU,h4])
 have two:∀(g:∀B1 B2:List IT,ah adH 99 [hP B ls] [] (.a8 [hP B1 ls,jV (.v B.length)]) [] []->ah adH 99 [hP B1 ls] [] (.a8 [hP B2 ls,jV (.v (B.length+1))]) [] []->B2=B++[.v B.length,.v (B.length+1)]->sV B2->lp B2->B2.length=B.length+2->IS ls B e ts r),IS ls B e ts r:=by
  intro g;have n1:=uA B ls (by omega);have n2:=uA (B++[.v B.length]) ls (by simp;omega);rw[show(B++[IT.v B.length]).length=B.length+1 by simp]at n2;refine g _ _ n1 n2 (by simp) ?_ ?_ (by simp)
  ·rw[show B++[IT.v B.length]++[IT.v (B.length+1)]=B++[.v B.length,.v (B.length+1)] by simp];exact⟨(kQ.two B).sc hO.sc,(kQ.two B).ti hO.sc hO.ti⟩
  ·refine(oL.app ?_).app ?_<;>intro u hu<;>simp at hu<;>subst hu<;>trivial
 rcases jK with⟨hk,rfl⟩|⟨hk,hl⟩|⟨hk,hl⟩|⟨hk,hl⟩
 ·have hr:r=some (B,.b (if e.kind=2 then 2 else 3)):=by
   rcases hk with h2|h2|h2<;>rw[h2]at h⊢<;>simp[fz]at h<;>exact h.symm
  subst hr;exact⟨B,_,true,Gv ls B e hk,rfl,rfl,rfl⟩
 ·obtain⟨x,rfl⟩:=List.length_eq_one_iff.1 hl;refine two fun B1 B2 n1 n2 e2 o2 k2 l2=>?_
  have h5:¬e.kind=2:=by omega
  have h6:¬(e.kind=3\/e.kind=4):=by omega
  simp only[fz,if_neg h5,if_neg h6,if_pos hk,adI]at h;obtain⟨w,h,hr⟩:=h;rw[<-e2]at h;obtain⟨B3,q,hu,hw⟩:=jY h;have sx:=dm (show B.length<=B2.length by omega) (yR x (by simp));have g:=uc o2 k2 (by omega) sx (show sc B2.length (.p 5 (.v B.length) (.v (B.length+1)))=true by simp[sc];omega) (fx x (by simp)) (by simp[ir]) hu;refine⟨B3,_,q,IV ls B B1 B2 B3 e x _ _ q hk n1 n2 g,?_⟩;rcases hw with⟨rfl,rfl⟩|⟨rfl,rfl⟩
  ·simp at hr;subst hr;exact⟨rfl,rfl,rfl⟩
  ·simp at hr;subst hr;rfl
 ·obtain⟨x,y,rfl⟩:=IF hl;have h5:¬e.kind=2:=by omega
  have h6:¬(e.kind=3\/e.kind=4):=by omega
  have sx:=yR x (by simp);have sy:=yR y (by simp);have kx:=fx x (by simp);have ky:=fx y (by simp);by_cases cJ:e.kind=10
  ·simp[fz,cJ]at h;subst h;exact⟨B,_,true,Gw ls B e x y cJ,rfl,rfl,rfl⟩
  by_cases Si:e.kind=6
  ·refine two fun B1 B2 n1 n2 e2 o2 k2 l2=>?_
   simp only[fz,if_neg h5,if_neg h6,if_neg cJ,if_pos Si,adI]at h;obtain⟨w,h,hr⟩:=h;rw[<-e2]at h;obtain⟨B3,q,hu,hw⟩:=jY h;have sx2:=dm (show B.length<=B2.length by omega) sx;have sy2:=dm (show B.length<=B2.length by omega) sy;have g:=uc o2 k2 (by omega) sx2 (show sc B2.length (.p 4 y (.v B.length))=true by simp[sc,sy2];omega) kx (by simp[ir,ky]) hu;refine⟨B3,_,q,IU ls B B1 B2 B3 e x y _ _ q Si n1 n2 g,?_⟩;rcases hw with⟨rfl,rfl⟩|⟨rfl,rfl⟩
   ·simp at hr;subst hr;exact⟨rfl,rfl,rfl⟩
   ·simp at hr;subst hr;rfl
  ·have Sj:e.kind=7\/e.kind=8:=by omega
   simp only[fz,if_neg h5,if_neg h6,if_neg cJ,if_neg Si,if_pos Sj]at h;obtain⟨w,LL⟩:∃w,iU k B x (.b 2)=w:=⟨_,rfl⟩;rw[LL]at h;cases w with
   |none=>simp at h
   |some w=>
    obtain⟨B1,q1,I4,Mg⟩:=jY LL;have g1:=uc hO oL (by omega) sx (show sc B.length (.b 2)=true from rfl) kx (by simp[ir]) I4;rcases Mg with⟨rfl,rfl⟩|⟨rfl,rfl⟩
    ·simp only[adI]at h;obtain⟨w2,h,hr⟩:=h;obtain⟨B2,q2,C4,AA⟩:=jY h;obtain⟨o1,l1⟩:=ubOk hO sx (show sc B.length (.b 2)=true from rfl) I4;have k1:=mH oL kx (show ir (.b 2) by simp[ir]) I4;have g2:=uc o1 k1 (by omega) (by rw[l1];exact sy) (show sc B1.length (.b 2)=true from rfl) ky (show ir (.b 2) by simp[ir]) C4;refine⟨_,_,_,Fj ls B B1 B2 e x y true q2 Sj g1 (fun _=>g2),?_⟩;rcases AA with⟨rfl,rfl⟩|⟨rfl,rfl⟩
     ·simp at hr;subst hr;exact⟨rfl,rfl,rfl⟩
     ·simp at hr;subst hr;rfl
    ·simp at h;subst h;exact⟨_,_,_,Fj ls B B1 B1 e x y false false Sj g1 (fun e=>by cases e),rfl⟩
 ·obtain⟨x,y,z,rfl⟩:=O9 hl;have h5:¬e.kind=2:=by omega
  have h6:¬(e.kind=3\/e.kind=4):=by omega
  simp only[fz,if_neg h5,if_neg h6,if_pos hk]at h;obtain⟨w,LL⟩:∃w,iU k B x (.b 3)=w:=⟨_,rfl⟩;rw[LL]at h;cases w with
  |none=>simp at h
  |some w=>
   obtain⟨B1,q1,I4,Mg⟩:=jY LL;have g1:=uc hO oL (by omega) (yR x (by simp)) (show sc B.length (.b 3)=true from rfl) (fx x (by simp)) (by simp[ir]) I4;rcases Mg with⟨rfl,rfl⟩|⟨rfl,rfl⟩
   ·simp only[adI]at h;obtain⟨w2,h,hr⟩:=h;obtain⟨B2,q2,C4,AA⟩:=jY h;obtain⟨o1,l1⟩:=ubOk hO (yR x (by simp)) (show sc B.length (.b 3)=true from rfl) I4;have k1:=mH oL (fx x (by simp)) (show ir (.b 3) by simp[ir]) I4;have g2:=uc o1 k1 (by omega) (by rw[l1];exact yR y (by simp)) (by rw[l1];exact yR z (by simp)) (fx y (by simp)) (fx z (by simp)) C4;refine⟨_,_,_,Fk ls B B1 B2 e x y z true q2 hk g1 (fun _=>g2),?_⟩;rcases AA with⟨rfl,rfl⟩|⟨rfl,rfl⟩
    ·simp at hr;subst hr;exact⟨rfl,rfl,rfl⟩
    ·simp at hr;subst hr;rfl
   ·simp at h;subst h;exact⟨_,_,_,Fk ls B B1 B1 e x y z false false hk g1 (fun e=>by cases e),rfl⟩
def xZ (x:List IT×List IT×IT×Bool):Option (List IT×List IT×IT)->Prop
 |some r=>x.1=r.1/\x.2.1=r.2.1/\x.2.2.1=r.2.2/\x.2.2.2=true
 |none=>x.2.2.2=false
abbrev rN (ns:List UInt8) (ts:List IT) (e:al) (B ls:List IT) (x:List IT×List IT×IT×Bool):Prop:=
 ah adH 42 [hP B ls,.s ns,.l (ts.map oM),cL e] [] (.a8 [hP x.1 x.2.1,jV x.2.2.1,.b x.2.2.2]) [] []
def AZ (k:Nat) (ns:List UInt8) (ts:List IT) (e:al) (B ls:List IT) (x:List IT×List IT×IT×Bool):Prop:=
 rN ns ts e B ls x/\∃r,inf k e B ls ns ts=some r/\xZ x r
structure ij (ns:List UInt8) (ts:List IT) (B ls:List IT) (n t:Nat):Prop where
 ok:sV B
 kd:lp B
 Gx:lp ls
 ctx:xL B ns ts
 len:B.length+2*n<=1000000
 Gy:ls.length+t<=1000000
theorem ij.next {k:Nat} {ns:List UInt8} {ts B ls B' ls':List IT} {t:IT} {u:al} {n m:Nat} (he:Ba u) (bM:lp ts) (h:ij ns ts B ls (aN u+n) ((aF u).length+m)) (hi:inf k u B ls ns ts=some (some (B',ls',t))):ij ns ts B' ls' n m/\B.length<=B'.length/\sc B'.length t=true/\ir t:=by
 have h1:=fh he h.ok h.ctx hi;obtain⟨h2,h3,h4⟩:=IG he h.kd h.Gx bM hi;obtain⟨new,h5,h6,_⟩:=h1.yQ;have:=h.len;have:=h.Gy;have:=h1.len;exact⟨⟨h1.ok,h2,h3,h.ctx.le h1.le,by omega,by rw[h5,adT,h6];omega⟩,h1.le,h1.tj,h4⟩
def qV (X:al->List IT->List IT->List IT×List IT×IT×Bool) (N:List IT->List IT->List IT->List IT×List IT×IT×Bool):List al->List IT->List IT->List IT->List IT×List IT×IT×Bool
 |[],C,l,us=>N C l us
 |u::r,C,l,us=>if(X u C l).2.2.2=true then qV X N r (X u C l).1 (X u C l).2.1 (us++[(X u C l).2.2.1])else X u C l
def nq (k:Nat) (ns:List UInt8) (ts:List IT) (L:List al) (C l us:List IT):Option (Option (List IT×List IT×List IT)):=match nh k L C l ns ts with
 |some (some r)=>some (some (r.1,r.2.1,us++r.2.2))
 |none=>none
 |some none=>some none
theorem oA {k:Nat} {ns:List UInt8} {ts:List IT} {u:al} {L:List al} {C l us:List IT}:nq k ns ts (u::L) C l us=match inf k u C l ns ts with
  |some (some r)=>nq k ns ts L r.1 r.2.1 (us++[r.2.2])
  |none=>none
  |some none=>some none:=by
 simp only[nq,nh];cases h:inf k u C l ns ts with
 |none=>rfl
 |some o=>
  cases o with
  |none=>rfl
  |some r=>
   obtain⟨a,b,c⟩:=r;simp only;cases h2:nh k L a b ns ts with
   |none=>rfl
   |some o2=>
    cases o2 with
    |none=>rfl
    |some r2=>obtain⟨d,e,f⟩:=r2;simp
structure IW (k:Nat) (ns:List UInt8) (ts:List IT) (e:al) (L:List al) (X:al->List IT->List IT->List IT×List IT×IT×Bool) (N:List IT->List IT->List IT->List IT×List IT×IT×Bool) (OUT:List IT×List IT×IT×Bool) (R:Option (List IT×List IT×List IT)) (p:Nat) (C l us:List IT):Prop where
 le:p<=L.length
 ul:us.length=p
 cond:ij ns ts C l (bm (L.drop p)+1) (az (L.drop p)).length
 Gq:∀u∈us,sc C.length u=true/\ir u
 out:qV X N (L.drop p) C l us=OUT
 res:nq k ns ts (L.drop p) C l us=some R
set_option maxHeartbeats 1000000 in
theorem Es (k:Nat) (ns:List UInt8) (ts:List IT) (e:al) (L:List al) (hL:e.kids=L) (Qb:L.length<=3) (h1:e.kind≠1) (h5:e.kind≠5) (bM:lp ts) (Lg:∀u∈L,Ba u) (X:al->List IT->List IT->List IT×List IT×IT×Bool) (N:List IT->List IT->List IT->List IT×List IT×IT×Bool) (B ls:List IT)
  (hX:∀u∈L,∀C l n m,ij ns ts C l (aN u+n) ((aF u).length+m)->(∃r,inf k u C l ns ts=some r)->AZ k ns ts u C l (X u C l)) (R:Option (List IT×List IT×List IT))
  (hN:∀C l us,ij ns ts C l 1 0->us.length=L.length->(∀u∈us,sc C.length u=true/\ir u)->R=some (C,l,us)->ah adH 101 [hP C l,cL e,.l (us.map oM)] [] (.a8 [hP (N C l us).1 (N C l us).2.1,jV (N C l us).2.2.1,.b (N C l us).2.2.2]) [] [])
  (hI:IW k ns ts e L X N (qV X N L B ls []) R 0 B ls []):rN ns ts e B ls (qV X N L B ls []):=by
 generalize qV X N L B ls []=OUT at*;obtain⟨O1,O2,O3,O4⟩:=OUT;rw[rN];dsimp only;have Sk:e.kids.length=L.length:=by rw[hL]
 refine ah.ob Tryz.func42 Tryz.ntmps42 rfl ?_;repeat' first|(refine ab (hK _ ?_);clear hK K)|(refine ae ?_;simp[h1,h5];(try(refine gen2 ?_ ?_<;>intro hq<;>try simp[h1,h5]at hq)))|refine T.rs (id:=11) (fun i=>i==0) fun K hK=>?_|refine T.rs (id:=0) (fun _=>false) fun K hK=>?_|refine T.rs (id:=1) (fun _=>false) fun K hK=>?_|refine T.rs (id:=6) (fun _=>false) fun K hK=>?_|refine T.rs (id:=12) (fun _=>false) fun K hK=>?_|refine T.cf rfl ?_|refine T.seq ?_|refine T.block ?_|refine T.skip ?_
 refine T.dU (α:=Nat×List IT×List IT×List IT×List (List CV)) [1,2,4,7,8,9] (fun x=>[(10,.b false),(16,.c (.own 0 x.1)),(17,.i x.1)]) (fun x=>[(0,[.d (.sl (x.2.1.map oM)),.d (.sl (x.2.2.1.map oM))])]) (fun x=>x.2.2.2.2) (fun x _=>[{sz:=3,eA:=72,rows:=x.2.2.2.1.map oM,wr:=true}]) (fun x=>L.length+1-x.1) (fun x=>IW k ns ts e L X N (O1,O2,O3,O4) R x.1 x.2.1 x.2.2.1 x.2.2.2.1) (by simp;rfl) (fun x hx=>?_) (0,B,ls,[],[]) hI (by simp) (by simp) (by simp);obtain⟨p,C,l,us,G⟩:=x;dsimp only at hx⊢;simp only[iy,adK,adL,adN,adM,adO];have Bq:=hx.ul;by_cases ax:p<L.length
 ·obtain⟨u,ht⟩:=bR ax;have eQ:u∈L:=adQ ht;have bf:L[p]=u:=by rw[adP ax]at ht;exact Option.some.inj ht
  have gP:L.drop p=u::L.drop (p+1):=by rw[adR ax,bf]
  have hb:=Lg u eQ;have hc:=hx.cond;rw[gP]at hc;simp only[bm,az,adT]at hc;have z7:ij ns ts C l (aN u+(bm (L.drop (p+1))+1)) ((aF u).length+(az (L.drop (p+1))).length):=⟨hc.ok,hc.kd,hc.Gx,hc.ctx,by have:=hc.len;omega,hc.Gy⟩;have ho:=hx.out;have hr:=hx.res;obtain⟨hA,r,hi,ha⟩:=hX u eQ C l _ _ z7 (by
   rw[gP,oA]at hr;cases hz:inf k u C l ns ts with
   |none=>rw[hz]at hr;cases hr
   |some z=>exact⟨z,rfl⟩)
  rw[gP,qV]at ho;rw[gP,oA,hi]at hr;rw[rN]at hA;generalize X u C l=x at*;obtain⟨C',l',t,q⟩:=x;dsimp only at hA ho ha;have ld:L.length=e.kids.length:=by rw[hL]
  have CX:p<e.kids.length:=by omega
  have Kp:e.kids[p]=u:=by simp only[hL];exact bf
  cases q with
  |false=>
   rw[if_neg (by simp)]at ho;simp only[Prod.mk.injEq]at ho;obtain⟨rfl,rfl,rfl,rfl⟩:=ho;clear hx hX hN hI hc z7 hi hr ha;repeat' first|((first|refine ab (hK _ ?_)|refine bc (hK _ ?_));clear hK K)|((first|refine ae ?_|refine bw ?_|refine aa rfl (hA) ?_);simp[CX,Kp,au u];(try simp(disch:=omega)only[wrap64]);(try(refine gen2 ?_ ?_<;>intro hq<;>try simp[CX,Kp,au u]at hq)))|(refine T.ret (aB.a8 (Or.inr rfl) ?_)<;>simp[ay,Tryz.results42]<;>omega)|(refine⟨?_,?_⟩;(focus(intros;refine aa rfl (hA) ?_;simp;done)))|refine T.PO (id:=15) mixed (fun _=>false) [13,14,15,16] [0,4,6,7,8] 14 [2] 14 [0,4,6,7,8,13,14,15,16] _ (by kernel_rfl) rfl rfl rfl rfl wh rfl (by simp) fun K hK=>?_|refine T.mK (id:=17) mixed (fun _=>false) [2,3] [1] 3 [2] (by kernel_rfl) fun K hK=>?_|refine T.rs (id:=13) (fun _=>false) fun K hK=>?_|refine T.rs (id:=16) (fun _=>false) fun K hK=>?_|refine T.ct rfl ?_|refine T.seq ?_|refine T.block ?_|refine T.skip ?_
  |true=>
   rw[if_pos rfl]at ho;have hn:IW k ns ts e L X N (O1,O2,O3,O4) R (p+1) C' l' (us++[t]):=by
    cases r with
    |none=>simp[xZ]at ha
    |some r=>
     obtain⟨r1,r2,r3⟩:=r;simp only[xZ]at ha;obtain⟨rfl,rfl,rfl,_⟩:=ha;obtain⟨g1,g2,g3,g4⟩:=ij.next hb bM z7 hi;exact⟨by omega,by simp[Bq],g1,fun v hv=>by
      rcases adS.1 hv with hv|hv
      ·exact⟨dm g2 (hx.Gq v hv).1,(hx.Gq v hv).2⟩
      ·simp at hv;subst hv;exact⟨g3,g4⟩,ho,hr⟩
   clear hX hN hI hc z7 hi hr ha;repeat' first|((first|refine ab (hK _ ?_)|refine bc (hK _ ?_));clear hK K)|((first|refine ae ?_|refine bw ?_|refine aa rfl (hA) ?_);simp[CX,Kp,au u,Bq];(try simp(disch:=omega)only[wrap64]);(try(refine gen2 ?_ ?_<;>intro hq<;>try simp[CX,Kp,au u,Bq]at hq)))|(refine⟨by omega,by omega,?_⟩)|(refine⟨(p+1,C',l',us++[t],_),by dsimp only;omega,hn,rfl,?_,?_⟩<;>simp(disch:=omega) [wrap64,an t])|(refine⟨?_,?_⟩;(focus(intros;refine aa rfl (hA) ?_;simp;done)))|refine T.PO (id:=15) mixed (fun _=>false) [13,14,15,16] [0,4,6,7,8] 14 [2] 14 [0,4,6,7,8,13,14,15,16] _ (by kernel_rfl) rfl rfl rfl rfl wh rfl (by simp) fun K hK=>?_|refine T.rs (id:=13) (fun _=>false) fun K hK=>?_|refine T.rs (id:=16) (fun _=>false) fun K hK=>?_|refine T.rs (id:=18) (fun _=>false) fun K hK=>?_|refine T.fm (id:=19) (fun _=>false) fun K hK=>?_|refine T.fm (id:=14) (fun _=>false) fun K hK=>?_|refine T.ct rfl ?_|refine T.cf rfl ?_|refine T.seq ?_|refine T.block ?_|refine T.skip ?_
 ·have ff:p=L.length:=by have:=hx.le;omega
  subst ff;have hc:=hx.cond;have ho:=hx.out;have hr:=hx.res;simp only[List.drop_length,bm,az,List.length_nil]at hc ho hr;simp[nq,nh]at hr;have g:=hN C l us hc Bq hx.Gq hr.symm;rw[qV]at ho;generalize N C l us=y at*;subst ho;dsimp only at g;have CX:¬L.length<e.kids.length:=by omega
  clear hx hX hN hI hc hr;repeat' first|(refine ab (hK _ ?_);clear hK K)|((first|refine ae ?_|(refine aa ?_ (g) ?_;(focus(solve|simp[CX,ax,Sk,Bq]))));simp[CX,ax,Sk,Bq];(try(refine gen2 ?_ ?_<;>intro hq<;>try simp[CX,ax,Sk,Bq]at hq)))|(refine T.ret (aB.a8 (Or.inr rfl) ?_)<;>simp[ay,Tryz.results42]<;>omega)|refine T.rs (id:=13) (fun _=>false) fun K hK=>?_|refine T.rs (id:=20) (fun _=>false) fun K hK=>?_|refine T.cf rfl ?_|refine T.seq ?_|refine T.exit ?_
theorem Gz (ns:List UInt8) (ts:List IT) (c:UInt8) (B ls:List IT) (hc:ts.length=ns.length) (hn:ns.length<=1000000):(0<=dD ns c->∃t,ts[(dD ns c).toNat]? =some t/\rN ns ts (pG [c]) B ls (B,ls,t,true))/\(¬0<=dD ns c->rN ns ts (pG [c]) B ls (B,ls,.v 0,false)):=by
 have hb:=ot ns c ns.length;rw[<-xY]at hb;have k1:=AY ns c (by omega);refine⟨fun h0=>?_,fun h0=>?_⟩
 ·rw[if_pos h0]at k1;obtain⟨j,hj⟩:∃j:Nat,dD ns c=j:=⟨(dD ns c).toNat,by omega⟩;rw[hj]at k1 hb⊢;have ax:j<ts.length:=by omega
  obtain⟨t,ht⟩:=bR ax;have eQ:t∈ts:=adQ ht;have bf:ts[j]=t:=by rw[adP ax]at ht;exact Option.some.inj ht
  have gP:ts.drop j=t::ts.drop (j+1):=by rw[adR ax,bf]
  refine⟨t,by simpa using ht,?_⟩;rw[rN];have Pq:¬((ns.length:Int)-1-j<0):=by omega
  have EE:(ts.length:Int)-1-((ns.length:Int)-1-j)=j:=by omega
  refine ah.ob Tryz.func42 Tryz.ntmps42 rfl ?_;repeat' first|((first|refine ab (hK _ ?_)|refine bc (hK _ ?_));clear hK K)|((first|refine ae ?_|refine bw ?_|refine aa rfl (k1) ?_);simp[Pq,EE,ax,bf,an t];(try simp(disch:=omega)only[wrap64]);(try(refine gen2 ?_ ?_<;>intro hq<;>try simp[Pq,EE,ax,bf,an t]at hq)))|(refine T.ret (aB.a8 (Or.inr rfl) ?_)<;>simp[ay,Tryz.results42]<;>omega)|refine T.mK (id:=5) mixed (fun _=>false) [9,10] [3,7,8] 10 [2] (by kernel_rfl) fun K hK=>?_|refine T.r0 fun K hK=>?_|refine T.ct rfl ?_|refine T.cf rfl ?_|refine T.seq ?_|refine T.skip ?_
 ·rw[if_neg h0]at k1;rw[rN];refine ah.ob Tryz.func42 Tryz.ntmps42 rfl ?_;repeat' first|(refine ab (hK _ ?_);clear hK K)|((first|refine ae ?_|refine aa rfl (k1) ?_);simp[kG];(try simp(disch:=omega)only[wrap64]);(try(refine gen2 ?_ ?_<;>intro hq<;>try simp[kG]at hq)))|(refine T.ret (aB.a8 (Or.inr rfl) ?_)<;>simp[ay,Tryz.results42]<;>omega)|refine T.r0 fun K hK=>?_|refine T.ct rfl ?_|refine T.seq ?_
theorem GB (ns:List UInt8) (ts:List IT) (c:UInt8) (t:aG) (b:al) (B B1 ls:List IT) (n:Nat) (hn:ns.length<=1000000) (bM:ts.length<=1000000) (vK:ls.length<=1000000) (n1:ah adH 99 [hP B ls] [] (.a8 [hP B1 ls,jV (.v n)]) [] []) (x:List IT×List IT×IT×Bool)
  (hb:rN (ns++[c]) (ts++[.v n]) b B1 (ls++[.v n]) x):rN ns ts (nY [c] t b) B ls (x.1,x.2.1,.p 4 (.v n) x.2.2.1,x.2.2.2):=by
 have yu:ns.length<=4611686018427387903:=by omega
 obtain⟨C,l,u,q⟩:=x;rw[rN]at hb⊢;dsimp only at hb⊢;have tw:=qy 4 (.v n) u;cases q
 ·refine ah.ob Tryz.func42 Tryz.ntmps42 rfl ?_;repeat' first|((first|refine ab (hK _ ?_)|refine aC (hK _ ?_)|refine bc (hK _ ?_));clear hK K)|((first|refine ae ?_|refine aI ?_|refine bw ?_|refine aa rfl (n1) ?_|(refine aa ?_ (hb) ?_;(focus(solve|simp[kG,au b,yu])))|(refine aa ?_ (tw) ?_;(focus(solve|simp[kG,au b,yu]))));simp[kG,au b,yu];(try simp(disch:=omega)only[wrap64,Le]);(try(refine gen2 ?_ ?_<;>intro hq<;>try simp[kG,au b,yu]at hq)))|(refine⟨by omega,by omega,?_⟩)|(refine T.ret (aB.a8 (Or.inr rfl) ?_)<;>simp[ay,Tryz.results42,kG]<;>omega)|refine T.mK (id:=8) mixed (fun i=>i==0) [0,3,6,8] [2,4,5] 4 [] (by kernel_rfl) fun K hK=>?_|refine T.PO (id:=9) mixed (fun i=>i==5) [5,7,10,15,20,21,22] [0,3,8,9,12,13,14] 11 [] 20 [0,3,5,7,8,9,10,12,13,14,15,20,21,22] _ (by kernel_rfl) rfl rfl rfl rfl wh rfl (by simp) fun K hK=>?_|refine T.rd (id:=10) mixed (fun _=>false) [5,6] (by kernel_rfl) fun K hK=>?_|refine T.rs (id:=0) (fun _=>false) fun K hK=>?_|refine T.rs (id:=1) (fun _=>false) fun K hK=>?_|refine T.rs (id:=6) (fun _=>false) fun K hK=>?_|refine T.rs (id:=7) (fun _=>false) fun K hK=>?_|refine T.ct rfl ?_|refine T.cf rfl ?_|refine T.seq ?_|refine T.skip ?_
 ·refine ah.ob Tryz.func42 Tryz.ntmps42 rfl ?_;repeat' first|((first|refine ab (hK _ ?_)|refine aC (hK _ ?_)|refine bc (hK _ ?_));clear hK K)|((first|refine ae ?_|refine aI ?_|refine bw ?_|refine aa rfl (n1) ?_|(refine aa ?_ (hb) ?_;(focus(solve|simp[kG,au b,yu])))|(refine aa ?_ (tw) ?_;(focus(solve|simp[kG,au b,yu]))));simp[kG,au b,yu];(try simp(disch:=omega)only[wrap64,Le]);(try(refine gen2 ?_ ?_<;>intro hq<;>try simp[kG,au b,yu]at hq)))|(refine⟨by omega,by omega,?_⟩)|(refine T.ret (aB.a8 (Or.inr rfl) ?_)<;>simp[ay,Tryz.results42,kG]<;>omega)|refine T.mK (id:=8) mixed (fun i=>i==0) [0,3,6,8] [2,4,5] 4 [] (by kernel_rfl) fun K hK=>?_|refine T.PO (id:=9) mixed (fun i=>i==5) [5,7,10,15,20,21,22] [0,3,8,9,12,13,14] 11 [] 20 [0,3,5,7,8,9,10,12,13,14,15,20,21,22] _ (by kernel_rfl) rfl rfl rfl rfl wh rfl (by simp) fun K hK=>?_|refine T.rd (id:=10) mixed (fun _=>false) [5,6] (by kernel_rfl) fun K hK=>?_|refine T.rs (id:=0) (fun _=>false) fun K hK=>?_|refine T.rs (id:=1) (fun _=>false) fun K hK=>?_|refine T.rs (id:=6) (fun _=>false) fun K hK=>?_|refine T.rs (id:=7) (fun _=>false) fun K hK=>?_|refine T.ct rfl ?_|refine T.cf rfl ?_|refine T.seq ?_|refine T.skip ?_
theorem CY {k:Nat} {ns:List UInt8} {ts:List IT} {X:al->List IT->List IT->List IT×List IT×IT×Bool} {N:List IT->List IT->List IT->List IT×List IT×IT×Bool} {R:Option (List IT×List IT×List IT)} {r:Option (List IT×List IT×IT)} {len:Nat} (bM:lp ts)
  (hN:∀C l us,ij ns ts C l 1 0->us.length=len->(∀u∈us,sc C.length u=true/\ir u)->R=some (C,l,us)->xZ (N C l us) r) (h0:R=none->r=none):∀(L:List al) (C l us:List IT),ij ns ts C l (bm L+1) (az L).length->us.length+L.length=len->(∀u∈us,sc C.length u=true/\ir u)->(∀u∈L,Ba u)->
  (∀u∈L,∀C l n m,ij ns ts C l (aN u+n) ((aF u).length+m)->(∃r,inf k u C l ns ts=some r)->AZ k ns ts u C l (X u C l))->nq k ns ts L C l us=some R->xZ (qV X N L C l us) r
 |[],C,l,us,hc,hl,hs,_,_,hr=>by
  simp[nq,nh]at hr;rw[qV];exact hN C l us (by simpa[bm,az]using hc) (by simpa using hl) hs hr.symm
 |u::L,C,l,us,hc,hl,hs,hB,hX,hr=>by
  simp only[bm,az,adT]at hc;have z7:ij ns ts C l (aN u+(bm L+1)) ((aF u).length+(az L).length):=⟨hc.ok,hc.kd,hc.Gx,hc.ctx,by have:=hc.len;omega,hc.Gy⟩;rw[oA]at hr;obtain⟨_,q,hi,ha⟩:=hX u (by simp) C l _ _ z7 (by
   cases hz:inf k u C l ns ts with
   |none=>rw[hz]at hr;cases hr
   |some z=>exact⟨z,rfl⟩)
  rw[hi]at hr;rw[qV];cases q with
  |none=>
   simp only[xZ]at ha;rw[if_neg (by rw[ha];simp)];cases hr
   rw[h0 rfl];exact ha
  |some q=>
   obtain⟨q1,q2,q3⟩:=q;simp only[xZ]at ha;obtain⟨e1,e2,e3,e4⟩:=ha;rw[if_pos e4,e1,e2,e3];obtain⟨g1,g2,g3,g4⟩:=ij.next (hB u (by simp)) bM z7 hi;exact CY bM hN h0 L q1 q2 (us++[q3]) g1 (by simp at hl⊢;omega) (fun v hv=>by
    rcases adS.1 hv with hv|hv
    ·exact⟨dm g2 (hs v hv).1,(hs v hv).2⟩
    ·simp at hv;subst hv;exact⟨g3,g4⟩) (fun v hv=>hB v (by simp[hv])) (fun v hv=>hX v (by simp[hv])) hr
open Classical in
theorem jZ (k:Nat) (ns:List UInt8) (ts:List IT) (e:al) (Qb:e.kids.length<=3) (h1:e.kind≠1) (h5:e.kind≠5) (bM:lp ts) (Lg:∀u∈e.kids,Ba u)
  (jK:∀us:List IT,us.length=e.kids.length->((e.kind=2\/e.kind=3\/e.kind=4)/\us=[])\/((e.kind=11\/e.kind=12)/\us.length=1)\/((e.kind=6\/e.kind=7\/e.kind=8\/e.kind=10)/\us.length=2)\/(e.kind=9/\us.length=3))
  (ih:∀u∈e.kids,∀C l n m,ij ns ts C l (aN u+n) ((aF u).length+m)->(∃r,inf k u C l ns ts=some r)->∃x,AZ k ns ts u C l x)
  (B ls:List IT) (hc:ij ns ts B ls (bm e.kids+1) (az e.kids).length) (r:Option (List IT×List IT×IT)) (hr:inf k e B ls ns ts=some r):∃x,AZ k ns ts e B ls x:=by
 let X:al->List IT->List IT->List IT×List IT×IT×Bool:=fun u C l=>if h:∃x,AZ k ns ts u C l x then h.choose else([],[],.v 0,false)
 have hX:∀u∈e.kids,∀C l n m,ij ns ts C l (aN u+n) ((aF u).length+m)->(∃r,inf k u C l ns ts=some r)->AZ k ns ts u C l (X u C l):=fun u hu C l n m g1 g2=>by
  have h:=ih u hu C l n m g1 g2;show AZ k ns ts u C l (if h:∃x,AZ k ns ts u C l x then h.choose else([],[],.v 0,false));rw[dif_pos h];exact h.choose_spec
 let NP:List IT->List IT->List IT->(List IT×IT×Bool)->Prop:=fun C l us y=>ah adH 101 [hP C l,cL e,.l (us.map oM)] [] (.a8 [hP y.1 l,jV y.2.1,.b y.2.2]) [] []/\∃rn,fz k e.kind C us=some rn/\Pp y.1 y.2.1 y.2.2 rn
 let N:List IT->List IT->List IT->List IT×List IT×IT×Bool:=fun C l us=>if h:∃y,NP C l us y then(h.choose.1,l,h.choose.2.1,h.choose.2.2)else([],[],.v 0,false)
 obtain⟨R,hR,Ni,Kz⟩:∃R,nh k e.kids B ls ns ts=some R/\(R=none->r=none)/\(∀C l us,R=some (C,l,us)->∃rn,fz k e.kind C us=some rn/\r=rn.map fun z=>(z.1,l,z.2)):=by
  cases e with
  |mk kd s n t f b L=>
   simp only[al.b4]at h1 h5;rw[inf,if_neg h1]at hr;simp only[if_neg h5]at hr;simp only[al.bP,al.b4];cases hS:nh k L B ls ns ts with
   |none=>rw[hS]at hr;cases hr
   |some R=>
    rw[hS]at hr;refine⟨R,rfl,fun e=>?_,fun C l us e=>?_⟩
    ·subst e;simpa using hr.symm
    ·subst e;simp only[adI]at hr;obtain⟨rn,q1,q2⟩:=hr;exact⟨rn,q1,q2.symm⟩
 have dY:nq k ns ts e.kids B ls []=some R:=by
  simp only[nq,hR];cases R with
  |none=>rfl
  |some z=>obtain⟨a,b,c⟩:=z;simp
 have TR:∀C l us,ij ns ts C l 1 0->us.length=e.kids.length->(∀u∈us,sc C.length u=true/\ir u)->R=some (C,l,us)->∃y,NP C l us y:=fun C l us g1 g2 g3 g4=>by
  obtain⟨rn,q1,_⟩:=Kz C l us g4;obtain⟨D,u,q,g5,g6⟩:=Er l k e C us rn g1.ok g1.kd (by have:=g1.len;omega) (fun v hv=>(g3 v hv).1) (fun v hv=>(g3 v hv).2) (jK us g2) q1;exact⟨(D,u,q),g5,rn,q1,g6⟩
 have hw:=Es k ns ts e e.kids rfl Qb h1 h5 bM Lg X N B ls hX R (fun C l us g1 g2 g3 g4=>by
  have h:=TR C l us g1 g2 g3 g4;show ah _ _ _ _ (.a8 [hP (if h:∃y,NP C l us y then(h.choose.1,l,h.choose.2.1,h.choose.2.2)else([],[],.v 0,false)).1 (if h:∃y,NP C l us y then(h.choose.1,l,h.choose.2.1,h.choose.2.2)else([],[],.v 0,false)).2.1,jV (if h:∃y,NP C l us y then(h.choose.1,l,h.choose.2.1,h.choose.2.2)else([],[],.v 0,false)).2.2.1,.b (if h:∃y,NP C l us y then(h.choose.1,l,h.choose.2.1,h.choose.2.2)else([],[],.v 0,false)).2.2.2]) [] [];rw[dif_pos h];exact h.choose_spec.1) ⟨Nat.zero_le _,rfl,by simpa using hc,fun u hu=>(by cases hu),by simp,by simpa using dY⟩
 refine⟨_,hw,r,hr,?_⟩;refine CY (len:=e.kids.length) bM (fun C l us g1 g2 g3 g4=>?_) Ni e.kids B ls [] hc (by simp) (fun u hu=>(by cases hu)) Lg hX dY;have h:=TR C l us g1 g2 g3 g4;obtain⟨rn,q1,q2⟩:=Kz C l us g4;obtain⟨_,rn',q3,q4⟩:=h.choose_spec;rw[q1]at q3;cases q3
 show xZ (if h:∃y,NP C l us y then(h.choose.1,l,h.choose.2.1,h.choose.2.2)else([],[],.v 0,false)) r;rw[dif_pos h,q2];cases rn with
 |none=>exact q4
 |some z=>exact⟨q4.1,rfl,q4.2.1,q4.2.2⟩
theorem vz (k:Nat) {e:al} (he:Ba e):∀(ns:List UInt8) (ts B ls:List IT) (n m:Nat),lp ts->ns.length+aN e<=1000000->ij ns ts B ls (aN e+n) ((aF e).length+m)->(∃r,inf k e B ls ns ts=some r)->∃x,AZ k ns ts e B ls x:=by
 induction he with
 |var c=>
  intro ns ts B ls n m bM hn hc ⟨r,hr⟩;have h:=Gz ns ts c B ls hc.ctx.len (by omega);rw[kh]at hr;by_cases h0:0<=dD ns c
  ·obtain⟨t,ht,hA⟩:=h.1 h0;rw[if_pos h0,ht]at hr;simp at hr;exact⟨_,hA,r,by rw[kh,if_pos h0,ht];simpa using hr,by subst hr;exact⟨rfl,rfl,rfl,rfl⟩⟩
  ·rw[if_neg h0]at hr;simp at hr;exact⟨_,h.2 h0,r,by rw[kh,if_neg h0];simpa using hr,by subst hr;rfl⟩
 |num z=>
  intro ns ts B ls n m bM hn hc ⟨r,hr⟩;exact jZ k ns ts _ (by simp) (by simp) (by simp) bM (by simp) (fun us h=>.inl ⟨by simp,by simpa using h⟩) (by simp) B ls ⟨hc.ok,hc.kd,hc.Gx,hc.ctx,by have:=hc.len;simp[bm,aN]at this⊢;omega,by have:=hc.Gy;simp[az];omega⟩ r hr
 |tQ=>
  intro ns ts B ls n m bM hn hc ⟨r,hr⟩;exact jZ k ns ts _ (by simp) (by simp) (by simp) bM (by simp) (fun us h=>.inl ⟨by simp,by simpa using h⟩) (by simp) B ls ⟨hc.ok,hc.kd,hc.Gx,hc.ctx,by have:=hc.len;simp[bm,aN]at this⊢;omega,by have:=hc.Gy;simp[az];omega⟩ r hr
 |tR=>
  intro ns ts B ls n m bM hn hc ⟨r,hr⟩;exact jZ k ns ts _ (by simp) (by simp) (by simp) bM (by simp) (fun us h=>.inl ⟨by simp,by simpa using h⟩) (by simp) B ls ⟨hc.ok,hc.kd,hc.Gx,hc.ctx,by have:=hc.len;simp[bm,aN]at this⊢;omega,by have:=hc.Gy;simp[az];omega⟩ r hr
 | @lam c t b hb ih=>
  intro ns ts B ls n m bM hn hc ⟨r,hr⟩;rw[lk]at hr;simp only[adI]at hr;obtain⟨rb,Ki,hr⟩:=hr;have Bh:aN (nY [c] t b)=aN b+1:=by simp[aN,bm];omega
  rw[rJ,Bh]at hc;have hl:=hc.len;have vV:=hc.Gy;simp only[List.length_cons]at vV;have n1:=uA B ls (by omega);have MC:∀n:Nat,lp [IT.v n]:=fun n u hu=>by simp at hu;subst hu;trivial
  obtain⟨x,hA,rb',q1,q2⟩:=ih (ns++[c]) (ts++[.v B.length]) (B++[.v B.length]) (ls++[.v B.length]) n m (bM.app (MC _)) (by simp;omega) ⟨⟨(kQ.one B).sc hc.ok.sc,(kQ.one B).ti hc.ok.sc hc.ok.ti⟩,hc.kd.app (MC _),hc.Gx.app (MC _),⟨by simp[hc.ctx.len],fun u hu=>by
   rcases adS.1 hu with hu|hu
   ·exact dm (by simp) (hc.ctx.Gq u hu)
   ·simp at hu;subst hu;simp[sc]⟩,by simp;omega,by simp;omega⟩ ⟨rb,Ki⟩
  rw[Ki]at q1;cases q1
  refine⟨_,GB ns ts c t b B (B++[.v B.length]) ls B.length (by omega) (by rw[hc.ctx.len];omega) (by omega) n1 x hA,r,by rw[lk,Ki];simpa using hr,?_⟩;subst hr;cases rb with
  |none=>exact q2
  |some z=>
   obtain⟨z1,z2,z3⟩:=z;simp only[xZ]at q2;exact⟨q2.1,q2.2.1,by simp[q2.2.2.1],q2.2.2.2⟩
 | @n2 kd a b hk ha hb iha ihb=>
  intro ns ts B ls n m bM hn hc ⟨r,hr⟩;have Bh:aN (yg kd a b)=aN a+aN b+1:=by simp[aN,bm];omega
  refine jZ k ns ts _ (by simp) (by simp;omega) (by simp;omega) bM (fun u hu=>by simp at hu;rcases hu with rfl|rfl<;>assumption) (fun us h=>.inr (.inr (.inl ⟨by simpa using hk,by simpa using h⟩))) (fun u hu C l n' m' g1 g2=>?_) B ls ⟨hc.ok,hc.kd,hc.Gx,hc.ctx,by have:=hc.len;simp[bm,aN]at this⊢;omega,by have:=hc.Gy;rw[qv hk]at this;simp[az]at this⊢;omega⟩ r hr;simp at hu;rcases hu with rfl|rfl
  ·exact iha ns ts C l n' m' bM (by omega) g1 g2
  ·exact ihb ns ts C l n' m' bM (by omega) g1 g2
 | @ite a b c ha hb oZ iha ihb ihc=>
  intro ns ts B ls n m bM hn hc ⟨r,hr⟩;have Bh:aN (BM a b c)=aN a+aN b+aN c+1:=by simp[aN,bm];omega
  refine jZ k ns ts _ (by simp) (by simp) (by simp) bM (fun u hu=>by simp at hu;rcases hu with rfl|rfl|rfl<;>assumption) (fun us h=>.inr (.inr (.inr ⟨by simp,by simpa using h⟩))) (fun u hu C l n' m' g1 g2=>?_) B ls ⟨hc.ok,hc.kd,hc.Gx,hc.ctx,by have:=hc.len;simp[bm,aN]at this⊢;omega,by have:=hc.Gy;rw[qw]at this;simp[az]at this⊢;omega⟩ r hr;simp at hu;rcases hu with rfl|rfl|rfl
  ·exact iha ns ts C l n' m' bM (by omega) g1 g2
  ·exact ihb ns ts C l n' m' bM (by omega) g1 g2
  ·exact ihc ns ts C l n' m' bM (by omega) g1 g2
 | @n1 kd a hk ha ih=>
  intro ns ts B ls n m bM hn hc ⟨r,hr⟩;have Bh:aN (Bf kd a)=aN a+1:=by simp[aN,bm];omega
  refine jZ k ns ts _ (by simp) (by simp;omega) (by simp;omega) bM (fun u hu=>by simp at hu;subst hu;assumption) (fun us h=>.inr (.inl ⟨by simpa using hk,by simpa using h⟩)) (fun u hu C l n' m' g1 g2=>?_) B ls ⟨hc.ok,hc.kd,hc.Gx,hc.ctx,by have:=hc.len;simp[bm,aN]at this⊢;omega,by have:=hc.Gy;rw[qu hk]at this;simp[az]at this⊢;omega⟩ r hr;simp at hu;subst hu;exact ih ns ts C l n' m' bM (by omega) g1 g2
end Go.Proofs.YtloolmchekcmeaaGreat
namespace Go.Proofs.YtloolmchekcmeaaGreat
attribute [-simp] Go.Av.cj Go.Av.e0 Go.Av.fH Go.Av.fy Go.Av.cW Go.Av.cg
open Go Go.Av
attribute [local irreducible] T ah TX EX LX bB dn bW cx ie aG.kind aG.kids al.kind al.name al.num al.ty al.fr al.label al.kids
attribute [local simp] aL au
set_option maxHeartbeats 16000000
set_option maxRecDepth 8000
attribute [local simp] adJ
theorem A1 {B:List IT} {K:Nat} (hK:Fuel B K) {t:IT} (ht:sc B.length t=true):∃j,ex B j t=true/\hd B j t=hd B K t:=by
 obtain⟨j,hj⟩:=rM hK ht;refine⟨j+K,oK (by omega) hj,?_⟩;cases t with
 |v n=>
  have hn:n<B.length:=by simpa[sc]using ht
  rw[gZ (hK n hn) (show K<=j+K by omega)]
 |b c=>cases K<;>cases j<;>rfl
 |p c x y=>cases K<;>cases j<;>rfl
def A3 (f:IT->Option aG):List IT->Option (List aG)
 |[]=>some []
 |t::r=>match f t with
  |none=>none
  |some T=>(A3 f r).map (T::·)
theorem GD {B:List IT} {K d:Nat} {t u:IT} (hu:hd B K t=u) (hv:∀n,u≠.v n):eU B K (d+1) t=(A3 (eU B K d) u.kids).map (.mk u.kind):=by
 simp only[eU,hu];cases u with
 |v n=>exact absurd rfl (hv n)
 |b c=>rfl
 |p c x y=>
  simp only[IT.gv,IT.fi,A3];cases eU B K d x with
  |none=>rfl
  |some X=>cases eU B K d y<;>rfl
theorem A4 (B ls:List IT) (hS:qU B) (oL:lp B) (hB:B.length<=1048576) (K:Nat) (hK:Fuel B K):∀(d:Nat) (t:IT),d<=100->sc B.length t=true->ir t->ah adH 68 [hP B ls,jV t,.i d] [] (.a8 (fN (eU B K d t))) [] []:=by
 intro d;induction d with
 |zero=>
  intro t _ ht hk;obtain⟨j,hx,hj⟩:=A1 hK ht;have h1:=lP B ls hS oL hB j t hx ht hk;rw[show eU B K 0 t=none by simp[eU],fN];refine ah.ob Tryz.func68 Tryz.ntmps68 rfl ?_;repeat' first|(refine ab (hK _ ?_);clear hK K)|((first|refine ae ?_|refine aa rfl (h1) ?_);simp;(try(refine gen2 ?_ ?_<;>intro hq<;>try simp at hq)))|(refine T.ret (aB.a8 (Or.inr rfl) ?_)<;>simp[ay,Tryz.results68]<;>omega)|refine T.r0 fun K hK=>?_|refine T.ct rfl ?_|refine T.seq ?_
 |succ d ih=>
  intro t q9 ht hk;obtain⟨j,hx,hj⟩:=A1 hK ht;have h1:=lP B ls hS oL hB j t hx ht hk;rw[hj]at h1;have Jh:=AO hK ht;have CJ:=lM hS (k:=K) ht;have kA:=pY oL (k:=K) hk;have re:¬(d:Int)+1<1:=by omega
  have hi:=pJ;obtain⟨u,hu⟩:∃u,hd B K t=u:=⟨_,rfl⟩;rw[hu]at h1 Jh CJ kA;by_cases hv:∃n,u=.v n
  ·obtain⟨n,rfl⟩:=hv;rw[show eU B K (d+1) t=some bt by simp[eU,hu],fN];refine ah.ob Tryz.func68 Tryz.ntmps68 rfl ?_;repeat' first|(refine ab (hK _ ?_);clear hK K)|((first|refine ae ?_|refine aa rfl (h1) ?_|refine aa rfl (hi) ?_);simp[re];(try(refine gen2 ?_ ?_<;>intro hq<;>try simp[re]at hq)))|(refine T.ret (aB.a8 (Or.inr rfl) ?_)<;>simp[ay,Tryz.results68]<;>omega)|refine T.r0 fun K hK=>?_|refine T.ct rfl ?_|refine T.cf rfl ?_|refine T.seq ?_|refine T.skip ?_
  have Po:∀n,u≠.v n:=fun n e=>hv ⟨n,e⟩
  have gC:=jW kA Po;rw[GD hu Po];have tg:u.kids.length<=2:=by cases u<;>simp
  have mD:∀w∈u.kids,ah adH 68 [hP B ls,jV w,.i d] [] (.a8 (fN (eU B K d w))) [] []:=fun w hw=>ih w (by omega) (AQ CJ w hw) (xU kA w hw)
  obtain⟨R,hR⟩:∃R,A3 (eU B K d) u.kids=R:=⟨_,rfl⟩;rw[hR];obtain⟨L,hL⟩:∃L,u.kids=L:=⟨_,rfl⟩;rw[hL]at hR mD tg;replace h1:ah adH 102 [hP B ls,jV t] [] (.agg [.d (.i u.kind),.d (.i u.name),.d (.sl (L.map oM))]) [] []:=by rw[<-hL];exact h1
  have gk:(d:Int)+1-1=d:=by omega
  clear ih Jh CJ kA hx hj;refine ah.ob Tryz.func68 Tryz.ntmps68 rfl ?_;repeat' first|(refine ab (hK _ ?_);clear hK K)|((first|refine ae ?_|refine aa rfl (h1) ?_);simp[re,gC];(try(refine gen2 ?_ ?_<;>intro hq<;>try simp[re,gC]at hq)))|refine T.r0 fun K hK=>?_|refine T.cf rfl ?_|refine T.seq ?_|refine T.block ?_|refine T.skip ?_
  refine T.dq 3 1 2 25 (row:=[.d (.i u.kind),.nil]) (by simp) (by simp) ?_;refine T.dU (α:=Nat×List aG×List (List CV)) [2,3,4,6,8] (fun x=>[(7,.b false),(9,.i x.1)]) (fun x=>[(3,[.d (.i u.kind),.own 0 x.1])]) (fun x=>x.2.2) (fun x _=>[{sz:=2,eA:=25,rows:=x.2.1.map cx,wr:=true}]) (fun x=>L.length+1-x.1) (fun x=>x.1<=L.length/\x.2.1.length=x.1/\(A3 (eU B K d) (L.drop x.1)).map (x.2.1++·)=R) (by simp;rfl) (fun x hx=>?_) (0,[],[]) ⟨by simp,rfl,by simp[hR]⟩ (by simp) (by simp) (by simp);obtain⟨p,ts,G⟩:=x;obtain⟨hx,hp,he⟩:=hx;dsimp only at hx hp he⊢;simp only[iy,adK,adL,adN,adM,adO];by_cases ax:p<L.length
  ·obtain⟨w,ht⟩:=bR ax;have eQ:w∈L:=adQ ht;have bf:L[p]=w:=by rw[adP ax]at ht;exact Option.some.inj ht
   have gP:L.drop p=w::L.drop (p+1):=by rw[adR ax,bf]
   have hw:=mD w eQ;rw[gP,A3]at he;cases hb:eU B K d w with
   |none=>
    rw[hb]at he hw;simp at he;subst he;simp only[fN]at hw;simp only[Option.map_none,fN];repeat' first|((first|refine ab (hK _ ?_)|refine bc (hK _ ?_));clear hK K)|((first|refine ae ?_|refine bw ?_|refine aa rfl (hw) ?_);simp[ax,bf,an w,gk];(try simp(disch:=omega)only[wrap64]);(try(refine gen2 ?_ ?_<;>intro hq<;>try simp[ax,bf,an w,gk]at hq)))|(refine T.ret (aB.a8 (Or.inr rfl) ?_)<;>simp[ay,Tryz.results68]<;>omega)|refine T.mK (id:=10) mixed (fun _=>false) [12,13] [0,2,4,5,8] 13 [] (by kernel_rfl) fun K hK=>?_|(refine⟨?_,?_⟩;(focus(intros;refine aa rfl (hw) ?_;simp;done)))|refine T.r0 fun K hK=>?_|refine T.ct rfl ?_|refine T.seq ?_|refine T.block ?_|refine T.skip ?_
   |some T1=>
    rw[hb]at he hw;simp only[fN]at hw;have Vx:(A3 (eU B K d) (L.drop (p+1))).map ((ts++[T1])++·)=R:=by
     rw[<-he];cases A3 (eU B K d) (L.drop (p+1))<;>simp
    repeat' first|((first|refine ab (hK _ ?_)|refine bc (hK _ ?_));clear hK K)|((first|refine ae ?_|refine bw ?_|refine aa rfl (hw) ?_);simp[ax,bf,an w,gk,hp];(try simp(disch:=omega)only[wrap64]);(try(refine gen2 ?_ ?_<;>intro hq<;>try simp[ax,bf,an w,gk,hp]at hq)))|(refine⟨by omega,by omega,?_⟩)|refine T.mK (id:=10) mixed (fun _=>false) [12,13] [0,2,4,5,8] 13 [] (by kernel_rfl) fun K hK=>?_|(refine⟨?_,?_⟩;(focus(intros;refine aa rfl (hw) ?_;simp;done)))|refine T.r0 fun K hK=>?_|refine T.r1 fun K hK=>?_|refine T.ct rfl ?_|refine T.cf rfl ?_|refine T.seq ?_|refine T.block ?_|refine T.skip ?_
    refine⟨(p+1,ts++[T1],_),by dsimp only;omega,⟨by omega,by simp[hp],Vx⟩,rfl,?_,?_⟩<;>simp(disch:=omega) [wrap64,aL T1]
  ·have ff:p=L.length:=by omega
   subst ff;simp[A3]at he;subst he;simp only[Option.map_some,fN];have gu:¬ts.length<L.length:=by omega
   rw[<-hp];repeat' first|(refine ab (hK _ ?_);clear hK K)|(refine ae ?_;simp[gu];(try(refine gen2 ?_ ?_<;>intro hq<;>try simp[gu]at hq)))|(refine T.ret (aB.a8 (Or.inr rfl) ?_)<;>simp[ay,Tryz.results68]<;>omega)|refine T.r0 fun K hK=>?_|refine T.cf rfl ?_|refine T.seq ?_|refine T.exit ?_
@[simp] theorem Qc:td adH 21=some {ag:=false,sz:=1,lS:=4,zero:=some [.d (.int .i32 0)],el:=none,ar:=none,fl:=[],ik:=some .i32,cO:=false,nz:=false}:=dQ (by kernel_rfl)
def V8 (l:List Nat):List (List DV):=l.map fun(n:Nat)=>[DV.i n]
theorem lQ {e:al} (hv:aS e=true):Ba (mapM aK e)/\jF 14 12 (mapM aK e)/\aN (mapM aK e)<=30/\(aF (mapM aK e)).length<=30:=by
 obtain⟨h1,h2⟩:=eu.1 hv;obtain⟨h3,_,h4⟩:=DH h1 (.inr rfl);have h5:=h3.types.2;exact⟨Ba.of h1,h3,by omega,by omega⟩
theorem uB (e:al) (h1:aN e<=30) (h2:(aF e).length<=30):ij [] [] [] [] (aN e+0) ((aF e).length+0):=
 ⟨wg,fun t h=>(by cases h),fun t h=>(by cases h),sW,by simp;omega,by simp;omega⟩
theorem A5 {e:al} (hv:aS e=true):(∃k B ls t,Whole (mapM aK e) k B ls t/\rN [] [] (mapM aK e) [] [] (B,ls,t,true))\/((∃k,inf k (mapM aK e) [] [] [] []=some none)/\∃B ls t,rN [] [] (mapM aK e) [] [] (B,ls,t,false)):=by
 obtain⟨hb,_,hn,ht⟩:=lQ hv;rcases CL hb with⟨k,B,ls,t,hw⟩|⟨k,hk⟩
 ·obtain⟨x,hA,r,hr,ha⟩:=vz k hb [] [] [] [] 0 0 (fun t h=>(by cases h)) (by simp;omega) (uB _ hn ht) ⟨_,hw.inf⟩;rw[hw.inf]at hr;cases hr
  obtain⟨x1,x2,x3,x4⟩:=x;simp only[xZ]at ha;obtain⟨rfl,rfl,rfl,rfl⟩:=ha;exact .inl ⟨k,_,_,_,hw,hA⟩
 ·obtain⟨x,hA,r,hr,ha⟩:=vz k hb [] [] [] [] 0 0 (fun t h=>(by cases h)) (by simp;omega) (uB _ hn ht) ⟨_,hk⟩;rw[hk]at hr;cases hr
  obtain⟨x1,x2,x3,x4⟩:=x;simp only[xZ]at ha;subst ha;exact .inr ⟨⟨k,hk⟩,_,_,_,hA⟩
end Go.Proofs.YtloolmchekcmeaaGreat
