/- A part. -/
import Derived.Test.YtloolmchekcmeaaGreatXH27
set_option linter.unusedVariables false
set_option linter.unusedSimpArgs false
open Go.Proofs.Tryz renaming prog->XG
open Option renaming map_eq_some_iff->XH,isSome_none->XI,getD_none->XJ,bind->XK
open List renaming set_cons_zero->XL,set_cons_succ->XM,nil_append->XN,cons_append->XO,append_nil->XP,getElem?_eq_getElem->XQ,mem_of_getElem?->XR,drop_eq_getElem_cons->XS,mem_append->XT,length_append->XU,mem_cons->XV
open Nat renaming strongRecOn->XW,le_of_lt->XX
open Bool renaming false_eq_true->XY,true_and->XZ,false_and->X0,and_eq_true->X1
namespace Go.Proofs.YtloolmchekcmeaaGreat
attribute [-simp] Go.Av.bO Go.Av.dO Go.Av.ed Go.Av.ec Go.Av.cl Go.Av.cj
open Go Go.Av
attribute [local irreducible] T ah TX EX LX bo cE bF cD fZ aH.kind aH.kids an.kind an.name an.num an.ty an.fr an.label an.kids
attribute [local simp] aX ax
set_option maxHeartbeats 16000000
set_option maxRecDepth 8000
attribute [local simp] XK
@[simp] theorem sI:td XG 72=some {ag:=true,sz:=3,jy:=40,zero:=some [.d (.int .i64 0),.d (.int .i64 0),.nil],el:=none,ar:=none,fl:=[(0,1),(1,1),(2,1)],ik:=none,cG:=false,kJ:=false}:=di (by kernel_rfl)
@[simp] theorem KU:td XG 68=some {ag:=false,sz:=1,jy:=24,zero:=some [.nil],el:=some 72,ar:=none,fl:=[],ik:=none,cG:=false,kJ:=false}:=di (by kernel_rfl)
@[simp] theorem LV:td XG 70=some {ag:=true,sz:=2,jy:=48,zero:=some [.nil,.nil],el:=none,ar:=none,fl:=[(0,1),(1,1)],ik:=none,cG:=false,kJ:=false}:=di (by kernel_rfl)
theorem dn (k:Int):ah XG 135 [.i k] [] (fy (.b k)) [] []:=by
 refine ah.ob Tryz.func135 Tryz.ntmps135 rfl ?_;repeat' first|(refine ab (hK _ ?_);clear hK K)|(refine ae ?_;simp;(try(refine gen2 ?_ ?_<;>intro hq<;>try simp at hq)))|(refine T.ret (aG.val (Or.inr rfl) ?_)<;>simp[aI,Tryz.results135,ak]<;>omega)|refine T.r0 fun K hK=>?_
theorem ny (k:Int) (x y:IT):ah XG 100 [.i k,fy x,fy y] [] (fy (.p k x y)) [] []:=by
 refine ah.ob Tryz.func100 Tryz.ntmps100 rfl ?_;repeat' first|(refine ab (hK _ ?_);clear hK K)|(refine ae ?_;simp;(try(refine gen2 ?_ ?_<;>intro hq<;>try simp at hq)))|(refine T.ret (aG.val (Or.inr rfl) ?_)<;>simp[aI,Tryz.results100,ak]<;>omega)|refine T.r0 fun K hK=>?_
theorem qM (B ls:List IT) (hB:B.length<=1048576):ah XG 99 [ew B ls] [] (.bu [ew (B++[.v B.length]) ls,fy (.v B.length)]) [] []:=by
 refine ah.ob Tryz.func99 Tryz.ntmps99 rfl ?_;repeat' first|(refine ab (hK _ ?_);clear hK K)|(refine ae ?_;simp;(try(refine gen2 ?_ ?_<;>intro hq<;>try simp at hq)))|refine T.rs (id:=0) (fun _=>false) fun K hK=>?_|refine T.rs (id:=1) (fun _=>false) fun K hK=>?_|refine T.seq ?_
 refine T.HG 3 2 (row:=[.d (.i 0),.d (.i B.length),.nil]) (by simp) (by simp) ?_;simp;repeat' first|(refine aJ (hK _ ?_);clear hK K)|(refine aQ ?_;simp;(try(refine gen2 ?_ ?_<;>intro hq<;>try simp at hq)))|(refine⟨by omega,by omega,?_⟩)|(refine T.ret (aG.bu (Or.inr rfl) ?_)<;>simp[aI,Tryz.results99,iB]<;>omega)|refine T.BK (id:=2) mixed (fun i=>i==0) [0,3,6,8] [2,4,5] 4 [1] (by kernel_rfl) fun K hK=>?_|refine T.nI (id:=3) mixed (fun _=>false) [2,3] [1] 3 [1] (by kernel_rfl) fun K hK=>?_
theorem js (B ls:List IT) (hS:uD B) (nL:jo B) (hB:B.length<=1048576) (k:Nat) (t:IT) (hx:ex B k t=true) (ht:sc B.length t=true) (hk:eW t):ah XG 102 [ew B ls,fy t] [] (fy (hd B k t)) [] []:=by
 obtain⟨R,hR⟩:∃R,hd B k t=R:=⟨_,rfl⟩;rw[hR];refine ah.ob Tryz.func102 Tryz.ntmps102 rfl ?_;repeat' first|(refine ab (hK _ ?_);clear hK K)|(refine ae ?_;simp;(try(refine gen2 ?_ ?_<;>intro hq<;>try simp at hq)))|refine T.r0 fun K hK=>?_|refine T.seq ?_|refine T.block ?_
 refine T.dq (α:=Nat×IT) [2,3,4] (fun x=>[]) (fun x=>[(1,(fy x.2).cells)]) (fun x=>[]) (fun x A=>A) (fun x=>x.1) (fun x=>ex B x.1 x.2=true/\sc B.length x.2=true/\eW x.2/\hd B x.1 x.2=R) (by simp;rfl) (fun x hx=>?_) (k,t) ⟨hx,ht,hk,hR⟩ (by simp) (by simp) (by simp);obtain⟨j,u⟩:=x;obtain⟨hx,hs,N1,he⟩:=hx;dsimp only at hx hs N1 he⊢;simp only[fP,XL,XM,XO,XN,XP];cases u with
 |b c=>
  have iT:=iG N1 (by simp);simp only[IT.fq]at iT;have hr:R=.b c:=by rw[<-he];cases j<;>rfl
  subst hr;repeat' first|((first|refine ab (hK _ ?_)|refine aq (hK _ ?_));clear hK K)|((first|refine ae ?_|refine aA ?_);simp[iT];(try(refine gen2 ?_ ?_<;>intro hq<;>try simp[iT]at hq)))|(refine T.ret (aG.val (Or.inr rfl) ?_)<;>simp[aI,Tryz.results102]<;>omega)|refine T.rd (id:=1) mixed (fun _=>false) [] (by kernel_rfl) fun K hK=>?_|refine T.r0 fun K hK=>?_|refine T.cf rfl ?_|refine T.seq ?_|refine T.exit ?_
 |p c a b=>
  have iT:=iG N1 (by simp);simp only[IT.ft]at iT;have hr:R=.p c a b:=by rw[<-he];cases j<;>rfl
  subst hr;repeat' first|((first|refine ab (hK _ ?_)|refine aq (hK _ ?_));clear hK K)|((first|refine ae ?_|refine aA ?_);simp[iT];(try(refine gen2 ?_ ?_<;>intro hq<;>try simp[iT]at hq)))|(refine T.ret (aG.val (Or.inr rfl) ?_)<;>simp[aI,Tryz.results102]<;>omega)|refine T.rd (id:=1) mixed (fun _=>false) [] (by kernel_rfl) fun K hK=>?_|refine T.r0 fun K hK=>?_|refine T.cf rfl ?_|refine T.seq ?_|refine T.exit ?_
 |v m=>
  have aC:m<B.length:=by simpa[sc]using hs
  obtain⟨w,ht⟩:=bV aC;have eN:w∈B:=XR ht;have bn:B[m]=w:=by rw[XQ aC]at ht;exact Option.some.inj ht
  have iA:B.drop m=w::B.drop (m+1):=by rw[XS aC,bn]
  cases hb:bd B m with
  |none=>
   have hw:w=.v m:=by have:=FO aC hb;rw[ht]at this;exact Option.some.inj this
   subst hw;have hr:R=.v m:=by rw[<-he,Bd hb]
   subst hr;repeat' first|((first|refine ab (hK _ ?_)|refine aq (hK _ ?_));clear hK K)|((first|refine ae ?_|refine aA ?_);simp[aC,bn,iB];(try(refine gen2 ?_ ?_<;>intro hq<;>try simp[aC,bn,iB]at hq)))|(refine T.ret (aG.val (Or.inr rfl) ?_)<;>simp[aI,Tryz.results102]<;>omega)|refine T.rd (id:=1) mixed (fun _=>false) [] (by kernel_rfl) fun K hK=>?_|refine T.r0 fun K hK=>?_|refine T.cf rfl ?_|refine T.seq ?_|refine T.exit ?_
  |some w'=>
   obtain⟨h1,h2⟩:=wW hb;have hw:w'=w:=by rw[ht]at h1;exact(Option.some.inj h1).symm
   subst hw;cases j with
   |zero=>simp[ex]at hx
   |succ j=>
    have gA:ex B j w'=true:=by simpa[ex,hb]using hx
    rw[Bc hb]at he;have Ak:=Ee hS hb;have kp:=G9 nL hb;cases w' with
    |v m2=>
     have cN:¬(m2:Int)=m:=by intro e;exact h2 (by rw[show m2=m by omega])
     repeat' first|((first|refine ab (hK _ ?_)|refine aq (hK _ ?_));clear hK K)|((first|refine ae ?_|refine aA ?_);simp[aC,bn,cN,iB];(try(refine gen2 ?_ ?_<;>intro hq<;>try simp[aC,bn,cN,iB]at hq)))|(refine⟨(j,.v m2),by dsimp only;omega,⟨gA,Ak,kp,he⟩,rfl,?_,?_⟩<;>simp(disch:=omega))|refine T.rd (id:=1) mixed (fun _=>false) [] (by kernel_rfl) fun K hK=>?_|refine T.r1 fun K hK=>?_|refine T.ct rfl ?_|refine T.seq ?_|refine T.block ?_|refine T.skip ?_
    |b c=>
     have iT:=iG kp (by simp);simp only[IT.fq]at iT;repeat' first|((first|refine ab (hK _ ?_)|refine aq (hK _ ?_));clear hK K)|((first|refine ae ?_|refine aA ?_);simp[aC,bn,iT,A9,Bb];(try(refine gen2 ?_ ?_<;>intro hq<;>try simp[aC,bn,iT,A9,Bb]at hq)))|(refine⟨(j,.b c),by dsimp only;omega,⟨gA,Ak,kp,he⟩,rfl,?_,?_⟩<;>simp(disch:=omega))|refine T.rd (id:=1) mixed (fun _=>false) [] (by kernel_rfl) fun K hK=>?_|refine T.r1 fun K hK=>?_|refine T.ct rfl ?_|refine T.seq ?_|refine T.block ?_|refine T.skip ?_
    |p c a b=>
     have iT:=iG kp (by simp);simp only[IT.ft]at iT;repeat' first|((first|refine ab (hK _ ?_)|refine aq (hK _ ?_));clear hK K)|((first|refine ae ?_|refine aA ?_);simp[aC,bn,iT,A9,Bb];(try(refine gen2 ?_ ?_<;>intro hq<;>try simp[aC,bn,iT,A9,Bb]at hq)))|(refine⟨(j,.p c a b),by dsimp only;omega,⟨gA,Ak,kp,he⟩,rfl,?_,?_⟩<;>simp(disch:=omega))|refine T.rd (id:=1) mixed (fun _=>false) [] (by kernel_rfl) fun K hK=>?_|refine T.r1 fun K hK=>?_|refine T.ct rfl ?_|refine T.seq ?_|refine T.block ?_|refine T.skip ?_
theorem xe (B ls:List IT) (hS:uD B) (nL:jo B) (hB:B.length<=1048576) (n:Nat):∀(k:Nat) (t:IT),ex B k t=true->sc B.length t=true->eW t->ah XG 167 [ew B ls,.i n,fy t] [] (.b (iX B n k t)) [] []:=by
 intro k;induction k using XW with
 |_ k ih=>
  intro t hx ht hk;have h1:=js B ls hS nL hB k t hx ht hk;have Hb:=fI hx;have Ak:=nZ hS (k:=k) ht;have kp:=mI nL (k:=k) hk;have gA:=gE hx;have sA:=fun c x y=>lu (c:=c) (x:=x) (y:=y) hx
  rw[<-Af hx];generalize hd B k t=u at*;have key:(∀n,u≠.v n)->(∀w∈u.kids,ah XG 167 [ew B ls,.i n,fy w] [] (.b (iX B n k w)) [] [])->ah XG 167 [ew B ls,.i n,fy t] [] (.b (iX B n k u)) [] []:=by
   intro Ps kq;have iT:=iG kp Ps;rw[El gA Ps];have Cd:u.kids.length<=2:=by cases u<;>simp
   clear ih sA Hb Ak kp gA;obtain⟨f,hf⟩:∃f,(fun w=>iX B n k w)=f:=⟨_,rfl⟩;replace kq:∀w∈u.kids,ah XG 167 [ew B ls,.i n,fy w] [] (.b (f w)) [] []:=fun w hw=>by rw[<-hf];exact kq w hw
   rw[hf];obtain⟨R,hR⟩:∃R,u.kids.any f=R:=⟨_,rfl⟩;rw[hR];obtain⟨L,hL⟩:∃L,u.kids=L:=⟨_,rfl⟩;rw[hL]at hR kq Cd;replace h1:ah XG 102 [ew B ls,fy t] [] (.agg [.d (.i u.kind),.d (.i u.name),.d (.sl (L.map lP))]) [] []:=by rw[<-hL];exact h1
   refine ah.ob Tryz.func167 Tryz.ntmps167 rfl ?_;repeat' first|(refine ab (hK _ ?_);clear hK K)|((first|refine ae ?_|refine aa rfl (h1) ?_);simp[iT];(try(refine gen2 ?_ ?_<;>intro hq<;>try simp[iT]at hq)))|refine T.r0 fun K hK=>?_|refine T.cf rfl ?_|refine T.seq ?_|refine T.block ?_|refine T.skip ?_
   refine T.dq (α:=Nat) [1,3,5] (fun x=>[(6,.b false),(7,.i x)]) (fun x=>[]) (fun x=>[]) (fun x A=>A) (fun x=>L.length+1-x) (fun x=>x<=L.length/\(L.drop x).any f=R) (by simp;rfl) (fun p hx=>?_) 0 ⟨by simp,by simpa using hR⟩ (by simp) (by simp) (by simp);obtain⟨hx,he⟩:=hx;dsimp only at hx he⊢;simp only[fP,XL,XM,XO,XN,XP];by_cases aC:p<L.length
   ·obtain⟨w,ht⟩:=bV aC;have eN:w∈L:=XR ht;have bn:L[p]=w:=by rw[XQ aC]at ht;exact Option.some.inj ht
    have iA:L.drop p=w::L.drop (p+1):=by rw[XS aC,bn]
    have hw:=kq w eN;rw[iA,List.any_cons]at he;cases hb:f w with
    |true=>
     rw[hb,Bool.true_or]at he;rw[hb]at hw;subst he;repeat' first|((first|refine ab (hK _ ?_)|refine aq (hK _ ?_));clear hK K)|((first|refine ae ?_|refine aA ?_|refine aa rfl (hw) ?_);simp[aC,bn,ak w];(try simp(disch:=omega)only[wrap64]);(try(refine gen2 ?_ ?_<;>intro hq<;>try simp[aC,bn,ak w]at hq)))|(refine T.ret (aG.data (Or.inr rfl) ?_ ?_)<;>simp[Tryz.results167]<;>omega)|refine T.rd (id:=7) mixed (fun _=>false) [] (by kernel_rfl) fun K hK=>?_|refine T.r0 fun K hK=>?_|refine T.ct rfl ?_|refine T.seq ?_|refine T.block ?_|refine T.skip ?_
    |false=>
     rw[hb,Bool.false_or]at he;rw[hb]at hw;repeat' first|((first|refine ab (hK _ ?_)|refine aq (hK _ ?_));clear hK K)|((first|refine ae ?_|refine aA ?_|refine aa rfl (hw) ?_);simp[aC,bn,ak w];(try simp(disch:=omega)only[wrap64]);(try(refine gen2 ?_ ?_<;>intro hq<;>try simp[aC,bn,ak w]at hq)))|(refine⟨p+1,by dsimp only;omega,⟨by omega,he⟩,?_,?_,?_⟩<;>simp(disch:=omega) [wrap64])|refine T.rd (id:=7) mixed (fun _=>false) [] (by kernel_rfl) fun K hK=>?_|refine T.r0 fun K hK=>?_|refine T.r1 fun K hK=>?_|refine T.ct rfl ?_|refine T.cf rfl ?_|refine T.seq ?_|refine T.block ?_|refine T.skip ?_
   ·have fj:p=L.length:=by omega
    subst fj;simp at he;subst he;repeat' first|(refine ab (hK _ ?_);clear hK K)|(refine ae ?_;simp[aC];(try(refine gen2 ?_ ?_<;>intro hq<;>try simp[aC]at hq)))|(refine T.ret (aG.data (Or.inr rfl) ?_ ?_)<;>simp[Tryz.results167]<;>omega)|refine T.r0 fun K hK=>?_|refine T.cf rfl ?_|refine T.seq ?_|refine T.exit ?_
  cases hu:u with
  |v m=>
   subst hu;have hb:=Hb m rfl;have ho:iX B n k (.v m)=decide (m=n):=by
    cases k with
    |zero=>simp[ex]at hx
    |succ k=>simp[iX,hb]
   rw[ho];have hc:decide ((m:Int)=n)=decide (m=n):=decide_eq_decide.2 (by omega);by_cases e:m=n
   ·subst e;refine ah.ob Tryz.func167 Tryz.ntmps167 rfl ?_;repeat' first|(refine ab (hK _ ?_);clear hK K)|((first|refine ae ?_|refine aa rfl (h1) ?_);simp;(try(refine gen2 ?_ ?_<;>intro hq<;>try simp at hq)))|(refine T.ret (aG.data (Or.inr rfl) ?_ ?_)<;>simp[Tryz.results167]<;>omega)|refine T.r0 fun K hK=>?_|refine T.ct rfl ?_|refine T.seq ?_
   ·have e':¬(m:Int)=n:=by omega
    refine ah.ob Tryz.func167 Tryz.ntmps167 rfl ?_;repeat' first|(refine ab (hK _ ?_);clear hK K)|((first|refine ae ?_|refine aa rfl (h1) ?_);simp[e,e'];(try(refine gen2 ?_ ?_<;>intro hq<;>try simp[e,e']at hq)))|(refine T.ret (aG.data (Or.inr rfl) ?_ ?_)<;>simp[Tryz.results167,e,e']<;>omega)|refine T.r0 fun K hK=>?_|refine T.ct rfl ?_|refine T.seq ?_
  |b c=>
   rw[<-hu];exact key (by rw[hu];simp) (by rw[hu];simp)
  |p c x y=>
   rw[<-hu];refine key (by rw[hu];simp) fun w hw=>?_
   obtain⟨j,hj,ET,EU⟩:=sA c x y hu;rw[hu,IT.gU]at hw;simp only[XV,List.not_mem_nil,or_false]at hw;rcases hw with rfl|rfl
   ·have g1:=ih j hj w ET (nw Ak w (by simp[hu])) (kC kp w (by simp[hu]));rwa[<-dk ET (XX hj)]at g1
   ·have g2:=ih j hj w EU (nw Ak w (by simp[hu])) (kC kp w (by simp[hu]));rwa[<-dk EU (XX hj)]at g2
theorem Al (B ls:List IT) (hS:uD B) (nL:jo B) (hB:B.length<=1048576) (n:Nat) (hn:n<B.length) (k:Nat) (t:IT) (hx:ex B k t=true) (ht:sc B.length t=true) (hk:eW t):ah XG 158 [ew B ls,.i n,fy t] [] (.bu [ew (v7 k B n t).1 ls,.b (v7 k B n t).2]) [] []:=by
 have g:=xe B ls hS nL hB n k t hx ht hk;obtain⟨q,hq⟩:∃q,iX B n k t=q:=⟨_,rfl⟩;rw[hq]at g;have cb:(B.map lP).set n (lP t)=(B.set n t).map lP:=by rw[List.map_set]
 rw[ak t]at cb;by_cases hv:t=.v n
 ·subst hv;rw[v7,if_pos rfl];refine ah.ob Tryz.func158 Tryz.ntmps158 rfl ?_;repeat' first|(refine ab (hK _ ?_);clear hK K)|(refine ae ?_;simp;(try(refine gen2 ?_ ?_<;>intro hq<;>(try simp at hq)<;>try(have:True:=hq;clear this hq))))|(refine T.ret (aG.bu (Or.inr rfl) ?_)<;>simp[aI,Tryz.results158]<;>omega)|refine T.r0 fun K hK=>?_|refine T.ct rfl ?_|refine T.seq ?_
 have CQ:(t.kind=0/\(t.name:Int)≠n)\/t.kind≠0:=by
  cases t with
  |v m=>exact .inl ⟨rfl,fun e=>hv (by simp only[IT.j5]at e;rw[show m=n by omega])⟩
  |b c=>exact .inr (iG hk (by simp))
  |p c x y=>exact .inr (iG hk (by simp))
 rw[v7,if_neg hv,hq];clear hx ht hk hv;rcases CQ with⟨h0,hm⟩|h0<;>cases q<;>simp only[if_true,XY,if_false]
 ·rw[h0]at cb;refine ah.ob Tryz.func158 Tryz.ntmps158 rfl ?_;repeat' first|(refine ab (hK _ ?_);clear hK K)|((first|refine ae ?_|(refine aa ?_ (g) ?_;(focus(solve|simp[h0,hm,hn,kB,cb]))));simp[h0,hm,hn,kB,cb];(try(refine gen2 ?_ ?_<;>intro hq<;>(try simp[h0,hm,hn,kB,cb]at hq)<;>try(have:True:=hq;clear this hq))))|(refine⟨by omega,by omega,?_⟩)|(refine T.ret (aG.bu (Or.inr rfl) ?_)<;>simp[aI,Tryz.results158]<;>omega)|refine T.rs (id:=5) (fun i=>i==0) fun K hK=>?_|refine T.rs (id:=0) (fun _=>false) fun K hK=>?_|refine T.rs (id:=1) (fun _=>false) fun K hK=>?_|refine T.rs (id:=3) (fun _=>false) fun K hK=>?_|refine T.rs (id:=6) (fun _=>false) fun K hK=>?_|refine T.rs (id:=7) (fun _=>false) fun K hK=>?_|refine T.cf rfl ?_|refine T.seq ?_|refine T.skip ?_
 ·refine ah.ob Tryz.func158 Tryz.ntmps158 rfl ?_;repeat' first|(refine ab (hK _ ?_);clear hK K)|((first|refine ae ?_|(refine aa ?_ (g) ?_;(focus(solve|simp[h0,hm,hn]))));simp[h0,hm,hn];(try(refine gen2 ?_ ?_<;>intro hq<;>(try simp[h0,hm,hn]at hq)<;>try(have:True:=hq;clear this hq))))|(refine T.ret (aG.bu (Or.inr rfl) ?_)<;>simp[aI,Tryz.results158]<;>omega)|refine T.r0 fun K hK=>?_|refine T.ct rfl ?_|refine T.cf rfl ?_|refine T.seq ?_|refine T.skip ?_
 ·refine ah.ob Tryz.func158 Tryz.ntmps158 rfl ?_;repeat' first|(refine ab (hK _ ?_);clear hK K)|((first|refine ae ?_|(refine aa ?_ (g) ?_;(focus(solve|simp[h0,hn,kB,cb]))));simp[h0,hn,kB,cb];(try(refine gen2 ?_ ?_<;>intro hq<;>(try simp[h0,hn,kB,cb]at hq)<;>try(have:True:=hq;clear this hq))))|(refine⟨by omega,by omega,?_⟩)|(refine T.ret (aG.bu (Or.inr rfl) ?_)<;>simp[aI,Tryz.results158]<;>omega)|refine T.rs (id:=5) (fun i=>i==0) fun K hK=>?_|refine T.rs (id:=0) (fun _=>false) fun K hK=>?_|refine T.rs (id:=1) (fun _=>false) fun K hK=>?_|refine T.rs (id:=3) (fun _=>false) fun K hK=>?_|refine T.rs (id:=6) (fun _=>false) fun K hK=>?_|refine T.rs (id:=7) (fun _=>false) fun K hK=>?_|refine T.cf rfl ?_|refine T.seq ?_|refine T.skip ?_
 ·refine ah.ob Tryz.func158 Tryz.ntmps158 rfl ?_;repeat' first|(refine ab (hK _ ?_);clear hK K)|((first|refine ae ?_|refine aa rfl (g) ?_);simp[h0,hn];(try(refine gen2 ?_ ?_<;>intro hq<;>(try simp[h0,hn]at hq)<;>try(have:True:=hq;clear this hq))))|(refine T.ret (aG.bu (Or.inr rfl) ?_)<;>simp[aI,Tryz.results158]<;>omega)|refine T.r0 fun K hK=>?_|refine T.ct rfl ?_|refine T.cf rfl ?_|refine T.seq ?_|refine T.skip ?_
theorem yR (ls:List IT):∀(k:Nat) (B:List IT) (a b:IT) (B':List IT) (q:Bool),uD B->jo B->B.length<=1048576->sc B.length a=true->sc B.length b=true->eW a->eW b->gx k B a b=some (B',q)->ah XG 136 [ew B ls,fy a,fy b] [] (.bu [ew B' ls,.b q]) [] []:=by
 intro k;induction k with
 |zero=>intro B a b B' q _ _ _ _ _ _ _ h;simp[gx]at h
 |succ k ih=>
  intro B a b B' q hS nL hB ha hb BT I0 h;rw[gx]at h;split at h
  case isFalse=>simp at h
  rename_i hex;rw[X1]at hex;have h1:=js B ls hS nL hB k a hex.1 ha BT;have h2:=js B ls hS nL hB k b hex.2 hb I0;have xa:=gE hex.1;have xb:=gE hex.2;have sa:=nZ hS (k:=k) ha;have sb:=nZ hS (k:=k) hb;have ka:=mI nL (k:=k) BT;have kb:=mI nL (k:=k) I0;generalize hd B k a=u at*;generalize hd B k b=v at*;have FY:∀n t,n<B.length->ex B k t=true->sc B.length t=true->eW t->(if t=.v n then some (B,true)else if iX B n k t=true then some (B,false)else some (B.set n t,true))=some (B',q)->ah XG 158 [ew B ls,.i n,fy t] [] (.bu [ew B' ls,.b q]) [] []:=by
   intro n t hn hx hs hk he;have g:=Al B ls hS nL hB n hn k t hx hs hk;have:v7 k B n t=(B',q):=by
    rw[v7];split at he
    ·rename_i e;rw[if_pos e];simpa using he
    ·rename_i e;rw[if_neg e];split at he
     ·rename_i e2;rw[if_pos e2];simpa using he
     ·rename_i e2;rw[if_neg e2];simpa using he
   rw[this]at g;exact g
  by_cases hu:u.kind=0
  ·obtain⟨n,rfl⟩:∃n,u=.v n:=by
    cases u with
    |v n=>exact⟨n,rfl⟩
    |b c=>exact absurd hu (iG ka (by simp))
    |p c x y=>exact absurd hu (iG ka (by simp))
   have g:=FY n v (by simpa[sc]using sa) xb sb kb (by cases v<;>exact h);clear ih FY h;refine ah.ob Tryz.func136 Tryz.ntmps136 rfl ?_;repeat' first|(refine ab (hK _ ?_);clear hK K)|((first|refine ae ?_|refine aa rfl (h1) ?_|refine aa rfl (h2) ?_|refine aa rfl (g) ?_);simp;(try(refine gen2 ?_ ?_<;>intro hq<;>(try simp at hq)<;>try(have:True:=hq;clear this hq))))|(refine T.ret (aG.bu (Or.inr rfl) ?_)<;>simp[aI,Tryz.results136]<;>omega)|refine T.r0 fun K hK=>?_|refine T.ct rfl ?_|refine T.seq ?_
  have p7:∀n,u≠.v n:=fun n e=>hu (by rw[e];rfl)
  by_cases hv:v.kind=0
  ·obtain⟨n,rfl⟩:∃n,v=.v n:=by
    cases v with
    |v n=>exact⟨n,rfl⟩
    |b c=>exact absurd hv (iG kb (by simp))
    |p c x y=>exact absurd hv (iG kb (by simp))
   have g:=FY n u (by simpa[sc]using sb) xa sa ka (by
    cases u with
    |v m=>exact absurd rfl (p7 m)
    |b c=>rw[if_neg (by simp)];exact h
    |p c x y=>rw[if_neg (by simp)];exact h)
   clear ih FY h;refine ah.ob Tryz.func136 Tryz.ntmps136 rfl ?_;repeat' first|(refine ab (hK _ ?_);clear hK K)|((first|refine ae ?_|refine aa rfl (h1) ?_|refine aa rfl (h2) ?_|refine aa rfl (g) ?_);simp[hu];(try(refine gen2 ?_ ?_<;>intro hq<;>(try simp[hu]at hq)<;>try(have:True:=hq;clear this hq))))|(refine T.ret (aG.bu (Or.inr rfl) ?_)<;>simp[aI,Tryz.results136]<;>omega)|refine T.r0 fun K hK=>?_|refine T.ct rfl ?_|refine T.cf rfl ?_|refine T.seq ?_|refine T.skip ?_
  by_cases hk:u.kind=v.kind
  ·cases u with
   |v m=>exact absurd rfl (p7 m)
   |b i=>
    cases v with
    |v m=>exact absurd rfl hv
    |p j x y=>
     exfalso
     simp only[IT.fq,IT.ft]at hk;simp only[eW]at ka kb;omega
    |b j=>
     simp only[IT.fq]at hk hu hv;subst hk;simp at h;obtain⟨rfl,rfl⟩:=h;clear ih FY;refine ah.ob Tryz.func136 Tryz.ntmps136 rfl ?_;repeat' first|(refine ab (hK _ ?_);clear hK K)|((first|refine ae ?_|refine aa rfl (h1) ?_|refine aa rfl (h2) ?_);simp[hu];(try(refine gen2 ?_ ?_<;>intro hq<;>(try simp[hu]at hq)<;>try(have:True:=hq;clear this hq))))|refine T.r0 fun K hK=>?_|refine T.cf rfl ?_|refine T.seq ?_|refine T.block ?_|refine T.skip ?_
     refine T.dq (α:=Nat) [3,4,5,6,7] (fun x=>[(8,.b true),(9,.i 0)]) (fun x=>[]) (fun x=>[]) (fun x A=>A) (fun x=>1) (fun x=>True) (by simp;rfl) (fun x hx=>?_) 0 trivial (by simp) (by simp) (by simp);simp only[fP,XL,XM,XO,XN,XP];repeat' first|(refine ab (hK _ ?_);clear hK K)|(refine ae ?_;simp;(try(refine gen2 ?_ ?_<;>intro hq<;>(try simp at hq)<;>try(have:True:=hq;clear this hq))))|(refine T.ret (aG.bu (Or.inr rfl) ?_)<;>simp[aI,Tryz.results136]<;>omega)|refine T.r0 fun K hK=>?_|refine T.cf rfl ?_|refine T.seq ?_|refine T.exit ?_
   |p i x y=>
    cases v with
    |v m=>exact absurd rfl hv
    |b j=>
     exfalso
     simp only[IT.fq,IT.ft]at hk;simp only[eW]at ka kb;omega
    |p j x' y'=>
     simp only[IT.ft]at hk hu hv;subst hk;simp only[if_true]at h;simp only[eW]at ka kb;simp only[sc,X1]at sa sb;obtain⟨r1,Io⟩:∃r1,gx k B x x'=r1:=⟨_,rfl⟩;rw[Io]at h;cases r1 with
     |none=>simp at h
     |some r1=>
      obtain⟨B1,q1⟩:=r1;obtain⟨s1,l1⟩:=ud hS sa.1 sb.1 Io;have d1:=j0 nL ka.2.1 kb.2.1 Io;have g1:=ih B x x' B1 q1 hS nL hB sa.1 sb.1 ka.2.1 kb.2.1 Io;have g2:q1=true->ah XG 136 [ew B1 ls,fy y,fy y'] [] (.bu [ew B' ls,.b q]) [] []:=fun e=>by
       subst e;exact ih B1 y y' B' q s1 d1 (by omega) (by rw[l1];exact sa.2) (by rw[l1];exact sb.2) ka.2.2 kb.2.2 h
      have hf:q1=false->B'=B1/\q=false:=fun e=>by subst e;simp at h;exact⟨h.1.symm,h.2⟩
      clear ih FY h Io;refine ah.ob Tryz.func136 Tryz.ntmps136 rfl ?_;repeat' first|(refine ab (hK _ ?_);clear hK K)|((first|refine ae ?_|refine aa rfl (h1) ?_|refine aa rfl (h2) ?_);simp[hu,hv];(try(refine gen2 ?_ ?_<;>intro hq<;>(try simp[hu,hv]at hq)<;>try(have:True:=hq;clear this hq))))|refine T.r0 fun K hK=>?_|refine T.cf rfl ?_|refine T.seq ?_|refine T.block ?_|refine T.skip ?_
      refine T.dq (α:=Nat×List IT×Bool) [3,4,5,6,7] (fun x=>[(8,.b x.2.2),(9,.i x.1)]) (fun x=>[(0,[.d (.sl (x.2.1.map lP)),.d (.sl (ls.map lP))])]) (fun x=>[]) (fun x A=>A) (fun x=>3-x.1) (fun x=>(x.1=0/\x.2.1=B/\x.2.2=true)\/(x.1=1/\x.2.1=B1/\x.2.2=q1)\/(x.1=2/\x.2.1=B'/\x.2.2=q/\q1=true)) (by simp;rfl) (fun x hx=>?_) (0,B,true) (.inl ⟨rfl,rfl,rfl⟩) (by simp) (by simp) (by simp);obtain⟨p,C,ok⟩:=x;dsimp only at hx⊢;simp only[fP,XL,XM,XO,XN,XP];rcases hx with⟨rfl,rfl,rfl⟩|⟨rfl,rfl,rfl⟩|⟨rfl,rfl,rfl,hq⟩
      ·cases q1
       ·repeat' first|((first|refine ab (hK _ ?_)|refine aq (hK _ ?_));clear hK K)|((first|refine ae ?_|refine aA ?_|(refine aa ?_ (g1) ?_;(focus(solve|simp[ak x,ak x']))));simp[ak x,ak x'];(try simp(disch:=omega)only[wrap64]);(try(refine gen2 ?_ ?_<;>intro hq<;>(try simp[ak x,ak x']at hq)<;>try(have:True:=hq;clear this hq))))|refine T.mW (id:=11) mixed (fun _=>false) [15] (by kernel_rfl) fun K hK=>?_|refine T.r0 fun K hK=>?_|refine T.r1 fun K hK=>?_|refine T.ct rfl ?_|refine T.seq ?_|refine T.block ?_|refine T.skip ?_
        refine⟨(1,B1,false),by dsimp only;omega,Or.inr (Or.inl ⟨rfl,rfl,rfl⟩),?_,?_,?_⟩<;>simp(disch:=omega) [wrap64,ak x,ak x']
       ·repeat' first|((first|refine ab (hK _ ?_)|refine aq (hK _ ?_));clear hK K)|((first|refine ae ?_|refine aA ?_|(refine aa ?_ (g1) ?_;(focus(solve|simp[ak x,ak x']))));simp[ak x,ak x'];(try simp(disch:=omega)only[wrap64]);(try(refine gen2 ?_ ?_<;>intro hq<;>(try simp[ak x,ak x']at hq)<;>try(have:True:=hq;clear this hq))))|refine T.mW (id:=11) mixed (fun _=>false) [15] (by kernel_rfl) fun K hK=>?_|refine T.r0 fun K hK=>?_|refine T.r1 fun K hK=>?_|refine T.ct rfl ?_|refine T.seq ?_|refine T.block ?_|refine T.skip ?_
        refine⟨(1,B1,true),by dsimp only;omega,Or.inr (Or.inl ⟨rfl,rfl,rfl⟩),?_,?_,?_⟩<;>simp(disch:=omega) [wrap64,ak x,ak x']
      ·cases ok with
       |false=>
        obtain⟨rfl,rfl⟩:=hf rfl;repeat' first|(refine ab (hK _ ?_);clear hK K)|(refine ae ?_;simp;(try(refine gen2 ?_ ?_<;>intro hq<;>(try simp at hq)<;>try(have:True:=hq;clear this hq))))|(refine T.ret (aG.bu (Or.inr rfl) ?_)<;>simp[aI,Tryz.results136]<;>omega)|refine T.r0 fun K hK=>?_|refine T.cf rfl ?_|refine T.seq ?_|refine T.exit ?_
       |true=>
        have g2:=g2 rfl;cases q
        ·repeat' first|((first|refine ab (hK _ ?_)|refine aq (hK _ ?_));clear hK K)|((first|refine ae ?_|refine aA ?_|(refine aa ?_ (g2) ?_;(focus(solve|simp[ak y,ak y']))));simp[ak y,ak y'];(try simp(disch:=omega)only[wrap64]);(try(refine gen2 ?_ ?_<;>intro hq<;>(try simp[ak y,ak y']at hq)<;>try(have:True:=hq;clear this hq))))|refine T.mW (id:=11) mixed (fun _=>false) [15] (by kernel_rfl) fun K hK=>?_|refine T.r0 fun K hK=>?_|refine T.r1 fun K hK=>?_|refine T.ct rfl ?_|refine T.seq ?_|refine T.block ?_|refine T.skip ?_
         refine⟨(2,B',false),by dsimp only;omega,Or.inr (Or.inr ⟨rfl,rfl,rfl,rfl⟩),?_,?_,?_⟩<;>simp(disch:=omega) [wrap64,ak y,ak y']
        ·repeat' first|((first|refine ab (hK _ ?_)|refine aq (hK _ ?_));clear hK K)|((first|refine ae ?_|refine aA ?_|(refine aa ?_ (g2) ?_;(focus(solve|simp[ak y,ak y']))));simp[ak y,ak y'];(try simp(disch:=omega)only[wrap64]);(try(refine gen2 ?_ ?_<;>intro hq<;>(try simp[ak y,ak y']at hq)<;>try(have:True:=hq;clear this hq))))|refine T.mW (id:=11) mixed (fun _=>false) [15] (by kernel_rfl) fun K hK=>?_|refine T.r0 fun K hK=>?_|refine T.r1 fun K hK=>?_|refine T.ct rfl ?_|refine T.seq ?_|refine T.block ?_|refine T.skip ?_
         refine⟨(2,B',true),by dsimp only;omega,Or.inr (Or.inr ⟨rfl,rfl,rfl,rfl⟩),?_,?_,?_⟩<;>simp(disch:=omega) [wrap64,ak y,ak y']
      ·subst hq;cases ok
       ·repeat' first|(refine ab (hK _ ?_);clear hK K)|(refine ae ?_;simp;(try(refine gen2 ?_ ?_<;>intro hq<;>(try simp at hq)<;>try(have:True:=hq;clear this hq))))|(refine T.ret (aG.bu (Or.inr rfl) ?_)<;>simp[aI,Tryz.results136]<;>omega)|refine T.r0 fun K hK=>?_|refine T.cf rfl ?_|refine T.seq ?_|refine T.exit ?_
       ·repeat' first|(refine ab (hK _ ?_);clear hK K)|(refine ae ?_;simp;(try(refine gen2 ?_ ?_<;>intro hq<;>(try simp at hq)<;>try(have:True:=hq;clear this hq))))|(refine T.ret (aG.bu (Or.inr rfl) ?_)<;>simp[aI,Tryz.results136]<;>omega)|refine T.r0 fun K hK=>?_|refine T.cf rfl ?_|refine T.seq ?_|refine T.exit ?_
  ·have hr:B'=B/\q=false:=by
    cases u with
    |v m=>exact absurd rfl (p7 m)
    |b i=>
     cases v with
     |v m=>exact absurd rfl hv
     |b j=>simp only[IT.fq]at hk;simp[hk]at h;exact⟨h.1.symm,h.2⟩
     |p j x y=>simp at h;exact⟨h.1.symm,h.2⟩
    |p i x y=>
     cases v with
     |v m=>exact absurd rfl hv
     |b j=>simp at h;exact⟨h.1.symm,h.2⟩
     |p j x' y'=>simp only[IT.ft]at hk;simp[hk]at h;exact⟨h.1.symm,h.2⟩
   obtain⟨rfl,rfl⟩:=hr;have Cd:u.kids.length<=2:=by cases u<;>simp
   clear ih FY h;refine ah.ob Tryz.func136 Tryz.ntmps136 rfl ?_;repeat' first|(refine ab (hK _ ?_);clear hK K)|((first|refine ae ?_|refine aa rfl (h1) ?_|refine aa rfl (h2) ?_);simp[hu,hv,hk];(try(refine gen2 ?_ ?_<;>intro hq<;>(try simp[hu,hv,hk]at hq)<;>try(have:True:=hq;clear this hq))))|refine T.r0 fun K hK=>?_|refine T.cf rfl ?_|refine T.seq ?_|refine T.block ?_|refine T.skip ?_
   refine T.dq (α:=Nat) [3,4,5,6,7] (fun x=>[(8,.b false),(9,.i 0)]) (fun x=>[]) (fun x=>[]) (fun x A=>A) (fun x=>1) (fun x=>True) (by simp;rfl) (fun x hx=>?_) 0 trivial (by simp) (by simp) (by simp);simp only[fP,XL,XM,XO,XN,XP];by_cases aC:(0:Int)<u.kids.length
   ·repeat' first|(refine ab (hK _ ?_);clear hK K)|(refine ae ?_;simp[aC];(try(refine gen2 ?_ ?_<;>intro hq<;>(try simp[aC]at hq)<;>try(have:True:=hq;clear this hq))))|(refine T.ret (aG.bu (Or.inr rfl) ?_)<;>simp[aI,Tryz.results136]<;>omega)|refine T.r0 fun K hK=>?_|refine T.cf rfl ?_|refine T.seq ?_|refine T.exit ?_
   ·repeat' first|(refine ab (hK _ ?_);clear hK K)|(refine ae ?_;simp[aC];(try(refine gen2 ?_ ?_<;>intro hq<;>(try simp[aC]at hq)<;>try(have:True:=hq;clear this hq))))|(refine T.ret (aG.bu (Or.inr rfl) ?_)<;>simp[aI,Tryz.results136]<;>omega)|refine T.r0 fun K hK=>?_|refine T.cf rfl ?_|refine T.seq ?_|refine T.exit ?_
theorem gW {k:Nat} {B:List IT} {a b:IT} {r:Option (List IT)} (h:iF k B a b=some r):∃B2 q,gx k B a b=some (B2,q)/\(q=true/\r=some B2\/q=false/\r=none):=by
 rw[iF]at h;split at h
 ·cases h
 ·rename_i B' e;cases h;exact⟨B',true,e,.inl ⟨rfl,rfl⟩⟩
 ·rename_i B' e;cases h;exact⟨B',false,e,.inr ⟨rfl,rfl⟩⟩
def KV (C:List IT) (u:IT) (q:Bool):Option (List IT×IT)->Prop
 |some (B',t)=>C=B'/\u=t/\q=true
 |none=>q=false
abbrev Er (ls:List IT) (B:List IT) (e:an) (ts:List IT) (r:Option (List IT×IT)):Prop:=
 ∃C u q,ah XG 101 [ew B ls,cw e,.l (ts.map lP)] [] (.bu [ew C ls,fy u,.b q]) [] []/\KV C u q r
theorem Cw (ls B:List IT) (e:an) (hk:e.kind=2\/e.kind=3\/e.kind=4):ah XG 101 [ew B ls,cw e,.l []] [] (.bu [ew B ls,fy (.b (if e.kind=2 then 2 else 3)),.b true]) [] []:=by
 have b2:=dn 2;have b3:=dn 3;rcases hk with h|h|h
 ·rw[if_pos h];refine ah.ob Tryz.func101 Tryz.ntmps101 rfl ?_;repeat' first|((first|refine ab (hK _ ?_)|refine aJ (hK _ ?_));clear hK K)|((first|refine ae ?_|refine aQ ?_|refine aa rfl (b2) ?_|refine aa rfl (b3) ?_);simp[h];(try(refine gen2 ?_ ?_<;>intro hq<;>try simp[h]at hq)))|(refine T.ret (aG.bu (Or.inr rfl) ?_)<;>simp[aI,Tryz.results101]<;>omega)|refine T.nI (id:=7) mixed (fun _=>false) [2,3] [1] 3 [2] (by kernel_rfl) fun K hK=>?_|refine T.r0 fun K hK=>?_|refine T.ct rfl ?_|refine T.seq ?_|refine T.block ?_
 ·rw[if_neg (by omega)];refine ah.ob Tryz.func101 Tryz.ntmps101 rfl ?_;repeat' first|((first|refine ab (hK _ ?_)|refine aJ (hK _ ?_));clear hK K)|((first|refine ae ?_|refine aQ ?_|refine aa rfl (b2) ?_|refine aa rfl (b3) ?_);simp[h];(try(refine gen2 ?_ ?_<;>intro hq<;>try simp[h]at hq)))|(refine T.ret (aG.bu (Or.inr rfl) ?_)<;>simp[aI,Tryz.results101]<;>omega)|refine T.nI (id:=10) mixed (fun _=>false) [2,3] [1] 3 [2] (by kernel_rfl) fun K hK=>?_|refine T.r0 fun K hK=>?_|refine T.ct rfl ?_|refine T.cf rfl ?_|refine T.seq ?_|refine T.block ?_|refine T.skip ?_
 ·rw[if_neg (by omega)];refine ah.ob Tryz.func101 Tryz.ntmps101 rfl ?_;repeat' first|((first|refine ab (hK _ ?_)|refine aJ (hK _ ?_));clear hK K)|((first|refine ae ?_|refine aQ ?_|refine aa rfl (b2) ?_|refine aa rfl (b3) ?_);simp[h];(try(refine gen2 ?_ ?_<;>intro hq<;>try simp[h]at hq)))|(refine T.ret (aG.bu (Or.inr rfl) ?_)<;>simp[aI,Tryz.results101]<;>omega)|refine T.nI (id:=10) mixed (fun _=>false) [2,3] [1] 3 [2] (by kernel_rfl) fun K hK=>?_|refine T.r0 fun K hK=>?_|refine T.r1 fun K hK=>?_|refine T.ct rfl ?_|refine T.cf rfl ?_|refine T.seq ?_|refine T.block ?_
theorem Cx (ls B:List IT) (e:an) (x y:IT) (h:e.kind=10):ah XG 101 [ew B ls,cw e,.l [lP x,lP y]] [] (.bu [ew B ls,fy (.p 5 x y),.b true]) [] []:=by
 have b2:=dn 2;have b3:=dn 3;have tw:=ny 5 x y;refine ah.ob Tryz.func101 Tryz.ntmps101 rfl ?_;repeat' first|((first|refine ab (hK _ ?_)|refine aq (hK _ ?_));clear hK K)|((first|refine ae ?_|refine aA ?_|refine aa rfl (b2) ?_|refine aa rfl (b3) ?_|(refine aa ?_ (tw) ?_;(focus(solve|simp[h,ak x,ak y]))));simp[h,ak x,ak y];(try(refine gen2 ?_ ?_<;>intro hq<;>try simp[h,ak x,ak y]at hq)))|(refine T.ret (aG.bu (Or.inr rfl) ?_)<;>simp[aI,Tryz.results101,ak x,ak y]<;>omega)|refine T.rd (id:=12) mixed (fun _=>false) [8,9] (by kernel_rfl) fun K hK=>?_|refine T.r0 fun K hK=>?_|refine T.r1 fun K hK=>?_|refine T.ct rfl ?_|refine T.cf rfl ?_|refine T.seq ?_|refine T.block ?_
theorem Bh (ls B B1 B2:List IT) (e:an) (x y:IT) (q1 q2:Bool) (h:e.kind=7\/e.kind=8) (g1:ah XG 136 [ew B ls,fy x,fy (.b 2)] [] (.bu [ew B1 ls,.b q1]) [] []) (g2:q1=true->ah XG 136 [ew B1 ls,fy y,fy (.b 2)] [] (.bu [ew B2 ls,.b q2]) [] []):
  ah XG 101 [ew B ls,cw e,.l [lP x,lP y]] [] (.bu [ew (if q1 then B2 else B1) ls,fy (.b (if e.kind=8 then 3 else 2)),.b (q1 && q2)]) [] []:=by
 have b2:=dn 2;have b3:=dn 3;cases q1 with
 |false=>
  clear g2;simp only[XY,if_false,X0];rcases h with h|h
  ·rw[if_neg (by omega)];refine ah.ob Tryz.func101 Tryz.ntmps101 rfl ?_;repeat' first|((first|refine ab (hK _ ?_)|refine aq (hK _ ?_)|refine aJ (hK _ ?_));clear hK K)|((first|refine ae ?_|refine aA ?_|refine aQ ?_|refine aa rfl (b2) ?_|refine aa rfl (b3) ?_|(refine aa ?_ (g1) ?_;(focus(solve|simp[h,ak x,ak y]))));simp[h,ak x,ak y];(try(refine gen2 ?_ ?_<;>intro hq<;>try simp[h,ak x,ak y]at hq)))|(refine T.ret (aG.bu (Or.inr rfl) ?_)<;>simp[aI,Tryz.results101]<;>omega)|refine T.rd (id:=15) mixed (fun _=>false) [9] (by kernel_rfl) fun K hK=>?_|refine T.nI (id:=20) mixed (fun _=>false) [6,7] [1] 7 [2] (by kernel_rfl) fun K hK=>?_|refine T.r0 fun K hK=>?_|refine T.r1 fun K hK=>?_|refine T.ct rfl ?_|refine T.cf rfl ?_|refine T.seq ?_|refine T.block ?_|refine T.skip ?_
  ·rw[if_pos h];refine ah.ob Tryz.func101 Tryz.ntmps101 rfl ?_;repeat' first|((first|refine ab (hK _ ?_)|refine aq (hK _ ?_)|refine aJ (hK _ ?_));clear hK K)|((first|refine ae ?_|refine aA ?_|refine aQ ?_|refine aa rfl (b2) ?_|refine aa rfl (b3) ?_|(refine aa ?_ (g1) ?_;(focus(solve|simp[h,ak x,ak y]))));simp[h,ak x,ak y];(try(refine gen2 ?_ ?_<;>intro hq<;>try simp[h,ak x,ak y]at hq)))|(refine T.ret (aG.bu (Or.inr rfl) ?_)<;>simp[aI,Tryz.results101]<;>omega)|refine T.rd (id:=15) mixed (fun _=>false) [9] (by kernel_rfl) fun K hK=>?_|refine T.nI (id:=19) mixed (fun _=>false) [6,7] [1] 7 [2] (by kernel_rfl) fun K hK=>?_|refine T.r0 fun K hK=>?_|refine T.r1 fun K hK=>?_|refine T.ct rfl ?_|refine T.cf rfl ?_|refine T.seq ?_|refine T.block ?_|refine T.skip ?_
 |true=>
  have g2:=g2 rfl;simp only[if_true,XZ];rcases h with h|h
  ·rw[if_neg (by omega)];cases q2
   ·refine ah.ob Tryz.func101 Tryz.ntmps101 rfl ?_;repeat' first|((first|refine ab (hK _ ?_)|refine aq (hK _ ?_)|refine aJ (hK _ ?_));clear hK K)|((first|refine ae ?_|refine aA ?_|refine aQ ?_|refine aa rfl (b2) ?_|refine aa rfl (b3) ?_|(refine aa ?_ (g1) ?_;(focus(solve|simp[h,ak x,ak y])))|(refine aa ?_ (g2) ?_;(focus(solve|simp[h,ak x,ak y]))));simp[h,ak x,ak y];(try(refine gen2 ?_ ?_<;>intro hq<;>try simp[h,ak x,ak y]at hq)))|(refine T.ret (aG.bu (Or.inr rfl) ?_)<;>simp[aI,Tryz.results101]<;>omega)|refine T.rd (id:=15) mixed (fun _=>false) [9] (by kernel_rfl) fun K hK=>?_|refine T.mW (id:=17) mixed (fun _=>false) [9] (by kernel_rfl) fun K hK=>?_|refine T.nI (id:=20) mixed (fun _=>false) [6,7] [1] 7 [2] (by kernel_rfl) fun K hK=>?_|refine T.r0 fun K hK=>?_|refine T.r1 fun K hK=>?_|refine T.ct rfl ?_|refine T.cf rfl ?_|refine T.seq ?_|refine T.block ?_|refine T.skip ?_
   ·refine ah.ob Tryz.func101 Tryz.ntmps101 rfl ?_;repeat' first|((first|refine ab (hK _ ?_)|refine aq (hK _ ?_)|refine aJ (hK _ ?_));clear hK K)|((first|refine ae ?_|refine aA ?_|refine aQ ?_|refine aa rfl (b2) ?_|refine aa rfl (b3) ?_|(refine aa ?_ (g1) ?_;(focus(solve|simp[h,ak x,ak y])))|(refine aa ?_ (g2) ?_;(focus(solve|simp[h,ak x,ak y]))));simp[h,ak x,ak y];(try(refine gen2 ?_ ?_<;>intro hq<;>try simp[h,ak x,ak y]at hq)))|(refine T.ret (aG.bu (Or.inr rfl) ?_)<;>simp[aI,Tryz.results101]<;>omega)|refine T.rd (id:=15) mixed (fun _=>false) [9] (by kernel_rfl) fun K hK=>?_|refine T.mW (id:=17) mixed (fun _=>false) [9] (by kernel_rfl) fun K hK=>?_|refine T.nI (id:=20) mixed (fun _=>false) [6,7] [1] 7 [2] (by kernel_rfl) fun K hK=>?_|refine T.r0 fun K hK=>?_|refine T.r1 fun K hK=>?_|refine T.ct rfl ?_|refine T.cf rfl ?_|refine T.seq ?_|refine T.block ?_|refine T.skip ?_
  ·rw[if_pos h];cases q2
   ·refine ah.ob Tryz.func101 Tryz.ntmps101 rfl ?_;repeat' first|((first|refine ab (hK _ ?_)|refine aq (hK _ ?_)|refine aJ (hK _ ?_));clear hK K)|((first|refine ae ?_|refine aA ?_|refine aQ ?_|refine aa rfl (b2) ?_|refine aa rfl (b3) ?_|(refine aa ?_ (g1) ?_;(focus(solve|simp[h,ak x,ak y])))|(refine aa ?_ (g2) ?_;(focus(solve|simp[h,ak x,ak y]))));simp[h,ak x,ak y];(try(refine gen2 ?_ ?_<;>intro hq<;>try simp[h,ak x,ak y]at hq)))|(refine T.ret (aG.bu (Or.inr rfl) ?_)<;>simp[aI,Tryz.results101]<;>omega)|refine T.rd (id:=15) mixed (fun _=>false) [9] (by kernel_rfl) fun K hK=>?_|refine T.mW (id:=17) mixed (fun _=>false) [9] (by kernel_rfl) fun K hK=>?_|refine T.nI (id:=19) mixed (fun _=>false) [6,7] [1] 7 [2] (by kernel_rfl) fun K hK=>?_|refine T.r0 fun K hK=>?_|refine T.r1 fun K hK=>?_|refine T.ct rfl ?_|refine T.cf rfl ?_|refine T.seq ?_|refine T.block ?_
   ·refine ah.ob Tryz.func101 Tryz.ntmps101 rfl ?_;repeat' first|((first|refine ab (hK _ ?_)|refine aq (hK _ ?_)|refine aJ (hK _ ?_));clear hK K)|((first|refine ae ?_|refine aA ?_|refine aQ ?_|refine aa rfl (b2) ?_|refine aa rfl (b3) ?_|(refine aa ?_ (g1) ?_;(focus(solve|simp[h,ak x,ak y])))|(refine aa ?_ (g2) ?_;(focus(solve|simp[h,ak x,ak y]))));simp[h,ak x,ak y];(try(refine gen2 ?_ ?_<;>intro hq<;>try simp[h,ak x,ak y]at hq)))|(refine T.ret (aG.bu (Or.inr rfl) ?_)<;>simp[aI,Tryz.results101]<;>omega)|refine T.rd (id:=15) mixed (fun _=>false) [9] (by kernel_rfl) fun K hK=>?_|refine T.mW (id:=17) mixed (fun _=>false) [9] (by kernel_rfl) fun K hK=>?_|refine T.nI (id:=19) mixed (fun _=>false) [6,7] [1] 7 [2] (by kernel_rfl) fun K hK=>?_|refine T.r0 fun K hK=>?_|refine T.r1 fun K hK=>?_|refine T.ct rfl ?_|refine T.cf rfl ?_|refine T.seq ?_|refine T.block ?_
theorem Bi (ls B B1 B2:List IT) (e:an) (x y z:IT) (q1 q2:Bool) (h:e.kind=9) (g1:ah XG 136 [ew B ls,fy x,fy (.b 3)] [] (.bu [ew B1 ls,.b q1]) [] []) (g2:q1=true->ah XG 136 [ew B1 ls,fy y,fy z] [] (.bu [ew B2 ls,.b q2]) [] []):
  ah XG 101 [ew B ls,cw e,.l [lP x,lP y,lP z]] [] (.bu [ew (if q1 then B2 else B1) ls,fy y,.b (q1 && q2)]) [] []:=by
 have b2:=dn 2;have b3:=dn 3;cases q1 with
 |false=>
  clear g2;simp only[XY,if_false,X0];refine ah.ob Tryz.func101 Tryz.ntmps101 rfl ?_;repeat' first|((first|refine ab (hK _ ?_)|refine aq (hK _ ?_)|refine aJ (hK _ ?_));clear hK K)|((first|refine ae ?_|refine aA ?_|refine aQ ?_|refine aa rfl (b2) ?_|refine aa rfl (b3) ?_|(refine aa ?_ (g1) ?_;(focus(solve|simp[h,ak x,ak y,ak z]))));simp[h,ak x,ak y,ak z];(try(refine gen2 ?_ ?_<;>intro hq<;>try simp[h,ak x,ak y,ak z]at hq)))|(refine T.ret (aG.bu (Or.inr rfl) ?_)<;>simp[aI,Tryz.results101]<;>omega)|refine T.rd (id:=22) mixed (fun _=>false) [9] (by kernel_rfl) fun K hK=>?_|refine T.nI (id:=25) mixed (fun _=>false) [8,9] [2,3] 9 [2] (by kernel_rfl) fun K hK=>?_|refine T.r0 fun K hK=>?_|refine T.r1 fun K hK=>?_|refine T.ct rfl ?_|refine T.cf rfl ?_|refine T.seq ?_|refine T.block ?_|refine T.skip ?_
 |true=>
  have g2:=g2 rfl;simp only[if_true,XZ];cases q2
  ·refine ah.ob Tryz.func101 Tryz.ntmps101 rfl ?_;repeat' first|((first|refine ab (hK _ ?_)|refine aq (hK _ ?_)|refine aJ (hK _ ?_));clear hK K)|((first|refine ae ?_|refine aA ?_|refine aQ ?_|refine aa rfl (b2) ?_|refine aa rfl (b3) ?_|(refine aa ?_ (g1) ?_;(focus(solve|simp[h,ak x,ak y,ak z])))|(refine aa ?_ (g2) ?_;(focus(solve|simp[h,ak x,ak y,ak z]))));simp[h,ak x,ak y,ak z];(try(refine gen2 ?_ ?_<;>intro hq<;>try simp[h,ak x,ak y,ak z]at hq)))|(refine T.ret (aG.bu (Or.inr rfl) ?_)<;>simp[aI,Tryz.results101]<;>omega)|refine T.rd (id:=22) mixed (fun _=>false) [9] (by kernel_rfl) fun K hK=>?_|refine T.mW (id:=24) mixed (fun _=>false) [11] (by kernel_rfl) fun K hK=>?_|refine T.nI (id:=25) mixed (fun _=>false) [8,9] [2,3] 9 [2] (by kernel_rfl) fun K hK=>?_|refine T.r0 fun K hK=>?_|refine T.r1 fun K hK=>?_|refine T.ct rfl ?_|refine T.cf rfl ?_|refine T.seq ?_|refine T.block ?_
  ·refine ah.ob Tryz.func101 Tryz.ntmps101 rfl ?_;repeat' first|((first|refine ab (hK _ ?_)|refine aq (hK _ ?_)|refine aJ (hK _ ?_));clear hK K)|((first|refine ae ?_|refine aA ?_|refine aQ ?_|refine aa rfl (b2) ?_|refine aa rfl (b3) ?_|(refine aa ?_ (g1) ?_;(focus(solve|simp[h,ak x,ak y,ak z])))|(refine aa ?_ (g2) ?_;(focus(solve|simp[h,ak x,ak y,ak z]))));simp[h,ak x,ak y,ak z];(try(refine gen2 ?_ ?_<;>intro hq<;>try simp[h,ak x,ak y,ak z]at hq)))|(refine T.ret (aG.bu (Or.inr rfl) ?_)<;>simp[aI,Tryz.results101]<;>omega)|refine T.rd (id:=22) mixed (fun _=>false) [9] (by kernel_rfl) fun K hK=>?_|refine T.mW (id:=24) mixed (fun _=>false) [11] (by kernel_rfl) fun K hK=>?_|refine T.nI (id:=25) mixed (fun _=>false) [8,9] [2,3] 9 [2] (by kernel_rfl) fun K hK=>?_|refine T.r0 fun K hK=>?_|refine T.r1 fun K hK=>?_|refine T.ct rfl ?_|refine T.cf rfl ?_|refine T.seq ?_|refine T.block ?_
theorem Es (ls B B1 B2 B3:List IT) (e:an) (x y:IT) (n m:Nat) (q:Bool) (h:e.kind=6) (n1:ah XG 99 [ew B ls] [] (.bu [ew B1 ls,fy (.v n)]) [] []) (n2:ah XG 99 [ew B1 ls] [] (.bu [ew B2 ls,fy (.v m)]) [] [])
  (g1:ah XG 136 [ew B2 ls,fy x,fy (.p 4 y (.v n))] [] (.bu [ew B3 ls,.b q]) [] []):ah XG 101 [ew B ls,cw e,.l [lP x,lP y]] [] (.bu [ew B3 ls,fy (.v n),.b q]) [] []:=by
 have b2:=dn 2;have b3:=dn 3;have tw:=ny 4 y (.v n);cases q
 ·refine ah.ob Tryz.func101 Tryz.ntmps101 rfl ?_;repeat' first|((first|refine ab (hK _ ?_)|refine aq (hK _ ?_)|refine aJ (hK _ ?_));clear hK K)|((first|refine ae ?_|refine aA ?_|refine aQ ?_|refine aa rfl (b2) ?_|refine aa rfl (b3) ?_|refine aa rfl (n1) ?_|refine aa rfl (n2) ?_|(refine aa ?_ (tw) ?_;(focus(solve|simp[h,ak x,ak y])))|(refine aa ?_ (g1) ?_;(focus(solve|simp[h,ak x,ak y]))));simp[h,ak x,ak y];(try(refine gen2 ?_ ?_<;>intro hq<;>try simp[h,ak x,ak y]at hq)))|(refine T.ret (aG.bu (Or.inr rfl) ?_)<;>simp[aI,Tryz.results101]<;>omega)|refine T.rd (id:=29) mixed (fun _=>false) [13] (by kernel_rfl) fun K hK=>?_|refine T.nI (id:=30) mixed (fun _=>false) [3,4] [1] 4 [2] (by kernel_rfl) fun K hK=>?_|refine T.r0 fun K hK=>?_|refine T.r1 fun K hK=>?_|refine T.ct rfl ?_|refine T.cf rfl ?_|refine T.seq ?_|refine T.block ?_|refine T.skip ?_
 ·refine ah.ob Tryz.func101 Tryz.ntmps101 rfl ?_;repeat' first|((first|refine ab (hK _ ?_)|refine aq (hK _ ?_)|refine aJ (hK _ ?_));clear hK K)|((first|refine ae ?_|refine aA ?_|refine aQ ?_|refine aa rfl (b2) ?_|refine aa rfl (b3) ?_|refine aa rfl (n1) ?_|refine aa rfl (n2) ?_|(refine aa ?_ (tw) ?_;(focus(solve|simp[h,ak x,ak y])))|(refine aa ?_ (g1) ?_;(focus(solve|simp[h,ak x,ak y]))));simp[h,ak x,ak y];(try(refine gen2 ?_ ?_<;>intro hq<;>try simp[h,ak x,ak y]at hq)))|(refine T.ret (aG.bu (Or.inr rfl) ?_)<;>simp[aI,Tryz.results101]<;>omega)|refine T.rd (id:=29) mixed (fun _=>false) [13] (by kernel_rfl) fun K hK=>?_|refine T.nI (id:=30) mixed (fun _=>false) [3,4] [1] 4 [2] (by kernel_rfl) fun K hK=>?_|refine T.r0 fun K hK=>?_|refine T.r1 fun K hK=>?_|refine T.ct rfl ?_|refine T.cf rfl ?_|refine T.seq ?_|refine T.block ?_|refine T.skip ?_
theorem Et (ls B B1 B2 B3:List IT) (e:an) (x:IT) (n m:Nat) (q:Bool) (h:e.kind=11\/e.kind=12) (n1:ah XG 99 [ew B ls] [] (.bu [ew B1 ls,fy (.v n)]) [] []) (n2:ah XG 99 [ew B1 ls] [] (.bu [ew B2 ls,fy (.v m)]) [] [])
  (g1:ah XG 136 [ew B2 ls,fy x,fy (.p 5 (.v n) (.v m))] [] (.bu [ew B3 ls,.b q]) [] []):ah XG 101 [ew B ls,cw e,.l [lP x]] [] (.bu [ew B3 ls,fy (.v (if e.kind=12 then m else n)),.b q]) [] []:=by
 have b2:=dn 2;have b3:=dn 3;have tw:=ny 5 (.v n) (.v m);rcases h with h|h
 ·rw[if_neg (by omega)];cases q
  ·refine ah.ob Tryz.func101 Tryz.ntmps101 rfl ?_;repeat' first|((first|refine ab (hK _ ?_)|refine aq (hK _ ?_)|refine aJ (hK _ ?_));clear hK K)|((first|refine ae ?_|refine aA ?_|refine aQ ?_|refine aa rfl (b2) ?_|refine aa rfl (b3) ?_|refine aa rfl (n1) ?_|refine aa rfl (n2) ?_|(refine aa ?_ (tw) ?_;(focus(solve|simp[h,ak x])))|(refine aa ?_ (g1) ?_;(focus(solve|simp[h,ak x]))));simp[h,ak x];(try(refine gen2 ?_ ?_<;>intro hq<;>try simp[h,ak x]at hq)))|(refine T.ret (aG.bu (Or.inr rfl) ?_)<;>simp[aI,Tryz.results101]<;>omega)|refine T.rd (id:=31) mixed (fun _=>false) [11] (by kernel_rfl) fun K hK=>?_|refine T.nI (id:=34) mixed (fun _=>false) [3,4] [1] 4 [2] (by kernel_rfl) fun K hK=>?_|refine T.r0 fun K hK=>?_|refine T.r1 fun K hK=>?_|refine T.cf rfl ?_|refine T.seq ?_|refine T.block ?_|refine T.skip ?_
  ·refine ah.ob Tryz.func101 Tryz.ntmps101 rfl ?_;repeat' first|((first|refine ab (hK _ ?_)|refine aq (hK _ ?_)|refine aJ (hK _ ?_));clear hK K)|((first|refine ae ?_|refine aA ?_|refine aQ ?_|refine aa rfl (b2) ?_|refine aa rfl (b3) ?_|refine aa rfl (n1) ?_|refine aa rfl (n2) ?_|(refine aa ?_ (tw) ?_;(focus(solve|simp[h,ak x])))|(refine aa ?_ (g1) ?_;(focus(solve|simp[h,ak x]))));simp[h,ak x];(try(refine gen2 ?_ ?_<;>intro hq<;>try simp[h,ak x]at hq)))|(refine T.ret (aG.bu (Or.inr rfl) ?_)<;>simp[aI,Tryz.results101]<;>omega)|refine T.rd (id:=31) mixed (fun _=>false) [11] (by kernel_rfl) fun K hK=>?_|refine T.nI (id:=34) mixed (fun _=>false) [3,4] [1] 4 [2] (by kernel_rfl) fun K hK=>?_|refine T.r0 fun K hK=>?_|refine T.r1 fun K hK=>?_|refine T.cf rfl ?_|refine T.seq ?_|refine T.block ?_|refine T.skip ?_
 ·rw[if_pos h];cases q
  ·refine ah.ob Tryz.func101 Tryz.ntmps101 rfl ?_;repeat' first|((first|refine ab (hK _ ?_)|refine aq (hK _ ?_)|refine aJ (hK _ ?_));clear hK K)|((first|refine ae ?_|refine aA ?_|refine aQ ?_|refine aa rfl (b2) ?_|refine aa rfl (b3) ?_|refine aa rfl (n1) ?_|refine aa rfl (n2) ?_|(refine aa ?_ (tw) ?_;(focus(solve|simp[h,ak x])))|(refine aa ?_ (g1) ?_;(focus(solve|simp[h,ak x]))));simp[h,ak x];(try(refine gen2 ?_ ?_<;>intro hq<;>try simp[h,ak x]at hq)))|(refine T.ret (aG.bu (Or.inr rfl) ?_)<;>simp[aI,Tryz.results101]<;>omega)|refine T.rd (id:=31) mixed (fun _=>false) [11] (by kernel_rfl) fun K hK=>?_|refine T.nI (id:=33) mixed (fun _=>false) [3,4] [1] 4 [2] (by kernel_rfl) fun K hK=>?_|refine T.r0 fun K hK=>?_|refine T.r1 fun K hK=>?_|refine T.ct rfl ?_|refine T.cf rfl ?_|refine T.seq ?_|refine T.block ?_|refine T.skip ?_
  ·refine ah.ob Tryz.func101 Tryz.ntmps101 rfl ?_;repeat' first|((first|refine ab (hK _ ?_)|refine aq (hK _ ?_)|refine aJ (hK _ ?_));clear hK K)|((first|refine ae ?_|refine aA ?_|refine aQ ?_|refine aa rfl (b2) ?_|refine aa rfl (b3) ?_|refine aa rfl (n1) ?_|refine aa rfl (n2) ?_|(refine aa ?_ (tw) ?_;(focus(solve|simp[h,ak x])))|(refine aa ?_ (g1) ?_;(focus(solve|simp[h,ak x]))));simp[h,ak x];(try(refine gen2 ?_ ?_<;>intro hq<;>try simp[h,ak x]at hq)))|(refine T.ret (aG.bu (Or.inr rfl) ?_)<;>simp[aI,Tryz.results101]<;>omega)|refine T.rd (id:=31) mixed (fun _=>false) [11] (by kernel_rfl) fun K hK=>?_|refine T.nI (id:=33) mixed (fun _=>false) [3,4] [1] 4 [2] (by kernel_rfl) fun K hK=>?_|refine T.r0 fun K hK=>?_|refine T.r1 fun K hK=>?_|refine T.ct rfl ?_|refine T.cf rfl ?_|refine T.seq ?_|refine T.block ?_|refine T.skip ?_
end Go.Proofs.YtloolmchekcmeaaGreat
namespace Go.Proofs.YtloolmchekcmeaaGreat
attribute [-simp] Go.Av.bO Go.Av.dO Go.Av.ed Go.Av.ec Go.Av.cl Go.Av.cj
open Go Go.Av
attribute [local irreducible] T ah TX EX LX bo cE bF cD fZ aH.kind aH.kids an.kind an.name an.num an.ty an.fr an.label an.kids
attribute [local simp] aX ax
set_option maxHeartbeats 16000000
set_option maxRecDepth 8000
attribute [local simp] XK
attribute [local irreducible] dj cQ
theorem uq (s:List UInt8) (c:UInt8):cQ s c=dj s c s.length:=by unfold cQ;rfl
theorem xf (s:List UInt8) (c:UInt8):dj s c 0=-1:=by unfold dj;rfl
theorem xg (s:List UInt8) (c:UInt8) (p:Nat):dj s c (p+1)=if s[p]? =some c then(p:Int)else dj s c p:=by rw[dj]
theorem xh (s:List UInt8) (c:UInt8) (hs:s.length<=1099511627776):ah XG 98 [.s s,.s [c]] [] (.i (if 0<=cQ s c then s.length-1-cQ s c else-1)) [] []:=by
 obtain⟨R,hR⟩:∃R,cQ s c=R:=⟨_,rfl⟩;rw[hR];rw[uq]at hR;refine ah.ob Tryz.func98 Tryz.ntmps98 rfl ?_;repeat' first|(refine ab (hK _ ?_);clear hK K)|(refine ae ?_;simp;(try simp(disch:=omega)only[wrap64]);(try(refine gen2 ?_ ?_<;>intro hq<;>try simp at hq)))|refine T.r0 fun K hK=>?_|refine T.seq ?_|refine T.block ?_
 refine T.dq (α:=Nat) [0,1] (fun p=>[(4,.i 0),(5,.i ((p:Int)-1))]) (fun _=>[]) (fun _=>[]) (fun _ A=>A) (fun p=>p) (fun p=>p<=s.length/\dj s c p=R) (by simp;rfl) (fun p hx=>?_) s.length ⟨by omega,hR⟩ (by simp) (by simp) (by simp(disch:=omega) [wrap64]);obtain⟨hp,he⟩:=hx;dsimp only;simp only[fP,XL,XM,XO,XN];cases p with
 |zero=>
  rw[xf]at he;subst he;repeat' first|(refine ab (hK _ ?_);clear hK K)|(refine ae ?_;simp;(try simp(disch:=omega)only[wrap64]);(try(refine gen2 ?_ ?_<;>intro hq<;>try simp at hq)))|(refine T.ret (aG.data (Or.inr rfl) ?_ ?_)<;>simp[Tryz.results98]<;>omega)|refine T.r0 fun K hK=>?_|refine T.cf rfl ?_|refine T.seq ?_|refine T.exit ?_
 |succ p=>
  have aC:p<s.length:=by omega
  have qV:=vu aC;obtain⟨x,hx⟩:=bV aC;have bn:s[p]=x:=by rw[XQ aC]at hx;exact Option.some.inj hx
  rw[bn]at qV;rw[xg,hx]at he;have lR:(0:Int)<=p:=by omega
  have I1:((p+1:Nat):Int)-1=p:=by omega
  have y6:((p:Int)+1).toNat=p+1:=by omega
  have uz:(p:Int)<=p+1:=by omega
  have kp:(p:Int)+1<=s.length:=by omega
  rw[I1];by_cases hc:x=c
  ·subst hc;rw[if_pos rfl]at he;rw[<-he];repeat' first|(refine ab (hK _ ?_);clear hK K)|(refine ae ?_;simp[aC,lR,y6,qV,kp];(try simp(disch:=omega)only[wrap64]);(try(refine gen2 ?_ ?_<;>intro hq<;>try simp[aC,lR,y6,qV,kp]at hq)))|(refine T.ret (aG.data (Or.inr rfl) ?_ ?_)<;>simp[Tryz.results98,lR]<;>omega)|refine T.r0 fun K hK=>?_|(refine⟨by omega,?_⟩)|refine T.ct rfl ?_|refine T.seq ?_|refine T.block ?_|refine T.skip ?_
  ·rw[if_neg (by simpa using hc)]at he;repeat' first|(refine ab (hK _ ?_);clear hK K)|(refine ae ?_;simp[aC,lR,y6,qV,kp,hc];(try simp(disch:=omega)only[wrap64]);(try(refine gen2 ?_ ?_<;>intro hq<;>try simp[aC,lR,y6,qV,kp,hc]at hq)))|(refine⟨p,by dsimp only;omega,⟨by omega,he⟩,?_⟩;simp(disch:=omega) [wrap64])|refine T.r0 fun K hK=>?_|refine T.r1 fun K hK=>?_|(refine⟨by omega,?_⟩)|refine T.ct rfl ?_|refine T.cf rfl ?_|refine T.seq ?_|refine T.block ?_|refine T.skip ?_
theorem Am (ls:List IT) (k:Nat) (e:an) (B ts:List IT) (r:Option (List IT×IT)) (hO:wY B) (nL:jo B) (hB:B.length<=1000000) (vb:∀u∈ts,sc B.length u=true) (gd:∀u∈ts,eW u)
  (BJ:((e.kind=2\/e.kind=3\/e.kind=4)/\ts=[])\/((e.kind=11\/e.kind=12)/\ts.length=1)\/((e.kind=6\/e.kind=7\/e.kind=8\/e.kind=10)/\ts.length=2)\/(e.kind=9/\ts.length=3)) (h:gk k e.kind B ts=some r):Er ls B e ts r:=by
 have uc:∀{B2:List IT} {a b:IT} {B3:List IT} {q:Bool},wY B2->jo B2->B2.length<=1048576->sc B2.length a=true->sc B2.length b=true->eW a->eW b->gx k B2 a b=some (B3,q)->ah XG 136 [ew B2 ls,fy a,fy b] [] (.bu [ew B3 ls,.b q]) [] []:=
  fun h1 h2 h3 h4 h5 h6 h7 h8=>yR ls k _ _ _ _ _ h1.sc h2 h3 h4 h5 h6 h7 h8
 have ubOk:∀{B2:List IT} {a b:IT} {B3:List IT},wY B2->sc B2.length a=true->sc B2.length b=true->gx k B2 a b=some (B3,true)->wY B3/\B3.length=B2.length:=fun h1 h2 h3 h4=>iR (k:=k) h1 h2 h3 (by simp[iF,h4])
 have two:∀(g:∀B1 B2:List IT,ah XG 99 [ew B ls] [] (.bu [ew B1 ls,fy (.v B.length)]) [] []->ah XG 99 [ew B1 ls] [] (.bu [ew B2 ls,fy (.v (B.length+1))]) [] []->B2=B++[.v B.length,.v (B.length+1)]->wY B2->jo B2->B2.length=B.length+2->Er ls B e ts r),Er ls B e ts r:=by
  intro g;have n1:=qM B ls (by omega);have n2:=qM (B++[.v B.length]) ls (by simp;omega);rw[show(B++[IT.v B.length]).length=B.length+1 by simp]at n2;refine g _ _ n1 n2 (by simp) ?_ ?_ (by simp)
  ·rw[show B++[IT.v B.length]++[IT.v (B.length+1)]=B++[.v B.length,.v (B.length+1)] by simp];exact⟨(mG.two B).sc hO.sc,(mG.two B).vW hO.sc hO.vW⟩
  ·refine(nL.app ?_).app ?_<;>intro u hu<;>simp at hu<;>subst hu<;>trivial
 rcases BJ with⟨hk,rfl⟩|⟨hk,hl⟩|⟨hk,hl⟩|⟨hk,hl⟩
 ·have hr:r=some (B,.b (if e.kind=2 then 2 else 3)):=by
   rcases hk with h2|h2|h2<;>rw[h2]at h⊢<;>simp[gk]at h<;>exact h.symm
  subst hr;exact⟨B,_,true,Cw ls B e hk,rfl,rfl,rfl⟩
 ·obtain⟨x,rfl⟩:=List.length_eq_one_iff.1 hl;refine two fun B1 B2 n1 n2 e2 o2 k2 l2=>?_
  have h5:¬e.kind=2:=by omega
  have h6:¬(e.kind=3\/e.kind=4):=by omega
  simp only[gk,if_neg h5,if_neg h6,if_pos hk,XH]at h;obtain⟨w,h,hr⟩:=h;rw[<-e2]at h;obtain⟨B3,q,hu,hw⟩:=gW h;have sx:=ea (show B.length<=B2.length by omega) (vb x (by simp));have g:=uc o2 k2 (by omega) sx (show sc B2.length (.p 5 (.v B.length) (.v (B.length+1)))=true by simp[sc];omega) (gd x (by simp)) (by simp[eW]) hu;refine⟨B3,_,q,Et ls B B1 B2 B3 e x _ _ q hk n1 n2 g,?_⟩;rcases hw with⟨rfl,rfl⟩|⟨rfl,rfl⟩
  ·simp at hr;subst hr;exact⟨rfl,rfl,rfl⟩
  ·simp at hr;subst hr;rfl
 ·obtain⟨x,y,rfl⟩:=NI hl;have h5:¬e.kind=2:=by omega
  have h6:¬(e.kind=3\/e.kind=4):=by omega
  have sx:=vb x (by simp);have sy:=vb y (by simp);have kx:=gd x (by simp);have ky:=gd y (by simp);by_cases bZ:e.kind=10
  ·simp[gk,bZ]at h;subst h;exact⟨B,_,true,Cx ls B e x y bZ,rfl,rfl,rfl⟩
  by_cases N2:e.kind=6
  ·refine two fun B1 B2 n1 n2 e2 o2 k2 l2=>?_
   simp only[gk,if_neg h5,if_neg h6,if_neg bZ,if_pos N2,XH]at h;obtain⟨w,h,hr⟩:=h;rw[<-e2]at h;obtain⟨B3,q,hu,hw⟩:=gW h;have sx2:=ea (show B.length<=B2.length by omega) sx;have sy2:=ea (show B.length<=B2.length by omega) sy;have g:=uc o2 k2 (by omega) sx2 (show sc B2.length (.p 4 y (.v B.length))=true by simp[sc,sy2];omega) kx (by simp[eW,ky]) hu;refine⟨B3,_,q,Es ls B B1 B2 B3 e x y _ _ q N2 n1 n2 g,?_⟩;rcases hw with⟨rfl,rfl⟩|⟨rfl,rfl⟩
   ·simp at hr;subst hr;exact⟨rfl,rfl,rfl⟩
   ·simp at hr;subst hr;rfl
  ·have N3:e.kind=7\/e.kind=8:=by omega
   simp only[gk,if_neg h5,if_neg h6,if_neg bZ,if_neg N2,if_pos N3]at h;obtain⟨w,HJ⟩:∃w,iF k B x (.b 2)=w:=⟨_,rfl⟩;rw[HJ]at h;cases w with
   |none=>simp at h
   |some w=>
    obtain⟨B1,q1,EC,N4⟩:=gW HJ;have g1:=uc hO nL (by omega) sx (show sc B.length (.b 2)=true from rfl) kx (by simp[eW]) EC;rcases N4 with⟨rfl,rfl⟩|⟨rfl,rfl⟩
    ·simp only[XH]at h;obtain⟨w2,h,hr⟩:=h;obtain⟨B2,q2,yY,N5⟩:=gW h;obtain⟨o1,l1⟩:=ubOk hO sx (show sc B.length (.b 2)=true from rfl) EC;have k1:=j0 nL kx (show eW (.b 2) by simp[eW]) EC;have g2:=uc o1 k1 (by omega) (by rw[l1];exact sy) (show sc B1.length (.b 2)=true from rfl) ky (show eW (.b 2) by simp[eW]) yY;refine⟨_,_,_,Bh ls B B1 B2 e x y true q2 N3 g1 (fun _=>g2),?_⟩;rcases N5 with⟨rfl,rfl⟩|⟨rfl,rfl⟩
     ·simp at hr;subst hr;exact⟨rfl,rfl,rfl⟩
     ·simp at hr;subst hr;rfl
    ·simp at h;subst h;exact⟨_,_,_,Bh ls B B1 B1 e x y false false N3 g1 (fun e=>by cases e),rfl⟩
 ·obtain⟨x,y,z,rfl⟩:=NJ hl;have h5:¬e.kind=2:=by omega
  have h6:¬(e.kind=3\/e.kind=4):=by omega
  simp only[gk,if_neg h5,if_neg h6,if_pos hk]at h;obtain⟨w,HJ⟩:∃w,iF k B x (.b 3)=w:=⟨_,rfl⟩;rw[HJ]at h;cases w with
  |none=>simp at h
  |some w=>
   obtain⟨B1,q1,EC,N4⟩:=gW HJ;have g1:=uc hO nL (by omega) (vb x (by simp)) (show sc B.length (.b 3)=true from rfl) (gd x (by simp)) (by simp[eW]) EC;rcases N4 with⟨rfl,rfl⟩|⟨rfl,rfl⟩
   ·simp only[XH]at h;obtain⟨w2,h,hr⟩:=h;obtain⟨B2,q2,yY,N5⟩:=gW h;obtain⟨o1,l1⟩:=ubOk hO (vb x (by simp)) (show sc B.length (.b 3)=true from rfl) EC;have k1:=j0 nL (gd x (by simp)) (show eW (.b 3) by simp[eW]) EC;have g2:=uc o1 k1 (by omega) (by rw[l1];exact vb y (by simp)) (by rw[l1];exact vb z (by simp)) (gd y (by simp)) (gd z (by simp)) yY;refine⟨_,_,_,Bi ls B B1 B2 e x y z true q2 hk g1 (fun _=>g2),?_⟩;rcases N5 with⟨rfl,rfl⟩|⟨rfl,rfl⟩
    ·simp at hr;subst hr;exact⟨rfl,rfl,rfl⟩
    ·simp at hr;subst hr;rfl
   ·simp at h;subst h;exact⟨_,_,_,Bi ls B B1 B1 e x y z false false hk g1 (fun e=>by cases e),rfl⟩
def ur (x:List IT×List IT×IT×Bool):Option (List IT×List IT×IT)->Prop
 |some r=>x.1=r.1/\x.2.1=r.2.1/\x.2.2.1=r.2.2/\x.2.2.2=true
 |none=>x.2.2.2=false
abbrev oM (ns:List UInt8) (ts:List IT) (e:an) (B ls:List IT) (x:List IT×List IT×IT×Bool):Prop:=
 ah XG 42 [ew B ls,.s ns,.l (ts.map lP),cw e] [] (.bu [ew x.1 x.2.1,fy x.2.2.1,.b x.2.2.2]) [] []
def xi (k:Nat) (ns:List UInt8) (ts:List IT) (e:an) (B ls:List IT) (x:List IT×List IT×IT×Bool):Prop:=
 oM ns ts e B ls x/\∃r,inf k e B ls ns ts=some r/\ur x r
structure fg (ns:List UInt8) (ts:List IT) (B ls:List IT) (n t:Nat):Prop where
 ok:wY B
 kd:jo B
 Cy:jo ls
 ctx:Ah B ns ts
 len:B.length+2*n<=1000000
 Cz:ls.length+t<=1000000
theorem fg.next {k:Nat} {ns:List UInt8} {ts B ls B' ls':List IT} {t:IT} {u:an} {n m:Nat} (he:Ba u) (dY:jo ts) (h:fg ns ts B ls (aK u+n) ((aL u).length+m)) (hi:inf k u B ls ns ts=some (some (B',ls',t))):fg ns ts B' ls' n m/\B.length<=B'.length/\sc B'.length t=true/\eW t:=by
 have h1:=mH he h.ok h.ctx hi;obtain⟨h2,h3,h4⟩:=Ej he h.kd h.Cy dY hi;obtain⟨new,h5,h6,_⟩:=h1.KL;have:=h.len;have:=h.Cz;have:=h1.len;exact⟨⟨h1.ok,h2,h3,h.ctx.le h1.le,by omega,by rw[h5,XU,h6];omega⟩,h1.le,h1.CP,h4⟩
def n0 (X:an->List IT->List IT->List IT×List IT×IT×Bool) (N:List IT->List IT->List IT->List IT×List IT×IT×Bool):List an->List IT->List IT->List IT->List IT×List IT×IT×Bool
 |[],C,l,us=>N C l us
 |u::r,C,l,us=>if(X u C l).2.2.2=true then n0 X N r (X u C l).1 (X u C l).2.1 (us++[(X u C l).2.2.1])else X u C l
def kD (k:Nat) (ns:List UInt8) (ts:List IT) (L:List an) (C l us:List IT):Option (Option (List IT×List IT×List IT)):=match kA k L C l ns ts with
 |some (some r)=>some (some (r.1,r.2.1,us++r.2.2))
 |none=>none
 |some none=>some none
theorem lD {k:Nat} {ns:List UInt8} {ts:List IT} {u:an} {L:List an} {C l us:List IT}:kD k ns ts (u::L) C l us=match inf k u C l ns ts with
  |some (some r)=>kD k ns ts L r.1 r.2.1 (us++[r.2.2])
  |none=>none
  |some none=>some none:=by
 simp only[kD,kA];cases h:inf k u C l ns ts with
 |none=>rfl
 |some o=>
  cases o with
  |none=>rfl
  |some r=>
   obtain⟨a,b,c⟩:=r;simp only;cases h2:kA k L a b ns ts with
   |none=>rfl
   |some o2=>
    cases o2 with
    |none=>rfl
    |some r2=>obtain⟨d,e,f⟩:=r2;simp
structure Eu (k:Nat) (ns:List UInt8) (ts:List IT) (e:an) (L:List an) (X:an->List IT->List IT->List IT×List IT×IT×Bool) (N:List IT->List IT->List IT->List IT×List IT×IT×Bool) (OUT:List IT×List IT×IT×Bool) (R:Option (List IT×List IT×List IT)) (p:Nat) (C l us:List IT):Prop where
 le:p<=L.length
 ul:us.length=p
 cond:fg ns ts C l (a7 (L.drop p)+1) (aB (L.drop p)).length
 ES:∀u∈us,sc C.length u=true/\eW u
 out:n0 X N (L.drop p) C l us=OUT
 res:kD k ns ts (L.drop p) C l us=some R
set_option maxHeartbeats 1000000 in
theorem An (k:Nat) (ns:List UInt8) (ts:List IT) (e:an) (L:List an) (hL:e.kids=L) (KJ:L.length<=3) (h1:e.kind≠1) (h5:e.kind≠5) (dY:jo ts) (Hc:∀u∈L,Ba u) (X:an->List IT->List IT->List IT×List IT×IT×Bool) (N:List IT->List IT->List IT->List IT×List IT×IT×Bool) (B ls:List IT)
  (hX:∀u∈L,∀C l n m,fg ns ts C l (aK u+n) ((aL u).length+m)->(∃r,inf k u C l ns ts=some r)->xi k ns ts u C l (X u C l)) (R:Option (List IT×List IT×List IT))
  (hN:∀C l us,fg ns ts C l 1 0->us.length=L.length->(∀u∈us,sc C.length u=true/\eW u)->R=some (C,l,us)->ah XG 101 [ew C l,cw e,.l (us.map lP)] [] (.bu [ew (N C l us).1 (N C l us).2.1,fy (N C l us).2.2.1,.b (N C l us).2.2.2]) [] [])
  (hI:Eu k ns ts e L X N (n0 X N L B ls []) R 0 B ls []):oM ns ts e B ls (n0 X N L B ls []):=by
 generalize n0 X N L B ls []=OUT at*;obtain⟨O1,O2,O3,O4⟩:=OUT;rw[oM];dsimp only;have N6:e.kids.length=L.length:=by rw[hL]
 refine ah.ob Tryz.func42 Tryz.ntmps42 rfl ?_;repeat' first|(refine ab (hK _ ?_);clear hK K)|(refine ae ?_;simp[h1,h5];(try(refine gen2 ?_ ?_<;>intro hq<;>try simp[h1,h5]at hq)))|refine T.rs (id:=11) (fun i=>i==0) fun K hK=>?_|refine T.rs (id:=0) (fun _=>false) fun K hK=>?_|refine T.rs (id:=1) (fun _=>false) fun K hK=>?_|refine T.rs (id:=6) (fun _=>false) fun K hK=>?_|refine T.rs (id:=12) (fun _=>false) fun K hK=>?_|refine T.cf rfl ?_|refine T.seq ?_|refine T.block ?_|refine T.skip ?_
 refine T.dq (α:=Nat×List IT×List IT×List IT×List (List CV)) [1,2,4,7,8,9] (fun x=>[(10,.b false),(16,.c (.own 0 x.1)),(17,.i x.1)]) (fun x=>[(0,[.d (.sl (x.2.1.map lP)),.d (.sl (x.2.2.1.map lP))])]) (fun x=>x.2.2.2.2) (fun x _=>[{sz:=3,eO:=72,rows:=x.2.2.2.1.map lP,wr:=true}]) (fun x=>L.length+1-x.1) (fun x=>Eu k ns ts e L X N (O1,O2,O3,O4) R x.1 x.2.1 x.2.2.1 x.2.2.2.1) (by simp;rfl) (fun x hx=>?_) (0,B,ls,[],[]) hI (by simp) (by simp) (by simp);obtain⟨p,C,l,us,G⟩:=x;dsimp only at hx⊢;simp only[fP,XL,XM,XO,XN,XP];have xE:=hx.ul;by_cases aC:p<L.length
 ·obtain⟨u,ht⟩:=bV aC;have eN:u∈L:=XR ht;have bn:L[p]=u:=by rw[XQ aC]at ht;exact Option.some.inj ht
  have iA:L.drop p=u::L.drop (p+1):=by rw[XS aC,bn]
  have hb:=Hc u eN;have hc:=hx.cond;rw[iA]at hc;simp only[a7,aB,XU]at hc;have AE:fg ns ts C l (aK u+(a7 (L.drop (p+1))+1)) ((aL u).length+(aB (L.drop (p+1))).length):=⟨hc.ok,hc.kd,hc.Cy,hc.ctx,by have:=hc.len;omega,hc.Cz⟩;have ho:=hx.out;have hr:=hx.res;obtain⟨hA,r,hi,ha⟩:=hX u eN C l _ _ AE (by
   rw[iA,lD]at hr;cases hz:inf k u C l ns ts with
   |none=>rw[hz]at hr;cases hr
   |some z=>exact⟨z,rfl⟩)
  rw[iA,n0]at ho;rw[iA,lD,hi]at hr;rw[oM]at hA;generalize X u C l=x at*;obtain⟨C',l',t,q⟩:=x;dsimp only at hA ho ha;have rU:L.length=e.kids.length:=by rw[hL]
  have yS:p<e.kids.length:=by omega
  have FZ:e.kids[p]=u:=by simp only[hL];exact bn
  cases q with
  |false=>
   rw[if_neg (by simp)]at ho;simp only[Prod.mk.injEq]at ho;obtain⟨rfl,rfl,rfl,rfl⟩:=ho;clear hx hX hN hI hc AE hi hr ha;repeat' first|((first|refine ab (hK _ ?_)|refine aJ (hK _ ?_));clear hK K)|((first|refine ae ?_|refine aQ ?_|refine aa rfl (hA) ?_);simp[yS,FZ,ax u];(try simp(disch:=omega)only[wrap64]);(try(refine gen2 ?_ ?_<;>intro hq<;>try simp[yS,FZ,ax u]at hq)))|(refine T.ret (aG.bu (Or.inr rfl) ?_)<;>simp[aI,Tryz.results42]<;>omega)|(refine⟨?_,?_⟩;(focus(intros;refine aa rfl (hA) ?_;simp;done)))|refine T.Lt (id:=15) mixed (fun _=>false) [13,14,15,16] [0,4,6,7,8] 14 [2] 14 [0,4,6,7,8,13,14,15,16] _ (by kernel_rfl) rfl rfl rfl rfl sI rfl (by simp) fun K hK=>?_|refine T.nI (id:=17) mixed (fun _=>false) [2,3] [1] 3 [2] (by kernel_rfl) fun K hK=>?_|refine T.rs (id:=13) (fun _=>false) fun K hK=>?_|refine T.rs (id:=16) (fun _=>false) fun K hK=>?_|refine T.ct rfl ?_|refine T.seq ?_|refine T.block ?_|refine T.skip ?_
  |true=>
   rw[if_pos rfl]at ho;have hn:Eu k ns ts e L X N (O1,O2,O3,O4) R (p+1) C' l' (us++[t]):=by
    cases r with
    |none=>simp[ur]at ha
    |some r=>
     obtain⟨r1,r2,r3⟩:=r;simp only[ur]at ha;obtain⟨rfl,rfl,rfl,_⟩:=ha;obtain⟨g1,g2,g3,g4⟩:=fg.next hb dY AE hi;exact⟨by omega,by simp[xE],g1,fun v hv=>by
      rcases XT.1 hv with hv|hv
      ·exact⟨ea g2 (hx.ES v hv).1,(hx.ES v hv).2⟩
      ·simp at hv;subst hv;exact⟨g3,g4⟩,ho,hr⟩
   clear hX hN hI hc AE hi hr ha;repeat' first|((first|refine ab (hK _ ?_)|refine aJ (hK _ ?_));clear hK K)|((first|refine ae ?_|refine aQ ?_|refine aa rfl (hA) ?_);simp[yS,FZ,ax u,xE];(try simp(disch:=omega)only[wrap64]);(try(refine gen2 ?_ ?_<;>intro hq<;>try simp[yS,FZ,ax u,xE]at hq)))|(refine⟨by omega,by omega,?_⟩)|(refine⟨(p+1,C',l',us++[t],_),by dsimp only;omega,hn,rfl,?_,?_⟩<;>simp(disch:=omega) [wrap64,ak t])|(refine⟨?_,?_⟩;(focus(intros;refine aa rfl (hA) ?_;simp;done)))|refine T.Lt (id:=15) mixed (fun _=>false) [13,14,15,16] [0,4,6,7,8] 14 [2] 14 [0,4,6,7,8,13,14,15,16] _ (by kernel_rfl) rfl rfl rfl rfl sI rfl (by simp) fun K hK=>?_|refine T.rs (id:=13) (fun _=>false) fun K hK=>?_|refine T.rs (id:=16) (fun _=>false) fun K hK=>?_|refine T.rs (id:=18) (fun _=>false) fun K hK=>?_|refine T.ef (id:=19) (fun _=>false) fun K hK=>?_|refine T.ef (id:=14) (fun _=>false) fun K hK=>?_|refine T.ct rfl ?_|refine T.cf rfl ?_|refine T.seq ?_|refine T.block ?_|refine T.skip ?_
 ·have fj:p=L.length:=by have:=hx.le;omega
  subst fj;have hc:=hx.cond;have ho:=hx.out;have hr:=hx.res;simp only[List.drop_length,a7,aB,List.length_nil]at hc ho hr;simp[kD,kA]at hr;have g:=hN C l us hc xE hx.ES hr.symm;rw[n0]at ho;generalize N C l us=y at*;subst ho;dsimp only at g;have yS:¬L.length<e.kids.length:=by omega
  clear hx hX hN hI hc hr;repeat' first|(refine ab (hK _ ?_);clear hK K)|((first|refine ae ?_|(refine aa ?_ (g) ?_;(focus(solve|simp[yS,aC,N6,xE]))));simp[yS,aC,N6,xE];(try(refine gen2 ?_ ?_<;>intro hq<;>try simp[yS,aC,N6,xE]at hq)))|(refine T.ret (aG.bu (Or.inr rfl) ?_)<;>simp[aI,Tryz.results42]<;>omega)|refine T.rs (id:=13) (fun _=>false) fun K hK=>?_|refine T.rs (id:=20) (fun _=>false) fun K hK=>?_|refine T.cf rfl ?_|refine T.seq ?_|refine T.exit ?_
theorem CA (ns:List UInt8) (ts:List IT) (c:UInt8) (B ls:List IT) (hc:ts.length=ns.length) (hn:ns.length<=1000000):(0<=cQ ns c->∃t,ts[(cQ ns c).toNat]? =some t/\oM ns ts (rW [c]) B ls (B,ls,t,true))/\(¬0<=cQ ns c->oM ns ts (rW [c]) B ls (B,ls,.v 0,false)):=by
 have hb:=lq ns c ns.length;rw[<-uq]at hb;have k1:=xh ns c (by omega);refine⟨fun h0=>?_,fun h0=>?_⟩
 ·rw[if_pos h0]at k1;obtain⟨j,hj⟩:∃j:Nat,cQ ns c=j:=⟨(cQ ns c).toNat,by omega⟩;rw[hj]at k1 hb⊢;have aC:j<ts.length:=by omega
  obtain⟨t,ht⟩:=bV aC;have eN:t∈ts:=XR ht;have bn:ts[j]=t:=by rw[XQ aC]at ht;exact Option.some.inj ht
  have iA:ts.drop j=t::ts.drop (j+1):=by rw[XS aC,bn]
  refine⟨t,by simpa using ht,?_⟩;rw[oM];have KW:¬((ns.length:Int)-1-j<0):=by omega
  have y0:(ts.length:Int)-1-((ns.length:Int)-1-j)=j:=by omega
  refine ah.ob Tryz.func42 Tryz.ntmps42 rfl ?_;repeat' first|((first|refine ab (hK _ ?_)|refine aJ (hK _ ?_));clear hK K)|((first|refine ae ?_|refine aQ ?_|refine aa rfl (k1) ?_);simp[KW,y0,aC,bn,ak t];(try simp(disch:=omega)only[wrap64]);(try(refine gen2 ?_ ?_<;>intro hq<;>try simp[KW,y0,aC,bn,ak t]at hq)))|(refine T.ret (aG.bu (Or.inr rfl) ?_)<;>simp[aI,Tryz.results42]<;>omega)|refine T.nI (id:=5) mixed (fun _=>false) [9,10] [3,7,8] 10 [2] (by kernel_rfl) fun K hK=>?_|refine T.r0 fun K hK=>?_|refine T.ct rfl ?_|refine T.cf rfl ?_|refine T.seq ?_|refine T.skip ?_
 ·rw[if_neg h0]at k1;rw[oM];refine ah.ob Tryz.func42 Tryz.ntmps42 rfl ?_;repeat' first|(refine ab (hK _ ?_);clear hK K)|((first|refine ae ?_|refine aa rfl (k1) ?_);simp[iB];(try simp(disch:=omega)only[wrap64]);(try(refine gen2 ?_ ?_<;>intro hq<;>try simp[iB]at hq)))|(refine T.ret (aG.bu (Or.inr rfl) ?_)<;>simp[aI,Tryz.results42]<;>omega)|refine T.r0 fun K hK=>?_|refine T.ct rfl ?_|refine T.seq ?_
theorem CB (ns:List UInt8) (ts:List IT) (c:UInt8) (t:aH) (b:an) (B B1 ls:List IT) (n:Nat) (hn:ns.length<=1000000) (dY:ts.length<=1000000) (y5:ls.length<=1000000) (n1:ah XG 99 [ew B ls] [] (.bu [ew B1 ls,fy (.v n)]) [] []) (x:List IT×List IT×IT×Bool)
  (hb:oM (ns++[c]) (ts++[.v n]) b B1 (ls++[.v n]) x):oM ns ts (nJ [c] t b) B ls (x.1,x.2.1,.p 4 (.v n) x.2.2.1,x.2.2.2):=by
 have uN:ns.length<=4611686018427387903:=by omega
 obtain⟨C,l,u,q⟩:=x;rw[oM]at hb⊢;dsimp only at hb⊢;have tw:=ny 4 (.v n) u;cases q
 ·refine ah.ob Tryz.func42 Tryz.ntmps42 rfl ?_;repeat' first|((first|refine ab (hK _ ?_)|refine aq (hK _ ?_)|refine aJ (hK _ ?_));clear hK K)|((first|refine ae ?_|refine aA ?_|refine aQ ?_|refine aa rfl (n1) ?_|(refine aa ?_ (hb) ?_;(focus(solve|simp[iB,ax b,uN])))|(refine aa ?_ (tw) ?_;(focus(solve|simp[iB,ax b,uN]))));simp[iB,ax b,uN];(try simp(disch:=omega)only[wrap64,fE]);(try(refine gen2 ?_ ?_<;>intro hq<;>try simp[iB,ax b,uN]at hq)))|(refine⟨by omega,by omega,?_⟩)|(refine T.ret (aG.bu (Or.inr rfl) ?_)<;>simp[aI,Tryz.results42,iB]<;>omega)|refine T.nI (id:=8) mixed (fun i=>i==0) [0,3,6,8] [2,4,5] 4 [] (by kernel_rfl) fun K hK=>?_|refine T.Lt (id:=9) mixed (fun i=>i==5) [5,7,10,15,20,21,22] [0,3,8,9,12,13,14] 11 [] 20 [0,3,5,7,8,9,10,12,13,14,15,20,21,22] _ (by kernel_rfl) rfl rfl rfl rfl sI rfl (by simp) fun K hK=>?_|refine T.rd (id:=10) mixed (fun _=>false) [5,6] (by kernel_rfl) fun K hK=>?_|refine T.rs (id:=0) (fun _=>false) fun K hK=>?_|refine T.rs (id:=1) (fun _=>false) fun K hK=>?_|refine T.rs (id:=6) (fun _=>false) fun K hK=>?_|refine T.rs (id:=7) (fun _=>false) fun K hK=>?_|refine T.ct rfl ?_|refine T.cf rfl ?_|refine T.seq ?_|refine T.skip ?_
 ·refine ah.ob Tryz.func42 Tryz.ntmps42 rfl ?_;repeat' first|((first|refine ab (hK _ ?_)|refine aq (hK _ ?_)|refine aJ (hK _ ?_));clear hK K)|((first|refine ae ?_|refine aA ?_|refine aQ ?_|refine aa rfl (n1) ?_|(refine aa ?_ (hb) ?_;(focus(solve|simp[iB,ax b,uN])))|(refine aa ?_ (tw) ?_;(focus(solve|simp[iB,ax b,uN]))));simp[iB,ax b,uN];(try simp(disch:=omega)only[wrap64,fE]);(try(refine gen2 ?_ ?_<;>intro hq<;>try simp[iB,ax b,uN]at hq)))|(refine⟨by omega,by omega,?_⟩)|(refine T.ret (aG.bu (Or.inr rfl) ?_)<;>simp[aI,Tryz.results42,iB]<;>omega)|refine T.nI (id:=8) mixed (fun i=>i==0) [0,3,6,8] [2,4,5] 4 [] (by kernel_rfl) fun K hK=>?_|refine T.Lt (id:=9) mixed (fun i=>i==5) [5,7,10,15,20,21,22] [0,3,8,9,12,13,14] 11 [] 20 [0,3,5,7,8,9,10,12,13,14,15,20,21,22] _ (by kernel_rfl) rfl rfl rfl rfl sI rfl (by simp) fun K hK=>?_|refine T.rd (id:=10) mixed (fun _=>false) [5,6] (by kernel_rfl) fun K hK=>?_|refine T.rs (id:=0) (fun _=>false) fun K hK=>?_|refine T.rs (id:=1) (fun _=>false) fun K hK=>?_|refine T.rs (id:=6) (fun _=>false) fun K hK=>?_|refine T.rs (id:=7) (fun _=>false) fun K hK=>?_|refine T.ct rfl ?_|refine T.cf rfl ?_|refine T.seq ?_|refine T.skip ?_
theorem yT {k:Nat} {ns:List UInt8} {ts:List IT} {X:an->List IT->List IT->List IT×List IT×IT×Bool} {N:List IT->List IT->List IT->List IT×List IT×IT×Bool} {R:Option (List IT×List IT×List IT)} {r:Option (List IT×List IT×IT)} {len:Nat} (dY:jo ts)
  (hN:∀C l us,fg ns ts C l 1 0->us.length=len->(∀u∈us,sc C.length u=true/\eW u)->R=some (C,l,us)->ur (N C l us) r) (h0:R=none->r=none):∀(L:List an) (C l us:List IT),fg ns ts C l (a7 L+1) (aB L).length->us.length+L.length=len->(∀u∈us,sc C.length u=true/\eW u)->(∀u∈L,Ba u)->
  (∀u∈L,∀C l n m,fg ns ts C l (aK u+n) ((aL u).length+m)->(∃r,inf k u C l ns ts=some r)->xi k ns ts u C l (X u C l))->kD k ns ts L C l us=some R->ur (n0 X N L C l us) r
 |[],C,l,us,hc,hl,hs,_,_,hr=>by
  simp[kD,kA]at hr;rw[n0];exact hN C l us (by simpa[a7,aB]using hc) (by simpa using hl) hs hr.symm
 |u::L,C,l,us,hc,hl,hs,hB,hX,hr=>by
  simp only[a7,aB,XU]at hc;have AE:fg ns ts C l (aK u+(a7 L+1)) ((aL u).length+(aB L).length):=⟨hc.ok,hc.kd,hc.Cy,hc.ctx,by have:=hc.len;omega,hc.Cz⟩;rw[lD]at hr;obtain⟨_,q,hi,ha⟩:=hX u (by simp) C l _ _ AE (by
   cases hz:inf k u C l ns ts with
   |none=>rw[hz]at hr;cases hr
   |some z=>exact⟨z,rfl⟩)
  rw[hi]at hr;rw[n0];cases q with
  |none=>
   simp only[ur]at ha;rw[if_neg (by rw[ha];simp)];cases hr
   rw[h0 rfl];exact ha
  |some q=>
   obtain⟨q1,q2,q3⟩:=q;simp only[ur]at ha;obtain⟨e1,e2,e3,e4⟩:=ha;rw[if_pos e4,e1,e2,e3];obtain⟨g1,g2,g3,g4⟩:=fg.next (hB u (by simp)) dY AE hi;exact yT dY hN h0 L q1 q2 (us++[q3]) g1 (by simp at hl⊢;omega) (fun v hv=>by
    rcases XT.1 hv with hv|hv
    ·exact⟨ea g2 (hs v hv).1,(hs v hv).2⟩
    ·simp at hv;subst hv;exact⟨g3,g4⟩) (fun v hv=>hB v (by simp[hv])) (fun v hv=>hX v (by simp[hv])) hr
open Classical in
theorem gX (k:Nat) (ns:List UInt8) (ts:List IT) (e:an) (KJ:e.kids.length<=3) (h1:e.kind≠1) (h5:e.kind≠5) (dY:jo ts) (Hc:∀u∈e.kids,Ba u)
  (BJ:∀us:List IT,us.length=e.kids.length->((e.kind=2\/e.kind=3\/e.kind=4)/\us=[])\/((e.kind=11\/e.kind=12)/\us.length=1)\/((e.kind=6\/e.kind=7\/e.kind=8\/e.kind=10)/\us.length=2)\/(e.kind=9/\us.length=3))
  (ih:∀u∈e.kids,∀C l n m,fg ns ts C l (aK u+n) ((aL u).length+m)->(∃r,inf k u C l ns ts=some r)->∃x,xi k ns ts u C l x)
  (B ls:List IT) (hc:fg ns ts B ls (a7 e.kids+1) (aB e.kids).length) (r:Option (List IT×List IT×IT)) (hr:inf k e B ls ns ts=some r):∃x,xi k ns ts e B ls x:=by
 let X:an->List IT->List IT->List IT×List IT×IT×Bool:=fun u C l=>if h:∃x,xi k ns ts u C l x then h.choose else([],[],.v 0,false)
 have hX:∀u∈e.kids,∀C l n m,fg ns ts C l (aK u+n) ((aL u).length+m)->(∃r,inf k u C l ns ts=some r)->xi k ns ts u C l (X u C l):=fun u hu C l n m g1 g2=>by
  have h:=ih u hu C l n m g1 g2;show xi k ns ts u C l (if h:∃x,xi k ns ts u C l x then h.choose else([],[],.v 0,false));rw[dif_pos h];exact h.choose_spec
 let NP:List IT->List IT->List IT->(List IT×IT×Bool)->Prop:=fun C l us y=>ah XG 101 [ew C l,cw e,.l (us.map lP)] [] (.bu [ew y.1 l,fy y.2.1,.b y.2.2]) [] []/\∃rn,gk k e.kind C us=some rn/\KV y.1 y.2.1 y.2.2 rn
 let N:List IT->List IT->List IT->List IT×List IT×IT×Bool:=fun C l us=>if h:∃y,NP C l us y then(h.choose.1,l,h.choose.2.1,h.choose.2.2)else([],[],.v 0,false)
 obtain⟨R,hR,Jc,Gc⟩:∃R,kA k e.kids B ls ns ts=some R/\(R=none->r=none)/\(∀C l us,R=some (C,l,us)->∃rn,gk k e.kind C us=some rn/\r=rn.map fun z=>(z.1,l,z.2)):=by
  cases e with
  |mk kd s n t f b L=>
   simp only[an.bT]at h1 h5;rw[inf,if_neg h1]at hr;simp only[if_neg h5]at hr;simp only[an.bU,an.bT];cases hS:kA k L B ls ns ts with
   |none=>rw[hS]at hr;cases hr
   |some R=>
    rw[hS]at hr;refine⟨R,rfl,fun e=>?_,fun C l us e=>?_⟩
    ·subst e;simpa using hr.symm
    ·subst e;simp only[XH]at hr;obtain⟨rn,q1,q2⟩:=hr;exact⟨rn,q1,q2.symm⟩
 have gl:kD k ns ts e.kids B ls []=some R:=by
  simp only[kD,hR];cases R with
  |none=>rfl
  |some z=>obtain⟨a,b,c⟩:=z;simp
 have Pt:∀C l us,fg ns ts C l 1 0->us.length=e.kids.length->(∀u∈us,sc C.length u=true/\eW u)->R=some (C,l,us)->∃y,NP C l us y:=fun C l us g1 g2 g3 g4=>by
  obtain⟨rn,q1,_⟩:=Gc C l us g4;obtain⟨D,u,q,g5,g6⟩:=Am l k e C us rn g1.ok g1.kd (by have:=g1.len;omega) (fun v hv=>(g3 v hv).1) (fun v hv=>(g3 v hv).2) (BJ us g2) q1;exact⟨(D,u,q),g5,rn,q1,g6⟩
 have hw:=An k ns ts e e.kids rfl KJ h1 h5 dY Hc X N B ls hX R (fun C l us g1 g2 g3 g4=>by
  have h:=Pt C l us g1 g2 g3 g4;show ah _ _ _ _ (.bu [ew (if h:∃y,NP C l us y then(h.choose.1,l,h.choose.2.1,h.choose.2.2)else([],[],.v 0,false)).1 (if h:∃y,NP C l us y then(h.choose.1,l,h.choose.2.1,h.choose.2.2)else([],[],.v 0,false)).2.1,fy (if h:∃y,NP C l us y then(h.choose.1,l,h.choose.2.1,h.choose.2.2)else([],[],.v 0,false)).2.2.1,.b (if h:∃y,NP C l us y then(h.choose.1,l,h.choose.2.1,h.choose.2.2)else([],[],.v 0,false)).2.2.2]) [] [];rw[dif_pos h];exact h.choose_spec.1) ⟨Nat.zero_le _,rfl,by simpa using hc,fun u hu=>(by cases hu),by simp,by simpa using gl⟩
 refine⟨_,hw,r,hr,?_⟩;refine yT (len:=e.kids.length) dY (fun C l us g1 g2 g3 g4=>?_) Jc e.kids B ls [] hc (by simp) (fun u hu=>(by cases hu)) Hc hX gl;have h:=Pt C l us g1 g2 g3 g4;obtain⟨rn,q1,q2⟩:=Gc C l us g4;obtain⟨_,rn',q3,q4⟩:=h.choose_spec;rw[q1]at q3;cases q3
 show ur (if h:∃y,NP C l us y then(h.choose.1,l,h.choose.2.1,h.choose.2.2)else([],[],.v 0,false)) r;rw[dif_pos h,q2];cases rn with
 |none=>exact q4
 |some z=>exact⟨q4.1,rfl,q4.2.1,q4.2.2⟩
theorem rJ (k:Nat) {e:an} (he:Ba e):∀(ns:List UInt8) (ts B ls:List IT) (n m:Nat),jo ts->ns.length+aK e<=1000000->fg ns ts B ls (aK e+n) ((aL e).length+m)->(∃r,inf k e B ls ns ts=some r)->∃x,xi k ns ts e B ls x:=by
 induction he with
 |var c=>
  intro ns ts B ls n m dY hn hc ⟨r,hr⟩;have h:=CA ns ts c B ls hc.ctx.len (by omega);rw[iQ]at hr;by_cases h0:0<=cQ ns c
  ·obtain⟨t,ht,hA⟩:=h.1 h0;rw[if_pos h0,ht]at hr;simp at hr;exact⟨_,hA,r,by rw[iQ,if_pos h0,ht];simpa using hr,by subst hr;exact⟨rfl,rfl,rfl,rfl⟩⟩
  ·rw[if_neg h0]at hr;simp at hr;exact⟨_,h.2 h0,r,by rw[iQ,if_neg h0];simpa using hr,by subst hr;rfl⟩
 |num z=>
  intro ns ts B ls n m dY hn hc ⟨r,hr⟩;exact gX k ns ts _ (by simp) (by simp) (by simp) dY (by simp) (fun us h=>.inl ⟨by simp,by simpa using h⟩) (by simp) B ls ⟨hc.ok,hc.kd,hc.Cy,hc.ctx,by have:=hc.len;simp[a7,aK]at this⊢;omega,by have:=hc.Cz;simp[aB];omega⟩ r hr
 |pz=>
  intro ns ts B ls n m dY hn hc ⟨r,hr⟩;exact gX k ns ts _ (by simp) (by simp) (by simp) dY (by simp) (fun us h=>.inl ⟨by simp,by simpa using h⟩) (by simp) B ls ⟨hc.ok,hc.kd,hc.Cy,hc.ctx,by have:=hc.len;simp[a7,aK]at this⊢;omega,by have:=hc.Cz;simp[aB];omega⟩ r hr
 |pA=>
  intro ns ts B ls n m dY hn hc ⟨r,hr⟩;exact gX k ns ts _ (by simp) (by simp) (by simp) dY (by simp) (fun us h=>.inl ⟨by simp,by simpa using h⟩) (by simp) B ls ⟨hc.ok,hc.kd,hc.Cy,hc.ctx,by have:=hc.len;simp[a7,aK]at this⊢;omega,by have:=hc.Cz;simp[aB];omega⟩ r hr
 | @lam c t b hb ih=>
  intro ns ts B ls n m dY hn hc ⟨r,hr⟩;rw[jN]at hr;simp only[XH]at hr;obtain⟨rb,Jd,hr⟩:=hr;have CQ:aK (nJ [c] t b)=aK b+1:=by simp[aK,a7];omega
  rw[ug,CQ]at hc;have hl:=hc.len;have uO:=hc.Cz;simp only[List.length_cons]at uO;have n1:=qM B ls (by omega);have Iv:∀n:Nat,jo [IT.v n]:=fun n u hu=>by simp at hu;subst hu;trivial
  obtain⟨x,hA,rb',q1,q2⟩:=ih (ns++[c]) (ts++[.v B.length]) (B++[.v B.length]) (ls++[.v B.length]) n m (dY.app (Iv _)) (by simp;omega) ⟨⟨(mG.one B).sc hc.ok.sc,(mG.one B).vW hc.ok.sc hc.ok.vW⟩,hc.kd.app (Iv _),hc.Cy.app (Iv _),⟨by simp[hc.ctx.len],fun u hu=>by
   rcases XT.1 hu with hu|hu
   ·exact ea (by simp) (hc.ctx.ES u hu)
   ·simp at hu;subst hu;simp[sc]⟩,by simp;omega,by simp;omega⟩ ⟨rb,Jd⟩
  rw[Jd]at q1;cases q1
  refine⟨_,CB ns ts c t b B (B++[.v B.length]) ls B.length (by omega) (by rw[hc.ctx.len];omega) (by omega) n1 x hA,r,by rw[jN,Jd];simpa using hr,?_⟩;subst hr;cases rb with
  |none=>exact q2
  |some z=>
   obtain⟨z1,z2,z3⟩:=z;simp only[ur]at q2;exact⟨q2.1,q2.2.1,by simp[q2.2.2.1],q2.2.2.2⟩
 | @n2 kd a b hk ha hb iha ihb=>
  intro ns ts B ls n m dY hn hc ⟨r,hr⟩;have CQ:aK (xt kd a b)=aK a+aK b+1:=by simp[aK,a7];omega
  refine gX k ns ts _ (by simp) (by simp;omega) (by simp;omega) dY (fun u hu=>by simp at hu;rcases hu with rfl|rfl<;>assumption) (fun us h=>.inr (.inr (.inl ⟨by simpa using hk,by simpa using h⟩))) (fun u hu C l n' m' g1 g2=>?_) B ls ⟨hc.ok,hc.kd,hc.Cy,hc.ctx,by have:=hc.len;simp[a7,aK]at this⊢;omega,by have:=hc.Cz;rw[vY hk]at this;simp[aB]at this⊢;omega⟩ r hr;simp at hu;rcases hu with rfl|rfl
  ·exact iha ns ts C l n' m' dY (by omega) g1 g2
  ·exact ihb ns ts C l n' m' dY (by omega) g1 g2
 | @ite a b c ha hb xw iha ihb ihc=>
  intro ns ts B ls n m dY hn hc ⟨r,hr⟩;have CQ:aK (BP a b c)=aK a+aK b+aK c+1:=by simp[aK,a7];omega
  refine gX k ns ts _ (by simp) (by simp) (by simp) dY (fun u hu=>by simp at hu;rcases hu with rfl|rfl|rfl<;>assumption) (fun us h=>.inr (.inr (.inr ⟨by simp,by simpa using h⟩))) (fun u hu C l n' m' g1 g2=>?_) B ls ⟨hc.ok,hc.kd,hc.Cy,hc.ctx,by have:=hc.len;simp[a7,aK]at this⊢;omega,by have:=hc.Cz;rw[vZ]at this;simp[aB]at this⊢;omega⟩ r hr;simp at hu;rcases hu with rfl|rfl|rfl
  ·exact iha ns ts C l n' m' dY (by omega) g1 g2
  ·exact ihb ns ts C l n' m' dY (by omega) g1 g2
  ·exact ihc ns ts C l n' m' dY (by omega) g1 g2
 | @n1 kd a hk ha ih=>
  intro ns ts B ls n m dY hn hc ⟨r,hr⟩;have CQ:aK (AO kd a)=aK a+1:=by simp[aK,a7];omega
  refine gX k ns ts _ (by simp) (by simp;omega) (by simp;omega) dY (fun u hu=>by simp at hu;subst hu;assumption) (fun us h=>.inr (.inl ⟨by simpa using hk,by simpa using h⟩)) (fun u hu C l n' m' g1 g2=>?_) B ls ⟨hc.ok,hc.kd,hc.Cy,hc.ctx,by have:=hc.len;simp[a7,aK]at this⊢;omega,by have:=hc.Cz;rw[vX hk]at this;simp[aB]at this⊢;omega⟩ r hr;simp at hu;subst hu;exact ih ns ts C l n' m' dY (by omega) g1 g2
end Go.Proofs.YtloolmchekcmeaaGreat
namespace Go.Proofs.YtloolmchekcmeaaGreat
attribute [-simp] Go.Av.bO Go.Av.dO Go.Av.ed Go.Av.ec Go.Av.cl Go.Av.cj
open Go Go.Av
attribute [local irreducible] T ah TX EX LX bo cE bF cD fZ aH.kind aH.kids an.kind an.name an.num an.ty an.fr an.label an.kids
attribute [local simp] aX ax
set_option maxHeartbeats 16000000
set_option maxRecDepth 8000
attribute [local simp] XK
theorem Ao (B ls:List IT) (hS:uD B) (nL:jo B) (hB:B.length<=1048576):∀(k:Nat) (t:IT),ex B k t=true->sc B.length t=true->eW t->∀most:Nat,most<=1000->ah XG 44 [ew B ls,fy t,.i most] [] (.i (min (gB B k t) (most+1):Nat)) [] []:=by
 intro k;induction k using XW with
 |_ k ih=>
  intro t hx ht hk most hm;have h1:=js B ls hS nL hB k t hx ht hk;have Hb:=fI hx;have Ak:=nZ hS (k:=k) ht;have kp:=mI nL (k:=k) hk;have gA:=gE hx;have sA:=fun c x y=>lu (c:=c) (x:=x) (y:=y) hx
  rw[<-w8 hx];generalize hd B k t=u at*;have leaf:u.kids=[]->gB B k u=1->ah XG 44 [ew B ls,fy t,.i most] [] (.i (min (gB B k u) (most+1):Nat)) [] []:=by
   intro h0 hz;have fD:min (gB B k u) (most+1)=1:=by omega
   rw[fD];replace h1:ah XG 102 [ew B ls,fy t] [] (.agg [.d (.i u.kind),.d (.i u.name),.d (.sl [])]) [] []:=by rw[show([]:List (List DV))=u.kids.map lP by rw[h0];rfl];exact h1
   clear ih sA Hb;refine ah.ob Tryz.func44 Tryz.ntmps44 rfl ?_;repeat' first|(refine ab (hK _ ?_);clear hK K)|((first|refine ae ?_|refine aa rfl (h1) ?_);simp;(try simp(disch:=omega)only[wrap64]);(try(refine gen2 ?_ ?_<;>intro hq<;>try simp at hq)))|refine T.r0 fun K hK=>?_|refine T.seq ?_|refine T.block ?_
   refine T.dq (α:=Nat) [2,3,4,6] (fun x=>[(7,.i 1),(8,.i 0)]) (fun x=>[]) (fun x=>[]) (fun x A=>A) (fun x=>1) (fun x=>True) (by simp;rfl) (fun x hx=>?_) 0 trivial (by simp) (by simp) (by simp);simp only[fP,XL,XM,XO,XN,XP];repeat' first|(refine ab (hK _ ?_);clear hK K)|(refine ae ?_;simp;(try simp(disch:=omega)only[wrap64]);(try(refine gen2 ?_ ?_<;>intro hq<;>try simp at hq)))|(refine T.ret (aG.data (Or.inr rfl) ?_ ?_)<;>simp[Tryz.results44]<;>omega)|refine T.r0 fun K hK=>?_|refine T.cf rfl ?_|refine T.seq ?_|refine T.exit ?_
  cases hu:u with
  |v m=>
   subst hu;exact leaf rfl (by
    have hb:=Hb m rfl;cases k with
    |zero=>rfl
    |succ k=>simp[gB,hb])
  |b c=>
   subst hu;exact leaf rfl (by cases k<;>rfl)
  |p c x y=>
   subst hu;obtain⟨j,hj,ET,EU⟩:=sA c x y rfl;have g1:=fun m hm=>ih j hj x ET (nw Ak x (by simp)) (kC kp x (by simp)) m hm
   have g2:=fun m hm=>ih j hj y EU (nw Ak y (by simp)) (kC kp y (by simp)) m hm
   obtain⟨k',rfl⟩:∃k',k=k'+1:=⟨k-1,by omega⟩;have hz:gB B (k'+1) (.p c x y)=1+gB B j x+gB B j y:=by
    have Rk:ex B k' x=true/\ex B k' y=true:=by simpa[ex]using gA
    rw[gB,dm ET (show j<=k' by omega),dm EU (show j<=k' by omega)]
   rw[hz];have p1:=pO (B:=B) (k:=j) (t:=x);have p2:=pO (B:=B) (k:=j) (t:=y);generalize gB B j x=a at*;generalize gB B j y=b at*;clear ih sA Hb;refine ah.ob Tryz.func44 Tryz.ntmps44 rfl ?_;repeat' first|(refine ab (hK _ ?_);clear hK K)|((first|refine ae ?_|refine aa rfl (h1) ?_);simp;(try simp(disch:=omega)only[wrap64]);(try(refine gen2 ?_ ?_<;>intro hq<;>try simp at hq)))|refine T.r0 fun K hK=>?_|refine T.seq ?_|refine T.block ?_
   refine T.dq (α:=Nat×Nat) [2,3,4,6] (fun x=>[(7,.i x.2),(8,.i x.1)]) (fun x=>[]) (fun x=>[]) (fun x A=>A) (fun x=>3-x.1) (fun x=>(x.1=0/\x.2=1)\/(x.1=1/\x.2=1+min a most/\1<=most)\/(x.1=2/\x.2=min (1+a+b) (most+1))) (by simp;rfl) (fun z vE=>?_) (0,1) (.inl ⟨rfl,rfl⟩) (by simp) (by simp) (by simp);obtain⟨p,n⟩:=z;dsimp only at vE⊢;simp only[fP,XL,XM,XO,XN,XP];rcases vE with⟨rfl,rfl⟩|⟨rfl,hn,Gl⟩|⟨rfl,rfl⟩
   ·by_cases Rl:1<=most
    ·have e1:(1:Int)<=most:=by omega
     have k1:=g1 (most-1) (by omega);rw[show most-1+1=most by omega,show((most-1:Nat):Int)=(most:Int)-1 by omega]at k1;repeat' first|((first|refine ab (hK _ ?_)|refine aq (hK _ ?_));clear hK K)|((first|refine ae ?_|refine aA ?_|(refine aa ?_ (k1) ?_;(focus(solve|simp[e1,ak x]))));simp[e1,ak x];(try simp(disch:=omega)only[wrap64]);(try(refine gen2 ?_ ?_<;>intro hq<;>try simp[e1,ak x]at hq)))|refine T.mW (id:=6) mixed (fun _=>false) [] (by kernel_rfl) fun K hK=>?_|refine T.r0 fun K hK=>?_|refine T.r1 fun K hK=>?_|refine T.ct rfl ?_|refine T.seq ?_|refine T.block ?_|refine T.skip ?_
     refine⟨(1,1+min a most),by dsimp only;omega,Or.inr (Or.inl ⟨rfl,rfl,Rl⟩),?_,?_,?_⟩<;>simp(disch:=omega) [wrap64,ak x]
    ·have e1:¬(1:Int)<=most:=by omega
     have fD:min (1+a+b) (most+1)=1:=by omega
     rw[fD];repeat' first|(refine ab (hK _ ?_);clear hK K)|(refine ae ?_;simp[e1];(try simp(disch:=omega)only[wrap64]);(try(refine gen2 ?_ ?_<;>intro hq<;>try simp[e1]at hq)))|(refine T.ret (aG.data (Or.inr rfl) ?_ ?_)<;>simp[Tryz.results44]<;>omega)|refine T.r0 fun K hK=>?_|refine T.cf rfl ?_|refine T.seq ?_|refine T.exit ?_
   ·by_cases LA:n<=most
    ·have e1:(n:Int)<=most:=by omega
     have k2:=g2 (most-n) (by omega);rw[show((most-n:Nat):Int)=(most:Int)-n by omega]at k2;have e2:n+min b (most-n+1)=min (1+a+b) (most+1):=by omega
     repeat' first|((first|refine ab (hK _ ?_)|refine aq (hK _ ?_));clear hK K)|((first|refine ae ?_|refine aA ?_|(refine aa ?_ (k2) ?_;(focus(solve|simp[e1,ak y]))));simp[e1,ak y];(try simp(disch:=omega)only[wrap64]);(try(refine gen2 ?_ ?_<;>intro hq<;>try simp[e1,ak y]at hq)))|refine T.mW (id:=6) mixed (fun _=>false) [] (by kernel_rfl) fun K hK=>?_|refine T.r0 fun K hK=>?_|refine T.r1 fun K hK=>?_|refine T.ct rfl ?_|refine T.seq ?_|refine T.block ?_|refine T.skip ?_
     refine⟨(2,n+min b (most-n+1)),by dsimp only;omega,Or.inr (Or.inr ⟨rfl,e2⟩),?_,?_,?_⟩<;>simp(disch:=omega) [wrap64,ak y]
    ·have e1:¬(n:Int)<=most:=by omega
     have fD:min (1+a+b) (most+1)=n:=by omega
     rw[fD];repeat' first|(refine ab (hK _ ?_);clear hK K)|(refine ae ?_;simp[e1];(try simp(disch:=omega)only[wrap64]);(try(refine gen2 ?_ ?_<;>intro hq<;>try simp[e1]at hq)))|(refine T.ret (aG.data (Or.inr rfl) ?_ ?_)<;>simp[Tryz.results44]<;>omega)|refine T.r0 fun K hK=>?_|refine T.cf rfl ?_|refine T.seq ?_|refine T.exit ?_
   ·repeat' first|(refine ab (hK _ ?_);clear hK K)|(refine ae ?_;simp;(try simp(disch:=omega)only[wrap64]);(try(refine gen2 ?_ ?_<;>intro hq<;>try simp at hq)))|(refine T.ret (aG.data (Or.inr rfl) ?_ ?_)<;>simp[Tryz.results44]<;>omega)|refine T.r0 fun K hK=>?_|refine T.cf rfl ?_|refine T.seq ?_|refine T.exit ?_
def N7 (f:IT->Option aH):List IT->Option (List aH)
 |[]=>some []
 |t::r=>match f t with
  |none=>none
  |some T=>(N7 f r).map (T::·)
@[simp] theorem LW:td XG 21=some {ag:=false,sz:=1,jy:=4,zero:=some [.d (.int .i32 0)],el:=none,ar:=none,fl:=[],ik:=some .i32,cG:=false,kJ:=false}:=di (by kernel_rfl)
def Ap (l:List Nat):List (List DV):=l.map fun(n:Nat)=>[DV.i n]
theorem jO (l:List Nat):(Ap l).length=l.length:=by simp[Ap]
theorem Ev (B ls:List IT) (t:IT) (m:Nat) (seen:List Nat) (hl:seen.length<=30) (h1:ah XG 102 [ew B ls,fy t] [] (fy (.v m)) [] []):
  ah XG 45 [ew B ls,fy t,.l (Ap seen)] [] (.bu [.s [yJ (jq m seen)],.l (Ap (if m∈seen then seen else seen++[m]))]) [] []:=by
 obtain⟨I,hI⟩:∃I,jq m seen=I:=⟨_,rfl⟩;rw[hI];refine ah.ob Tryz.func45 Tryz.ntmps45 rfl ?_;repeat' first|(refine ab (hK _ ?_);clear hK K)|((first|refine ae ?_|refine aa rfl (h1) ?_);simp;(try(refine gen2 ?_ ?_<;>intro hq<;>try simp at hq)))|refine T.r0 fun K hK=>?_|refine T.ct rfl ?_|refine T.seq ?_|refine T.block ?_
 refine T.dq (α:=Nat) [2,3,4] (fun p=>[(6,.s []),(7,.c .nil),(8,.i p)]) (fun _=>[]) (fun _=>[]) (fun _ A=>A) (fun p=>seen.length+1-p) (fun p=>p<=seen.length/\p+jq m (seen.drop p)=I/\(m∈seen↔m∈seen.drop p)) (by simp;rfl) (fun p hx=>?_) 0 ⟨by simp,by simpa using hI,by simp⟩ (by simp) (by simp) (by simp);obtain⟨hp,he,hm⟩:=hx;dsimp only;simp only[fP,XL,XM,XO,XN];have F0:IntKind.i64.wrap (97+(p:Int))=97+p:=wrap64 (by omega) (by omega);have F1:IntKind.i32.wrap (97+(p:Int))=97+p:=by simp[IntKind.wrap,IntKind.bits,IntKind.signed];omega
 have lR:(0:Int)<=97+p:=by omega
 have LY:(97:Int)+p<128:=by omega
 have y6:((97:Int)+p).toNat=97+p:=by omega
 by_cases aC:p<seen.length
 ·obtain⟨w,ht⟩:=bV aC;have eN:w∈seen:=XR ht;have bn:seen[p]=w:=by rw[XQ aC]at ht;exact Option.some.inj ht
  have iA:seen.drop p=w::seen.drop (p+1):=by rw[XS aC,bn]
  rw[iA]at he hm;have LZ:p<(Ap seen).length:=by rw[jO];exact aC
  have sK:(Ap seen)[p]=[.i w]:=by simp[Ap,bn]
  by_cases e:w=m
  ·subst e;rw[jq,if_pos rfl]at he;have sf:I=p:=by omega
   subst sf;have cr:w∈seen:=hm.2 (by simp);rw[if_pos cr];repeat' first|((first|refine ab (hK _ ?_)|refine aq (hK _ ?_));clear hK K)|((first|refine ae ?_|refine aA ?_);simp[LZ,sK,jO,aC,F0,F1,lR,LY,y6];(try simp(disch:=omega)only[wrap64]);(try(refine gen2 ?_ ?_<;>intro hq<;>try simp[LZ,sK,jO,aC,F0,F1,lR,LY,y6]at hq)))|(refine T.ret (aG.bu (Or.inr rfl) ?_)<;>simp[aI,Tryz.results45,yJ]<;>omega)|refine T.rd (id:=6) mixed (fun _=>false) [] (by kernel_rfl) fun K hK=>?_|refine T.r0 fun K hK=>?_|refine T.ct rfl ?_|refine T.seq ?_|refine T.block ?_|refine T.skip ?_
  ·rw[jq,if_neg e]at he;have e':¬(w:Int)=m:=by omega
   have KQ:m∈seen↔m∈seen.drop (p+1):=by
    rw[hm];simp only[XV];exact⟨fun h=>h.resolve_left (fun q=>e q.symm),.inr⟩
   repeat' first|((first|refine ab (hK _ ?_)|refine aq (hK _ ?_));clear hK K)|((first|refine ae ?_|refine aA ?_);simp[LZ,sK,jO,aC,e'];(try simp(disch:=omega)only[wrap64]);(try(refine gen2 ?_ ?_<;>intro hq<;>try simp[LZ,sK,jO,aC,e']at hq)))|(refine⟨p+1,by dsimp only;omega,⟨by omega,by omega,KQ⟩,?_,?_,?_⟩<;>simp(disch:=omega) [wrap64])|refine T.rd (id:=6) mixed (fun _=>false) [] (by kernel_rfl) fun K hK=>?_|refine T.r0 fun K hK=>?_|refine T.r1 fun K hK=>?_|refine T.ct rfl ?_|refine T.cf rfl ?_|refine T.seq ?_|refine T.block ?_|refine T.skip ?_
 ·have fj:p=seen.length:=by omega
  subst fj;have fx:m∉seen:=fun h=>by simpa using hm.1 h
  have sf:I=seen.length:=by simp[jq]at he;omega
  subst sf;rw[if_neg fx];have C6:Ap (seen++[m])=Ap seen++[[.i m]]:=by simp[Ap]
  have cV:∀r∈Ap seen,r.length=1:=fun r hr=>by simp[Ap]at hr;obtain⟨a,_,rfl⟩:=hr;rfl
  rw[C6];repeat' first|((first|refine ab (hK _ ?_)|refine aJ (hK _ ?_));clear hK K)|((first|refine ae ?_|refine aQ ?_);simp[jO,F0,F1,lR,LY,y6];(try simp(disch:=omega)only[wrap64]);(try(refine gen2 ?_ ?_<;>intro hq<;>try simp[jO,F0,F1,lR,LY,y6]at hq)))|(refine⟨cV,by omega,by omega,?_⟩)|(refine⟨by omega,by omega,?_⟩)|(refine T.ret (aG.bu (Or.inr rfl) ?_)<;>simp[aI,Tryz.results45,yJ,jO]<;>omega)|refine T.nI (id:=8) mixed (fun i=>i==5) [5,7,11] [1,3,4,9,10] 12 [] (by kernel_rfl) fun K hK=>?_|refine T.rs (id:=4) (fun _=>false) fun K hK=>?_|refine T.cf rfl ?_|refine T.seq ?_|refine T.exit ?_
theorem Aq (c:Int) (hc:c=2\/c=3):ah XG 103 [ep (.mk c [])] [] (.s [gv c]) [] []:=by
 rcases hc with rfl|rfl
 ·refine ah.ob Tryz.func103 Tryz.ntmps103 rfl ?_;repeat' first|(refine ab (hK _ ?_);clear hK K)|(refine ae ?_;simp;(try(refine gen2 ?_ ?_<;>intro hq<;>try simp at hq)))|(refine T.ret (aG.data (Or.inr rfl) ?_ ?_)<;>simp[Tryz.results103,gv]<;>omega)|refine T.r0 fun K hK=>?_|refine T.ct rfl ?_|refine T.cf rfl ?_|refine T.seq ?_|refine T.block ?_
 ·refine ah.ob Tryz.func103 Tryz.ntmps103 rfl ?_;repeat' first|(refine ab (hK _ ?_);clear hK K)|(refine ae ?_;simp;(try(refine gen2 ?_ ?_<;>intro hq<;>try simp at hq)))|(refine T.ret (aG.data (Or.inr rfl) ?_ ?_)<;>simp[Tryz.results103,gv]<;>omega)|refine T.r0 fun K hK=>?_|refine T.ct rfl ?_|refine T.cf rfl ?_|refine T.seq ?_|refine T.block ?_
theorem CC (B ls:List IT) (t:IT) (c:Int) (hc:c=2\/c=3) (rows:List (List DV)) (h1:ah XG 102 [ew B ls,fy t] [] (fy (.b c)) [] []):
  ah XG 45 [ew B ls,fy t,.l rows] [] (.bu [.s [gv c],.l rows]) [] []:=by
 have h2:=Aq c hc;have h0:¬c=0:=by omega
 refine ah.ob Tryz.func45 Tryz.ntmps45 rfl ?_;repeat' first|(refine ab (hK _ ?_);clear hK K)|((first|refine ae ?_|refine aa rfl (h1) ?_|(refine aa ?_ (h2) ?_;(focus(solve|simp[h0]))));simp[h0];(try(refine gen2 ?_ ?_<;>intro hq<;>try simp[h0]at hq)))|(refine T.ret (aG.bu (Or.inr rfl) ?_)<;>simp[aI,Tryz.results45]<;>omega)|refine T.r0 fun K hK=>?_|refine T.ct rfl ?_|refine T.cf rfl ?_|refine T.seq ?_|refine T.skip ?_
theorem CD (B ls:List IT) (t:IT) (c:Int) (hc:c=4\/c=5) (x y:IT) (r0 r1 r2:List (List DV)) (a b:List UInt8) (ha:a.length<=100000) (hb:b.length<=100000) (h1:ah XG 102 [ew B ls,fy t] [] (fy (.p c x y)) [] [])
  (h2:ah XG 45 [ew B ls,fy x,.l r0] [] (.bu [.s a,.l r1]) [] []) (h3:ah XG 45 [ew B ls,fy y,.l r1] [] (.bu [.s b,.l r2]) [] []):
  ah XG 45 [ew B ls,fy t,.l r0] [] (.bu [.s (40::(a++gv c::(b++[41]))),.l r2]) [] []:=by
 rcases hc with rfl|rfl
 ·refine ah.ob Tryz.func45 Tryz.ntmps45 rfl ?_;repeat' first|((first|refine ab (hK _ ?_)|refine aq (hK _ ?_));clear hK K)|((first|refine ae ?_|refine aA ?_|refine aa rfl (h1) ?_|(refine aa ?_ (h2) ?_;(focus(solve|simp[ak x,ak y])))|(refine aa ?_ (h3) ?_;(focus(solve|simp[ak x,ak y]))));simp[ak x,ak y];(try simp(disch:=omega)only[wrap64,fE]);(try(refine gen2 ?_ ?_<;>intro hq<;>try simp[ak x,ak y]at hq)))|(refine T.ret (aG.bu (Or.inr rfl) ?_)<;>simp[aI,Tryz.results45,gv]<;>omega)|refine T.rd (id:=11) mixed (fun _=>false) [] (by kernel_rfl) fun K hK=>?_|refine T.rd (id:=12) mixed (fun _=>false) [] (by kernel_rfl) fun K hK=>?_|refine T.r0 fun K hK=>?_|refine T.cf rfl ?_|refine T.seq ?_|refine T.skip ?_
 ·refine ah.ob Tryz.func45 Tryz.ntmps45 rfl ?_;repeat' first|((first|refine ab (hK _ ?_)|refine aq (hK _ ?_));clear hK K)|((first|refine ae ?_|refine aA ?_|refine aa rfl (h1) ?_|(refine aa ?_ (h2) ?_;(focus(solve|simp[ak x,ak y])))|(refine aa ?_ (h3) ?_;(focus(solve|simp[ak x,ak y]))));simp[ak x,ak y];(try simp(disch:=omega)only[wrap64,fE]);(try(refine gen2 ?_ ?_<;>intro hq<;>try simp[ak x,ak y]at hq)))|(refine T.ret (aG.bu (Or.inr rfl) ?_)<;>simp[aI,Tryz.results45,gv]<;>omega)|refine T.rd (id:=11) mixed (fun _=>false) [] (by kernel_rfl) fun K hK=>?_|refine T.rd (id:=12) mixed (fun _=>false) [] (by kernel_rfl) fun K hK=>?_|refine T.r0 fun K hK=>?_|refine T.r1 fun K hK=>?_|refine T.ct rfl ?_|refine T.cf rfl ?_|refine T.seq ?_|refine T.skip ?_
theorem Ar (B ls:List IT) (hS:uD B) (nL:jo B) (hB:B.length<=1048576):∀(k:Nat) (t:IT),ex B k t=true->sc B.length t=true->eW t->∀seen:List Nat,2*seen.length+gB B k t<=60->ah XG 45 [ew B ls,fy t,.l (Ap seen)] [] (.bu [.s (kL B k t seen).1,.l (Ap (kL B k t seen).2)]) [] []:=by
 intro k;induction k using XW with
 |_ k ih=>
  intro t hx ht hk seen hz;have h1:=js B ls hS nL hB k t hx ht hk;have Hb:=fI hx;have Ak:=nZ hS (k:=k) ht;have kp:=mI nL (k:=k) hk;have gA:=gE hx;have sA:=fun c x y=>lu (c:=c) (x:=x) (y:=y) hx
  rw[<-w8 hx]at hz;rw[<-Ai hx];generalize hd B k t=u at*;obtain⟨k',rfl⟩:∃k',k=k'+1:=⟨k-1,by cases k<;>simp[ex]at hx⊢⟩;cases hu:u with
  |v m=>
   subst hu;have hb:=Hb m rfl;rw[show kL B (k'+1) (.v m) seen=([yJ (jq m seen)],if m∈seen then seen else seen++[m]) by simp[kL,hb]];exact Ev B ls t m seen (by omega) h1
  |b c=>
   subst hu;exact CC B ls t c kp _ h1
  |p c x y=>
   subst hu;obtain⟨j,hj,ET,EU⟩:=sA c x y rfl;have Rk:ex B k' x=true/\ex B k' y=true:=by simpa[ex]using gA
   have e1:=fun s=>dW (seen:=s) ET (show j<=k' by omega)
   have e2:=fun s=>dW (seen:=s) EU (show j<=k' by omega)
   have z1:=dm ET (show j<=k' by omega);have z2:=dm EU (show j<=k' by omega);simp only[gB,z1,z2]at hz;simp only[kL,e1,e2];obtain⟨l1,l2,l3⟩:=pP (seen:=seen) ET;have p2:=pO (B:=B) (k:=j) (t:=y);have g1:=ih j hj x ET (nw Ak x (by simp)) (kC kp x (by simp)) seen (by omega);have g2:=ih j hj y EU (nw Ak y (by simp)) (kC kp y (by simp)) (kL B j x seen).2 (by omega);obtain⟨l4,l5,l6⟩:=pP (seen:=(kL B j x seen).2) EU;exact CD B ls t c (by simp only[eW]at kp;exact kp.1) x y _ _ _ _ _ (by omega) (by omega) h1 g1 g2
theorem jt {e:an} (hv:aR e=true):Ba (mapM aM e)/\gN 14 12 (mapM aM e)/\aK (mapM aM e)<=30/\(aL (mapM aM e)).length<=30:=by
 obtain⟨h1,h2⟩:=db.1 hv;obtain⟨h3,_,h4⟩:=zH h1 (.inr rfl);have h5:=h3.types.2;exact⟨Ba.of h1,h3,by omega,by omega⟩
theorem qN (e:an) (h1:aK e<=30) (h2:(aL e).length<=30):fg [] [] [] [] (aK e+0) ((aL e).length+0):=
 ⟨w7,fun t h=>(by cases h),fun t h=>(by cases h),ui,by simp;omega,by simp;omega⟩
theorem xj {e:an} (hv:aR e=true):(∃k B ls t,Whole (mapM aM e) k B ls t/\oM [] [] (mapM aM e) [] [] (B,ls,t,true))\/((∃k,inf k (mapM aM e) [] [] [] []=some none)/\∃B ls t,oM [] [] (mapM aM e) [] [] (B,ls,t,false)):=by
 obtain⟨hb,_,hn,ht⟩:=jt hv;rcases uk hb with⟨k,B,ls,t,hw⟩|⟨k,hk⟩
 ·obtain⟨x,hA,r,hr,ha⟩:=rJ k hb [] [] [] [] 0 0 (fun t h=>(by cases h)) (by simp;omega) (qN _ hn ht) ⟨_,hw.inf⟩;rw[hw.inf]at hr;cases hr
  obtain⟨x1,x2,x3,x4⟩:=x;simp only[ur]at ha;obtain⟨rfl,rfl,rfl,rfl⟩:=ha;exact .inl ⟨k,_,_,_,hw,hA⟩
 ·obtain⟨x,hA,r,hr,ha⟩:=rJ k hb [] [] [] [] 0 0 (fun t h=>(by cases h)) (by simp;omega) (qN _ hn ht) ⟨_,hk⟩;rw[hk]at hr;cases hr
  obtain⟨x1,x2,x3,x4⟩:=x;simp only[ur]at ha;subst ha;exact .inr ⟨⟨k,hk⟩,_,_,_,hA⟩
theorem r7 (e:an) (hn:fO e<=1073741824):ah XG 12 [cw e] [] (.bu [.s ((oL e).getD []),.b (oL e).isSome]) [] []:=by
 have h1:=ia e (by omega);rw[oL];cases hv:aR e with
 |false=>
  rw[hv]at h1;simp only[XY,if_false,XJ,XI];refine ah.ob Tryz.func12 Tryz.ntmps12 rfl ?_;repeat' first|(refine ab (hK _ ?_);clear hK K)|((first|refine ae ?_|refine aa rfl (h1) ?_);simp;(try(refine gen2 ?_ ?_<;>intro hq<;>try simp at hq)))|(refine T.ret (aG.bu (Or.inr rfl) ?_)<;>simp[aI,Tryz.results12]<;>omega)|refine T.r0 fun K hK=>?_|refine T.ct rfl ?_|refine T.seq ?_
 |true=>
  rw[hv]at h1;simp only[if_true];have h2:=Ck 14 e 12 (db.1 hv).1 hn;rcases xj hv with⟨k,B,ls,t,hw,hA⟩|⟨⟨k,hk⟩,B,ls,t,hA⟩
  ·obtain⟨hi,L0,Pu,gd,uO,y5,Pv⟩:=hw.ok;obtain⟨hb,_,KX,_⟩:=jt hv;obtain⟨K,hK⟩:=hw.fuel;obtain⟨j,hj⟩:=lx hK hi.CP;have h3:=Ao B ls hi.ok.sc L0 (by omega) j t hj hi.CP gd 30 (by omega);rw[oM]at hA;dsimp only at hA;by_cases hz:gB B j t<=30
   ·have h4:=Ar B ls hi.ok.sc L0 (by omega) j t hj hi.CP gd [] (by simp;omega);rw[v8 hw hj hz];simp only[Option.getD_some,Option.isSome_some];have hm:min (gB B j t) (30+1)=gB B j t:=by omega
    rw[hm]at h3;have hc:¬(30:Int)<gB B j t:=by omega
    simp only[Ap,List.map_nil]at h4;generalize kL B j t []=W at*;generalize gB B j t=Z at*;generalize mapM aM e=E at*;refine ah.ob Tryz.func12 Tryz.ntmps12 rfl ?_;repeat' first|(refine ab (hK _ ?_);clear hK K)|((first|refine ae ?_|refine aa rfl (h1) ?_|refine aa rfl (h2) ?_|(refine aa ?_ (hA) ?_;(focus(solve|simp[hc])))|refine aa rfl (h3) ?_|(refine aa ?_ (h4) ?_;(focus(solve|simp[hc]))));simp[hc];(try(refine gen2 ?_ ?_<;>intro hq<;>try simp[hc]at hq)))|(refine T.ret (aG.bu (Or.inr rfl) ?_)<;>simp[aI,Tryz.results12]<;>omega)|refine T.r0 fun K hK=>?_|refine T.cf rfl ?_|refine T.seq ?_|refine T.skip ?_
   ·rw[um hw hj hz];simp only[XJ,XI];have hm:min (gB B j t) (30+1)=31:=by omega
    rw[hm]at h3;generalize mapM aM e=E at*;refine ah.ob Tryz.func12 Tryz.ntmps12 rfl ?_;repeat' first|(refine ab (hK _ ?_);clear hK K)|((first|refine ae ?_|refine aa rfl (h1) ?_|refine aa rfl (h2) ?_|(refine aa ?_ (hA) ?_;(focus(solve|simp)))|refine aa rfl (h3) ?_);simp;(try(refine gen2 ?_ ?_<;>intro hq<;>try simp at hq)))|(refine T.ret (aG.bu (Or.inr rfl) ?_)<;>simp[aI,Tryz.results12]<;>omega)|refine T.r0 fun K hK=>?_|refine T.ct rfl ?_|refine T.cf rfl ?_|refine T.seq ?_|refine T.skip ?_
  ·rw[qL hk];simp only[XJ,XI];rw[oM]at hA;dsimp only at hA;generalize mapM aM e=E at*;refine ah.ob Tryz.func12 Tryz.ntmps12 rfl ?_;repeat' first|(refine ab (hK _ ?_);clear hK K)|((first|refine ae ?_|refine aa rfl (h1) ?_|refine aa rfl (h2) ?_|(refine aa ?_ (hA) ?_;(focus(solve|simp))));simp;(try(refine gen2 ?_ ?_<;>intro hq<;>try simp at hq)))|(refine T.ret (aG.bu (Or.inr rfl) ?_)<;>simp[aI,Tryz.results12]<;>omega)|refine T.r0 fun K hK=>?_|refine T.ct rfl ?_|refine T.cf rfl ?_|refine T.seq ?_|refine T.skip ?_
end Go.Proofs.YtloolmchekcmeaaGreat
