/- A part. -/
import Derived.Test.YtloolmchekcmeaaGreatXD27
set_option linter.unusedVariables false
set_option linter.unusedSimpArgs false
open Go.Proofs.Tryz renaming prog->adz
open Option renaming map_eq_some_iff->adA,bind->adB
open List renaming set_cons_zero->adC,set_cons_succ->adD,nil_append->adE,cons_append->adF,append_nil->adG,getElem?_eq_getElem->adH,mem_of_getElem?->adI,drop_eq_getElem_cons->adJ,mem_append->adK,length_append->adL
open Nat renaming le_of_lt->adM
open Bool renaming false_eq_true->adN,true_and->adO,false_and->adP,and_eq_true->adQ
namespace Go.Proofs.YtloolmchekcmeaaGreat
attribute [-simp] Go.Av.bP Go.Av.eu Go.Av.eN Go.Av.eG Go.Av.b8 Go.Av.bN
open Go Go.Av
attribute [local irreducible] T ah TX EX LX dA dB bL b5 eK aF.kind aF.kids ak.kind ak.name ak.num ak.ty ak.fr ak.label ak.kids
attribute [local simp] aN au
set_option maxHeartbeats 16000000
set_option maxRecDepth 8000
attribute [local simp] adB
@[simp] theorem vI:td adz 72=some {ag:=true,sz:=3,kI:=40,zero:=some [.d (.int .i64 0),.d (.int .i64 0),.nil],el:=none,ar:=none,fl:=[(0,1),(1,1),(2,1)],ik:=none,cy:=false,l6:=false}:=dq (by kernel_rfl)
@[simp] theorem OP:td adz 68=some {ag:=false,sz:=1,kI:=24,zero:=some [.nil],el:=some 72,ar:=none,fl:=[],ik:=none,cy:=false,l6:=false}:=dq (by kernel_rfl)
@[simp] theorem PI:td adz 70=some {ag:=true,sz:=2,kI:=48,zero:=some [.nil,.nil],el:=none,ar:=none,fl:=[(0,1),(1,1)],ik:=none,cy:=false,l6:=false}:=dq (by kernel_rfl)
theorem eo (k:Int):ah adz 135 [.i k] [] (jk (.b k)) [] []:=by
 refine ah.ob Tryz.func135 Tryz.ntmps135 rfl ?_;repeat' first|(refine ab (hK _ ?_);clear hK K)|(refine ae ?_;simp;(try(refine gen2 ?_ ?_<;>intro hq<;>try simp at hq)))|(refine T.ret (az.val (Or.inr rfl) ?_)<;>simp[aE,Tryz.results135,an]<;>omega)|refine T.r0 fun K hK=>?_
theorem qa (k:Int) (x y:IT):ah adz 100 [.i k,jk x,jk y] [] (jk (.p k x y)) [] []:=by
 refine ah.ob Tryz.func100 Tryz.ntmps100 rfl ?_;repeat' first|(refine ab (hK _ ?_);clear hK K)|(refine ae ?_;simp;(try(refine gen2 ?_ ?_<;>intro hq<;>try simp at hq)))|(refine T.ret (az.val (Or.inr rfl) ?_)<;>simp[aE,Tryz.results100,an]<;>omega)|refine T.r0 fun K hK=>?_
theorem tS (B ls:List IT) (hB:B.length<=1048576):ah adz 99 [gC B ls] [] (.aZ [gC (B++[.v B.length]) ls,jk (.v B.length)]) [] []:=by
 refine ah.ob Tryz.func99 Tryz.ntmps99 rfl ?_;repeat' first|(refine ab (hK _ ?_);clear hK K)|(refine ae ?_;simp;(try(refine gen2 ?_ ?_<;>intro hq<;>try simp at hq)))|refine T.rs (id:=0) (fun _=>false) fun K hK=>?_|refine T.rs (id:=1) (fun _=>false) fun K hK=>?_|refine T.seq ?_
 refine T.Lm 3 2 (row:=[.d (.i 0),.d (.i B.length),.nil]) (by simp) (by simp) ?_;simp;repeat' first|(refine bm (hK _ ?_);clear hK K)|(refine bF ?_;simp;(try(refine gen2 ?_ ?_<;>intro hq<;>try simp at hq)))|(refine⟨by omega,by omega,?_⟩)|(refine T.ret (az.aZ (Or.inr rfl) ?_)<;>simp[aE,Tryz.results99,jR]<;>omega)|refine T.Ns (id:=2) mixed (fun i=>i==0) [0,3,6,8] [2,4,5] 4 [1] (by kernel_rfl) fun K hK=>?_|refine T.pN (id:=3) mixed (fun _=>false) [2,3] [1] 3 [1] (by kernel_rfl) fun K hK=>?_
theorem lk (B ls:List IT) (hS:sM B) (nY:kE B) (hB:B.length<=1048576) (k:Nat) (t:IT) (hx:ex B k t=true) (ht:sc B.length t=true) (hk:gJ t):ah adz 102 [gC B ls,jk t] [] (jk (hd B k t)) [] []:=by
 obtain⟨R,hR⟩:∃R,hd B k t=R:=⟨_,rfl⟩;rw[hR];refine ah.ob Tryz.func102 Tryz.ntmps102 rfl ?_;repeat' first|(refine ab (hK _ ?_);clear hK K)|(refine ae ?_;simp;(try(refine gen2 ?_ ?_<;>intro hq<;>try simp at hq)))|refine T.r0 fun K hK=>?_|refine T.seq ?_|refine T.block ?_
 refine T.dr (α:=Nat×IT) [2,3,4] (fun x=>[]) (fun x=>[(1,(jk x.2).cells)]) (fun x=>[]) (fun x A=>A) (fun x=>x.1) (fun x=>ex B x.1 x.2=true/\sc B.length x.2=true/\gJ x.2/\hd B x.1 x.2=R) (by simp;rfl) (fun x hx=>?_) (k,t) ⟨hx,ht,hk,hR⟩ (by simp) (by simp) (by simp);obtain⟨j,u⟩:=x;obtain⟨hx,hs,RQ,he⟩:=hx;dsimp only at hx hs RQ he⊢;simp only[gI,adC,adD,adF,adE,adG];cases u with
 |b c=>
  have gx:=jl RQ (by simp);simp only[IT.eH]at gx;have hr:R=.b c:=by rw[<-he];cases j<;>rfl
  subst hr;repeat' first|((first|refine ab (hK _ ?_)|refine aB (hK _ ?_));clear hK K)|((first|refine ae ?_|refine aG ?_);simp[gx];(try(refine gen2 ?_ ?_<;>intro hq<;>try simp[gx]at hq)))|(refine T.ret (az.val (Or.inr rfl) ?_)<;>simp[aE,Tryz.results102]<;>omega)|refine T.rd (id:=1) mixed (fun _=>false) [] (by kernel_rfl) fun K hK=>?_|refine T.r0 fun K hK=>?_|refine T.cf rfl ?_|refine T.seq ?_|refine T.exit ?_
 |p c a b=>
  have gx:=jl RQ (by simp);simp only[IT.ey]at gx;have hr:R=.p c a b:=by rw[<-he];cases j<;>rfl
  subst hr;repeat' first|((first|refine ab (hK _ ?_)|refine aB (hK _ ?_));clear hK K)|((first|refine ae ?_|refine aG ?_);simp[gx];(try(refine gen2 ?_ ?_<;>intro hq<;>try simp[gx]at hq)))|(refine T.ret (az.val (Or.inr rfl) ?_)<;>simp[aE,Tryz.results102]<;>omega)|refine T.rd (id:=1) mixed (fun _=>false) [] (by kernel_rfl) fun K hK=>?_|refine T.r0 fun K hK=>?_|refine T.cf rfl ?_|refine T.seq ?_|refine T.exit ?_
 |v m=>
  have ax:m<B.length:=by simpa[sc]using hs
  obtain⟨w,ht⟩:=bz ax;have eJ:w∈B:=adI ht;have bg:B[m]=w:=by rw[adH ax]at ht;exact Option.some.inj ht
  have iY:B.drop m=w::B.drop (m+1):=by rw[adJ ax,bg]
  cases hb:bd B m with
  |none=>
   have hw:w=.v m:=by have:=JO ax hb;rw[ht]at this;exact Option.some.inj this
   subst hw;have hr:R=.v m:=by rw[<-he,Et hb]
   subst hr;repeat' first|((first|refine ab (hK _ ?_)|refine aB (hK _ ?_));clear hK K)|((first|refine ae ?_|refine aG ?_);simp[ax,bg,jR];(try(refine gen2 ?_ ?_<;>intro hq<;>try simp[ax,bg,jR]at hq)))|(refine T.ret (az.val (Or.inr rfl) ?_)<;>simp[aE,Tryz.results102]<;>omega)|refine T.rd (id:=1) mixed (fun _=>false) [] (by kernel_rfl) fun K hK=>?_|refine T.r0 fun K hK=>?_|refine T.cf rfl ?_|refine T.seq ?_|refine T.exit ?_
  |some w'=>
   obtain⟨h1,h2⟩:=vE hb;have hw:w'=w:=by rw[ht]at h1;exact(Option.some.inj h1).symm
   subst hw;cases j with
   |zero=>simp[ex]at hx
   |succ j=>
    have lr:ex B j w'=true:=by simpa[ex,hb]using hx
    rw[Es hb]at he;have Ez:=Eo hS hb;have kn:=KM nY hb;cases w' with
    |v m2=>
     have cY:¬(m2:Int)=m:=by intro e;exact h2 (by rw[show m2=m by omega])
     repeat' first|((first|refine ab (hK _ ?_)|refine aB (hK _ ?_));clear hK K)|((first|refine ae ?_|refine aG ?_);simp[ax,bg,cY,jR];(try(refine gen2 ?_ ?_<;>intro hq<;>try simp[ax,bg,cY,jR]at hq)))|(refine⟨(j,.v m2),by dsimp only;omega,⟨lr,Ez,kn,he⟩,rfl,?_,?_⟩<;>simp(disch:=omega))|refine T.rd (id:=1) mixed (fun _=>false) [] (by kernel_rfl) fun K hK=>?_|refine T.r1 fun K hK=>?_|refine T.ct rfl ?_|refine T.seq ?_|refine T.block ?_|refine T.skip ?_
    |b c=>
     have gx:=jl kn (by simp);simp only[IT.eH]at gx;repeat' first|((first|refine ab (hK _ ?_)|refine aB (hK _ ?_));clear hK K)|((first|refine ae ?_|refine aG ?_);simp[ax,bg,gx,Ep,Er];(try(refine gen2 ?_ ?_<;>intro hq<;>try simp[ax,bg,gx,Ep,Er]at hq)))|(refine⟨(j,.b c),by dsimp only;omega,⟨lr,Ez,kn,he⟩,rfl,?_,?_⟩<;>simp(disch:=omega))|refine T.rd (id:=1) mixed (fun _=>false) [] (by kernel_rfl) fun K hK=>?_|refine T.r1 fun K hK=>?_|refine T.ct rfl ?_|refine T.seq ?_|refine T.block ?_|refine T.skip ?_
    |p c a b=>
     have gx:=jl kn (by simp);simp only[IT.ey]at gx;repeat' first|((first|refine ab (hK _ ?_)|refine aB (hK _ ?_));clear hK K)|((first|refine ae ?_|refine aG ?_);simp[ax,bg,gx,Ep,Er];(try(refine gen2 ?_ ?_<;>intro hq<;>try simp[ax,bg,gx,Ep,Er]at hq)))|(refine⟨(j,.p c a b),by dsimp only;omega,⟨lr,Ez,kn,he⟩,rfl,?_,?_⟩<;>simp(disch:=omega))|refine T.rd (id:=1) mixed (fun _=>false) [] (by kernel_rfl) fun K hK=>?_|refine T.r1 fun K hK=>?_|refine T.ct rfl ?_|refine T.seq ?_|refine T.block ?_|refine T.skip ?_
theorem Ae (B ls:List IT) (hS:sM B) (nY:kE B) (hB:B.length<=1048576) (n:Nat):∀(k:Nat) (t:IT),ex B k t=true->sc B.length t=true->gJ t->ah adz 167 [gC B ls,.i n,jk t] [] (.b (kO B n k t)) [] []:=by
 intro k;induction k using Nat.strongRecOn with
 |_ k ih=>
  intro t hx ht hk;have h1:=lk B ls hS nY hB k t hx ht hk;have IM:=jD hx;have Ez:=nX hS (k:=k) ht;have kn:=px nY (k:=k) hk;have lr:=mA hx;have Lr:=fun c x y=>vD (c:=c) (x:=x) (y:=y) hx
  rw[<-Dk hx];generalize hd B k t=u at*;have key:(∀n,u≠.v n)->(∀w∈u.kids,ah adz 167 [gC B ls,.i n,jk w] [] (.b (kO B n k w)) [] [])->ah adz 167 [gC B ls,.i n,jk t] [] (.b (kO B n k u)) [] []:=by
   intro OQ ov;have gx:=jl kn OQ;rw[H6 lr OQ];have rA:u.kids.length<=2:=by cases u<;>simp
   clear ih Lr IM Ez kn lr;obtain⟨f,hf⟩:∃f,(fun w=>kO B n k w)=f:=⟨_,rfl⟩;replace ov:∀w∈u.kids,ah adz 167 [gC B ls,.i n,jk w] [] (.b (f w)) [] []:=fun w hw=>by rw[<-hf];exact ov w hw
   rw[hf];obtain⟨R,hR⟩:∃R,u.kids.any f=R:=⟨_,rfl⟩;rw[hR];obtain⟨L,hL⟩:∃L,u.kids=L:=⟨_,rfl⟩;rw[hL]at hR ov rA;replace h1:ah adz 102 [gC B ls,jk t] [] (.agg [.d (.i u.kind),.d (.i u.name),.d (.sl (L.map nZ))]) [] []:=by rw[<-hL];exact h1
   refine ah.ob Tryz.func167 Tryz.ntmps167 rfl ?_;repeat' first|(refine ab (hK _ ?_);clear hK K)|((first|refine ae ?_|refine aa rfl (h1) ?_);simp[gx];(try(refine gen2 ?_ ?_<;>intro hq<;>try simp[gx]at hq)))|refine T.r0 fun K hK=>?_|refine T.cf rfl ?_|refine T.seq ?_|refine T.block ?_|refine T.skip ?_
   refine T.dr (α:=Nat) [1,3,5] (fun x=>[(6,.b false),(7,.i x)]) (fun x=>[]) (fun x=>[]) (fun x A=>A) (fun x=>L.length+1-x) (fun x=>x<=L.length/\(L.drop x).any f=R) (by simp;rfl) (fun p hx=>?_) 0 ⟨by simp,by simpa using hR⟩ (by simp) (by simp) (by simp);obtain⟨hx,he⟩:=hx;dsimp only at hx he⊢;simp only[gI,adC,adD,adF,adE,adG];by_cases ax:p<L.length
   ·obtain⟨w,ht⟩:=bz ax;have eJ:w∈L:=adI ht;have bg:L[p]=w:=by rw[adH ax]at ht;exact Option.some.inj ht
    have iY:L.drop p=w::L.drop (p+1):=by rw[adJ ax,bg]
    have hw:=ov w eJ;rw[iY,List.any_cons]at he;cases hb:f w with
    |true=>
     rw[hb,Bool.true_or]at he;rw[hb]at hw;subst he;repeat' first|((first|refine ab (hK _ ?_)|refine aB (hK _ ?_));clear hK K)|((first|refine ae ?_|refine aG ?_|refine aa rfl (hw) ?_);simp[ax,bg,an w];(try simp(disch:=omega)only[wrap64]);(try(refine gen2 ?_ ?_<;>intro hq<;>try simp[ax,bg,an w]at hq)))|(refine T.ret (az.data (Or.inr rfl) ?_ ?_)<;>simp[Tryz.results167]<;>omega)|refine T.rd (id:=7) mixed (fun _=>false) [] (by kernel_rfl) fun K hK=>?_|refine T.r0 fun K hK=>?_|refine T.ct rfl ?_|refine T.seq ?_|refine T.block ?_|refine T.skip ?_
    |false=>
     rw[hb,Bool.false_or]at he;rw[hb]at hw;repeat' first|((first|refine ab (hK _ ?_)|refine aB (hK _ ?_));clear hK K)|((first|refine ae ?_|refine aG ?_|refine aa rfl (hw) ?_);simp[ax,bg,an w];(try simp(disch:=omega)only[wrap64]);(try(refine gen2 ?_ ?_<;>intro hq<;>try simp[ax,bg,an w]at hq)))|(refine⟨p+1,by dsimp only;omega,⟨by omega,he⟩,?_,?_,?_⟩<;>simp(disch:=omega) [wrap64])|refine T.rd (id:=7) mixed (fun _=>false) [] (by kernel_rfl) fun K hK=>?_|refine T.r0 fun K hK=>?_|refine T.r1 fun K hK=>?_|refine T.ct rfl ?_|refine T.cf rfl ?_|refine T.seq ?_|refine T.block ?_|refine T.skip ?_
   ·have eb:p=L.length:=by omega
    subst eb;simp at he;subst he;repeat' first|(refine ab (hK _ ?_);clear hK K)|(refine ae ?_;simp[ax];(try(refine gen2 ?_ ?_<;>intro hq<;>try simp[ax]at hq)))|(refine T.ret (az.data (Or.inr rfl) ?_ ?_)<;>simp[Tryz.results167]<;>omega)|refine T.r0 fun K hK=>?_|refine T.cf rfl ?_|refine T.seq ?_|refine T.exit ?_
  cases hu:u with
  |v m=>
   subst hu;have hb:=IM m rfl;have ho:kO B n k (.v m)=decide (m=n):=by
    cases k with
    |zero=>simp[ex]at hx
    |succ k=>simp[kO,hb]
   rw[ho];have hc:decide ((m:Int)=n)=decide (m=n):=decide_eq_decide.2 (by omega);by_cases e:m=n
   ·subst e;refine ah.ob Tryz.func167 Tryz.ntmps167 rfl ?_;repeat' first|(refine ab (hK _ ?_);clear hK K)|((first|refine ae ?_|refine aa rfl (h1) ?_);simp;(try(refine gen2 ?_ ?_<;>intro hq<;>try simp at hq)))|(refine T.ret (az.data (Or.inr rfl) ?_ ?_)<;>simp[Tryz.results167]<;>omega)|refine T.r0 fun K hK=>?_|refine T.ct rfl ?_|refine T.seq ?_
   ·have e':¬(m:Int)=n:=by omega
    refine ah.ob Tryz.func167 Tryz.ntmps167 rfl ?_;repeat' first|(refine ab (hK _ ?_);clear hK K)|((first|refine ae ?_|refine aa rfl (h1) ?_);simp[e,e'];(try(refine gen2 ?_ ?_<;>intro hq<;>try simp[e,e']at hq)))|(refine T.ret (az.data (Or.inr rfl) ?_ ?_)<;>simp[Tryz.results167,e,e']<;>omega)|refine T.r0 fun K hK=>?_|refine T.ct rfl ?_|refine T.seq ?_
  |b c=>
   rw[<-hu];exact key (by rw[hu];simp) (by rw[hu];simp)
  |p c x y=>
   rw[<-hu];refine key (by rw[hu];simp) fun w hw=>?_
   obtain⟨j,hj,Ti,Tj⟩:=Lr c x y hu;rw[hu,IT.e8]at hw;simp only[List.mem_cons,List.not_mem_nil,or_false]at hw;rcases hw with rfl|rfl
   ·have g1:=ih j hj w Ti (Ab Ez w (by simp[hu])) (xr kn w (by simp[hu]));rwa[<-ej Ti (adM hj)]at g1
   ·have g2:=ih j hj w Tj (Ab Ez w (by simp[hu])) (xr kn w (by simp[hu]));rwa[<-ej Tj (adM hj)]at g2
theorem Dw (B ls:List IT) (hS:sM B) (nY:kE B) (hB:B.length<=1048576) (n:Nat) (hn:n<B.length) (k:Nat) (t:IT) (hx:ex B k t=true) (ht:sc B.length t=true) (hk:gJ t):ah adz 158 [gC B ls,.i n,jk t] [] (.aZ [gC (y8 k B n t).1 ls,.b (y8 k B n t).2]) [] []:=by
 have g:=Ae B ls hS nY hB n k t hx ht hk;obtain⟨q,hq⟩:∃q,kO B n k t=q:=⟨_,rfl⟩;rw[hq]at g;have bH:(B.map nZ).set n (nZ t)=(B.set n t).map nZ:=by rw[List.map_set]
 rw[an t]at bH;by_cases hv:t=.v n
 ·subst hv;rw[y8,if_pos rfl];refine ah.ob Tryz.func158 Tryz.ntmps158 rfl ?_;repeat' first|(refine ab (hK _ ?_);clear hK K)|(refine ae ?_;simp;(try(refine gen2 ?_ ?_<;>intro hq<;>(try simp at hq)<;>try(have:True:=hq;clear this hq))))|(refine T.ret (az.aZ (Or.inr rfl) ?_)<;>simp[aE,Tryz.results158]<;>omega)|refine T.r0 fun K hK=>?_|refine T.ct rfl ?_|refine T.seq ?_
 have Aw:(t.kind=0/\(t.name:Int)≠n)\/t.kind≠0:=by
  cases t with
  |v m=>exact .inl ⟨rfl,fun e=>hv (by simp only[IT.gj]at e;rw[show m=n by omega])⟩
  |b c=>exact .inr (jl hk (by simp))
  |p c x y=>exact .inr (jl hk (by simp))
 rw[y8,if_neg hv,hq];clear hx ht hk hv;rcases Aw with⟨h0,hm⟩|h0<;>cases q<;>simp only[if_true,adN,if_false]
 ·rw[h0]at bH;refine ah.ob Tryz.func158 Tryz.ntmps158 rfl ?_;repeat' first|(refine ab (hK _ ?_);clear hK K)|((first|refine ae ?_|(refine aa ?_ (g) ?_;(focus(solve|simp[h0,hm,hn,mC,bH]))));simp[h0,hm,hn,mC,bH];(try(refine gen2 ?_ ?_<;>intro hq<;>(try simp[h0,hm,hn,mC,bH]at hq)<;>try(have:True:=hq;clear this hq))))|(refine⟨by omega,by omega,?_⟩)|(refine T.ret (az.aZ (Or.inr rfl) ?_)<;>simp[aE,Tryz.results158]<;>omega)|refine T.rs (id:=5) (fun i=>i==0) fun K hK=>?_|refine T.rs (id:=0) (fun _=>false) fun K hK=>?_|refine T.rs (id:=1) (fun _=>false) fun K hK=>?_|refine T.rs (id:=3) (fun _=>false) fun K hK=>?_|refine T.rs (id:=6) (fun _=>false) fun K hK=>?_|refine T.rs (id:=7) (fun _=>false) fun K hK=>?_|refine T.cf rfl ?_|refine T.seq ?_|refine T.skip ?_
 ·refine ah.ob Tryz.func158 Tryz.ntmps158 rfl ?_;repeat' first|(refine ab (hK _ ?_);clear hK K)|((first|refine ae ?_|(refine aa ?_ (g) ?_;(focus(solve|simp[h0,hm,hn]))));simp[h0,hm,hn];(try(refine gen2 ?_ ?_<;>intro hq<;>(try simp[h0,hm,hn]at hq)<;>try(have:True:=hq;clear this hq))))|(refine T.ret (az.aZ (Or.inr rfl) ?_)<;>simp[aE,Tryz.results158]<;>omega)|refine T.r0 fun K hK=>?_|refine T.ct rfl ?_|refine T.cf rfl ?_|refine T.seq ?_|refine T.skip ?_
 ·refine ah.ob Tryz.func158 Tryz.ntmps158 rfl ?_;repeat' first|(refine ab (hK _ ?_);clear hK K)|((first|refine ae ?_|(refine aa ?_ (g) ?_;(focus(solve|simp[h0,hn,mC,bH]))));simp[h0,hn,mC,bH];(try(refine gen2 ?_ ?_<;>intro hq<;>(try simp[h0,hn,mC,bH]at hq)<;>try(have:True:=hq;clear this hq))))|(refine⟨by omega,by omega,?_⟩)|(refine T.ret (az.aZ (Or.inr rfl) ?_)<;>simp[aE,Tryz.results158]<;>omega)|refine T.rs (id:=5) (fun i=>i==0) fun K hK=>?_|refine T.rs (id:=0) (fun _=>false) fun K hK=>?_|refine T.rs (id:=1) (fun _=>false) fun K hK=>?_|refine T.rs (id:=3) (fun _=>false) fun K hK=>?_|refine T.rs (id:=6) (fun _=>false) fun K hK=>?_|refine T.rs (id:=7) (fun _=>false) fun K hK=>?_|refine T.cf rfl ?_|refine T.seq ?_|refine T.skip ?_
 ·refine ah.ob Tryz.func158 Tryz.ntmps158 rfl ?_;repeat' first|(refine ab (hK _ ?_);clear hK K)|((first|refine ae ?_|refine aa rfl (g) ?_);simp[h0,hn];(try(refine gen2 ?_ ?_<;>intro hq<;>(try simp[h0,hn]at hq)<;>try(have:True:=hq;clear this hq))))|(refine T.ret (az.aZ (Or.inr rfl) ?_)<;>simp[aE,Tryz.results158]<;>omega)|refine T.r0 fun K hK=>?_|refine T.ct rfl ?_|refine T.cf rfl ?_|refine T.seq ?_|refine T.skip ?_
theorem Cc (ls:List IT):∀(k:Nat) (B:List IT) (a b:IT) (B':List IT) (q:Bool),sM B->kE B->B.length<=1048576->sc B.length a=true->sc B.length b=true->gJ a->gJ b->iU k B a b=some (B',q)->ah adz 136 [gC B ls,jk a,jk b] [] (.aZ [gC B' ls,.b q]) [] []:=by
 intro k;induction k with
 |zero=>intro B a b B' q _ _ _ _ _ _ _ h;simp[iU]at h
 |succ k ih=>
  intro B a b B' q hS nY hB ha hb Fc MI h;rw[iU]at h;split at h
  case isFalse=>simp at h
  rename_i hex;rw[adQ]at hex;have h1:=lk B ls hS nY hB k a hex.1 ha Fc;have h2:=lk B ls hS nY hB k b hex.2 hb MI;have xa:=mA hex.1;have xb:=mA hex.2;have sa:=nX hS (k:=k) ha;have sb:=nX hS (k:=k) hb;have ka:=px nY (k:=k) Fc;have kb:=px nY (k:=k) MI;generalize hd B k a=u at*;generalize hd B k b=v at*;have KQ:∀n t,n<B.length->ex B k t=true->sc B.length t=true->gJ t->(if t=.v n then some (B,true)else if kO B n k t=true then some (B,false)else some (B.set n t,true))=some (B',q)->ah adz 158 [gC B ls,.i n,jk t] [] (.aZ [gC B' ls,.b q]) [] []:=by
   intro n t hn hx hs hk he;have g:=Dw B ls hS nY hB n hn k t hx hs hk;have:y8 k B n t=(B',q):=by
    rw[y8];split at he
    ·rename_i e;rw[if_pos e];simpa using he
    ·rename_i e;rw[if_neg e];split at he
     ·rename_i e2;rw[if_pos e2];simpa using he
     ·rename_i e2;rw[if_neg e2];simpa using he
   rw[this]at g;exact g
  by_cases hu:u.kind=0
  ·obtain⟨n,rfl⟩:∃n,u=.v n:=by
    cases u with
    |v n=>exact⟨n,rfl⟩
    |b c=>exact absurd hu (jl ka (by simp))
    |p c x y=>exact absurd hu (jl ka (by simp))
   have g:=KQ n v (by simpa[sc]using sa) xb sb kb (by cases v<;>exact h);clear ih KQ h;refine ah.ob Tryz.func136 Tryz.ntmps136 rfl ?_;repeat' first|(refine ab (hK _ ?_);clear hK K)|((first|refine ae ?_|refine aa rfl (h1) ?_|refine aa rfl (h2) ?_|refine aa rfl (g) ?_);simp;(try(refine gen2 ?_ ?_<;>intro hq<;>(try simp at hq)<;>try(have:True:=hq;clear this hq))))|(refine T.ret (az.aZ (Or.inr rfl) ?_)<;>simp[aE,Tryz.results136]<;>omega)|refine T.r0 fun K hK=>?_|refine T.ct rfl ?_|refine T.seq ?_
  have ml:∀n,u≠.v n:=fun n e=>hu (by rw[e];rfl)
  by_cases hv:v.kind=0
  ·obtain⟨n,rfl⟩:∃n,v=.v n:=by
    cases v with
    |v n=>exact⟨n,rfl⟩
    |b c=>exact absurd hv (jl kb (by simp))
    |p c x y=>exact absurd hv (jl kb (by simp))
   have g:=KQ n u (by simpa[sc]using sb) xa sa ka (by
    cases u with
    |v m=>exact absurd rfl (ml m)
    |b c=>rw[if_neg (by simp)];exact h
    |p c x y=>rw[if_neg (by simp)];exact h)
   clear ih KQ h;refine ah.ob Tryz.func136 Tryz.ntmps136 rfl ?_;repeat' first|(refine ab (hK _ ?_);clear hK K)|((first|refine ae ?_|refine aa rfl (h1) ?_|refine aa rfl (h2) ?_|refine aa rfl (g) ?_);simp[hu];(try(refine gen2 ?_ ?_<;>intro hq<;>(try simp[hu]at hq)<;>try(have:True:=hq;clear this hq))))|(refine T.ret (az.aZ (Or.inr rfl) ?_)<;>simp[aE,Tryz.results136]<;>omega)|refine T.r0 fun K hK=>?_|refine T.ct rfl ?_|refine T.cf rfl ?_|refine T.seq ?_|refine T.skip ?_
  by_cases hk:u.kind=v.kind
  ·cases u with
   |v m=>exact absurd rfl (ml m)
   |b i=>
    cases v with
    |v m=>exact absurd rfl hv
    |p j x y=>
     exfalso
     simp only[IT.eH,IT.ey]at hk;simp only[gJ]at ka kb;omega
    |b j=>
     simp only[IT.eH]at hk hu hv;subst hk;simp at h;obtain⟨rfl,rfl⟩:=h;clear ih KQ;refine ah.ob Tryz.func136 Tryz.ntmps136 rfl ?_;repeat' first|(refine ab (hK _ ?_);clear hK K)|((first|refine ae ?_|refine aa rfl (h1) ?_|refine aa rfl (h2) ?_);simp[hu];(try(refine gen2 ?_ ?_<;>intro hq<;>(try simp[hu]at hq)<;>try(have:True:=hq;clear this hq))))|refine T.r0 fun K hK=>?_|refine T.cf rfl ?_|refine T.seq ?_|refine T.block ?_|refine T.skip ?_
     refine T.dr (α:=Nat) [3,4,5,6,7] (fun x=>[(8,.b true),(9,.i 0)]) (fun x=>[]) (fun x=>[]) (fun x A=>A) (fun x=>1) (fun x=>True) (by simp;rfl) (fun x hx=>?_) 0 trivial (by simp) (by simp) (by simp);simp only[gI,adC,adD,adF,adE,adG];repeat' first|(refine ab (hK _ ?_);clear hK K)|(refine ae ?_;simp;(try(refine gen2 ?_ ?_<;>intro hq<;>(try simp at hq)<;>try(have:True:=hq;clear this hq))))|(refine T.ret (az.aZ (Or.inr rfl) ?_)<;>simp[aE,Tryz.results136]<;>omega)|refine T.r0 fun K hK=>?_|refine T.cf rfl ?_|refine T.seq ?_|refine T.exit ?_
   |p i x y=>
    cases v with
    |v m=>exact absurd rfl hv
    |b j=>
     exfalso
     simp only[IT.eH,IT.ey]at hk;simp only[gJ]at ka kb;omega
    |p j x' y'=>
     simp only[IT.ey]at hk hu hv;subst hk;simp only[if_true]at h;simp only[gJ]at ka kb;simp only[sc,adQ]at sa sb;obtain⟨r1,Ma⟩:∃r1,iU k B x x'=r1:=⟨_,rfl⟩;rw[Ma]at h;cases r1 with
     |none=>simp at h
     |some r1=>
      obtain⟨B1,q1⟩:=r1;obtain⟨s1,l1⟩:=xj hS sa.1 sb.1 Ma;have d1:=l4 nY ka.2.1 kb.2.1 Ma;have g1:=ih B x x' B1 q1 hS nY hB sa.1 sb.1 ka.2.1 kb.2.1 Ma;have g2:q1=true->ah adz 136 [gC B1 ls,jk y,jk y'] [] (.aZ [gC B' ls,.b q]) [] []:=fun e=>by
       subst e;exact ih B1 y y' B' q s1 d1 (by omega) (by rw[l1];exact sa.2) (by rw[l1];exact sb.2) ka.2.2 kb.2.2 h
      have hf:q1=false->B'=B1/\q=false:=fun e=>by subst e;simp at h;exact⟨h.1.symm,h.2⟩
      clear ih KQ h Ma;refine ah.ob Tryz.func136 Tryz.ntmps136 rfl ?_;repeat' first|(refine ab (hK _ ?_);clear hK K)|((first|refine ae ?_|refine aa rfl (h1) ?_|refine aa rfl (h2) ?_);simp[hu,hv];(try(refine gen2 ?_ ?_<;>intro hq<;>(try simp[hu,hv]at hq)<;>try(have:True:=hq;clear this hq))))|refine T.r0 fun K hK=>?_|refine T.cf rfl ?_|refine T.seq ?_|refine T.block ?_|refine T.skip ?_
      refine T.dr (α:=Nat×List IT×Bool) [3,4,5,6,7] (fun x=>[(8,.b x.2.2),(9,.i x.1)]) (fun x=>[(0,[.d (.sl (x.2.1.map nZ)),.d (.sl (ls.map nZ))])]) (fun x=>[]) (fun x A=>A) (fun x=>3-x.1) (fun x=>(x.1=0/\x.2.1=B/\x.2.2=true)\/(x.1=1/\x.2.1=B1/\x.2.2=q1)\/(x.1=2/\x.2.1=B'/\x.2.2=q/\q1=true)) (by simp;rfl) (fun x hx=>?_) (0,B,true) (.inl ⟨rfl,rfl,rfl⟩) (by simp) (by simp) (by simp);obtain⟨p,C,ok⟩:=x;dsimp only at hx⊢;simp only[gI,adC,adD,adF,adE,adG];rcases hx with⟨rfl,rfl,rfl⟩|⟨rfl,rfl,rfl⟩|⟨rfl,rfl,rfl,hq⟩
      ·cases q1
       ·repeat' first|((first|refine ab (hK _ ?_)|refine aB (hK _ ?_));clear hK K)|((first|refine ae ?_|refine aG ?_|(refine aa ?_ (g1) ?_;(focus(solve|simp[an x,an x']))));simp[an x,an x'];(try simp(disch:=omega)only[wrap64]);(try(refine gen2 ?_ ?_<;>intro hq<;>(try simp[an x,an x']at hq)<;>try(have:True:=hq;clear this hq))))|refine T.AS (id:=11) mixed (fun _=>false) [15] (by kernel_rfl) fun K hK=>?_|refine T.r0 fun K hK=>?_|refine T.r1 fun K hK=>?_|refine T.ct rfl ?_|refine T.seq ?_|refine T.block ?_|refine T.skip ?_
        refine⟨(1,B1,false),by dsimp only;omega,Or.inr (Or.inl ⟨rfl,rfl,rfl⟩),?_,?_,?_⟩<;>simp(disch:=omega) [wrap64,an x,an x']
       ·repeat' first|((first|refine ab (hK _ ?_)|refine aB (hK _ ?_));clear hK K)|((first|refine ae ?_|refine aG ?_|(refine aa ?_ (g1) ?_;(focus(solve|simp[an x,an x']))));simp[an x,an x'];(try simp(disch:=omega)only[wrap64]);(try(refine gen2 ?_ ?_<;>intro hq<;>(try simp[an x,an x']at hq)<;>try(have:True:=hq;clear this hq))))|refine T.AS (id:=11) mixed (fun _=>false) [15] (by kernel_rfl) fun K hK=>?_|refine T.r0 fun K hK=>?_|refine T.r1 fun K hK=>?_|refine T.ct rfl ?_|refine T.seq ?_|refine T.block ?_|refine T.skip ?_
        refine⟨(1,B1,true),by dsimp only;omega,Or.inr (Or.inl ⟨rfl,rfl,rfl⟩),?_,?_,?_⟩<;>simp(disch:=omega) [wrap64,an x,an x']
      ·cases ok with
       |false=>
        obtain⟨rfl,rfl⟩:=hf rfl;repeat' first|(refine ab (hK _ ?_);clear hK K)|(refine ae ?_;simp;(try(refine gen2 ?_ ?_<;>intro hq<;>(try simp at hq)<;>try(have:True:=hq;clear this hq))))|(refine T.ret (az.aZ (Or.inr rfl) ?_)<;>simp[aE,Tryz.results136]<;>omega)|refine T.r0 fun K hK=>?_|refine T.cf rfl ?_|refine T.seq ?_|refine T.exit ?_
       |true=>
        have g2:=g2 rfl;cases q
        ·repeat' first|((first|refine ab (hK _ ?_)|refine aB (hK _ ?_));clear hK K)|((first|refine ae ?_|refine aG ?_|(refine aa ?_ (g2) ?_;(focus(solve|simp[an y,an y']))));simp[an y,an y'];(try simp(disch:=omega)only[wrap64]);(try(refine gen2 ?_ ?_<;>intro hq<;>(try simp[an y,an y']at hq)<;>try(have:True:=hq;clear this hq))))|refine T.AS (id:=11) mixed (fun _=>false) [15] (by kernel_rfl) fun K hK=>?_|refine T.r0 fun K hK=>?_|refine T.r1 fun K hK=>?_|refine T.ct rfl ?_|refine T.seq ?_|refine T.block ?_|refine T.skip ?_
         refine⟨(2,B',false),by dsimp only;omega,Or.inr (Or.inr ⟨rfl,rfl,rfl,rfl⟩),?_,?_,?_⟩<;>simp(disch:=omega) [wrap64,an y,an y']
        ·repeat' first|((first|refine ab (hK _ ?_)|refine aB (hK _ ?_));clear hK K)|((first|refine ae ?_|refine aG ?_|(refine aa ?_ (g2) ?_;(focus(solve|simp[an y,an y']))));simp[an y,an y'];(try simp(disch:=omega)only[wrap64]);(try(refine gen2 ?_ ?_<;>intro hq<;>(try simp[an y,an y']at hq)<;>try(have:True:=hq;clear this hq))))|refine T.AS (id:=11) mixed (fun _=>false) [15] (by kernel_rfl) fun K hK=>?_|refine T.r0 fun K hK=>?_|refine T.r1 fun K hK=>?_|refine T.ct rfl ?_|refine T.seq ?_|refine T.block ?_|refine T.skip ?_
         refine⟨(2,B',true),by dsimp only;omega,Or.inr (Or.inr ⟨rfl,rfl,rfl,rfl⟩),?_,?_,?_⟩<;>simp(disch:=omega) [wrap64,an y,an y']
      ·subst hq;cases ok
       ·repeat' first|(refine ab (hK _ ?_);clear hK K)|(refine ae ?_;simp;(try(refine gen2 ?_ ?_<;>intro hq<;>(try simp at hq)<;>try(have:True:=hq;clear this hq))))|(refine T.ret (az.aZ (Or.inr rfl) ?_)<;>simp[aE,Tryz.results136]<;>omega)|refine T.r0 fun K hK=>?_|refine T.cf rfl ?_|refine T.seq ?_|refine T.exit ?_
       ·repeat' first|(refine ab (hK _ ?_);clear hK K)|(refine ae ?_;simp;(try(refine gen2 ?_ ?_<;>intro hq<;>(try simp at hq)<;>try(have:True:=hq;clear this hq))))|(refine T.ret (az.aZ (Or.inr rfl) ?_)<;>simp[aE,Tryz.results136]<;>omega)|refine T.r0 fun K hK=>?_|refine T.cf rfl ?_|refine T.seq ?_|refine T.exit ?_
  ·have hr:B'=B/\q=false:=by
    cases u with
    |v m=>exact absurd rfl (ml m)
    |b i=>
     cases v with
     |v m=>exact absurd rfl hv
     |b j=>simp only[IT.eH]at hk;simp[hk]at h;exact⟨h.1.symm,h.2⟩
     |p j x y=>simp at h;exact⟨h.1.symm,h.2⟩
    |p i x y=>
     cases v with
     |v m=>exact absurd rfl hv
     |b j=>simp at h;exact⟨h.1.symm,h.2⟩
     |p j x' y'=>simp only[IT.ey]at hk;simp[hk]at h;exact⟨h.1.symm,h.2⟩
   obtain⟨rfl,rfl⟩:=hr;have rA:u.kids.length<=2:=by cases u<;>simp
   clear ih KQ h;refine ah.ob Tryz.func136 Tryz.ntmps136 rfl ?_;repeat' first|(refine ab (hK _ ?_);clear hK K)|((first|refine ae ?_|refine aa rfl (h1) ?_|refine aa rfl (h2) ?_);simp[hu,hv,hk];(try(refine gen2 ?_ ?_<;>intro hq<;>(try simp[hu,hv,hk]at hq)<;>try(have:True:=hq;clear this hq))))|refine T.r0 fun K hK=>?_|refine T.cf rfl ?_|refine T.seq ?_|refine T.block ?_|refine T.skip ?_
   refine T.dr (α:=Nat) [3,4,5,6,7] (fun x=>[(8,.b false),(9,.i 0)]) (fun x=>[]) (fun x=>[]) (fun x A=>A) (fun x=>1) (fun x=>True) (by simp;rfl) (fun x hx=>?_) 0 trivial (by simp) (by simp) (by simp);simp only[gI,adC,adD,adF,adE,adG];by_cases ax:(0:Int)<u.kids.length
   ·repeat' first|(refine ab (hK _ ?_);clear hK K)|(refine ae ?_;simp[ax];(try(refine gen2 ?_ ?_<;>intro hq<;>(try simp[ax]at hq)<;>try(have:True:=hq;clear this hq))))|(refine T.ret (az.aZ (Or.inr rfl) ?_)<;>simp[aE,Tryz.results136]<;>omega)|refine T.r0 fun K hK=>?_|refine T.cf rfl ?_|refine T.seq ?_|refine T.exit ?_
   ·repeat' first|(refine ab (hK _ ?_);clear hK K)|(refine ae ?_;simp[ax];(try(refine gen2 ?_ ?_<;>intro hq<;>(try simp[ax]at hq)<;>try(have:True:=hq;clear this hq))))|(refine T.ret (az.aZ (Or.inr rfl) ?_)<;>simp[aE,Tryz.results136]<;>omega)|refine T.r0 fun K hK=>?_|refine T.cf rfl ?_|refine T.seq ?_|refine T.exit ?_
theorem jn {k:Nat} {B:List IT} {a b:IT} {r:Option (List IT)} (h:j0 k B a b=some r):∃B2 q,iU k B a b=some (B2,q)/\(q=true/\r=some B2\/q=false/\r=none):=by
 rw[j0]at h;split at h
 ·cases h
 ·rename_i B' e;cases h;exact⟨B',true,e,.inl ⟨rfl,rfl⟩⟩
 ·rename_i B' e;cases h;exact⟨B',false,e,.inr ⟨rfl,rfl⟩⟩
def OR (C:List IT) (u:IT) (q:Bool):Option (List IT×IT)->Prop
 |some (B',t)=>C=B'/\u=t/\q=true
 |none=>q=false
abbrev Ij (ls:List IT) (B:List IT) (e:ak) (ts:List IT) (r:Option (List IT×IT)):Prop:=
 ∃C u q,ah adz 101 [gC B ls,cE e,.l (ts.map nZ)] [] (.aZ [gC C ls,jk u,.b q]) [] []/\OR C u q r
theorem FP (ls B:List IT) (e:ak) (hk:e.kind=2\/e.kind=3\/e.kind=4):ah adz 101 [gC B ls,cE e,.l []] [] (.aZ [gC B ls,jk (.b (if e.kind=2 then 2 else 3)),.b true]) [] []:=by
 have b2:=eo 2;have b3:=eo 3;rcases hk with h|h|h
 ·rw[if_pos h];refine ah.ob Tryz.func101 Tryz.ntmps101 rfl ?_;repeat' first|((first|refine ab (hK _ ?_)|refine bm (hK _ ?_));clear hK K)|((first|refine ae ?_|refine bF ?_|refine aa rfl (b2) ?_|refine aa rfl (b3) ?_);simp[h];(try(refine gen2 ?_ ?_<;>intro hq<;>try simp[h]at hq)))|(refine T.ret (az.aZ (Or.inr rfl) ?_)<;>simp[aE,Tryz.results101]<;>omega)|refine T.pN (id:=7) mixed (fun _=>false) [2,3] [1] 3 [2] (by kernel_rfl) fun K hK=>?_|refine T.r0 fun K hK=>?_|refine T.ct rfl ?_|refine T.seq ?_|refine T.block ?_
 ·rw[if_neg (by omega)];refine ah.ob Tryz.func101 Tryz.ntmps101 rfl ?_;repeat' first|((first|refine ab (hK _ ?_)|refine bm (hK _ ?_));clear hK K)|((first|refine ae ?_|refine bF ?_|refine aa rfl (b2) ?_|refine aa rfl (b3) ?_);simp[h];(try(refine gen2 ?_ ?_<;>intro hq<;>try simp[h]at hq)))|(refine T.ret (az.aZ (Or.inr rfl) ?_)<;>simp[aE,Tryz.results101]<;>omega)|refine T.pN (id:=10) mixed (fun _=>false) [2,3] [1] 3 [2] (by kernel_rfl) fun K hK=>?_|refine T.r0 fun K hK=>?_|refine T.ct rfl ?_|refine T.cf rfl ?_|refine T.seq ?_|refine T.block ?_|refine T.skip ?_
 ·rw[if_neg (by omega)];refine ah.ob Tryz.func101 Tryz.ntmps101 rfl ?_;repeat' first|((first|refine ab (hK _ ?_)|refine bm (hK _ ?_));clear hK K)|((first|refine ae ?_|refine bF ?_|refine aa rfl (b2) ?_|refine aa rfl (b3) ?_);simp[h];(try(refine gen2 ?_ ?_<;>intro hq<;>try simp[h]at hq)))|(refine T.ret (az.aZ (Or.inr rfl) ?_)<;>simp[aE,Tryz.results101]<;>omega)|refine T.pN (id:=10) mixed (fun _=>false) [2,3] [1] 3 [2] (by kernel_rfl) fun K hK=>?_|refine T.r0 fun K hK=>?_|refine T.r1 fun K hK=>?_|refine T.ct rfl ?_|refine T.cf rfl ?_|refine T.seq ?_|refine T.block ?_
theorem FQ (ls B:List IT) (e:ak) (x y:IT) (h:e.kind=10):ah adz 101 [gC B ls,cE e,.l [nZ x,nZ y]] [] (.aZ [gC B ls,jk (.p 5 x y),.b true]) [] []:=by
 have b2:=eo 2;have b3:=eo 3;have tw:=qa 5 x y;refine ah.ob Tryz.func101 Tryz.ntmps101 rfl ?_;repeat' first|((first|refine ab (hK _ ?_)|refine aB (hK _ ?_));clear hK K)|((first|refine ae ?_|refine aG ?_|refine aa rfl (b2) ?_|refine aa rfl (b3) ?_|(refine aa ?_ (tw) ?_;(focus(solve|simp[h,an x,an y]))));simp[h,an x,an y];(try(refine gen2 ?_ ?_<;>intro hq<;>try simp[h,an x,an y]at hq)))|(refine T.ret (az.aZ (Or.inr rfl) ?_)<;>simp[aE,Tryz.results101,an x,an y]<;>omega)|refine T.rd (id:=12) mixed (fun _=>false) [8,9] (by kernel_rfl) fun K hK=>?_|refine T.r0 fun K hK=>?_|refine T.r1 fun K hK=>?_|refine T.ct rfl ?_|refine T.cf rfl ?_|refine T.seq ?_|refine T.block ?_
theorem EA (ls B B1 B2:List IT) (e:ak) (x y:IT) (q1 q2:Bool) (h:e.kind=7\/e.kind=8) (g1:ah adz 136 [gC B ls,jk x,jk (.b 2)] [] (.aZ [gC B1 ls,.b q1]) [] []) (g2:q1=true->ah adz 136 [gC B1 ls,jk y,jk (.b 2)] [] (.aZ [gC B2 ls,.b q2]) [] []):
  ah adz 101 [gC B ls,cE e,.l [nZ x,nZ y]] [] (.aZ [gC (if q1 then B2 else B1) ls,jk (.b (if e.kind=8 then 3 else 2)),.b (q1 && q2)]) [] []:=by
 have b2:=eo 2;have b3:=eo 3;cases q1 with
 |false=>
  clear g2;simp only[adN,if_false,adP];rcases h with h|h
  ·rw[if_neg (by omega)];refine ah.ob Tryz.func101 Tryz.ntmps101 rfl ?_;repeat' first|((first|refine ab (hK _ ?_)|refine aB (hK _ ?_)|refine bm (hK _ ?_));clear hK K)|((first|refine ae ?_|refine aG ?_|refine bF ?_|refine aa rfl (b2) ?_|refine aa rfl (b3) ?_|(refine aa ?_ (g1) ?_;(focus(solve|simp[h,an x,an y]))));simp[h,an x,an y];(try(refine gen2 ?_ ?_<;>intro hq<;>try simp[h,an x,an y]at hq)))|(refine T.ret (az.aZ (Or.inr rfl) ?_)<;>simp[aE,Tryz.results101]<;>omega)|refine T.rd (id:=15) mixed (fun _=>false) [9] (by kernel_rfl) fun K hK=>?_|refine T.pN (id:=20) mixed (fun _=>false) [6,7] [1] 7 [2] (by kernel_rfl) fun K hK=>?_|refine T.r0 fun K hK=>?_|refine T.r1 fun K hK=>?_|refine T.ct rfl ?_|refine T.cf rfl ?_|refine T.seq ?_|refine T.block ?_|refine T.skip ?_
  ·rw[if_pos h];refine ah.ob Tryz.func101 Tryz.ntmps101 rfl ?_;repeat' first|((first|refine ab (hK _ ?_)|refine aB (hK _ ?_)|refine bm (hK _ ?_));clear hK K)|((first|refine ae ?_|refine aG ?_|refine bF ?_|refine aa rfl (b2) ?_|refine aa rfl (b3) ?_|(refine aa ?_ (g1) ?_;(focus(solve|simp[h,an x,an y]))));simp[h,an x,an y];(try(refine gen2 ?_ ?_<;>intro hq<;>try simp[h,an x,an y]at hq)))|(refine T.ret (az.aZ (Or.inr rfl) ?_)<;>simp[aE,Tryz.results101]<;>omega)|refine T.rd (id:=15) mixed (fun _=>false) [9] (by kernel_rfl) fun K hK=>?_|refine T.pN (id:=19) mixed (fun _=>false) [6,7] [1] 7 [2] (by kernel_rfl) fun K hK=>?_|refine T.r0 fun K hK=>?_|refine T.r1 fun K hK=>?_|refine T.ct rfl ?_|refine T.cf rfl ?_|refine T.seq ?_|refine T.block ?_|refine T.skip ?_
 |true=>
  have g2:=g2 rfl;simp only[if_true,adO];rcases h with h|h
  ·rw[if_neg (by omega)];cases q2
   ·refine ah.ob Tryz.func101 Tryz.ntmps101 rfl ?_;repeat' first|((first|refine ab (hK _ ?_)|refine aB (hK _ ?_)|refine bm (hK _ ?_));clear hK K)|((first|refine ae ?_|refine aG ?_|refine bF ?_|refine aa rfl (b2) ?_|refine aa rfl (b3) ?_|(refine aa ?_ (g1) ?_;(focus(solve|simp[h,an x,an y])))|(refine aa ?_ (g2) ?_;(focus(solve|simp[h,an x,an y]))));simp[h,an x,an y];(try(refine gen2 ?_ ?_<;>intro hq<;>try simp[h,an x,an y]at hq)))|(refine T.ret (az.aZ (Or.inr rfl) ?_)<;>simp[aE,Tryz.results101]<;>omega)|refine T.rd (id:=15) mixed (fun _=>false) [9] (by kernel_rfl) fun K hK=>?_|refine T.AS (id:=17) mixed (fun _=>false) [9] (by kernel_rfl) fun K hK=>?_|refine T.pN (id:=20) mixed (fun _=>false) [6,7] [1] 7 [2] (by kernel_rfl) fun K hK=>?_|refine T.r0 fun K hK=>?_|refine T.r1 fun K hK=>?_|refine T.ct rfl ?_|refine T.cf rfl ?_|refine T.seq ?_|refine T.block ?_|refine T.skip ?_
   ·refine ah.ob Tryz.func101 Tryz.ntmps101 rfl ?_;repeat' first|((first|refine ab (hK _ ?_)|refine aB (hK _ ?_)|refine bm (hK _ ?_));clear hK K)|((first|refine ae ?_|refine aG ?_|refine bF ?_|refine aa rfl (b2) ?_|refine aa rfl (b3) ?_|(refine aa ?_ (g1) ?_;(focus(solve|simp[h,an x,an y])))|(refine aa ?_ (g2) ?_;(focus(solve|simp[h,an x,an y]))));simp[h,an x,an y];(try(refine gen2 ?_ ?_<;>intro hq<;>try simp[h,an x,an y]at hq)))|(refine T.ret (az.aZ (Or.inr rfl) ?_)<;>simp[aE,Tryz.results101]<;>omega)|refine T.rd (id:=15) mixed (fun _=>false) [9] (by kernel_rfl) fun K hK=>?_|refine T.AS (id:=17) mixed (fun _=>false) [9] (by kernel_rfl) fun K hK=>?_|refine T.pN (id:=20) mixed (fun _=>false) [6,7] [1] 7 [2] (by kernel_rfl) fun K hK=>?_|refine T.r0 fun K hK=>?_|refine T.r1 fun K hK=>?_|refine T.ct rfl ?_|refine T.cf rfl ?_|refine T.seq ?_|refine T.block ?_|refine T.skip ?_
  ·rw[if_pos h];cases q2
   ·refine ah.ob Tryz.func101 Tryz.ntmps101 rfl ?_;repeat' first|((first|refine ab (hK _ ?_)|refine aB (hK _ ?_)|refine bm (hK _ ?_));clear hK K)|((first|refine ae ?_|refine aG ?_|refine bF ?_|refine aa rfl (b2) ?_|refine aa rfl (b3) ?_|(refine aa ?_ (g1) ?_;(focus(solve|simp[h,an x,an y])))|(refine aa ?_ (g2) ?_;(focus(solve|simp[h,an x,an y]))));simp[h,an x,an y];(try(refine gen2 ?_ ?_<;>intro hq<;>try simp[h,an x,an y]at hq)))|(refine T.ret (az.aZ (Or.inr rfl) ?_)<;>simp[aE,Tryz.results101]<;>omega)|refine T.rd (id:=15) mixed (fun _=>false) [9] (by kernel_rfl) fun K hK=>?_|refine T.AS (id:=17) mixed (fun _=>false) [9] (by kernel_rfl) fun K hK=>?_|refine T.pN (id:=19) mixed (fun _=>false) [6,7] [1] 7 [2] (by kernel_rfl) fun K hK=>?_|refine T.r0 fun K hK=>?_|refine T.r1 fun K hK=>?_|refine T.ct rfl ?_|refine T.cf rfl ?_|refine T.seq ?_|refine T.block ?_
   ·refine ah.ob Tryz.func101 Tryz.ntmps101 rfl ?_;repeat' first|((first|refine ab (hK _ ?_)|refine aB (hK _ ?_)|refine bm (hK _ ?_));clear hK K)|((first|refine ae ?_|refine aG ?_|refine bF ?_|refine aa rfl (b2) ?_|refine aa rfl (b3) ?_|(refine aa ?_ (g1) ?_;(focus(solve|simp[h,an x,an y])))|(refine aa ?_ (g2) ?_;(focus(solve|simp[h,an x,an y]))));simp[h,an x,an y];(try(refine gen2 ?_ ?_<;>intro hq<;>try simp[h,an x,an y]at hq)))|(refine T.ret (az.aZ (Or.inr rfl) ?_)<;>simp[aE,Tryz.results101]<;>omega)|refine T.rd (id:=15) mixed (fun _=>false) [9] (by kernel_rfl) fun K hK=>?_|refine T.AS (id:=17) mixed (fun _=>false) [9] (by kernel_rfl) fun K hK=>?_|refine T.pN (id:=19) mixed (fun _=>false) [6,7] [1] 7 [2] (by kernel_rfl) fun K hK=>?_|refine T.r0 fun K hK=>?_|refine T.r1 fun K hK=>?_|refine T.ct rfl ?_|refine T.cf rfl ?_|refine T.seq ?_|refine T.block ?_
theorem EB (ls B B1 B2:List IT) (e:ak) (x y z:IT) (q1 q2:Bool) (h:e.kind=9) (g1:ah adz 136 [gC B ls,jk x,jk (.b 3)] [] (.aZ [gC B1 ls,.b q1]) [] []) (g2:q1=true->ah adz 136 [gC B1 ls,jk y,jk z] [] (.aZ [gC B2 ls,.b q2]) [] []):
  ah adz 101 [gC B ls,cE e,.l [nZ x,nZ y,nZ z]] [] (.aZ [gC (if q1 then B2 else B1) ls,jk y,.b (q1 && q2)]) [] []:=by
 have b2:=eo 2;have b3:=eo 3;cases q1 with
 |false=>
  clear g2;simp only[adN,if_false,adP];refine ah.ob Tryz.func101 Tryz.ntmps101 rfl ?_;repeat' first|((first|refine ab (hK _ ?_)|refine aB (hK _ ?_)|refine bm (hK _ ?_));clear hK K)|((first|refine ae ?_|refine aG ?_|refine bF ?_|refine aa rfl (b2) ?_|refine aa rfl (b3) ?_|(refine aa ?_ (g1) ?_;(focus(solve|simp[h,an x,an y,an z]))));simp[h,an x,an y,an z];(try(refine gen2 ?_ ?_<;>intro hq<;>try simp[h,an x,an y,an z]at hq)))|(refine T.ret (az.aZ (Or.inr rfl) ?_)<;>simp[aE,Tryz.results101]<;>omega)|refine T.rd (id:=22) mixed (fun _=>false) [9] (by kernel_rfl) fun K hK=>?_|refine T.pN (id:=25) mixed (fun _=>false) [8,9] [2,3] 9 [2] (by kernel_rfl) fun K hK=>?_|refine T.r0 fun K hK=>?_|refine T.r1 fun K hK=>?_|refine T.ct rfl ?_|refine T.cf rfl ?_|refine T.seq ?_|refine T.block ?_|refine T.skip ?_
 |true=>
  have g2:=g2 rfl;simp only[if_true,adO];cases q2
  ·refine ah.ob Tryz.func101 Tryz.ntmps101 rfl ?_;repeat' first|((first|refine ab (hK _ ?_)|refine aB (hK _ ?_)|refine bm (hK _ ?_));clear hK K)|((first|refine ae ?_|refine aG ?_|refine bF ?_|refine aa rfl (b2) ?_|refine aa rfl (b3) ?_|(refine aa ?_ (g1) ?_;(focus(solve|simp[h,an x,an y,an z])))|(refine aa ?_ (g2) ?_;(focus(solve|simp[h,an x,an y,an z]))));simp[h,an x,an y,an z];(try(refine gen2 ?_ ?_<;>intro hq<;>try simp[h,an x,an y,an z]at hq)))|(refine T.ret (az.aZ (Or.inr rfl) ?_)<;>simp[aE,Tryz.results101]<;>omega)|refine T.rd (id:=22) mixed (fun _=>false) [9] (by kernel_rfl) fun K hK=>?_|refine T.AS (id:=24) mixed (fun _=>false) [11] (by kernel_rfl) fun K hK=>?_|refine T.pN (id:=25) mixed (fun _=>false) [8,9] [2,3] 9 [2] (by kernel_rfl) fun K hK=>?_|refine T.r0 fun K hK=>?_|refine T.r1 fun K hK=>?_|refine T.ct rfl ?_|refine T.cf rfl ?_|refine T.seq ?_|refine T.block ?_
  ·refine ah.ob Tryz.func101 Tryz.ntmps101 rfl ?_;repeat' first|((first|refine ab (hK _ ?_)|refine aB (hK _ ?_)|refine bm (hK _ ?_));clear hK K)|((first|refine ae ?_|refine aG ?_|refine bF ?_|refine aa rfl (b2) ?_|refine aa rfl (b3) ?_|(refine aa ?_ (g1) ?_;(focus(solve|simp[h,an x,an y,an z])))|(refine aa ?_ (g2) ?_;(focus(solve|simp[h,an x,an y,an z]))));simp[h,an x,an y,an z];(try(refine gen2 ?_ ?_<;>intro hq<;>try simp[h,an x,an y,an z]at hq)))|(refine T.ret (az.aZ (Or.inr rfl) ?_)<;>simp[aE,Tryz.results101]<;>omega)|refine T.rd (id:=22) mixed (fun _=>false) [9] (by kernel_rfl) fun K hK=>?_|refine T.AS (id:=24) mixed (fun _=>false) [11] (by kernel_rfl) fun K hK=>?_|refine T.pN (id:=25) mixed (fun _=>false) [8,9] [2,3] 9 [2] (by kernel_rfl) fun K hK=>?_|refine T.r0 fun K hK=>?_|refine T.r1 fun K hK=>?_|refine T.ct rfl ?_|refine T.cf rfl ?_|refine T.seq ?_|refine T.block ?_
theorem Ik (ls B B1 B2 B3:List IT) (e:ak) (x y:IT) (n m:Nat) (q:Bool) (h:e.kind=6) (n1:ah adz 99 [gC B ls] [] (.aZ [gC B1 ls,jk (.v n)]) [] []) (n2:ah adz 99 [gC B1 ls] [] (.aZ [gC B2 ls,jk (.v m)]) [] [])
  (g1:ah adz 136 [gC B2 ls,jk x,jk (.p 4 y (.v n))] [] (.aZ [gC B3 ls,.b q]) [] []):ah adz 101 [gC B ls,cE e,.l [nZ x,nZ y]] [] (.aZ [gC B3 ls,jk (.v n),.b q]) [] []:=by
 have b2:=eo 2;have b3:=eo 3;have tw:=qa 4 y (.v n);cases q
 ·refine ah.ob Tryz.func101 Tryz.ntmps101 rfl ?_;repeat' first|((first|refine ab (hK _ ?_)|refine aB (hK _ ?_)|refine bm (hK _ ?_));clear hK K)|((first|refine ae ?_|refine aG ?_|refine bF ?_|refine aa rfl (b2) ?_|refine aa rfl (b3) ?_|refine aa rfl (n1) ?_|refine aa rfl (n2) ?_|(refine aa ?_ (tw) ?_;(focus(solve|simp[h,an x,an y])))|(refine aa ?_ (g1) ?_;(focus(solve|simp[h,an x,an y]))));simp[h,an x,an y];(try(refine gen2 ?_ ?_<;>intro hq<;>try simp[h,an x,an y]at hq)))|(refine T.ret (az.aZ (Or.inr rfl) ?_)<;>simp[aE,Tryz.results101]<;>omega)|refine T.rd (id:=29) mixed (fun _=>false) [13] (by kernel_rfl) fun K hK=>?_|refine T.pN (id:=30) mixed (fun _=>false) [3,4] [1] 4 [2] (by kernel_rfl) fun K hK=>?_|refine T.r0 fun K hK=>?_|refine T.r1 fun K hK=>?_|refine T.ct rfl ?_|refine T.cf rfl ?_|refine T.seq ?_|refine T.block ?_|refine T.skip ?_
 ·refine ah.ob Tryz.func101 Tryz.ntmps101 rfl ?_;repeat' first|((first|refine ab (hK _ ?_)|refine aB (hK _ ?_)|refine bm (hK _ ?_));clear hK K)|((first|refine ae ?_|refine aG ?_|refine bF ?_|refine aa rfl (b2) ?_|refine aa rfl (b3) ?_|refine aa rfl (n1) ?_|refine aa rfl (n2) ?_|(refine aa ?_ (tw) ?_;(focus(solve|simp[h,an x,an y])))|(refine aa ?_ (g1) ?_;(focus(solve|simp[h,an x,an y]))));simp[h,an x,an y];(try(refine gen2 ?_ ?_<;>intro hq<;>try simp[h,an x,an y]at hq)))|(refine T.ret (az.aZ (Or.inr rfl) ?_)<;>simp[aE,Tryz.results101]<;>omega)|refine T.rd (id:=29) mixed (fun _=>false) [13] (by kernel_rfl) fun K hK=>?_|refine T.pN (id:=30) mixed (fun _=>false) [3,4] [1] 4 [2] (by kernel_rfl) fun K hK=>?_|refine T.r0 fun K hK=>?_|refine T.r1 fun K hK=>?_|refine T.ct rfl ?_|refine T.cf rfl ?_|refine T.seq ?_|refine T.block ?_|refine T.skip ?_
theorem Il (ls B B1 B2 B3:List IT) (e:ak) (x:IT) (n m:Nat) (q:Bool) (h:e.kind=11\/e.kind=12) (n1:ah adz 99 [gC B ls] [] (.aZ [gC B1 ls,jk (.v n)]) [] []) (n2:ah adz 99 [gC B1 ls] [] (.aZ [gC B2 ls,jk (.v m)]) [] [])
  (g1:ah adz 136 [gC B2 ls,jk x,jk (.p 5 (.v n) (.v m))] [] (.aZ [gC B3 ls,.b q]) [] []):ah adz 101 [gC B ls,cE e,.l [nZ x]] [] (.aZ [gC B3 ls,jk (.v (if e.kind=12 then m else n)),.b q]) [] []:=by
 have b2:=eo 2;have b3:=eo 3;have tw:=qa 5 (.v n) (.v m);rcases h with h|h
 ·rw[if_neg (by omega)];cases q
  ·refine ah.ob Tryz.func101 Tryz.ntmps101 rfl ?_;repeat' first|((first|refine ab (hK _ ?_)|refine aB (hK _ ?_)|refine bm (hK _ ?_));clear hK K)|((first|refine ae ?_|refine aG ?_|refine bF ?_|refine aa rfl (b2) ?_|refine aa rfl (b3) ?_|refine aa rfl (n1) ?_|refine aa rfl (n2) ?_|(refine aa ?_ (tw) ?_;(focus(solve|simp[h,an x])))|(refine aa ?_ (g1) ?_;(focus(solve|simp[h,an x]))));simp[h,an x];(try(refine gen2 ?_ ?_<;>intro hq<;>try simp[h,an x]at hq)))|(refine T.ret (az.aZ (Or.inr rfl) ?_)<;>simp[aE,Tryz.results101]<;>omega)|refine T.rd (id:=31) mixed (fun _=>false) [11] (by kernel_rfl) fun K hK=>?_|refine T.pN (id:=34) mixed (fun _=>false) [3,4] [1] 4 [2] (by kernel_rfl) fun K hK=>?_|refine T.r0 fun K hK=>?_|refine T.r1 fun K hK=>?_|refine T.cf rfl ?_|refine T.seq ?_|refine T.block ?_|refine T.skip ?_
  ·refine ah.ob Tryz.func101 Tryz.ntmps101 rfl ?_;repeat' first|((first|refine ab (hK _ ?_)|refine aB (hK _ ?_)|refine bm (hK _ ?_));clear hK K)|((first|refine ae ?_|refine aG ?_|refine bF ?_|refine aa rfl (b2) ?_|refine aa rfl (b3) ?_|refine aa rfl (n1) ?_|refine aa rfl (n2) ?_|(refine aa ?_ (tw) ?_;(focus(solve|simp[h,an x])))|(refine aa ?_ (g1) ?_;(focus(solve|simp[h,an x]))));simp[h,an x];(try(refine gen2 ?_ ?_<;>intro hq<;>try simp[h,an x]at hq)))|(refine T.ret (az.aZ (Or.inr rfl) ?_)<;>simp[aE,Tryz.results101]<;>omega)|refine T.rd (id:=31) mixed (fun _=>false) [11] (by kernel_rfl) fun K hK=>?_|refine T.pN (id:=34) mixed (fun _=>false) [3,4] [1] 4 [2] (by kernel_rfl) fun K hK=>?_|refine T.r0 fun K hK=>?_|refine T.r1 fun K hK=>?_|refine T.cf rfl ?_|refine T.seq ?_|refine T.block ?_|refine T.skip ?_
 ·rw[if_pos h];cases q
  ·refine ah.ob Tryz.func101 Tryz.ntmps101 rfl ?_;repeat' first|((first|refine ab (hK _ ?_)|refine aB (hK _ ?_)|refine bm (hK _ ?_));clear hK K)|((first|refine ae ?_|refine aG ?_|refine bF ?_|refine aa rfl (b2) ?_|refine aa rfl (b3) ?_|refine aa rfl (n1) ?_|refine aa rfl (n2) ?_|(refine aa ?_ (tw) ?_;(focus(solve|simp[h,an x])))|(refine aa ?_ (g1) ?_;(focus(solve|simp[h,an x]))));simp[h,an x];(try(refine gen2 ?_ ?_<;>intro hq<;>try simp[h,an x]at hq)))|(refine T.ret (az.aZ (Or.inr rfl) ?_)<;>simp[aE,Tryz.results101]<;>omega)|refine T.rd (id:=31) mixed (fun _=>false) [11] (by kernel_rfl) fun K hK=>?_|refine T.pN (id:=33) mixed (fun _=>false) [3,4] [1] 4 [2] (by kernel_rfl) fun K hK=>?_|refine T.r0 fun K hK=>?_|refine T.r1 fun K hK=>?_|refine T.ct rfl ?_|refine T.cf rfl ?_|refine T.seq ?_|refine T.block ?_|refine T.skip ?_
  ·refine ah.ob Tryz.func101 Tryz.ntmps101 rfl ?_;repeat' first|((first|refine ab (hK _ ?_)|refine aB (hK _ ?_)|refine bm (hK _ ?_));clear hK K)|((first|refine ae ?_|refine aG ?_|refine bF ?_|refine aa rfl (b2) ?_|refine aa rfl (b3) ?_|refine aa rfl (n1) ?_|refine aa rfl (n2) ?_|(refine aa ?_ (tw) ?_;(focus(solve|simp[h,an x])))|(refine aa ?_ (g1) ?_;(focus(solve|simp[h,an x]))));simp[h,an x];(try(refine gen2 ?_ ?_<;>intro hq<;>try simp[h,an x]at hq)))|(refine T.ret (az.aZ (Or.inr rfl) ?_)<;>simp[aE,Tryz.results101]<;>omega)|refine T.rd (id:=31) mixed (fun _=>false) [11] (by kernel_rfl) fun K hK=>?_|refine T.pN (id:=33) mixed (fun _=>false) [3,4] [1] 4 [2] (by kernel_rfl) fun K hK=>?_|refine T.r0 fun K hK=>?_|refine T.r1 fun K hK=>?_|refine T.ct rfl ?_|refine T.cf rfl ?_|refine T.seq ?_|refine T.block ?_|refine T.skip ?_
end Go.Proofs.YtloolmchekcmeaaGreat
namespace Go.Proofs.YtloolmchekcmeaaGreat
attribute [-simp] Go.Av.bP Go.Av.eu Go.Av.eN Go.Av.eG Go.Av.b8 Go.Av.bN
open Go Go.Av
attribute [local irreducible] T ah TX EX LX dA dB bL b5 eK aF.kind aF.kids ak.kind ak.name ak.num ak.ty ak.fr ak.label ak.kids
attribute [local simp] aN au
set_option maxHeartbeats 16000000
set_option maxRecDepth 8000
attribute [local simp] adB
attribute [local irreducible] eT dC
theorem xA (s:List UInt8) (c:UInt8):dC s c=eT s c s.length:=by unfold dC;rfl
theorem Af (s:List UInt8) (c:UInt8):eT s c 0=-1:=by unfold eT;rfl
theorem Ag (s:List UInt8) (c:UInt8) (p:Nat):eT s c (p+1)=if s[p]? =some c then(p:Int)else eT s c p:=by rw[eT]
theorem Ah (s:List UInt8) (c:UInt8) (hs:s.length<=1099511627776):ah adz 98 [.s s,.s [c]] [] (.i (if 0<=dC s c then s.length-1-dC s c else-1)) [] []:=by
 obtain⟨R,hR⟩:∃R,dC s c=R:=⟨_,rfl⟩;rw[hR];rw[xA]at hR;refine ah.ob Tryz.func98 Tryz.ntmps98 rfl ?_;repeat' first|(refine ab (hK _ ?_);clear hK K)|(refine ae ?_;simp;(try simp(disch:=omega)only[wrap64]);(try(refine gen2 ?_ ?_<;>intro hq<;>try simp at hq)))|refine T.r0 fun K hK=>?_|refine T.seq ?_|refine T.block ?_
 refine T.dr (α:=Nat) [0,1] (fun p=>[(4,.i 0),(5,.i ((p:Int)-1))]) (fun _=>[]) (fun _=>[]) (fun _ A=>A) (fun p=>p) (fun p=>p<=s.length/\eT s c p=R) (by simp;rfl) (fun p hx=>?_) s.length ⟨by omega,hR⟩ (by simp) (by simp) (by simp(disch:=omega) [wrap64]);obtain⟨hp,he⟩:=hx;dsimp only;simp only[gI,adC,adD,adF,adE];cases p with
 |zero=>
  rw[Af]at he;subst he;repeat' first|(refine ab (hK _ ?_);clear hK K)|(refine ae ?_;simp;(try simp(disch:=omega)only[wrap64]);(try(refine gen2 ?_ ?_<;>intro hq<;>try simp at hq)))|(refine T.ret (az.data (Or.inr rfl) ?_ ?_)<;>simp[Tryz.results98]<;>omega)|refine T.r0 fun K hK=>?_|refine T.cf rfl ?_|refine T.seq ?_|refine T.exit ?_
 |succ p=>
  have ax:p<s.length:=by omega
  have x5:=E8 ax;obtain⟨x,hx⟩:=bz ax;have bg:s[p]=x:=by rw[adH ax]at hx;exact Option.some.inj hx
  rw[bg]at x5;rw[Ag,hx]at he;have oE:(0:Int)<=p:=by omega
  have Hu:((p+1:Nat):Int)-1=p:=by omega
  have Im:((p:Int)+1).toNat=p+1:=by omega
  have gF:(p:Int)<=p+1:=by omega
  have kn:(p:Int)+1<=s.length:=by omega
  rw[Hu];by_cases hc:x=c
  ·subst hc;rw[if_pos rfl]at he;rw[<-he];repeat' first|(refine ab (hK _ ?_);clear hK K)|(refine ae ?_;simp[ax,oE,Im,x5,kn];(try simp(disch:=omega)only[wrap64]);(try(refine gen2 ?_ ?_<;>intro hq<;>try simp[ax,oE,Im,x5,kn]at hq)))|(refine T.ret (az.data (Or.inr rfl) ?_ ?_)<;>simp[Tryz.results98,oE]<;>omega)|refine T.r0 fun K hK=>?_|(refine⟨by omega,?_⟩)|refine T.ct rfl ?_|refine T.seq ?_|refine T.block ?_|refine T.skip ?_
  ·rw[if_neg (by simpa using hc)]at he;repeat' first|(refine ab (hK _ ?_);clear hK K)|(refine ae ?_;simp[ax,oE,Im,x5,kn,hc];(try simp(disch:=omega)only[wrap64]);(try(refine gen2 ?_ ?_<;>intro hq<;>try simp[ax,oE,Im,x5,kn,hc]at hq)))|(refine⟨p,by dsimp only;omega,⟨by omega,he⟩,?_⟩;simp(disch:=omega) [wrap64])|refine T.r0 fun K hK=>?_|refine T.r1 fun K hK=>?_|(refine⟨by omega,?_⟩)|refine T.ct rfl ?_|refine T.cf rfl ?_|refine T.seq ?_|refine T.block ?_|refine T.skip ?_
theorem Dx (ls:List IT) (k:Nat) (e:ak) (B ts:List IT) (r:Option (List IT×IT)) (hO:zZ B) (nY:kE B) (hB:B.length<=1000000) (uy:∀u∈ts,sc B.length u=true) (kp:∀u∈ts,gJ u)
  (kX:((e.kind=2\/e.kind=3\/e.kind=4)/\ts=[])\/((e.kind=11\/e.kind=12)/\ts.length=1)\/((e.kind=6\/e.kind=7\/e.kind=8\/e.kind=10)/\ts.length=2)\/(e.kind=9/\ts.length=3)) (h:iI k e.kind B ts=some r):Ij ls B e ts r:=by
 have uc:∀{B2:List IT} {a b:IT} {B3:List IT} {q:Bool},zZ B2->kE B2->B2.length<=1048576->sc B2.length a=true->sc B2.length b=true->gJ a->gJ b->iU k B2 a b=some (B3,q)->ah adz 136 [gC B2 ls,jk a,jk b] [] (.aZ [gC B3 ls,.b q]) [] []:=
  fun h1 h2 h3 h4 h5 h6 h7 h8=>Cc ls k _ _ _ _ _ h1.sc h2 h3 h4 h5 h6 h7 h8
 have ubOk:∀{B2:List IT} {a b:IT} {B3:List IT},zZ B2->sc B2.length a=true->sc B2.length b=true->iU k B2 a b=some (B3,true)->zZ B3/\B3.length=B2.length:=fun h1 h2 h3 h4=>kD (k:=k) h1 h2 h3 (by simp[j0,h4])
 have two:∀(g:∀B1 B2:List IT,ah adz 99 [gC B ls] [] (.aZ [gC B1 ls,jk (.v B.length)]) [] []->ah adz 99 [gC B1 ls] [] (.aZ [gC B2 ls,jk (.v (B.length+1))]) [] []->B2=B++[.v B.length,.v (B.length+1)]->zZ B2->kE B2->B2.length=B.length+2->Ij ls B e ts r),Ij ls B e ts r:=by
  intro g;have n1:=tS B ls (by omega);have n2:=tS (B++[.v B.length]) ls (by simp;omega);rw[show(B++[IT.v B.length]).length=B.length+1 by simp]at n2;refine g _ _ n1 n2 (by simp) ?_ ?_ (by simp)
  ·rw[show B++[IT.v B.length]++[IT.v (B.length+1)]=B++[.v B.length,.v (B.length+1)] by simp];exact⟨(pr.two B).sc hO.sc,(pr.two B).y4 hO.sc hO.y4⟩
  ·refine(nY.app ?_).app ?_<;>intro u hu<;>simp at hu<;>subst hu<;>trivial
 rcases kX with⟨hk,rfl⟩|⟨hk,hl⟩|⟨hk,hl⟩|⟨hk,hl⟩
 ·have hr:r=some (B,.b (if e.kind=2 then 2 else 3)):=by
   rcases hk with h2|h2|h2<;>rw[h2]at h⊢<;>simp[iI]at h<;>exact h.symm
  subst hr;exact⟨B,_,true,FP ls B e hk,rfl,rfl,rfl⟩
 ·obtain⟨x,rfl⟩:=List.length_eq_one_iff.1 hl;refine two fun B1 B2 n1 n2 e2 o2 k2 l2=>?_
  have h5:¬e.kind=2:=by omega
  have h6:¬(e.kind=3\/e.kind=4):=by omega
  simp only[iI,if_neg h5,if_neg h6,if_pos hk,adA]at h;obtain⟨w,h,hr⟩:=h;rw[<-e2]at h;obtain⟨B3,q,hu,hw⟩:=jn h;have sx:=fc (show B.length<=B2.length by omega) (uy x (by simp));have g:=uc o2 k2 (by omega) sx (show sc B2.length (.p 5 (.v B.length) (.v (B.length+1)))=true by simp[sc];omega) (kp x (by simp)) (by simp[gJ]) hu;refine⟨B3,_,q,Il ls B B1 B2 B3 e x _ _ q hk n1 n2 g,?_⟩;rcases hw with⟨rfl,rfl⟩|⟨rfl,rfl⟩
  ·simp at hr;subst hr;exact⟨rfl,rfl,rfl⟩
  ·simp at hr;subst hr;rfl
 ·obtain⟨x,y,rfl⟩:=Rv hl;have h5:¬e.kind=2:=by omega
  have h6:¬(e.kind=3\/e.kind=4):=by omega
  have sx:=uy x (by simp);have sy:=uy y (by simp);have kx:=kp x (by simp);have ky:=kp y (by simp);by_cases cv:e.kind=10
  ·simp[iI,cv]at h;subst h;exact⟨B,_,true,FQ ls B e x y cv,rfl,rfl,rfl⟩
  by_cases RR:e.kind=6
  ·refine two fun B1 B2 n1 n2 e2 o2 k2 l2=>?_
   simp only[iI,if_neg h5,if_neg h6,if_neg cv,if_pos RR,adA]at h;obtain⟨w,h,hr⟩:=h;rw[<-e2]at h;obtain⟨B3,q,hu,hw⟩:=jn h;have sx2:=fc (show B.length<=B2.length by omega) sx;have sy2:=fc (show B.length<=B2.length by omega) sy;have g:=uc o2 k2 (by omega) sx2 (show sc B2.length (.p 4 y (.v B.length))=true by simp[sc,sy2];omega) kx (by simp[gJ,ky]) hu;refine⟨B3,_,q,Ik ls B B1 B2 B3 e x y _ _ q RR n1 n2 g,?_⟩;rcases hw with⟨rfl,rfl⟩|⟨rfl,rfl⟩
   ·simp at hr;subst hr;exact⟨rfl,rfl,rfl⟩
   ·simp at hr;subst hr;rfl
  ·have RS:e.kind=7\/e.kind=8:=by omega
   simp only[iI,if_neg h5,if_neg h6,if_neg cv,if_neg RR,if_pos RS]at h;obtain⟨w,Lq⟩:∃w,j0 k B x (.b 2)=w:=⟨_,rfl⟩;rw[Lq]at h;cases w with
   |none=>simp at h
   |some w=>
    obtain⟨B1,q1,Iy,HP⟩:=jn Lq;have g1:=uc hO nY (by omega) sx (show sc B.length (.b 2)=true from rfl) kx (by simp[gJ]) Iy;rcases HP with⟨rfl,rfl⟩|⟨rfl,rfl⟩
    ·simp only[adA]at h;obtain⟨w2,h,hr⟩:=h;obtain⟨B2,q2,Cl,oY⟩:=jn h;obtain⟨o1,l1⟩:=ubOk hO sx (show sc B.length (.b 2)=true from rfl) Iy;have k1:=l4 nY kx (show gJ (.b 2) by simp[gJ]) Iy;have g2:=uc o1 k1 (by omega) (by rw[l1];exact sy) (show sc B1.length (.b 2)=true from rfl) ky (show gJ (.b 2) by simp[gJ]) Cl;refine⟨_,_,_,EA ls B B1 B2 e x y true q2 RS g1 (fun _=>g2),?_⟩;rcases oY with⟨rfl,rfl⟩|⟨rfl,rfl⟩
     ·simp at hr;subst hr;exact⟨rfl,rfl,rfl⟩
     ·simp at hr;subst hr;rfl
    ·simp at h;subst h;exact⟨_,_,_,EA ls B B1 B1 e x y false false RS g1 (fun e=>by cases e),rfl⟩
 ·obtain⟨x,y,z,rfl⟩:=Rw hl;have h5:¬e.kind=2:=by omega
  have h6:¬(e.kind=3\/e.kind=4):=by omega
  simp only[iI,if_neg h5,if_neg h6,if_pos hk]at h;obtain⟨w,Lq⟩:∃w,j0 k B x (.b 3)=w:=⟨_,rfl⟩;rw[Lq]at h;cases w with
  |none=>simp at h
  |some w=>
   obtain⟨B1,q1,Iy,HP⟩:=jn Lq;have g1:=uc hO nY (by omega) (uy x (by simp)) (show sc B.length (.b 3)=true from rfl) (kp x (by simp)) (by simp[gJ]) Iy;rcases HP with⟨rfl,rfl⟩|⟨rfl,rfl⟩
   ·simp only[adA]at h;obtain⟨w2,h,hr⟩:=h;obtain⟨B2,q2,Cl,oY⟩:=jn h;obtain⟨o1,l1⟩:=ubOk hO (uy x (by simp)) (show sc B.length (.b 3)=true from rfl) Iy;have k1:=l4 nY (kp x (by simp)) (show gJ (.b 3) by simp[gJ]) Iy;have g2:=uc o1 k1 (by omega) (by rw[l1];exact uy y (by simp)) (by rw[l1];exact uy z (by simp)) (kp y (by simp)) (kp z (by simp)) Cl;refine⟨_,_,_,EB ls B B1 B2 e x y z true q2 hk g1 (fun _=>g2),?_⟩;rcases oY with⟨rfl,rfl⟩|⟨rfl,rfl⟩
    ·simp at hr;subst hr;exact⟨rfl,rfl,rfl⟩
    ·simp at hr;subst hr;rfl
   ·simp at h;subst h;exact⟨_,_,_,EB ls B B1 B1 e x y z false false hk g1 (fun e=>by cases e),rfl⟩
def xB (x:List IT×List IT×IT×Bool):Option (List IT×List IT×IT)->Prop
 |some r=>x.1=r.1/\x.2.1=r.2.1/\x.2.2.1=r.2.2/\x.2.2.2=true
 |none=>x.2.2.2=false
abbrev rr (ns:List UInt8) (ts:List IT) (e:ak) (B ls:List IT) (x:List IT×List IT×IT×Bool):Prop:=
 ah adz 42 [gC B ls,.s ns,.l (ts.map nZ),cE e] [] (.aZ [gC x.1 x.2.1,jk x.2.2.1,.b x.2.2.2]) [] []
def Ai (k:Nat) (ns:List UInt8) (ts:List IT) (e:ak) (B ls:List IT) (x:List IT×List IT×IT×Bool):Prop:=
 rr ns ts e B ls x/\∃r,inf k e B ls ns ts=some r/\xB x r
structure gG (ns:List UInt8) (ts:List IT) (B ls:List IT) (n t:Nat):Prop where
 ok:zZ B
 kd:kE B
 FR:kE ls
 ctx:Dm B ns ts
 len:B.length+2*n<=1000000
 FT:ls.length+t<=1000000
theorem gG.next {k:Nat} {ns:List UInt8} {ts B ls B' ls':List IT} {t:IT} {u:ak} {n m:Nat} (he:Ba u) (b6:kE ts) (h:gG ns ts B ls (aQ u+n) ((aK u).length+m)) (hi:inf k u B ls ns ts=some (some (B',ls',t))):gG ns ts B' ls' n m/\B.length<=B'.length/\sc B'.length t=true/\gJ t:=by
 have h1:=pw he h.ok h.ctx hi;obtain⟨h2,h3,h4⟩:=H3 he h.kd h.FR b6 hi;obtain⟨new,h5,h6,_⟩:=h1.OB;have:=h.len;have:=h.FT;have:=h1.len;exact⟨⟨h1.ok,h2,h3,h.ctx.le h1.le,by omega,by rw[h5,adL,h6];omega⟩,h1.le,h1.KK,h4⟩
def qL (X:ak->List IT->List IT->List IT×List IT×IT×Bool) (N:List IT->List IT->List IT->List IT×List IT×IT×Bool):List ak->List IT->List IT->List IT->List IT×List IT×IT×Bool
 |[],C,l,us=>N C l us
 |u::r,C,l,us=>if(X u C l).2.2.2=true then qL X N r (X u C l).1 (X u C l).2.1 (us++[(X u C l).2.2.1])else X u C l
def mD (k:Nat) (ns:List UInt8) (ts:List IT) (L:List ak) (C l us:List IT):Option (Option (List IT×List IT×List IT)):=match mB k L C l ns ts with
 |some (some r)=>some (some (r.1,r.2.1,us++r.2.2))
 |none=>none
 |some none=>some none
theorem nM {k:Nat} {ns:List UInt8} {ts:List IT} {u:ak} {L:List ak} {C l us:List IT}:mD k ns ts (u::L) C l us=match inf k u C l ns ts with
  |some (some r)=>mD k ns ts L r.1 r.2.1 (us++[r.2.2])
  |none=>none
  |some none=>some none:=by
 simp only[mD,mB];cases h:inf k u C l ns ts with
 |none=>rfl
 |some o=>
  cases o with
  |none=>rfl
  |some r=>
   obtain⟨a,b,c⟩:=r;simp only;cases h2:mB k L a b ns ts with
   |none=>rfl
   |some o2=>
    cases o2 with
    |none=>rfl
    |some r2=>obtain⟨d,e,f⟩:=r2;simp
structure Io (k:Nat) (ns:List UInt8) (ts:List IT) (e:ak) (L:List ak) (X:ak->List IT->List IT->List IT×List IT×IT×Bool) (N:List IT->List IT->List IT->List IT×List IT×IT×Bool) (OUT:List IT×List IT×IT×Bool) (R:Option (List IT×List IT×List IT)) (p:Nat) (C l us:List IT):Prop where
 le:p<=L.length
 ul:us.length=p
 cond:gG ns ts C l (bf (L.drop p)+1) (aC (L.drop p)).length
 IJ:∀u∈us,sc C.length u=true/\gJ u
 out:qL X N (L.drop p) C l us=OUT
 res:mD k ns ts (L.drop p) C l us=some R
set_option maxHeartbeats 1000000 in
theorem Dy (k:Nat) (ns:List UInt8) (ts:List IT) (e:ak) (L:List ak) (hL:e.kids=L) (PJ:L.length<=3) (h1:e.kind≠1) (h5:e.kind≠5) (b6:kE ts) (KR:∀u∈L,Ba u) (X:ak->List IT->List IT->List IT×List IT×IT×Bool) (N:List IT->List IT->List IT->List IT×List IT×IT×Bool) (B ls:List IT)
  (hX:∀u∈L,∀C l n m,gG ns ts C l (aQ u+n) ((aK u).length+m)->(∃r,inf k u C l ns ts=some r)->Ai k ns ts u C l (X u C l)) (R:Option (List IT×List IT×List IT))
  (hN:∀C l us,gG ns ts C l 1 0->us.length=L.length->(∀u∈us,sc C.length u=true/\gJ u)->R=some (C,l,us)->ah adz 101 [gC C l,cE e,.l (us.map nZ)] [] (.aZ [gC (N C l us).1 (N C l us).2.1,jk (N C l us).2.2.1,.b (N C l us).2.2.2]) [] [])
  (hI:Io k ns ts e L X N (qL X N L B ls []) R 0 B ls []):rr ns ts e B ls (qL X N L B ls []):=by
 generalize qL X N L B ls []=OUT at*;obtain⟨O1,O2,O3,O4⟩:=OUT;rw[rr];dsimp only;have RT:e.kids.length=L.length:=by rw[hL]
 refine ah.ob Tryz.func42 Tryz.ntmps42 rfl ?_;repeat' first|(refine ab (hK _ ?_);clear hK K)|(refine ae ?_;simp[h1,h5];(try(refine gen2 ?_ ?_<;>intro hq<;>try simp[h1,h5]at hq)))|refine T.rs (id:=11) (fun i=>i==0) fun K hK=>?_|refine T.rs (id:=0) (fun _=>false) fun K hK=>?_|refine T.rs (id:=1) (fun _=>false) fun K hK=>?_|refine T.rs (id:=6) (fun _=>false) fun K hK=>?_|refine T.rs (id:=12) (fun _=>false) fun K hK=>?_|refine T.cf rfl ?_|refine T.seq ?_|refine T.block ?_|refine T.skip ?_
 refine T.dr (α:=Nat×List IT×List IT×List IT×List (List CV)) [1,2,4,7,8,9] (fun x=>[(10,.b false),(16,.c (.own 0 x.1)),(17,.i x.1)]) (fun x=>[(0,[.d (.sl (x.2.1.map nZ)),.d (.sl (x.2.2.1.map nZ))])]) (fun x=>x.2.2.2.2) (fun x _=>[{sz:=3,dE:=72,rows:=x.2.2.2.1.map nZ,wr:=true}]) (fun x=>L.length+1-x.1) (fun x=>Io k ns ts e L X N (O1,O2,O3,O4) R x.1 x.2.1 x.2.2.1 x.2.2.2.1) (by simp;rfl) (fun x hx=>?_) (0,B,ls,[],[]) hI (by simp) (by simp) (by simp);obtain⟨p,C,l,us,G⟩:=x;dsimp only at hx⊢;simp only[gI,adC,adD,adF,adE,adG];have zn:=hx.ul;by_cases ax:p<L.length
 ·obtain⟨u,ht⟩:=bz ax;have eJ:u∈L:=adI ht;have bg:L[p]=u:=by rw[adH ax]at ht;exact Option.some.inj ht
  have iY:L.drop p=u::L.drop (p+1):=by rw[adJ ax,bg]
  have hb:=KR u eJ;have hc:=hx.cond;rw[iY]at hc;simp only[bf,aC,adL]at hc;have AD:gG ns ts C l (aQ u+(bf (L.drop (p+1))+1)) ((aK u).length+(aC (L.drop (p+1))).length):=⟨hc.ok,hc.kd,hc.FR,hc.ctx,by have:=hc.len;omega,hc.FT⟩;have ho:=hx.out;have hr:=hx.res;obtain⟨hA,r,hi,ha⟩:=hX u eJ C l _ _ AD (by
   rw[iY,nM]at hr;cases hz:inf k u C l ns ts with
   |none=>rw[hz]at hr;cases hr
   |some z=>exact⟨z,rfl⟩)
  rw[iY,qL]at ho;rw[iY,nM,hi]at hr;rw[rr]at hA;generalize X u C l=x at*;obtain⟨C',l',t,q⟩:=x;dsimp only at hA ho ha;have mJ:L.length=e.kids.length:=by rw[hL]
  have Cd:p<e.kids.length:=by omega
  have J0:e.kids[p]=u:=by simp only[hL];exact bg
  cases q with
  |false=>
   rw[if_neg (by simp)]at ho;simp only[Prod.mk.injEq]at ho;obtain⟨rfl,rfl,rfl,rfl⟩:=ho;clear hx hX hN hI hc AD hi hr ha;repeat' first|((first|refine ab (hK _ ?_)|refine bm (hK _ ?_));clear hK K)|((first|refine ae ?_|refine bF ?_|refine aa rfl (hA) ?_);simp[Cd,J0,au u];(try simp(disch:=omega)only[wrap64]);(try(refine gen2 ?_ ?_<;>intro hq<;>try simp[Cd,J0,au u]at hq)))|(refine T.ret (az.aZ (Or.inr rfl) ?_)<;>simp[aE,Tryz.results42]<;>omega)|(refine⟨?_,?_⟩;(focus(intros;refine aa rfl (hA) ?_;simp;done)))|refine T.Pm (id:=15) mixed (fun _=>false) [13,14,15,16] [0,4,6,7,8] 14 [2] 14 [0,4,6,7,8,13,14,15,16] _ (by kernel_rfl) rfl rfl rfl rfl vI rfl (by simp) fun K hK=>?_|refine T.pN (id:=17) mixed (fun _=>false) [2,3] [1] 3 [2] (by kernel_rfl) fun K hK=>?_|refine T.rs (id:=13) (fun _=>false) fun K hK=>?_|refine T.rs (id:=16) (fun _=>false) fun K hK=>?_|refine T.ct rfl ?_|refine T.seq ?_|refine T.block ?_|refine T.skip ?_
  |true=>
   rw[if_pos rfl]at ho;have hn:Io k ns ts e L X N (O1,O2,O3,O4) R (p+1) C' l' (us++[t]):=by
    cases r with
    |none=>simp[xB]at ha
    |some r=>
     obtain⟨r1,r2,r3⟩:=r;simp only[xB]at ha;obtain⟨rfl,rfl,rfl,_⟩:=ha;obtain⟨g1,g2,g3,g4⟩:=gG.next hb b6 AD hi;exact⟨by omega,by simp[zn],g1,fun v hv=>by
      rcases adK.1 hv with hv|hv
      ·exact⟨fc g2 (hx.IJ v hv).1,(hx.IJ v hv).2⟩
      ·simp at hv;subst hv;exact⟨g3,g4⟩,ho,hr⟩
   clear hX hN hI hc AD hi hr ha;repeat' first|((first|refine ab (hK _ ?_)|refine bm (hK _ ?_));clear hK K)|((first|refine ae ?_|refine bF ?_|refine aa rfl (hA) ?_);simp[Cd,J0,au u,zn];(try simp(disch:=omega)only[wrap64]);(try(refine gen2 ?_ ?_<;>intro hq<;>try simp[Cd,J0,au u,zn]at hq)))|(refine⟨by omega,by omega,?_⟩)|(refine⟨(p+1,C',l',us++[t],_),by dsimp only;omega,hn,rfl,?_,?_⟩<;>simp(disch:=omega) [wrap64,an t])|(refine⟨?_,?_⟩;(focus(intros;refine aa rfl (hA) ?_;simp;done)))|refine T.Pm (id:=15) mixed (fun _=>false) [13,14,15,16] [0,4,6,7,8] 14 [2] 14 [0,4,6,7,8,13,14,15,16] _ (by kernel_rfl) rfl rfl rfl rfl vI rfl (by simp) fun K hK=>?_|refine T.rs (id:=13) (fun _=>false) fun K hK=>?_|refine T.rs (id:=16) (fun _=>false) fun K hK=>?_|refine T.rs (id:=18) (fun _=>false) fun K hK=>?_|refine T.cw (id:=19) (fun _=>false) fun K hK=>?_|refine T.cw (id:=14) (fun _=>false) fun K hK=>?_|refine T.ct rfl ?_|refine T.cf rfl ?_|refine T.seq ?_|refine T.block ?_|refine T.skip ?_
 ·have eb:p=L.length:=by have:=hx.le;omega
  subst eb;have hc:=hx.cond;have ho:=hx.out;have hr:=hx.res;simp only[List.drop_length,bf,aC,List.length_nil]at hc ho hr;simp[mD,mB]at hr;have g:=hN C l us hc zn hx.IJ hr.symm;rw[qL]at ho;generalize N C l us=y at*;subst ho;dsimp only at g;have Cd:¬L.length<e.kids.length:=by omega
  clear hx hX hN hI hc hr;repeat' first|(refine ab (hK _ ?_);clear hK K)|((first|refine ae ?_|(refine aa ?_ (g) ?_;(focus(solve|simp[Cd,ax,RT,zn]))));simp[Cd,ax,RT,zn];(try(refine gen2 ?_ ?_<;>intro hq<;>try simp[Cd,ax,RT,zn]at hq)))|(refine T.ret (az.aZ (Or.inr rfl) ?_)<;>simp[aE,Tryz.results42]<;>omega)|refine T.rs (id:=13) (fun _=>false) fun K hK=>?_|refine T.rs (id:=20) (fun _=>false) fun K hK=>?_|refine T.cf rfl ?_|refine T.seq ?_|refine T.exit ?_
theorem FU (ns:List UInt8) (ts:List IT) (c:UInt8) (B ls:List IT) (hc:ts.length=ns.length) (hn:ns.length<=1000000):(0<=dC ns c->∃t,ts[(dC ns c).toNat]? =some t/\rr ns ts (u6 [c]) B ls (B,ls,t,true))/\(¬0<=dC ns c->rr ns ts (u6 [c]) B ls (B,ls,.v 0,false)):=by
 have hb:=nJ ns c ns.length;rw[<-xA]at hb;have k1:=Ah ns c (by omega);refine⟨fun h0=>?_,fun h0=>?_⟩
 ·rw[if_pos h0]at k1;obtain⟨j,hj⟩:∃j:Nat,dC ns c=j:=⟨(dC ns c).toNat,by omega⟩;rw[hj]at k1 hb⊢;have ax:j<ts.length:=by omega
  obtain⟨t,ht⟩:=bz ax;have eJ:t∈ts:=adI ht;have bg:ts[j]=t:=by rw[adH ax]at ht;exact Option.some.inj ht
  have iY:ts.drop j=t::ts.drop (j+1):=by rw[adJ ax,bg]
  refine⟨t,by simpa using ht,?_⟩;rw[rr];have qj:¬((ns.length:Int)-1-j<0):=by omega
  have DM:(ts.length:Int)-1-((ns.length:Int)-1-j)=j:=by omega
  refine ah.ob Tryz.func42 Tryz.ntmps42 rfl ?_;repeat' first|((first|refine ab (hK _ ?_)|refine bm (hK _ ?_));clear hK K)|((first|refine ae ?_|refine bF ?_|refine aa rfl (k1) ?_);simp[qj,DM,ax,bg,an t];(try simp(disch:=omega)only[wrap64]);(try(refine gen2 ?_ ?_<;>intro hq<;>try simp[qj,DM,ax,bg,an t]at hq)))|(refine T.ret (az.aZ (Or.inr rfl) ?_)<;>simp[aE,Tryz.results42]<;>omega)|refine T.pN (id:=5) mixed (fun _=>false) [9,10] [3,7,8] 10 [2] (by kernel_rfl) fun K hK=>?_|refine T.r0 fun K hK=>?_|refine T.ct rfl ?_|refine T.cf rfl ?_|refine T.seq ?_|refine T.skip ?_
 ·rw[if_neg h0]at k1;rw[rr];refine ah.ob Tryz.func42 Tryz.ntmps42 rfl ?_;repeat' first|(refine ab (hK _ ?_);clear hK K)|((first|refine ae ?_|refine aa rfl (k1) ?_);simp[jR];(try simp(disch:=omega)only[wrap64]);(try(refine gen2 ?_ ?_<;>intro hq<;>try simp[jR]at hq)))|(refine T.ret (az.aZ (Or.inr rfl) ?_)<;>simp[aE,Tryz.results42]<;>omega)|refine T.r0 fun K hK=>?_|refine T.ct rfl ?_|refine T.seq ?_
theorem FV (ns:List UInt8) (ts:List IT) (c:UInt8) (t:aF) (b:ak) (B B1 ls:List IT) (n:Nat) (hn:ns.length<=1000000) (b6:ts.length<=1000000) (wx:ls.length<=1000000) (n1:ah adz 99 [gC B ls] [] (.aZ [gC B1 ls,jk (.v n)]) [] []) (x:List IT×List IT×IT×Bool)
  (hb:rr (ns++[c]) (ts++[.v n]) b B1 (ls++[.v n]) x):rr ns ts (rY [c] t b) B ls (x.1,x.2.1,.p 4 (.v n) x.2.2.1,x.2.2.2):=by
 have x7:ns.length<=4611686018427387903:=by omega
 obtain⟨C,l,u,q⟩:=x;rw[rr]at hb⊢;dsimp only at hb⊢;have tw:=qa 4 (.v n) u;cases q
 ·refine ah.ob Tryz.func42 Tryz.ntmps42 rfl ?_;repeat' first|((first|refine ab (hK _ ?_)|refine aB (hK _ ?_)|refine bm (hK _ ?_));clear hK K)|((first|refine ae ?_|refine aG ?_|refine bF ?_|refine aa rfl (n1) ?_|(refine aa ?_ (hb) ?_;(focus(solve|simp[jR,au b,x7])))|(refine aa ?_ (tw) ?_;(focus(solve|simp[jR,au b,x7]))));simp[jR,au b,x7];(try simp(disch:=omega)only[wrap64,Ib]);(try(refine gen2 ?_ ?_<;>intro hq<;>try simp[jR,au b,x7]at hq)))|(refine⟨by omega,by omega,?_⟩)|(refine T.ret (az.aZ (Or.inr rfl) ?_)<;>simp[aE,Tryz.results42,jR]<;>omega)|refine T.pN (id:=8) mixed (fun i=>i==0) [0,3,6,8] [2,4,5] 4 [] (by kernel_rfl) fun K hK=>?_|refine T.Pm (id:=9) mixed (fun i=>i==5) [5,7,10,15,20,21,22] [0,3,8,9,12,13,14] 11 [] 20 [0,3,5,7,8,9,10,12,13,14,15,20,21,22] _ (by kernel_rfl) rfl rfl rfl rfl vI rfl (by simp) fun K hK=>?_|refine T.rd (id:=10) mixed (fun _=>false) [5,6] (by kernel_rfl) fun K hK=>?_|refine T.rs (id:=0) (fun _=>false) fun K hK=>?_|refine T.rs (id:=1) (fun _=>false) fun K hK=>?_|refine T.rs (id:=6) (fun _=>false) fun K hK=>?_|refine T.rs (id:=7) (fun _=>false) fun K hK=>?_|refine T.ct rfl ?_|refine T.cf rfl ?_|refine T.seq ?_|refine T.skip ?_
 ·refine ah.ob Tryz.func42 Tryz.ntmps42 rfl ?_;repeat' first|((first|refine ab (hK _ ?_)|refine aB (hK _ ?_)|refine bm (hK _ ?_));clear hK K)|((first|refine ae ?_|refine aG ?_|refine bF ?_|refine aa rfl (n1) ?_|(refine aa ?_ (hb) ?_;(focus(solve|simp[jR,au b,x7])))|(refine aa ?_ (tw) ?_;(focus(solve|simp[jR,au b,x7]))));simp[jR,au b,x7];(try simp(disch:=omega)only[wrap64,Ib]);(try(refine gen2 ?_ ?_<;>intro hq<;>try simp[jR,au b,x7]at hq)))|(refine⟨by omega,by omega,?_⟩)|(refine T.ret (az.aZ (Or.inr rfl) ?_)<;>simp[aE,Tryz.results42,jR]<;>omega)|refine T.pN (id:=8) mixed (fun i=>i==0) [0,3,6,8] [2,4,5] 4 [] (by kernel_rfl) fun K hK=>?_|refine T.Pm (id:=9) mixed (fun i=>i==5) [5,7,10,15,20,21,22] [0,3,8,9,12,13,14] 11 [] 20 [0,3,5,7,8,9,10,12,13,14,15,20,21,22] _ (by kernel_rfl) rfl rfl rfl rfl vI rfl (by simp) fun K hK=>?_|refine T.rd (id:=10) mixed (fun _=>false) [5,6] (by kernel_rfl) fun K hK=>?_|refine T.rs (id:=0) (fun _=>false) fun K hK=>?_|refine T.rs (id:=1) (fun _=>false) fun K hK=>?_|refine T.rs (id:=6) (fun _=>false) fun K hK=>?_|refine T.rs (id:=7) (fun _=>false) fun K hK=>?_|refine T.ct rfl ?_|refine T.cf rfl ?_|refine T.seq ?_|refine T.skip ?_
theorem Ce {k:Nat} {ns:List UInt8} {ts:List IT} {X:ak->List IT->List IT->List IT×List IT×IT×Bool} {N:List IT->List IT->List IT->List IT×List IT×IT×Bool} {R:Option (List IT×List IT×List IT)} {r:Option (List IT×List IT×IT)} {len:Nat} (b6:kE ts)
  (hN:∀C l us,gG ns ts C l 1 0->us.length=len->(∀u∈us,sc C.length u=true/\gJ u)->R=some (C,l,us)->xB (N C l us) r) (h0:R=none->r=none):∀(L:List ak) (C l us:List IT),gG ns ts C l (bf L+1) (aC L).length->us.length+L.length=len->(∀u∈us,sc C.length u=true/\gJ u)->(∀u∈L,Ba u)->
  (∀u∈L,∀C l n m,gG ns ts C l (aQ u+n) ((aK u).length+m)->(∃r,inf k u C l ns ts=some r)->Ai k ns ts u C l (X u C l))->mD k ns ts L C l us=some R->xB (qL X N L C l us) r
 |[],C,l,us,hc,hl,hs,_,_,hr=>by
  simp[mD,mB]at hr;rw[qL];exact hN C l us (by simpa[bf,aC]using hc) (by simpa using hl) hs hr.symm
 |u::L,C,l,us,hc,hl,hs,hB,hX,hr=>by
  simp only[bf,aC,adL]at hc;have AD:gG ns ts C l (aQ u+(bf L+1)) ((aK u).length+(aC L).length):=⟨hc.ok,hc.kd,hc.FR,hc.ctx,by have:=hc.len;omega,hc.FT⟩;rw[nM]at hr;obtain⟨_,q,hi,ha⟩:=hX u (by simp) C l _ _ AD (by
   cases hz:inf k u C l ns ts with
   |none=>rw[hz]at hr;cases hr
   |some z=>exact⟨z,rfl⟩)
  rw[hi]at hr;rw[qL];cases q with
  |none=>
   simp only[xB]at ha;rw[if_neg (by rw[ha];simp)];cases hr
   rw[h0 rfl];exact ha
  |some q=>
   obtain⟨q1,q2,q3⟩:=q;simp only[xB]at ha;obtain⟨e1,e2,e3,e4⟩:=ha;rw[if_pos e4,e1,e2,e3];obtain⟨g1,g2,g3,g4⟩:=gG.next (hB u (by simp)) b6 AD hi;exact Ce b6 hN h0 L q1 q2 (us++[q3]) g1 (by simp at hl⊢;omega) (fun v hv=>by
    rcases adK.1 hv with hv|hv
    ·exact⟨fc g2 (hs v hv).1,(hs v hv).2⟩
    ·simp at hv;subst hv;exact⟨g3,g4⟩) (fun v hv=>hB v (by simp[hv])) (fun v hv=>hX v (by simp[hv])) hr
open Classical in
theorem jo (k:Nat) (ns:List UInt8) (ts:List IT) (e:ak) (PJ:e.kids.length<=3) (h1:e.kind≠1) (h5:e.kind≠5) (b6:kE ts) (KR:∀u∈e.kids,Ba u)
  (kX:∀us:List IT,us.length=e.kids.length->((e.kind=2\/e.kind=3\/e.kind=4)/\us=[])\/((e.kind=11\/e.kind=12)/\us.length=1)\/((e.kind=6\/e.kind=7\/e.kind=8\/e.kind=10)/\us.length=2)\/(e.kind=9/\us.length=3))
  (ih:∀u∈e.kids,∀C l n m,gG ns ts C l (aQ u+n) ((aK u).length+m)->(∃r,inf k u C l ns ts=some r)->∃x,Ai k ns ts u C l x)
  (B ls:List IT) (hc:gG ns ts B ls (bf e.kids+1) (aC e.kids).length) (r:Option (List IT×List IT×IT)) (hr:inf k e B ls ns ts=some r):∃x,Ai k ns ts e B ls x:=by
 let X:ak->List IT->List IT->List IT×List IT×IT×Bool:=fun u C l=>if h:∃x,Ai k ns ts u C l x then h.choose else([],[],.v 0,false)
 have hX:∀u∈e.kids,∀C l n m,gG ns ts C l (aQ u+n) ((aK u).length+m)->(∃r,inf k u C l ns ts=some r)->Ai k ns ts u C l (X u C l):=fun u hu C l n m g1 g2=>by
  have h:=ih u hu C l n m g1 g2;show Ai k ns ts u C l (if h:∃x,Ai k ns ts u C l x then h.choose else([],[],.v 0,false));rw[dif_pos h];exact h.choose_spec
 let NP:List IT->List IT->List IT->(List IT×IT×Bool)->Prop:=fun C l us y=>ah adz 101 [gC C l,cE e,.l (us.map nZ)] [] (.aZ [gC y.1 l,jk y.2.1,.b y.2.2]) [] []/\∃rn,iI k e.kind C us=some rn/\OR y.1 y.2.1 y.2.2 rn
 let N:List IT->List IT->List IT->List IT×List IT×IT×Bool:=fun C l us=>if h:∃y,NP C l us y then(h.choose.1,l,h.choose.2.1,h.choose.2.2)else([],[],.v 0,false)
 obtain⟨R,hR,MT,xQ⟩:∃R,mB k e.kids B ls ns ts=some R/\(R=none->r=none)/\(∀C l us,R=some (C,l,us)->∃rn,iI k e.kind C us=some rn/\r=rn.map fun z=>(z.1,l,z.2)):=by
  cases e with
  |mk kd s n t f b L=>
   simp only[ak.cb]at h1 h5;rw[inf,if_neg h1]at hr;simp only[if_neg h5]at hr;simp only[ak.bD,ak.cb];cases hS:mB k L B ls ns ts with
   |none=>rw[hS]at hr;cases hr
   |some R=>
    rw[hS]at hr;refine⟨R,rfl,fun e=>?_,fun C l us e=>?_⟩
    ·subst e;simpa using hr.symm
    ·subst e;simp only[adA]at hr;obtain⟨rn,q1,q2⟩:=hr;exact⟨rn,q1,q2.symm⟩
 have dJ:mD k ns ts e.kids B ls []=some R:=by
  simp only[mD,hR];cases R with
  |none=>rfl
  |some z=>obtain⟨a,b,c⟩:=z;simp
 have Tk:∀C l us,gG ns ts C l 1 0->us.length=e.kids.length->(∀u∈us,sc C.length u=true/\gJ u)->R=some (C,l,us)->∃y,NP C l us y:=fun C l us g1 g2 g3 g4=>by
  obtain⟨rn,q1,_⟩:=xQ C l us g4;obtain⟨D,u,q,g5,g6⟩:=Dx l k e C us rn g1.ok g1.kd (by have:=g1.len;omega) (fun v hv=>(g3 v hv).1) (fun v hv=>(g3 v hv).2) (kX us g2) q1;exact⟨(D,u,q),g5,rn,q1,g6⟩
 have hw:=Dy k ns ts e e.kids rfl PJ h1 h5 b6 KR X N B ls hX R (fun C l us g1 g2 g3 g4=>by
  have h:=Tk C l us g1 g2 g3 g4;show ah _ _ _ _ (.aZ [gC (if h:∃y,NP C l us y then(h.choose.1,l,h.choose.2.1,h.choose.2.2)else([],[],.v 0,false)).1 (if h:∃y,NP C l us y then(h.choose.1,l,h.choose.2.1,h.choose.2.2)else([],[],.v 0,false)).2.1,jk (if h:∃y,NP C l us y then(h.choose.1,l,h.choose.2.1,h.choose.2.2)else([],[],.v 0,false)).2.2.1,.b (if h:∃y,NP C l us y then(h.choose.1,l,h.choose.2.1,h.choose.2.2)else([],[],.v 0,false)).2.2.2]) [] [];rw[dif_pos h];exact h.choose_spec.1) ⟨Nat.zero_le _,rfl,by simpa using hc,fun u hu=>(by cases hu),by simp,by simpa using dJ⟩
 refine⟨_,hw,r,hr,?_⟩;refine Ce (len:=e.kids.length) b6 (fun C l us g1 g2 g3 g4=>?_) MT e.kids B ls [] hc (by simp) (fun u hu=>(by cases hu)) KR hX dJ;have h:=Tk C l us g1 g2 g3 g4;obtain⟨rn,q1,q2⟩:=xQ C l us g4;obtain⟨_,rn',q3,q4⟩:=h.choose_spec;rw[q1]at q3;cases q3
 show xB (if h:∃y,NP C l us y then(h.choose.1,l,h.choose.2.1,h.choose.2.2)else([],[],.v 0,false)) r;rw[dif_pos h,q2];cases rn with
 |none=>exact q4
 |some z=>exact⟨q4.1,rfl,q4.2.1,q4.2.2⟩
theorem uM (k:Nat) {e:ak} (he:Ba e):∀(ns:List UInt8) (ts B ls:List IT) (n m:Nat),kE ts->ns.length+aQ e<=1000000->gG ns ts B ls (aQ e+n) ((aK e).length+m)->(∃r,inf k e B ls ns ts=some r)->∃x,Ai k ns ts e B ls x:=by
 induction he with
 |var c=>
  intro ns ts B ls n m b6 hn hc ⟨r,hr⟩;have h:=FU ns ts c B ls hc.ctx.len (by omega);rw[lR]at hr;by_cases h0:0<=dC ns c
  ·obtain⟨t,ht,hA⟩:=h.1 h0;rw[if_pos h0,ht]at hr;simp at hr;exact⟨_,hA,r,by rw[lR,if_pos h0,ht];simpa using hr,by subst hr;exact⟨rfl,rfl,rfl,rfl⟩⟩
  ·rw[if_neg h0]at hr;simp at hr;exact⟨_,h.2 h0,r,by rw[lR,if_neg h0];simpa using hr,by subst hr;rfl⟩
 |num z=>
  intro ns ts B ls n m b6 hn hc ⟨r,hr⟩;exact jo k ns ts _ (by simp) (by simp) (by simp) b6 (by simp) (fun us h=>.inl ⟨by simp,by simpa using h⟩) (by simp) B ls ⟨hc.ok,hc.kd,hc.FR,hc.ctx,by have:=hc.len;simp[bf,aQ]at this⊢;omega,by have:=hc.FT;simp[aC];omega⟩ r hr
 |vt=>
  intro ns ts B ls n m b6 hn hc ⟨r,hr⟩;exact jo k ns ts _ (by simp) (by simp) (by simp) b6 (by simp) (fun us h=>.inl ⟨by simp,by simpa using h⟩) (by simp) B ls ⟨hc.ok,hc.kd,hc.FR,hc.ctx,by have:=hc.len;simp[bf,aQ]at this⊢;omega,by have:=hc.FT;simp[aC];omega⟩ r hr
 |vu=>
  intro ns ts B ls n m b6 hn hc ⟨r,hr⟩;exact jo k ns ts _ (by simp) (by simp) (by simp) b6 (by simp) (fun us h=>.inl ⟨by simp,by simpa using h⟩) (by simp) B ls ⟨hc.ok,hc.kd,hc.FR,hc.ctx,by have:=hc.len;simp[bf,aQ]at this⊢;omega,by have:=hc.FT;simp[aC];omega⟩ r hr
 | @lam c t b hb ih=>
  intro ns ts B ls n m b6 hn hc ⟨r,hr⟩;rw[nL]at hr;simp only[adA]at hr;obtain⟨rb,MU,hr⟩:=hr;have Aw:aQ (rY [c] t b)=aQ b+1:=by simp[aQ,bf];omega
  rw[xn,Aw]at hc;have hl:=hc.len;have x8:=hc.FT;simp only[List.length_cons]at x8;have n1:=tS B ls (by omega);have Mg:∀n:Nat,kE [IT.v n]:=fun n u hu=>by simp at hu;subst hu;trivial
  obtain⟨x,hA,rb',q1,q2⟩:=ih (ns++[c]) (ts++[.v B.length]) (B++[.v B.length]) (ls++[.v B.length]) n m (b6.app (Mg _)) (by simp;omega) ⟨⟨(pr.one B).sc hc.ok.sc,(pr.one B).y4 hc.ok.sc hc.ok.y4⟩,hc.kd.app (Mg _),hc.FR.app (Mg _),⟨by simp[hc.ctx.len],fun u hu=>by
   rcases adK.1 hu with hu|hu
   ·exact fc (by simp) (hc.ctx.IJ u hu)
   ·simp at hu;subst hu;simp[sc]⟩,by simp;omega,by simp;omega⟩ ⟨rb,MU⟩
  rw[MU]at q1;cases q1
  refine⟨_,FV ns ts c t b B (B++[.v B.length]) ls B.length (by omega) (by rw[hc.ctx.len];omega) (by omega) n1 x hA,r,by rw[nL,MU];simpa using hr,?_⟩;subst hr;cases rb with
  |none=>exact q2
  |some z=>
   obtain⟨z1,z2,z3⟩:=z;simp only[xB]at q2;exact⟨q2.1,q2.2.1,by simp[q2.2.2.1],q2.2.2.2⟩
 | @n2 kd a b hk ha hb iha ihb=>
  intro ns ts B ls n m b6 hn hc ⟨r,hr⟩;have Aw:aQ (Cn kd a b)=aQ a+aQ b+1:=by simp[aQ,bf];omega
  refine jo k ns ts _ (by simp) (by simp;omega) (by simp;omega) b6 (fun u hu=>by simp at hu;rcases hu with rfl|rfl<;>assumption) (fun us h=>.inr (.inr (.inl ⟨by simpa using hk,by simpa using h⟩))) (fun u hu C l n' m' g1 g2=>?_) B ls ⟨hc.ok,hc.kd,hc.FR,hc.ctx,by have:=hc.len;simp[bf,aQ]at this⊢;omega,by have:=hc.FT;rw[y6 hk]at this;simp[aC]at this⊢;omega⟩ r hr;simp at hu;rcases hu with rfl|rfl
  ·exact iha ns ts C l n' m' b6 (by omega) g1 g2
  ·exact ihb ns ts C l n' m' b6 (by omega) g1 g2
 | @ite a b c ha hb vd iha ihb ihc=>
  intro ns ts B ls n m b6 hn hc ⟨r,hr⟩;have Aw:aQ (G9 a b c)=aQ a+aQ b+aQ c+1:=by simp[aQ,bf];omega
  refine jo k ns ts _ (by simp) (by simp) (by simp) b6 (fun u hu=>by simp at hu;rcases hu with rfl|rfl|rfl<;>assumption) (fun us h=>.inr (.inr (.inr ⟨by simp,by simpa using h⟩))) (fun u hu C l n' m' g1 g2=>?_) B ls ⟨hc.ok,hc.kd,hc.FR,hc.ctx,by have:=hc.len;simp[bf,aQ]at this⊢;omega,by have:=hc.FT;rw[y7]at this;simp[aC]at this⊢;omega⟩ r hr;simp at hu;rcases hu with rfl|rfl|rfl
  ·exact iha ns ts C l n' m' b6 (by omega) g1 g2
  ·exact ihb ns ts C l n' m' b6 (by omega) g1 g2
  ·exact ihc ns ts C l n' m' b6 (by omega) g1 g2
 | @n1 kd a hk ha ih=>
  intro ns ts B ls n m b6 hn hc ⟨r,hr⟩;have Aw:aQ (Gc kd a)=aQ a+1:=by simp[aQ,bf];omega
  refine jo k ns ts _ (by simp) (by simp;omega) (by simp;omega) b6 (fun u hu=>by simp at hu;subst hu;assumption) (fun us h=>.inr (.inl ⟨by simpa using hk,by simpa using h⟩)) (fun u hu C l n' m' g1 g2=>?_) B ls ⟨hc.ok,hc.kd,hc.FR,hc.ctx,by have:=hc.len;simp[bf,aQ]at this⊢;omega,by have:=hc.FT;rw[y5 hk]at this;simp[aC]at this⊢;omega⟩ r hr;simp at hu;subst hu;exact ih ns ts C l n' m' b6 (by omega) g1 g2
end Go.Proofs.YtloolmchekcmeaaGreat
namespace Go.Proofs.YtloolmchekcmeaaGreat
attribute [-simp] Go.Av.bP Go.Av.eu Go.Av.eN Go.Av.eG Go.Av.b8 Go.Av.bN
open Go Go.Av
attribute [local irreducible] T ah TX EX LX dA dB bL b5 eK aF.kind aF.kids ak.kind ak.name ak.num ak.ty ak.fr ak.label ak.kids
attribute [local simp] aN au
set_option maxHeartbeats 16000000
set_option maxRecDepth 8000
attribute [local simp] adB
theorem Aj {B:List IT} {K:Nat} (hK:Fuel B K) {t:IT} (ht:sc B.length t=true):∃j,ex B j t=true/\hd B j t=hd B K t:=by
 obtain⟨j,hj⟩:=rm hK ht;refine⟨j+K,nW (by omega) hj,?_⟩;cases t with
 |v n=>
  have hn:n<B.length:=by simpa[sc]using ht
  rw[gB (hK n hn) (show K<=j+K by omega)]
 |b c=>cases K<;>cases j<;>rfl
 |p c x y=>cases K<;>cases j<;>rfl
def Ak (f:IT->Option aF):List IT->Option (List aF)
 |[]=>some []
 |t::r=>match f t with
  |none=>none
  |some T=>(Ak f r).map (T::·)
theorem FW {B:List IT} {K d:Nat} {t u:IT} (hu:hd B K t=u) (hv:∀n,u≠.v n):eO B K (d+1) t=(Ak (eO B K d) u.kids).map (.mk u.kind):=by
 simp only[eO,hu];cases u with
 |v n=>exact absurd rfl (hv n)
 |b c=>rfl
 |p c x y=>
  simp only[IT.e8,IT.ey,Ak];cases eO B K d x with
  |none=>rfl
  |some X=>cases eO B K d y<;>rfl
theorem Al (B ls:List IT) (hS:sM B) (nY:kE B) (hB:B.length<=1048576) (K:Nat) (hK:Fuel B K):∀(d:Nat) (t:IT),d<=100->sc B.length t=true->gJ t->ah adz 68 [gC B ls,jk t,.i d] [] (.aZ (iC (eO B K d t))) [] []:=by
 intro d;induction d with
 |zero=>
  intro t _ ht hk;obtain⟨j,hx,hj⟩:=Aj hK ht;have h1:=lk B ls hS nY hB j t hx ht hk;rw[show eO B K 0 t=none by simp[eO],iC];refine ah.ob Tryz.func68 Tryz.ntmps68 rfl ?_;repeat' first|(refine ab (hK _ ?_);clear hK K)|((first|refine ae ?_|refine aa rfl (h1) ?_);simp;(try(refine gen2 ?_ ?_<;>intro hq<;>try simp at hq)))|(refine T.ret (az.aZ (Or.inr rfl) ?_)<;>simp[aE,Tryz.results68]<;>omega)|refine T.r0 fun K hK=>?_|refine T.ct rfl ?_|refine T.seq ?_
 |succ d ih=>
  intro t qQ ht hk;obtain⟨j,hx,hj⟩:=Aj hK ht;have h1:=lk B ls hS nY hB j t hx ht hk;rw[hj]at h1;have IM:=z8 hK ht;have Ez:=nX hS (k:=K) ht;have kn:=px nY (k:=K) hk;have fP:¬(d:Int)+1<1:=by omega
  have hi:=rZ;obtain⟨u,hu⟩:∃u,hd B K t=u:=⟨_,rfl⟩;rw[hu]at h1 IM Ez kn;by_cases hv:∃n,u=.v n
  ·obtain⟨n,rfl⟩:=hv;rw[show eO B K (d+1) t=some bp by simp[eO,hu],iC];refine ah.ob Tryz.func68 Tryz.ntmps68 rfl ?_;repeat' first|(refine ab (hK _ ?_);clear hK K)|((first|refine ae ?_|refine aa rfl (h1) ?_|refine aa rfl (hi) ?_);simp[fP];(try(refine gen2 ?_ ?_<;>intro hq<;>try simp[fP]at hq)))|(refine T.ret (az.aZ (Or.inr rfl) ?_)<;>simp[aE,Tryz.results68]<;>omega)|refine T.r0 fun K hK=>?_|refine T.ct rfl ?_|refine T.cf rfl ?_|refine T.seq ?_|refine T.skip ?_
  have OQ:∀n,u≠.v n:=fun n e=>hv ⟨n,e⟩
  have gx:=jl kn OQ;rw[FW hu OQ];have rA:u.kids.length<=2:=by cases u<;>simp
  have ov:∀w∈u.kids,ah adz 68 [gC B ls,jk w,.i d] [] (.aZ (iC (eO B K d w))) [] []:=fun w hw=>ih w (by omega) (Ab Ez w hw) (xr kn w hw)
  obtain⟨R,hR⟩:∃R,Ak (eO B K d) u.kids=R:=⟨_,rfl⟩;rw[hR];obtain⟨L,hL⟩:∃L,u.kids=L:=⟨_,rfl⟩;rw[hL]at hR ov rA;replace h1:ah adz 102 [gC B ls,jk t] [] (.agg [.d (.i u.kind),.d (.i u.name),.d (.sl (L.map nZ))]) [] []:=by rw[<-hL];exact h1
  have gE:(d:Int)+1-1=d:=by omega
  clear ih IM Ez kn hx hj;refine ah.ob Tryz.func68 Tryz.ntmps68 rfl ?_;repeat' first|(refine ab (hK _ ?_);clear hK K)|((first|refine ae ?_|refine aa rfl (h1) ?_);simp[fP,gx];(try(refine gen2 ?_ ?_<;>intro hq<;>try simp[fP,gx]at hq)))|refine T.r0 fun K hK=>?_|refine T.cf rfl ?_|refine T.seq ?_|refine T.block ?_|refine T.skip ?_
  refine T.dK 3 1 2 25 (row:=[.d (.i u.kind),.nil]) (by simp) (by simp) ?_;refine T.dr (α:=Nat×List aF×List (List CV)) [2,3,4,6,8] (fun x=>[(7,.b false),(9,.i x.1)]) (fun x=>[(3,[.d (.i u.kind),.own 0 x.1])]) (fun x=>x.2.2) (fun x _=>[{sz:=2,dE:=25,rows:=x.2.1.map b5,wr:=true}]) (fun x=>L.length+1-x.1) (fun x=>x.1<=L.length/\x.2.1.length=x.1/\(Ak (eO B K d) (L.drop x.1)).map (x.2.1++·)=R) (by simp;rfl) (fun x hx=>?_) (0,[],[]) ⟨by simp,rfl,by simp[hR]⟩ (by simp) (by simp) (by simp);obtain⟨p,ts,G⟩:=x;obtain⟨hx,hp,he⟩:=hx;dsimp only at hx hp he⊢;simp only[gI,adC,adD,adF,adE,adG];by_cases ax:p<L.length
  ·obtain⟨w,ht⟩:=bz ax;have eJ:w∈L:=adI ht;have bg:L[p]=w:=by rw[adH ax]at ht;exact Option.some.inj ht
   have iY:L.drop p=w::L.drop (p+1):=by rw[adJ ax,bg]
   have hw:=ov w eJ;rw[iY,Ak]at he;cases hb:eO B K d w with
   |none=>
    rw[hb]at he hw;simp at he;subst he;simp only[iC]at hw;simp only[Option.map_none,iC];repeat' first|((first|refine ab (hK _ ?_)|refine bm (hK _ ?_));clear hK K)|((first|refine ae ?_|refine bF ?_|refine aa rfl (hw) ?_);simp[ax,bg,an w,gE];(try simp(disch:=omega)only[wrap64]);(try(refine gen2 ?_ ?_<;>intro hq<;>try simp[ax,bg,an w,gE]at hq)))|(refine T.ret (az.aZ (Or.inr rfl) ?_)<;>simp[aE,Tryz.results68]<;>omega)|refine T.pN (id:=10) mixed (fun _=>false) [12,13] [0,2,4,5,8] 13 [] (by kernel_rfl) fun K hK=>?_|(refine⟨?_,?_⟩;(focus(intros;refine aa rfl (hw) ?_;simp;done)))|refine T.r0 fun K hK=>?_|refine T.ct rfl ?_|refine T.seq ?_|refine T.block ?_|refine T.skip ?_
   |some T1=>
    rw[hb]at he hw;simp only[iC]at hw;have U3:(Ak (eO B K d) (L.drop (p+1))).map ((ts++[T1])++·)=R:=by
     rw[<-he];cases Ak (eO B K d) (L.drop (p+1))<;>simp
    repeat' first|((first|refine ab (hK _ ?_)|refine bm (hK _ ?_));clear hK K)|((first|refine ae ?_|refine bF ?_|refine aa rfl (hw) ?_);simp[ax,bg,an w,gE,hp];(try simp(disch:=omega)only[wrap64]);(try(refine gen2 ?_ ?_<;>intro hq<;>try simp[ax,bg,an w,gE,hp]at hq)))|(refine⟨by omega,by omega,?_⟩)|refine T.pN (id:=10) mixed (fun _=>false) [12,13] [0,2,4,5,8] 13 [] (by kernel_rfl) fun K hK=>?_|(refine⟨?_,?_⟩;(focus(intros;refine aa rfl (hw) ?_;simp;done)))|refine T.r0 fun K hK=>?_|refine T.r1 fun K hK=>?_|refine T.ct rfl ?_|refine T.cf rfl ?_|refine T.seq ?_|refine T.block ?_|refine T.skip ?_
    refine⟨(p+1,ts++[T1],_),by dsimp only;omega,⟨by omega,by simp[hp],U3⟩,rfl,?_,?_⟩<;>simp(disch:=omega) [wrap64,aN T1]
  ·have eb:p=L.length:=by omega
   subst eb;simp[Ak]at he;subst he;simp only[Option.map_some,iC];have eR:¬ts.length<L.length:=by omega
   rw[<-hp];repeat' first|(refine ab (hK _ ?_);clear hK K)|(refine ae ?_;simp[eR];(try(refine gen2 ?_ ?_<;>intro hq<;>try simp[eR]at hq)))|(refine T.ret (az.aZ (Or.inr rfl) ?_)<;>simp[aE,Tryz.results68]<;>omega)|refine T.r0 fun K hK=>?_|refine T.cf rfl ?_|refine T.seq ?_|refine T.exit ?_
@[simp] theorem PK:td adz 21=some {ag:=false,sz:=1,kI:=4,zero:=some [.d (.int .i32 0)],el:=none,ar:=none,fl:=[],ik:=some .i32,cy:=false,l6:=false}:=dq (by kernel_rfl)
def VO (l:List Nat):List (List DV):=l.map fun(n:Nat)=>[DV.i n]
theorem ll {e:ak} (hv:aV e=true):Ba (mapM aO e)/\jY 14 12 (mapM aO e)/\aQ (mapM aO e)<=30/\(aK (mapM aO e)).length<=30:=by
 obtain⟨h1,h2⟩:=gi.1 hv;obtain⟨h3,_,h4⟩:=CT h1 (.inr rfl);have h5:=h3.types.2;exact⟨Ba.of h1,h3,by omega,by omega⟩
theorem tT (e:ak) (h1:aQ e<=30) (h2:(aK e).length<=30):gG [] [] [] [] (aQ e+0) ((aK e).length+0):=
 ⟨Aa,fun t h=>(by cases h),fun t h=>(by cases h),xq,by simp;omega,by simp;omega⟩
theorem Am {e:ak} (hv:aV e=true):(∃k B ls t,Whole (mapM aO e) k B ls t/\rr [] [] (mapM aO e) [] [] (B,ls,t,true))\/((∃k,inf k (mapM aO e) [] [] [] []=some none)/\∃B ls t,rr [] [] (mapM aO e) [] [] (B,ls,t,false)):=by
 obtain⟨hb,_,hn,ht⟩:=ll hv;rcases xt hb with⟨k,B,ls,t,hw⟩|⟨k,hk⟩
 ·obtain⟨x,hA,r,hr,ha⟩:=uM k hb [] [] [] [] 0 0 (fun t h=>(by cases h)) (by simp;omega) (tT _ hn ht) ⟨_,hw.inf⟩;rw[hw.inf]at hr;cases hr
  obtain⟨x1,x2,x3,x4⟩:=x;simp only[xB]at ha;obtain⟨rfl,rfl,rfl,rfl⟩:=ha;exact .inl ⟨k,_,_,_,hw,hA⟩
 ·obtain⟨x,hA,r,hr,ha⟩:=uM k hb [] [] [] [] 0 0 (fun t h=>(by cases h)) (by simp;omega) (tT _ hn ht) ⟨_,hk⟩;rw[hk]at hr;cases hr
  obtain⟨x1,x2,x3,x4⟩:=x;simp only[xB]at ha;subst ha;exact .inr ⟨⟨k,hk⟩,_,_,_,hA⟩
end Go.Proofs.YtloolmchekcmeaaGreat
