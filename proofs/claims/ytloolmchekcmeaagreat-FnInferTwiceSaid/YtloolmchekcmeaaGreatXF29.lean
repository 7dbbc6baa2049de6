/- A part. -/
import Derived.Test.YtloolmchekcmeaaGreatXF28
set_option linter.unusedVariables false
set_option linter.unusedSimpArgs false
open Go.Proofs.Tryz renaming prog->adj
open Option renaming map_eq_some_iff->adk,bind->adl
open List renaming set_cons_zero->adm,set_cons_succ->adn,nil_append->ado,cons_append->adp,append_nil->adq,getElem?_eq_getElem->adr,mem_of_getElem?->ads,drop_eq_getElem_cons->adt,mem_append->adu,length_append->adv
open Nat renaming le_of_lt->adw
open Bool renaming false_eq_true->adx,true_and->ady,false_and->adz,and_eq_true->adA
namespace Go.Proofs.YtloolmchekcmeaaGreat
attribute [-simp] Go.Av.ch Go.Av.eY Go.Av.fw Go.Av.fi Go.Av.cY Go.Av.cb
open Go Go.Av
attribute [local irreducible] T ah TX EX LX bC dk bV ck gp aI.kind aI.kids ao.kind ao.name ao.num ao.ty ao.fr ao.label ao.kids
attribute [local simp] aJ al
set_option maxHeartbeats 16000000
set_option maxRecDepth 8000
attribute [local simp] adl
@[simp] theorem vM:td adj 72=some {ag:=true,sz:=3,lR:=40,zero:=some [.d (.int .i64 0),.d (.int .i64 0),.nil],el:=none,ar:=none,fl:=[(0,1),(1,1),(2,1)],ik:=none,cS:=false,nC:=false}:=dR (by kernel_rfl)
@[simp] theorem Pj:td adj 68=some {ag:=false,sz:=1,lR:=24,zero:=some [.nil],el:=some 72,ar:=none,fl:=[],ik:=none,cS:=false,nC:=false}:=dR (by kernel_rfl)
@[simp] theorem P9:td adj 70=some {ag:=true,sz:=2,lR:=48,zero:=some [.nil,.nil],el:=none,ar:=none,fl:=[(0,1),(1,1)],ik:=none,cS:=false,nC:=false}:=dR (by kernel_rfl)
theorem eD (k:Int):ah adj 135 [.i k] [] (jP (.b k)) [] []:=by
 refine ah.ob Tryz.func135 Tryz.ntmps135 rfl ?_;repeat' first|(refine ab (hK _ ?_);clear hK K)|(refine ae ?_;simp;(try(refine gen2 ?_ ?_<;>intro hq<;>try simp at hq)))|(refine T.ret (aB.val (Or.inr rfl) ?_)<;>simp[aA,Tryz.results135,aq]<;>omega)|refine T.r0 fun K hK=>?_
theorem qp (k:Int) (x y:IT):ah adj 100 [.i k,jP x,jP y] [] (jP (.p k x y)) [] []:=by
 refine ah.ob Tryz.func100 Tryz.ntmps100 rfl ?_;repeat' first|(refine ab (hK _ ?_);clear hK K)|(refine ae ?_;simp;(try(refine gen2 ?_ ?_<;>intro hq<;>try simp at hq)))|(refine T.ret (aB.val (Or.inr rfl) ?_)<;>simp[aA,Tryz.results100,aq]<;>omega)|refine T.r0 fun K hK=>?_
theorem uh (B ls:List IT) (hB:B.length<=1048576):ah adj 99 [ie B ls] [] (.a8 [ie (B++[.v B.length]) ls,jP (.v B.length)]) [] []:=by
 refine ah.ob Tryz.func99 Tryz.ntmps99 rfl ?_;repeat' first|(refine ab (hK _ ?_);clear hK K)|(refine ae ?_;simp;(try(refine gen2 ?_ ?_<;>intro hq<;>try simp at hq)))|refine T.rs (id:=0) (fun _=>false) fun K hK=>?_|refine T.rs (id:=1) (fun _=>false) fun K hK=>?_|refine T.seq ?_
 refine T.LF 3 2 (row:=[.d (.i 0),.d (.i B.length),.nil]) (by simp) (by simp) ?_;simp;repeat' first|(refine bj (hK _ ?_);clear hK K)|(refine bB ?_;simp;(try(refine gen2 ?_ ?_<;>intro hq<;>try simp at hq)))|(refine⟨by omega,by omega,?_⟩)|(refine T.ret (aB.a8 (Or.inr rfl) ?_)<;>simp[aA,Tryz.results99,kD]<;>omega)|refine T.CS (id:=2) mixed (fun i=>i==0) [0,3,6,8] [2,4,5] 4 [1] (by kernel_rfl) fun K hK=>?_|refine T.mL (id:=3) mixed (fun _=>false) [2,3] [1] 3 [1] (by kernel_rfl) fun K hK=>?_
theorem lO (B ls:List IT) (hS:s8 B) (nG:kY B) (hB:B.length<=1048576) (k:Nat) (t:IT) (hx:ex B k t=true) (ht:sc B.length t=true) (hk:gU t):ah adj 102 [ie B ls,jP t] [] (jP (hd B k t)) [] []:=by
 obtain⟨R,hR⟩:∃R,hd B k t=R:=⟨_,rfl⟩;rw[hR];refine ah.ob Tryz.func102 Tryz.ntmps102 rfl ?_;repeat' first|(refine ab (hK _ ?_);clear hK K)|(refine ae ?_;simp;(try(refine gen2 ?_ ?_<;>intro hq<;>try simp at hq)))|refine T.r0 fun K hK=>?_|refine T.seq ?_|refine T.block ?_
 refine T.dD (α:=Nat×IT) [2,3,4] (fun x=>[]) (fun x=>[(1,(jP x.2).cells)]) (fun x=>[]) (fun x A=>A) (fun x=>x.1) (fun x=>ex B x.1 x.2=true/\sc B.length x.2=true/\gU x.2/\hd B x.1 x.2=R) (by simp;rfl) (fun x hx=>?_) (k,t) ⟨hx,ht,hk,hR⟩ (by simp) (by simp) (by simp);obtain⟨j,u⟩:=x;obtain⟨hx,hs,Sd,he⟩:=hx;dsimp only at hx hs Sd he⊢;simp only[gy,adm,adn,adp,ado,adq];cases u with
 |b c=>
  have gv:=jQ Sd (by simp);simp only[IT.gO]at gv;have hr:R=.b c:=by rw[<-he];cases j<;>rfl
  subst hr;repeat' first|((first|refine ab (hK _ ?_)|refine aD (hK _ ?_));clear hK K)|((first|refine ae ?_|refine aH ?_);simp[gv];(try(refine gen2 ?_ ?_<;>intro hq<;>try simp[gv]at hq)))|(refine T.ret (aB.val (Or.inr rfl) ?_)<;>simp[aA,Tryz.results102]<;>omega)|refine T.rd (id:=1) mixed (fun _=>false) [] (by kernel_rfl) fun K hK=>?_|refine T.r0 fun K hK=>?_|refine T.cf rfl ?_|refine T.seq ?_|refine T.exit ?_
 |p c a b=>
  have gv:=jQ Sd (by simp);simp only[IT.gl]at gv;have hr:R=.p c a b:=by rw[<-he];cases j<;>rfl
  subst hr;repeat' first|((first|refine ab (hK _ ?_)|refine aD (hK _ ?_));clear hK K)|((first|refine ae ?_|refine aH ?_);simp[gv];(try(refine gen2 ?_ ?_<;>intro hq<;>try simp[gv]at hq)))|(refine T.ret (aB.val (Or.inr rfl) ?_)<;>simp[aA,Tryz.results102]<;>omega)|refine T.rd (id:=1) mixed (fun _=>false) [] (by kernel_rfl) fun K hK=>?_|refine T.r0 fun K hK=>?_|refine T.cf rfl ?_|refine T.seq ?_|refine T.exit ?_
 |v m=>
  have ay:m<B.length:=by simpa[sc]using hs
  obtain⟨w,ht⟩:=bM ay;have eA:w∈B:=ads ht;have aX:B[m]=w:=by rw[adr ay]at ht;exact Option.some.inj ht
  have gz:B.drop m=w::B.drop (m+1):=by rw[adt ay,aX]
  cases hb:bd B m with
  |none=>
   have hw:w=.v m:=by have:=Kd ay hb;rw[ht]at this;exact Option.some.inj this
   subst hw;have hr:R=.v m:=by rw[<-he,EG hb]
   subst hr;repeat' first|((first|refine ab (hK _ ?_)|refine aD (hK _ ?_));clear hK K)|((first|refine ae ?_|refine aH ?_);simp[ay,aX,kD];(try(refine gen2 ?_ ?_<;>intro hq<;>try simp[ay,aX,kD]at hq)))|(refine T.ret (aB.val (Or.inr rfl) ?_)<;>simp[aA,Tryz.results102]<;>omega)|refine T.rd (id:=1) mixed (fun _=>false) [] (by kernel_rfl) fun K hK=>?_|refine T.r0 fun K hK=>?_|refine T.cf rfl ?_|refine T.seq ?_|refine T.exit ?_
  |some w'=>
   obtain⟨h1,h2⟩:=vI hb;have hw:w'=w:=by rw[ht]at h1;exact(Option.some.inj h1).symm
   subst hw;cases j with
   |zero=>simp[ex]at hx
   |succ j=>
    have j8:ex B j w'=true:=by simpa[ex,hb]using hx
    rw[EF hb]at he;have Cy:=EA hS hb;have ku:=Lb nG hb;cases w' with
    |v m2=>
     have di:¬(m2:Int)=m:=by intro e;exact h2 (by rw[show m2=m by omega])
     repeat' first|((first|refine ab (hK _ ?_)|refine aD (hK _ ?_));clear hK K)|((first|refine ae ?_|refine aH ?_);simp[ay,aX,di,kD];(try(refine gen2 ?_ ?_<;>intro hq<;>try simp[ay,aX,di,kD]at hq)))|(refine⟨(j,.v m2),by dsimp only;omega,⟨j8,Cy,ku,he⟩,rfl,?_,?_⟩<;>simp(disch:=omega))|refine T.rd (id:=1) mixed (fun _=>false) [] (by kernel_rfl) fun K hK=>?_|refine T.r1 fun K hK=>?_|refine T.ct rfl ?_|refine T.seq ?_|refine T.block ?_|refine T.skip ?_
    |b c=>
     have gv:=jQ ku (by simp);simp only[IT.gO]at gv;repeat' first|((first|refine ab (hK _ ?_)|refine aD (hK _ ?_));clear hK K)|((first|refine ae ?_|refine aH ?_);simp[ay,aX,gv,ED,EE];(try(refine gen2 ?_ ?_<;>intro hq<;>try simp[ay,aX,gv,ED,EE]at hq)))|(refine⟨(j,.b c),by dsimp only;omega,⟨j8,Cy,ku,he⟩,rfl,?_,?_⟩<;>simp(disch:=omega))|refine T.rd (id:=1) mixed (fun _=>false) [] (by kernel_rfl) fun K hK=>?_|refine T.r1 fun K hK=>?_|refine T.ct rfl ?_|refine T.seq ?_|refine T.block ?_|refine T.skip ?_
    |p c a b=>
     have gv:=jQ ku (by simp);simp only[IT.gl]at gv;repeat' first|((first|refine ab (hK _ ?_)|refine aD (hK _ ?_));clear hK K)|((first|refine ae ?_|refine aH ?_);simp[ay,aX,gv,ED,EE];(try(refine gen2 ?_ ?_<;>intro hq<;>try simp[ay,aX,gv,ED,EE]at hq)))|(refine⟨(j,.p c a b),by dsimp only;omega,⟨j8,Cy,ku,he⟩,rfl,?_,?_⟩<;>simp(disch:=omega))|refine T.rd (id:=1) mixed (fun _=>false) [] (by kernel_rfl) fun K hK=>?_|refine T.r1 fun K hK=>?_|refine T.ct rfl ?_|refine T.seq ?_|refine T.block ?_|refine T.skip ?_
theorem An (B ls:List IT) (hS:s8 B) (nG:kY B) (hB:B.length<=1048576) (n:Nat):∀(k:Nat) (t:IT),ex B k t=true->sc B.length t=true->gU t->ah adj 167 [ie B ls,.i n,jP t] [] (.b (ly B n k t)) [] []:=by
 intro k;induction k using Nat.strongRecOn with
 |_ k ih=>
  intro t hx ht hk;have h1:=lO B ls hS nG hB k t hx ht hk;have I8:=jy hx;have Cy:=oO hS (k:=k) ht;have ku:=oP nG (k:=k) hk;have j8:=kX hx;have AH:=fun c x y=>sO (c:=c) (x:=x) (y:=y) hx
  rw[<-DE hx];generalize hd B k t=u at*;have key:(∀n,u≠.v n)->(∀w∈u.kids,ah adj 167 [ie B ls,.i n,jP w] [] (.b (ly B n k w)) [] [])->ah adj 167 [ie B ls,.i n,jP t] [] (.b (ly B n k u)) [] []:=by
   intro Pk lF;have gv:=jQ ku Pk;rw[It j8 Pk];have uQ:u.kids.length<=2:=by cases u<;>simp
   clear ih AH I8 Cy ku j8;obtain⟨f,hf⟩:∃f,(fun w=>ly B n k w)=f:=⟨_,rfl⟩;replace lF:∀w∈u.kids,ah adj 167 [ie B ls,.i n,jP w] [] (.b (f w)) [] []:=fun w hw=>by rw[<-hf];exact lF w hw
   rw[hf];obtain⟨R,hR⟩:∃R,u.kids.any f=R:=⟨_,rfl⟩;rw[hR];obtain⟨L,hL⟩:∃L,u.kids=L:=⟨_,rfl⟩;rw[hL]at hR lF uQ;replace h1:ah adj 102 [ie B ls,jP t] [] (.agg [.d (.i u.kind),.d (.i u.name),.d (.sl (L.map oQ))]) [] []:=by rw[<-hL];exact h1
   refine ah.ob Tryz.func167 Tryz.ntmps167 rfl ?_;repeat' first|(refine ab (hK _ ?_);clear hK K)|((first|refine ae ?_|refine aa rfl (h1) ?_);simp[gv];(try(refine gen2 ?_ ?_<;>intro hq<;>try simp[gv]at hq)))|refine T.r0 fun K hK=>?_|refine T.cf rfl ?_|refine T.seq ?_|refine T.block ?_|refine T.skip ?_
   refine T.dD (α:=Nat) [1,3,5] (fun x=>[(6,.b false),(7,.i x)]) (fun x=>[]) (fun x=>[]) (fun x A=>A) (fun x=>L.length+1-x) (fun x=>x<=L.length/\(L.drop x).any f=R) (by simp;rfl) (fun p hx=>?_) 0 ⟨by simp,by simpa using hR⟩ (by simp) (by simp) (by simp);obtain⟨hx,he⟩:=hx;dsimp only at hx he⊢;simp only[gy,adm,adn,adp,ado,adq];by_cases ay:p<L.length
   ·obtain⟨w,ht⟩:=bM ay;have eA:w∈L:=ads ht;have aX:L[p]=w:=by rw[adr ay]at ht;exact Option.some.inj ht
    have gz:L.drop p=w::L.drop (p+1):=by rw[adt ay,aX]
    have hw:=lF w eA;rw[gz,List.any_cons]at he;cases hb:f w with
    |true=>
     rw[hb,Bool.true_or]at he;rw[hb]at hw;subst he;repeat' first|((first|refine ab (hK _ ?_)|refine aD (hK _ ?_));clear hK K)|((first|refine ae ?_|refine aH ?_|refine aa rfl (hw) ?_);simp[ay,aX,aq w];(try simp(disch:=omega)only[wrap64]);(try(refine gen2 ?_ ?_<;>intro hq<;>try simp[ay,aX,aq w]at hq)))|(refine T.ret (aB.data (Or.inr rfl) ?_ ?_)<;>simp[Tryz.results167]<;>omega)|refine T.rd (id:=7) mixed (fun _=>false) [] (by kernel_rfl) fun K hK=>?_|refine T.r0 fun K hK=>?_|refine T.ct rfl ?_|refine T.seq ?_|refine T.block ?_|refine T.skip ?_
    |false=>
     rw[hb,Bool.false_or]at he;rw[hb]at hw;repeat' first|((first|refine ab (hK _ ?_)|refine aD (hK _ ?_));clear hK K)|((first|refine ae ?_|refine aH ?_|refine aa rfl (hw) ?_);simp[ay,aX,aq w];(try simp(disch:=omega)only[wrap64]);(try(refine gen2 ?_ ?_<;>intro hq<;>try simp[ay,aX,aq w]at hq)))|(refine⟨p+1,by dsimp only;omega,⟨by omega,he⟩,?_,?_,?_⟩<;>simp(disch:=omega) [wrap64])|refine T.rd (id:=7) mixed (fun _=>false) [] (by kernel_rfl) fun K hK=>?_|refine T.r0 fun K hK=>?_|refine T.r1 fun K hK=>?_|refine T.ct rfl ?_|refine T.cf rfl ?_|refine T.seq ?_|refine T.block ?_|refine T.skip ?_
   ·have fa:p=L.length:=by omega
    subst fa;simp at he;subst he;repeat' first|(refine ab (hK _ ?_);clear hK K)|(refine ae ?_;simp[ay];(try(refine gen2 ?_ ?_<;>intro hq<;>try simp[ay]at hq)))|(refine T.ret (aB.data (Or.inr rfl) ?_ ?_)<;>simp[Tryz.results167]<;>omega)|refine T.r0 fun K hK=>?_|refine T.cf rfl ?_|refine T.seq ?_|refine T.exit ?_
  cases hu:u with
  |v m=>
   subst hu;have hb:=I8 m rfl;have ho:ly B n k (.v m)=decide (m=n):=by
    cases k with
    |zero=>simp[ex]at hx
    |succ k=>simp[ly,hb]
   rw[ho];have hc:decide ((m:Int)=n)=decide (m=n):=decide_eq_decide.2 (by omega);by_cases e:m=n
   ·subst e;refine ah.ob Tryz.func167 Tryz.ntmps167 rfl ?_;repeat' first|(refine ab (hK _ ?_);clear hK K)|((first|refine ae ?_|refine aa rfl (h1) ?_);simp;(try(refine gen2 ?_ ?_<;>intro hq<;>try simp at hq)))|(refine T.ret (aB.data (Or.inr rfl) ?_ ?_)<;>simp[Tryz.results167]<;>omega)|refine T.r0 fun K hK=>?_|refine T.ct rfl ?_|refine T.seq ?_
   ·have e':¬(m:Int)=n:=by omega
    refine ah.ob Tryz.func167 Tryz.ntmps167 rfl ?_;repeat' first|(refine ab (hK _ ?_);clear hK K)|((first|refine ae ?_|refine aa rfl (h1) ?_);simp[e,e'];(try(refine gen2 ?_ ?_<;>intro hq<;>try simp[e,e']at hq)))|(refine T.ret (aB.data (Or.inr rfl) ?_ ?_)<;>simp[Tryz.results167,e,e']<;>omega)|refine T.r0 fun K hK=>?_|refine T.ct rfl ?_|refine T.seq ?_
  |b c=>
   rw[<-hu];exact key (by rw[hu];simp) (by rw[hu];simp)
  |p c x y=>
   rw[<-hu];refine key (by rw[hu];simp) fun w hw=>?_
   obtain⟨j,hj,TI,TK⟩:=AH c x y hu;rw[hu,IT.iS]at hw;simp only[List.mem_cons,List.not_mem_nil,or_false]at hw;rcases hw with rfl|rfl
   ·have g1:=ih j hj w TI (Al Cy w (by simp[hu])) (xw ku w (by simp[hu]));rwa[<-eC TI (adw hj)]at g1
   ·have g2:=ih j hj w TK (Al Cy w (by simp[hu])) (xw ku w (by simp[hu]));rwa[<-eC TK (adw hj)]at g2
theorem DO (B ls:List IT) (hS:s8 B) (nG:kY B) (hB:B.length<=1048576) (n:Nat) (hn:n<B.length) (k:Nat) (t:IT) (hx:ex B k t=true) (ht:sc B.length t=true) (hk:gU t):ah adj 158 [ie B ls,.i n,jP t] [] (.a8 [ie (zl k B n t).1 ls,.b (zl k B n t).2]) [] []:=by
 have g:=An B ls hS nG hB n k t hx ht hk;obtain⟨q,hq⟩:∃q,ly B n k t=q:=⟨_,rfl⟩;rw[hq]at g;have bS:(B.map oQ).set n (oQ t)=(B.set n t).map oQ:=by rw[List.map_set]
 rw[aq t]at bS;by_cases hv:t=.v n
 ·subst hv;rw[zl,if_pos rfl];refine ah.ob Tryz.func158 Tryz.ntmps158 rfl ?_;repeat' first|(refine ab (hK _ ?_);clear hK K)|(refine ae ?_;simp;(try(refine gen2 ?_ ?_<;>intro hq<;>(try simp at hq)<;>try(have:True:=hq;clear this hq))))|(refine T.ret (aB.a8 (Or.inr rfl) ?_)<;>simp[aA,Tryz.results158]<;>omega)|refine T.r0 fun K hK=>?_|refine T.ct rfl ?_|refine T.seq ?_
 have zn:(t.kind=0/\(t.name:Int)≠n)\/t.kind≠0:=by
  cases t with
  |v m=>exact .inl ⟨rfl,fun e=>hv (by simp only[IT.lM]at e;rw[show m=n by omega])⟩
  |b c=>exact .inr (jQ hk (by simp))
  |p c x y=>exact .inr (jQ hk (by simp))
 rw[zl,if_neg hv,hq];clear hx ht hk hv;rcases zn with⟨h0,hm⟩|h0<;>cases q<;>simp only[if_true,adx,if_false]
 ·rw[h0]at bS;refine ah.ob Tryz.func158 Tryz.ntmps158 rfl ?_;repeat' first|(refine ab (hK _ ?_);clear hK K)|((first|refine ae ?_|(refine aa ?_ (g) ?_;(focus(solve|simp[h0,hm,hn,nk,bS]))));simp[h0,hm,hn,nk,bS];(try(refine gen2 ?_ ?_<;>intro hq<;>(try simp[h0,hm,hn,nk,bS]at hq)<;>try(have:True:=hq;clear this hq))))|(refine⟨by omega,by omega,?_⟩)|(refine T.ret (aB.a8 (Or.inr rfl) ?_)<;>simp[aA,Tryz.results158]<;>omega)|refine T.rs (id:=5) (fun i=>i==0) fun K hK=>?_|refine T.rs (id:=0) (fun _=>false) fun K hK=>?_|refine T.rs (id:=1) (fun _=>false) fun K hK=>?_|refine T.rs (id:=3) (fun _=>false) fun K hK=>?_|refine T.rs (id:=6) (fun _=>false) fun K hK=>?_|refine T.rs (id:=7) (fun _=>false) fun K hK=>?_|refine T.cf rfl ?_|refine T.seq ?_|refine T.skip ?_
 ·refine ah.ob Tryz.func158 Tryz.ntmps158 rfl ?_;repeat' first|(refine ab (hK _ ?_);clear hK K)|((first|refine ae ?_|(refine aa ?_ (g) ?_;(focus(solve|simp[h0,hm,hn]))));simp[h0,hm,hn];(try(refine gen2 ?_ ?_<;>intro hq<;>(try simp[h0,hm,hn]at hq)<;>try(have:True:=hq;clear this hq))))|(refine T.ret (aB.a8 (Or.inr rfl) ?_)<;>simp[aA,Tryz.results158]<;>omega)|refine T.r0 fun K hK=>?_|refine T.ct rfl ?_|refine T.cf rfl ?_|refine T.seq ?_|refine T.skip ?_
 ·refine ah.ob Tryz.func158 Tryz.ntmps158 rfl ?_;repeat' first|(refine ab (hK _ ?_);clear hK K)|((first|refine ae ?_|(refine aa ?_ (g) ?_;(focus(solve|simp[h0,hn,nk,bS]))));simp[h0,hn,nk,bS];(try(refine gen2 ?_ ?_<;>intro hq<;>(try simp[h0,hn,nk,bS]at hq)<;>try(have:True:=hq;clear this hq))))|(refine⟨by omega,by omega,?_⟩)|(refine T.ret (aB.a8 (Or.inr rfl) ?_)<;>simp[aA,Tryz.results158]<;>omega)|refine T.rs (id:=5) (fun i=>i==0) fun K hK=>?_|refine T.rs (id:=0) (fun _=>false) fun K hK=>?_|refine T.rs (id:=1) (fun _=>false) fun K hK=>?_|refine T.rs (id:=3) (fun _=>false) fun K hK=>?_|refine T.rs (id:=6) (fun _=>false) fun K hK=>?_|refine T.rs (id:=7) (fun _=>false) fun K hK=>?_|refine T.cf rfl ?_|refine T.seq ?_|refine T.skip ?_
 ·refine ah.ob Tryz.func158 Tryz.ntmps158 rfl ?_;repeat' first|(refine ab (hK _ ?_);clear hK K)|((first|refine ae ?_|refine aa rfl (g) ?_);simp[h0,hn];(try(refine gen2 ?_ ?_<;>intro hq<;>(try simp[h0,hn]at hq)<;>try(have:True:=hq;clear this hq))))|(refine T.ret (aB.a8 (Or.inr rfl) ?_)<;>simp[aA,Tryz.results158]<;>omega)|refine T.r0 fun K hK=>?_|refine T.ct rfl ?_|refine T.cf rfl ?_|refine T.seq ?_|refine T.skip ?_
theorem Cj (ls:List IT):∀(k:Nat) (B:List IT) (a b:IT) (B':List IT) (q:Bool),s8 B->kY B->B.length<=1048576->sc B.length a=true->sc B.length b=true->gU a->gU b->jx k B a b=some (B',q)->ah adj 136 [ie B ls,jP a,jP b] [] (.a8 [ie B' ls,.b q]) [] []:=by
 intro k;induction k with
 |zero=>intro B a b B' q _ _ _ _ _ _ _ h;simp[jx]at h
 |succ k ih=>
  intro B a b B' q hS nG hB ha hb Fm M3 h;rw[jx]at h;split at h
  case isFalse=>simp at h
  rename_i hex;rw[adA]at hex;have h1:=lO B ls hS nG hB k a hex.1 ha Fm;have h2:=lO B ls hS nG hB k b hex.2 hb M3;have xa:=kX hex.1;have xb:=kX hex.2;have sa:=oO hS (k:=k) ha;have sb:=oO hS (k:=k) hb;have ka:=oP nG (k:=k) Fm;have kb:=oP nG (k:=k) M3;generalize hd B k a=u at*;generalize hd B k b=v at*;have Ko:∀n t,n<B.length->ex B k t=true->sc B.length t=true->gU t->(if t=.v n then some (B,true)else if ly B n k t=true then some (B,false)else some (B.set n t,true))=some (B',q)->ah adj 158 [ie B ls,.i n,jP t] [] (.a8 [ie B' ls,.b q]) [] []:=by
   intro n t hn hx hs hk he;have g:=DO B ls hS nG hB n hn k t hx hs hk;have:zl k B n t=(B',q):=by
    rw[zl];split at he
    ·rename_i e;rw[if_pos e];simpa using he
    ·rename_i e;rw[if_neg e];split at he
     ·rename_i e2;rw[if_pos e2];simpa using he
     ·rename_i e2;rw[if_neg e2];simpa using he
   rw[this]at g;exact g
  by_cases hu:u.kind=0
  ·obtain⟨n,rfl⟩:∃n,u=.v n:=by
    cases u with
    |v n=>exact⟨n,rfl⟩
    |b c=>exact absurd hu (jQ ka (by simp))
    |p c x y=>exact absurd hu (jQ ka (by simp))
   have g:=Ko n v (by simpa[sc]using sa) xb sb kb (by cases v<;>exact h);clear ih Ko h;refine ah.ob Tryz.func136 Tryz.ntmps136 rfl ?_;repeat' first|(refine ab (hK _ ?_);clear hK K)|((first|refine ae ?_|refine aa rfl (h1) ?_|refine aa rfl (h2) ?_|refine aa rfl (g) ?_);simp;(try(refine gen2 ?_ ?_<;>intro hq<;>(try simp at hq)<;>try(have:True:=hq;clear this hq))))|(refine T.ret (aB.a8 (Or.inr rfl) ?_)<;>simp[aA,Tryz.results136]<;>omega)|refine T.r0 fun K hK=>?_|refine T.ct rfl ?_|refine T.seq ?_
  have mY:∀n,u≠.v n:=fun n e=>hu (by rw[e];rfl)
  by_cases hv:v.kind=0
  ·obtain⟨n,rfl⟩:∃n,v=.v n:=by
    cases v with
    |v n=>exact⟨n,rfl⟩
    |b c=>exact absurd hv (jQ kb (by simp))
    |p c x y=>exact absurd hv (jQ kb (by simp))
   have g:=Ko n u (by simpa[sc]using sb) xa sa ka (by
    cases u with
    |v m=>exact absurd rfl (mY m)
    |b c=>rw[if_neg (by simp)];exact h
    |p c x y=>rw[if_neg (by simp)];exact h)
   clear ih Ko h;refine ah.ob Tryz.func136 Tryz.ntmps136 rfl ?_;repeat' first|(refine ab (hK _ ?_);clear hK K)|((first|refine ae ?_|refine aa rfl (h1) ?_|refine aa rfl (h2) ?_|refine aa rfl (g) ?_);simp[hu];(try(refine gen2 ?_ ?_<;>intro hq<;>(try simp[hu]at hq)<;>try(have:True:=hq;clear this hq))))|(refine T.ret (aB.a8 (Or.inr rfl) ?_)<;>simp[aA,Tryz.results136]<;>omega)|refine T.r0 fun K hK=>?_|refine T.ct rfl ?_|refine T.cf rfl ?_|refine T.seq ?_|refine T.skip ?_
  by_cases hk:u.kind=v.kind
  ·cases u with
   |v m=>exact absurd rfl (mY m)
   |b i=>
    cases v with
    |v m=>exact absurd rfl hv
    |p j x y=>
     exfalso
     simp only[IT.gO,IT.gl]at hk;simp only[gU]at ka kb;omega
    |b j=>
     simp only[IT.gO]at hk hu hv;subst hk;simp at h;obtain⟨rfl,rfl⟩:=h;clear ih Ko;refine ah.ob Tryz.func136 Tryz.ntmps136 rfl ?_;repeat' first|(refine ab (hK _ ?_);clear hK K)|((first|refine ae ?_|refine aa rfl (h1) ?_|refine aa rfl (h2) ?_);simp[hu];(try(refine gen2 ?_ ?_<;>intro hq<;>(try simp[hu]at hq)<;>try(have:True:=hq;clear this hq))))|refine T.r0 fun K hK=>?_|refine T.cf rfl ?_|refine T.seq ?_|refine T.block ?_|refine T.skip ?_
     refine T.dD (α:=Nat) [3,4,5,6,7] (fun x=>[(8,.b true),(9,.i 0)]) (fun x=>[]) (fun x=>[]) (fun x A=>A) (fun x=>1) (fun x=>True) (by simp;rfl) (fun x hx=>?_) 0 trivial (by simp) (by simp) (by simp);simp only[gy,adm,adn,adp,ado,adq];repeat' first|(refine ab (hK _ ?_);clear hK K)|(refine ae ?_;simp;(try(refine gen2 ?_ ?_<;>intro hq<;>(try simp at hq)<;>try(have:True:=hq;clear this hq))))|(refine T.ret (aB.a8 (Or.inr rfl) ?_)<;>simp[aA,Tryz.results136]<;>omega)|refine T.r0 fun K hK=>?_|refine T.cf rfl ?_|refine T.seq ?_|refine T.exit ?_
   |p i x y=>
    cases v with
    |v m=>exact absurd rfl hv
    |b j=>
     exfalso
     simp only[IT.gO,IT.gl]at hk;simp only[gU]at ka kb;omega
    |p j x' y'=>
     simp only[IT.gl]at hk hu hv;subst hk;simp only[if_true]at h;simp only[gU]at ka kb;simp only[sc,adA]at sa sb;obtain⟨r1,Mq⟩:∃r1,jx k B x x'=r1:=⟨_,rfl⟩;rw[Mq]at h;cases r1 with
     |none=>simp at h
     |some r1=>
      obtain⟨B1,q1⟩:=r1;obtain⟨s1,l1⟩:=xn hS sa.1 sb.1 Mq;have d1:=mD nG ka.2.1 kb.2.1 Mq;have g1:=ih B x x' B1 q1 hS nG hB sa.1 sb.1 ka.2.1 kb.2.1 Mq;have g2:q1=true->ah adj 136 [ie B1 ls,jP y,jP y'] [] (.a8 [ie B' ls,.b q]) [] []:=fun e=>by
       subst e;exact ih B1 y y' B' q s1 d1 (by omega) (by rw[l1];exact sa.2) (by rw[l1];exact sb.2) ka.2.2 kb.2.2 h
      have hf:q1=false->B'=B1/\q=false:=fun e=>by subst e;simp at h;exact⟨h.1.symm,h.2⟩
      clear ih Ko h Mq;refine ah.ob Tryz.func136 Tryz.ntmps136 rfl ?_;repeat' first|(refine ab (hK _ ?_);clear hK K)|((first|refine ae ?_|refine aa rfl (h1) ?_|refine aa rfl (h2) ?_);simp[hu,hv];(try(refine gen2 ?_ ?_<;>intro hq<;>(try simp[hu,hv]at hq)<;>try(have:True:=hq;clear this hq))))|refine T.r0 fun K hK=>?_|refine T.cf rfl ?_|refine T.seq ?_|refine T.block ?_|refine T.skip ?_
      refine T.dD (α:=Nat×List IT×Bool) [3,4,5,6,7] (fun x=>[(8,.b x.2.2),(9,.i x.1)]) (fun x=>[(0,[.d (.sl (x.2.1.map oQ)),.d (.sl (ls.map oQ))])]) (fun x=>[]) (fun x A=>A) (fun x=>3-x.1) (fun x=>(x.1=0/\x.2.1=B/\x.2.2=true)\/(x.1=1/\x.2.1=B1/\x.2.2=q1)\/(x.1=2/\x.2.1=B'/\x.2.2=q/\q1=true)) (by simp;rfl) (fun x hx=>?_) (0,B,true) (.inl ⟨rfl,rfl,rfl⟩) (by simp) (by simp) (by simp);obtain⟨p,C,ok⟩:=x;dsimp only at hx⊢;simp only[gy,adm,adn,adp,ado,adq];rcases hx with⟨rfl,rfl,rfl⟩|⟨rfl,rfl,rfl⟩|⟨rfl,rfl,rfl,hq⟩
      ·cases q1
       ·repeat' first|((first|refine ab (hK _ ?_)|refine aD (hK _ ?_));clear hK K)|((first|refine ae ?_|refine aH ?_|(refine aa ?_ (g1) ?_;(focus(solve|simp[aq x,aq x']))));simp[aq x,aq x'];(try simp(disch:=omega)only[wrap64]);(try(refine gen2 ?_ ?_<;>intro hq<;>(try simp[aq x,aq x']at hq)<;>try(have:True:=hq;clear this hq))))|refine T.yd (id:=11) mixed (fun _=>false) [15] (by kernel_rfl) fun K hK=>?_|refine T.r0 fun K hK=>?_|refine T.r1 fun K hK=>?_|refine T.ct rfl ?_|refine T.seq ?_|refine T.block ?_|refine T.skip ?_
        refine⟨(1,B1,false),by dsimp only;omega,Or.inr (Or.inl ⟨rfl,rfl,rfl⟩),?_,?_,?_⟩<;>simp(disch:=omega) [wrap64,aq x,aq x']
       ·repeat' first|((first|refine ab (hK _ ?_)|refine aD (hK _ ?_));clear hK K)|((first|refine ae ?_|refine aH ?_|(refine aa ?_ (g1) ?_;(focus(solve|simp[aq x,aq x']))));simp[aq x,aq x'];(try simp(disch:=omega)only[wrap64]);(try(refine gen2 ?_ ?_<;>intro hq<;>(try simp[aq x,aq x']at hq)<;>try(have:True:=hq;clear this hq))))|refine T.yd (id:=11) mixed (fun _=>false) [15] (by kernel_rfl) fun K hK=>?_|refine T.r0 fun K hK=>?_|refine T.r1 fun K hK=>?_|refine T.ct rfl ?_|refine T.seq ?_|refine T.block ?_|refine T.skip ?_
        refine⟨(1,B1,true),by dsimp only;omega,Or.inr (Or.inl ⟨rfl,rfl,rfl⟩),?_,?_,?_⟩<;>simp(disch:=omega) [wrap64,aq x,aq x']
      ·cases ok with
       |false=>
        obtain⟨rfl,rfl⟩:=hf rfl;repeat' first|(refine ab (hK _ ?_);clear hK K)|(refine ae ?_;simp;(try(refine gen2 ?_ ?_<;>intro hq<;>(try simp at hq)<;>try(have:True:=hq;clear this hq))))|(refine T.ret (aB.a8 (Or.inr rfl) ?_)<;>simp[aA,Tryz.results136]<;>omega)|refine T.r0 fun K hK=>?_|refine T.cf rfl ?_|refine T.seq ?_|refine T.exit ?_
       |true=>
        have g2:=g2 rfl;cases q
        ·repeat' first|((first|refine ab (hK _ ?_)|refine aD (hK _ ?_));clear hK K)|((first|refine ae ?_|refine aH ?_|(refine aa ?_ (g2) ?_;(focus(solve|simp[aq y,aq y']))));simp[aq y,aq y'];(try simp(disch:=omega)only[wrap64]);(try(refine gen2 ?_ ?_<;>intro hq<;>(try simp[aq y,aq y']at hq)<;>try(have:True:=hq;clear this hq))))|refine T.yd (id:=11) mixed (fun _=>false) [15] (by kernel_rfl) fun K hK=>?_|refine T.r0 fun K hK=>?_|refine T.r1 fun K hK=>?_|refine T.ct rfl ?_|refine T.seq ?_|refine T.block ?_|refine T.skip ?_
         refine⟨(2,B',false),by dsimp only;omega,Or.inr (Or.inr ⟨rfl,rfl,rfl,rfl⟩),?_,?_,?_⟩<;>simp(disch:=omega) [wrap64,aq y,aq y']
        ·repeat' first|((first|refine ab (hK _ ?_)|refine aD (hK _ ?_));clear hK K)|((first|refine ae ?_|refine aH ?_|(refine aa ?_ (g2) ?_;(focus(solve|simp[aq y,aq y']))));simp[aq y,aq y'];(try simp(disch:=omega)only[wrap64]);(try(refine gen2 ?_ ?_<;>intro hq<;>(try simp[aq y,aq y']at hq)<;>try(have:True:=hq;clear this hq))))|refine T.yd (id:=11) mixed (fun _=>false) [15] (by kernel_rfl) fun K hK=>?_|refine T.r0 fun K hK=>?_|refine T.r1 fun K hK=>?_|refine T.ct rfl ?_|refine T.seq ?_|refine T.block ?_|refine T.skip ?_
         refine⟨(2,B',true),by dsimp only;omega,Or.inr (Or.inr ⟨rfl,rfl,rfl,rfl⟩),?_,?_,?_⟩<;>simp(disch:=omega) [wrap64,aq y,aq y']
      ·subst hq;cases ok
       ·repeat' first|(refine ab (hK _ ?_);clear hK K)|(refine ae ?_;simp;(try(refine gen2 ?_ ?_<;>intro hq<;>(try simp at hq)<;>try(have:True:=hq;clear this hq))))|(refine T.ret (aB.a8 (Or.inr rfl) ?_)<;>simp[aA,Tryz.results136]<;>omega)|refine T.r0 fun K hK=>?_|refine T.cf rfl ?_|refine T.seq ?_|refine T.exit ?_
       ·repeat' first|(refine ab (hK _ ?_);clear hK K)|(refine ae ?_;simp;(try(refine gen2 ?_ ?_<;>intro hq<;>(try simp at hq)<;>try(have:True:=hq;clear this hq))))|(refine T.ret (aB.a8 (Or.inr rfl) ?_)<;>simp[aA,Tryz.results136]<;>omega)|refine T.r0 fun K hK=>?_|refine T.cf rfl ?_|refine T.seq ?_|refine T.exit ?_
  ·have hr:B'=B/\q=false:=by
    cases u with
    |v m=>exact absurd rfl (mY m)
    |b i=>
     cases v with
     |v m=>exact absurd rfl hv
     |b j=>simp only[IT.gO]at hk;simp[hk]at h;exact⟨h.1.symm,h.2⟩
     |p j x y=>simp at h;exact⟨h.1.symm,h.2⟩
    |p i x y=>
     cases v with
     |v m=>exact absurd rfl hv
     |b j=>simp at h;exact⟨h.1.symm,h.2⟩
     |p j x' y'=>simp only[IT.gl]at hk;simp[hk]at h;exact⟨h.1.symm,h.2⟩
   obtain⟨rfl,rfl⟩:=hr;have uQ:u.kids.length<=2:=by cases u<;>simp
   clear ih Ko h;refine ah.ob Tryz.func136 Tryz.ntmps136 rfl ?_;repeat' first|(refine ab (hK _ ?_);clear hK K)|((first|refine ae ?_|refine aa rfl (h1) ?_|refine aa rfl (h2) ?_);simp[hu,hv,hk];(try(refine gen2 ?_ ?_<;>intro hq<;>(try simp[hu,hv,hk]at hq)<;>try(have:True:=hq;clear this hq))))|refine T.r0 fun K hK=>?_|refine T.cf rfl ?_|refine T.seq ?_|refine T.block ?_|refine T.skip ?_
   refine T.dD (α:=Nat) [3,4,5,6,7] (fun x=>[(8,.b false),(9,.i 0)]) (fun x=>[]) (fun x=>[]) (fun x A=>A) (fun x=>1) (fun x=>True) (by simp;rfl) (fun x hx=>?_) 0 trivial (by simp) (by simp) (by simp);simp only[gy,adm,adn,adp,ado,adq];by_cases ay:(0:Int)<u.kids.length
   ·repeat' first|(refine ab (hK _ ?_);clear hK K)|(refine ae ?_;simp[ay];(try(refine gen2 ?_ ?_<;>intro hq<;>(try simp[ay]at hq)<;>try(have:True:=hq;clear this hq))))|(refine T.ret (aB.a8 (Or.inr rfl) ?_)<;>simp[aA,Tryz.results136]<;>omega)|refine T.r0 fun K hK=>?_|refine T.cf rfl ?_|refine T.seq ?_|refine T.exit ?_
   ·repeat' first|(refine ab (hK _ ?_);clear hK K)|(refine ae ?_;simp[ay];(try(refine gen2 ?_ ?_<;>intro hq<;>(try simp[ay]at hq)<;>try(have:True:=hq;clear this hq))))|(refine T.ret (aB.a8 (Or.inr rfl) ?_)<;>simp[aA,Tryz.results136]<;>omega)|refine T.r0 fun K hK=>?_|refine T.cf rfl ?_|refine T.seq ?_|refine T.exit ?_
theorem jS {k:Nat} {B:List IT} {a b:IT} {r:Option (List IT)} (h:kQ k B a b=some r):∃B2 q,jx k B a b=some (B2,q)/\(q=true/\r=some B2\/q=false/\r=none):=by
 rw[kQ]at h;split at h
 ·cases h
 ·rename_i B' e;cases h;exact⟨B',true,e,.inl ⟨rfl,rfl⟩⟩
 ·rename_i B' e;cases h;exact⟨B',false,e,.inr ⟨rfl,rfl⟩⟩
def Pl (C:List IT) (u:IT) (q:Bool):Option (List IT×IT)->Prop
 |some (B',t)=>C=B'/\u=t/\q=true
 |none=>q=false
abbrev IA (ls:List IT) (B:List IT) (e:ao) (ts:List IT) (r:Option (List IT×IT)):Prop:=
 ∃C u q,ah adj 101 [ie B ls,cM e,.l (ts.map oQ)] [] (.a8 [ie C ls,jP u,.b q]) [] []/\Pl C u q r
theorem F8 (ls B:List IT) (e:ao) (hk:e.kind=2\/e.kind=3\/e.kind=4):ah adj 101 [ie B ls,cM e,.l []] [] (.a8 [ie B ls,jP (.b (if e.kind=2 then 2 else 3)),.b true]) [] []:=by
 have b2:=eD 2;have b3:=eD 3;rcases hk with h|h|h
 ·rw[if_pos h];refine ah.ob Tryz.func101 Tryz.ntmps101 rfl ?_;repeat' first|((first|refine ab (hK _ ?_)|refine bj (hK _ ?_));clear hK K)|((first|refine ae ?_|refine bB ?_|refine aa rfl (b2) ?_|refine aa rfl (b3) ?_);simp[h];(try(refine gen2 ?_ ?_<;>intro hq<;>try simp[h]at hq)))|(refine T.ret (aB.a8 (Or.inr rfl) ?_)<;>simp[aA,Tryz.results101]<;>omega)|refine T.mL (id:=7) mixed (fun _=>false) [2,3] [1] 3 [2] (by kernel_rfl) fun K hK=>?_|refine T.r0 fun K hK=>?_|refine T.ct rfl ?_|refine T.seq ?_|refine T.block ?_
 ·rw[if_neg (by omega)];refine ah.ob Tryz.func101 Tryz.ntmps101 rfl ?_;repeat' first|((first|refine ab (hK _ ?_)|refine bj (hK _ ?_));clear hK K)|((first|refine ae ?_|refine bB ?_|refine aa rfl (b2) ?_|refine aa rfl (b3) ?_);simp[h];(try(refine gen2 ?_ ?_<;>intro hq<;>try simp[h]at hq)))|(refine T.ret (aB.a8 (Or.inr rfl) ?_)<;>simp[aA,Tryz.results101]<;>omega)|refine T.mL (id:=10) mixed (fun _=>false) [2,3] [1] 3 [2] (by kernel_rfl) fun K hK=>?_|refine T.r0 fun K hK=>?_|refine T.ct rfl ?_|refine T.cf rfl ?_|refine T.seq ?_|refine T.block ?_|refine T.skip ?_
 ·rw[if_neg (by omega)];refine ah.ob Tryz.func101 Tryz.ntmps101 rfl ?_;repeat' first|((first|refine ab (hK _ ?_)|refine bj (hK _ ?_));clear hK K)|((first|refine ae ?_|refine bB ?_|refine aa rfl (b2) ?_|refine aa rfl (b3) ?_);simp[h];(try(refine gen2 ?_ ?_<;>intro hq<;>try simp[h]at hq)))|(refine T.ret (aB.a8 (Or.inr rfl) ?_)<;>simp[aA,Tryz.results101]<;>omega)|refine T.mL (id:=10) mixed (fun _=>false) [2,3] [1] 3 [2] (by kernel_rfl) fun K hK=>?_|refine T.r0 fun K hK=>?_|refine T.r1 fun K hK=>?_|refine T.ct rfl ?_|refine T.cf rfl ?_|refine T.seq ?_|refine T.block ?_
theorem F9 (ls B:List IT) (e:ao) (x y:IT) (h:e.kind=10):ah adj 101 [ie B ls,cM e,.l [oQ x,oQ y]] [] (.a8 [ie B ls,jP (.p 5 x y),.b true]) [] []:=by
 have b2:=eD 2;have b3:=eD 3;have tw:=qp 5 x y;refine ah.ob Tryz.func101 Tryz.ntmps101 rfl ?_;repeat' first|((first|refine ab (hK _ ?_)|refine aD (hK _ ?_));clear hK K)|((first|refine ae ?_|refine aH ?_|refine aa rfl (b2) ?_|refine aa rfl (b3) ?_|(refine aa ?_ (tw) ?_;(focus(solve|simp[h,aq x,aq y]))));simp[h,aq x,aq y];(try(refine gen2 ?_ ?_<;>intro hq<;>try simp[h,aq x,aq y]at hq)))|(refine T.ret (aB.a8 (Or.inr rfl) ?_)<;>simp[aA,Tryz.results101,aq x,aq y]<;>omega)|refine T.rd (id:=12) mixed (fun _=>false) [8,9] (by kernel_rfl) fun K hK=>?_|refine T.r0 fun K hK=>?_|refine T.r1 fun K hK=>?_|refine T.ct rfl ?_|refine T.cf rfl ?_|refine T.seq ?_|refine T.block ?_
theorem EK (ls B B1 B2:List IT) (e:ao) (x y:IT) (q1 q2:Bool) (h:e.kind=7\/e.kind=8) (g1:ah adj 136 [ie B ls,jP x,jP (.b 2)] [] (.a8 [ie B1 ls,.b q1]) [] []) (g2:q1=true->ah adj 136 [ie B1 ls,jP y,jP (.b 2)] [] (.a8 [ie B2 ls,.b q2]) [] []):
  ah adj 101 [ie B ls,cM e,.l [oQ x,oQ y]] [] (.a8 [ie (if q1 then B2 else B1) ls,jP (.b (if e.kind=8 then 3 else 2)),.b (q1 && q2)]) [] []:=by
 have b2:=eD 2;have b3:=eD 3;cases q1 with
 |false=>
  clear g2;simp only[adx,if_false,adz];rcases h with h|h
  ·rw[if_neg (by omega)];refine ah.ob Tryz.func101 Tryz.ntmps101 rfl ?_;repeat' first|((first|refine ab (hK _ ?_)|refine aD (hK _ ?_)|refine bj (hK _ ?_));clear hK K)|((first|refine ae ?_|refine aH ?_|refine bB ?_|refine aa rfl (b2) ?_|refine aa rfl (b3) ?_|(refine aa ?_ (g1) ?_;(focus(solve|simp[h,aq x,aq y]))));simp[h,aq x,aq y];(try(refine gen2 ?_ ?_<;>intro hq<;>try simp[h,aq x,aq y]at hq)))|(refine T.ret (aB.a8 (Or.inr rfl) ?_)<;>simp[aA,Tryz.results101]<;>omega)|refine T.rd (id:=15) mixed (fun _=>false) [9] (by kernel_rfl) fun K hK=>?_|refine T.mL (id:=20) mixed (fun _=>false) [6,7] [1] 7 [2] (by kernel_rfl) fun K hK=>?_|refine T.r0 fun K hK=>?_|refine T.r1 fun K hK=>?_|refine T.ct rfl ?_|refine T.cf rfl ?_|refine T.seq ?_|refine T.block ?_|refine T.skip ?_
  ·rw[if_pos h];refine ah.ob Tryz.func101 Tryz.ntmps101 rfl ?_;repeat' first|((first|refine ab (hK _ ?_)|refine aD (hK _ ?_)|refine bj (hK _ ?_));clear hK K)|((first|refine ae ?_|refine aH ?_|refine bB ?_|refine aa rfl (b2) ?_|refine aa rfl (b3) ?_|(refine aa ?_ (g1) ?_;(focus(solve|simp[h,aq x,aq y]))));simp[h,aq x,aq y];(try(refine gen2 ?_ ?_<;>intro hq<;>try simp[h,aq x,aq y]at hq)))|(refine T.ret (aB.a8 (Or.inr rfl) ?_)<;>simp[aA,Tryz.results101]<;>omega)|refine T.rd (id:=15) mixed (fun _=>false) [9] (by kernel_rfl) fun K hK=>?_|refine T.mL (id:=19) mixed (fun _=>false) [6,7] [1] 7 [2] (by kernel_rfl) fun K hK=>?_|refine T.r0 fun K hK=>?_|refine T.r1 fun K hK=>?_|refine T.ct rfl ?_|refine T.cf rfl ?_|refine T.seq ?_|refine T.block ?_|refine T.skip ?_
 |true=>
  have g2:=g2 rfl;simp only[if_true,ady];rcases h with h|h
  ·rw[if_neg (by omega)];cases q2
   ·refine ah.ob Tryz.func101 Tryz.ntmps101 rfl ?_;repeat' first|((first|refine ab (hK _ ?_)|refine aD (hK _ ?_)|refine bj (hK _ ?_));clear hK K)|((first|refine ae ?_|refine aH ?_|refine bB ?_|refine aa rfl (b2) ?_|refine aa rfl (b3) ?_|(refine aa ?_ (g1) ?_;(focus(solve|simp[h,aq x,aq y])))|(refine aa ?_ (g2) ?_;(focus(solve|simp[h,aq x,aq y]))));simp[h,aq x,aq y];(try(refine gen2 ?_ ?_<;>intro hq<;>try simp[h,aq x,aq y]at hq)))|(refine T.ret (aB.a8 (Or.inr rfl) ?_)<;>simp[aA,Tryz.results101]<;>omega)|refine T.rd (id:=15) mixed (fun _=>false) [9] (by kernel_rfl) fun K hK=>?_|refine T.yd (id:=17) mixed (fun _=>false) [9] (by kernel_rfl) fun K hK=>?_|refine T.mL (id:=20) mixed (fun _=>false) [6,7] [1] 7 [2] (by kernel_rfl) fun K hK=>?_|refine T.r0 fun K hK=>?_|refine T.r1 fun K hK=>?_|refine T.ct rfl ?_|refine T.cf rfl ?_|refine T.seq ?_|refine T.block ?_|refine T.skip ?_
   ·refine ah.ob Tryz.func101 Tryz.ntmps101 rfl ?_;repeat' first|((first|refine ab (hK _ ?_)|refine aD (hK _ ?_)|refine bj (hK _ ?_));clear hK K)|((first|refine ae ?_|refine aH ?_|refine bB ?_|refine aa rfl (b2) ?_|refine aa rfl (b3) ?_|(refine aa ?_ (g1) ?_;(focus(solve|simp[h,aq x,aq y])))|(refine aa ?_ (g2) ?_;(focus(solve|simp[h,aq x,aq y]))));simp[h,aq x,aq y];(try(refine gen2 ?_ ?_<;>intro hq<;>try simp[h,aq x,aq y]at hq)))|(refine T.ret (aB.a8 (Or.inr rfl) ?_)<;>simp[aA,Tryz.results101]<;>omega)|refine T.rd (id:=15) mixed (fun _=>false) [9] (by kernel_rfl) fun K hK=>?_|refine T.yd (id:=17) mixed (fun _=>false) [9] (by kernel_rfl) fun K hK=>?_|refine T.mL (id:=20) mixed (fun _=>false) [6,7] [1] 7 [2] (by kernel_rfl) fun K hK=>?_|refine T.r0 fun K hK=>?_|refine T.r1 fun K hK=>?_|refine T.ct rfl ?_|refine T.cf rfl ?_|refine T.seq ?_|refine T.block ?_|refine T.skip ?_
  ·rw[if_pos h];cases q2
   ·refine ah.ob Tryz.func101 Tryz.ntmps101 rfl ?_;repeat' first|((first|refine ab (hK _ ?_)|refine aD (hK _ ?_)|refine bj (hK _ ?_));clear hK K)|((first|refine ae ?_|refine aH ?_|refine bB ?_|refine aa rfl (b2) ?_|refine aa rfl (b3) ?_|(refine aa ?_ (g1) ?_;(focus(solve|simp[h,aq x,aq y])))|(refine aa ?_ (g2) ?_;(focus(solve|simp[h,aq x,aq y]))));simp[h,aq x,aq y];(try(refine gen2 ?_ ?_<;>intro hq<;>try simp[h,aq x,aq y]at hq)))|(refine T.ret (aB.a8 (Or.inr rfl) ?_)<;>simp[aA,Tryz.results101]<;>omega)|refine T.rd (id:=15) mixed (fun _=>false) [9] (by kernel_rfl) fun K hK=>?_|refine T.yd (id:=17) mixed (fun _=>false) [9] (by kernel_rfl) fun K hK=>?_|refine T.mL (id:=19) mixed (fun _=>false) [6,7] [1] 7 [2] (by kernel_rfl) fun K hK=>?_|refine T.r0 fun K hK=>?_|refine T.r1 fun K hK=>?_|refine T.ct rfl ?_|refine T.cf rfl ?_|refine T.seq ?_|refine T.block ?_
   ·refine ah.ob Tryz.func101 Tryz.ntmps101 rfl ?_;repeat' first|((first|refine ab (hK _ ?_)|refine aD (hK _ ?_)|refine bj (hK _ ?_));clear hK K)|((first|refine ae ?_|refine aH ?_|refine bB ?_|refine aa rfl (b2) ?_|refine aa rfl (b3) ?_|(refine aa ?_ (g1) ?_;(focus(solve|simp[h,aq x,aq y])))|(refine aa ?_ (g2) ?_;(focus(solve|simp[h,aq x,aq y]))));simp[h,aq x,aq y];(try(refine gen2 ?_ ?_<;>intro hq<;>try simp[h,aq x,aq y]at hq)))|(refine T.ret (aB.a8 (Or.inr rfl) ?_)<;>simp[aA,Tryz.results101]<;>omega)|refine T.rd (id:=15) mixed (fun _=>false) [9] (by kernel_rfl) fun K hK=>?_|refine T.yd (id:=17) mixed (fun _=>false) [9] (by kernel_rfl) fun K hK=>?_|refine T.mL (id:=19) mixed (fun _=>false) [6,7] [1] 7 [2] (by kernel_rfl) fun K hK=>?_|refine T.r0 fun K hK=>?_|refine T.r1 fun K hK=>?_|refine T.ct rfl ?_|refine T.cf rfl ?_|refine T.seq ?_|refine T.block ?_
theorem EL (ls B B1 B2:List IT) (e:ao) (x y z:IT) (q1 q2:Bool) (h:e.kind=9) (g1:ah adj 136 [ie B ls,jP x,jP (.b 3)] [] (.a8 [ie B1 ls,.b q1]) [] []) (g2:q1=true->ah adj 136 [ie B1 ls,jP y,jP z] [] (.a8 [ie B2 ls,.b q2]) [] []):
  ah adj 101 [ie B ls,cM e,.l [oQ x,oQ y,oQ z]] [] (.a8 [ie (if q1 then B2 else B1) ls,jP y,.b (q1 && q2)]) [] []:=by
 have b2:=eD 2;have b3:=eD 3;cases q1 with
 |false=>
  clear g2;simp only[adx,if_false,adz];refine ah.ob Tryz.func101 Tryz.ntmps101 rfl ?_;repeat' first|((first|refine ab (hK _ ?_)|refine aD (hK _ ?_)|refine bj (hK _ ?_));clear hK K)|((first|refine ae ?_|refine aH ?_|refine bB ?_|refine aa rfl (b2) ?_|refine aa rfl (b3) ?_|(refine aa ?_ (g1) ?_;(focus(solve|simp[h,aq x,aq y,aq z]))));simp[h,aq x,aq y,aq z];(try(refine gen2 ?_ ?_<;>intro hq<;>try simp[h,aq x,aq y,aq z]at hq)))|(refine T.ret (aB.a8 (Or.inr rfl) ?_)<;>simp[aA,Tryz.results101]<;>omega)|refine T.rd (id:=22) mixed (fun _=>false) [9] (by kernel_rfl) fun K hK=>?_|refine T.mL (id:=25) mixed (fun _=>false) [8,9] [2,3] 9 [2] (by kernel_rfl) fun K hK=>?_|refine T.r0 fun K hK=>?_|refine T.r1 fun K hK=>?_|refine T.ct rfl ?_|refine T.cf rfl ?_|refine T.seq ?_|refine T.block ?_|refine T.skip ?_
 |true=>
  have g2:=g2 rfl;simp only[if_true,ady];cases q2
  ·refine ah.ob Tryz.func101 Tryz.ntmps101 rfl ?_;repeat' first|((first|refine ab (hK _ ?_)|refine aD (hK _ ?_)|refine bj (hK _ ?_));clear hK K)|((first|refine ae ?_|refine aH ?_|refine bB ?_|refine aa rfl (b2) ?_|refine aa rfl (b3) ?_|(refine aa ?_ (g1) ?_;(focus(solve|simp[h,aq x,aq y,aq z])))|(refine aa ?_ (g2) ?_;(focus(solve|simp[h,aq x,aq y,aq z]))));simp[h,aq x,aq y,aq z];(try(refine gen2 ?_ ?_<;>intro hq<;>try simp[h,aq x,aq y,aq z]at hq)))|(refine T.ret (aB.a8 (Or.inr rfl) ?_)<;>simp[aA,Tryz.results101]<;>omega)|refine T.rd (id:=22) mixed (fun _=>false) [9] (by kernel_rfl) fun K hK=>?_|refine T.yd (id:=24) mixed (fun _=>false) [11] (by kernel_rfl) fun K hK=>?_|refine T.mL (id:=25) mixed (fun _=>false) [8,9] [2,3] 9 [2] (by kernel_rfl) fun K hK=>?_|refine T.r0 fun K hK=>?_|refine T.r1 fun K hK=>?_|refine T.ct rfl ?_|refine T.cf rfl ?_|refine T.seq ?_|refine T.block ?_
  ·refine ah.ob Tryz.func101 Tryz.ntmps101 rfl ?_;repeat' first|((first|refine ab (hK _ ?_)|refine aD (hK _ ?_)|refine bj (hK _ ?_));clear hK K)|((first|refine ae ?_|refine aH ?_|refine bB ?_|refine aa rfl (b2) ?_|refine aa rfl (b3) ?_|(refine aa ?_ (g1) ?_;(focus(solve|simp[h,aq x,aq y,aq z])))|(refine aa ?_ (g2) ?_;(focus(solve|simp[h,aq x,aq y,aq z]))));simp[h,aq x,aq y,aq z];(try(refine gen2 ?_ ?_<;>intro hq<;>try simp[h,aq x,aq y,aq z]at hq)))|(refine T.ret (aB.a8 (Or.inr rfl) ?_)<;>simp[aA,Tryz.results101]<;>omega)|refine T.rd (id:=22) mixed (fun _=>false) [9] (by kernel_rfl) fun K hK=>?_|refine T.yd (id:=24) mixed (fun _=>false) [11] (by kernel_rfl) fun K hK=>?_|refine T.mL (id:=25) mixed (fun _=>false) [8,9] [2,3] 9 [2] (by kernel_rfl) fun K hK=>?_|refine T.r0 fun K hK=>?_|refine T.r1 fun K hK=>?_|refine T.ct rfl ?_|refine T.cf rfl ?_|refine T.seq ?_|refine T.block ?_
theorem IB (ls B B1 B2 B3:List IT) (e:ao) (x y:IT) (n m:Nat) (q:Bool) (h:e.kind=6) (n1:ah adj 99 [ie B ls] [] (.a8 [ie B1 ls,jP (.v n)]) [] []) (n2:ah adj 99 [ie B1 ls] [] (.a8 [ie B2 ls,jP (.v m)]) [] [])
  (g1:ah adj 136 [ie B2 ls,jP x,jP (.p 4 y (.v n))] [] (.a8 [ie B3 ls,.b q]) [] []):ah adj 101 [ie B ls,cM e,.l [oQ x,oQ y]] [] (.a8 [ie B3 ls,jP (.v n),.b q]) [] []:=by
 have b2:=eD 2;have b3:=eD 3;have tw:=qp 4 y (.v n);cases q
 ·refine ah.ob Tryz.func101 Tryz.ntmps101 rfl ?_;repeat' first|((first|refine ab (hK _ ?_)|refine aD (hK _ ?_)|refine bj (hK _ ?_));clear hK K)|((first|refine ae ?_|refine aH ?_|refine bB ?_|refine aa rfl (b2) ?_|refine aa rfl (b3) ?_|refine aa rfl (n1) ?_|refine aa rfl (n2) ?_|(refine aa ?_ (tw) ?_;(focus(solve|simp[h,aq x,aq y])))|(refine aa ?_ (g1) ?_;(focus(solve|simp[h,aq x,aq y]))));simp[h,aq x,aq y];(try(refine gen2 ?_ ?_<;>intro hq<;>try simp[h,aq x,aq y]at hq)))|(refine T.ret (aB.a8 (Or.inr rfl) ?_)<;>simp[aA,Tryz.results101]<;>omega)|refine T.rd (id:=29) mixed (fun _=>false) [13] (by kernel_rfl) fun K hK=>?_|refine T.mL (id:=30) mixed (fun _=>false) [3,4] [1] 4 [2] (by kernel_rfl) fun K hK=>?_|refine T.r0 fun K hK=>?_|refine T.r1 fun K hK=>?_|refine T.ct rfl ?_|refine T.cf rfl ?_|refine T.seq ?_|refine T.block ?_|refine T.skip ?_
 ·refine ah.ob Tryz.func101 Tryz.ntmps101 rfl ?_;repeat' first|((first|refine ab (hK _ ?_)|refine aD (hK _ ?_)|refine bj (hK _ ?_));clear hK K)|((first|refine ae ?_|refine aH ?_|refine bB ?_|refine aa rfl (b2) ?_|refine aa rfl (b3) ?_|refine aa rfl (n1) ?_|refine aa rfl (n2) ?_|(refine aa ?_ (tw) ?_;(focus(solve|simp[h,aq x,aq y])))|(refine aa ?_ (g1) ?_;(focus(solve|simp[h,aq x,aq y]))));simp[h,aq x,aq y];(try(refine gen2 ?_ ?_<;>intro hq<;>try simp[h,aq x,aq y]at hq)))|(refine T.ret (aB.a8 (Or.inr rfl) ?_)<;>simp[aA,Tryz.results101]<;>omega)|refine T.rd (id:=29) mixed (fun _=>false) [13] (by kernel_rfl) fun K hK=>?_|refine T.mL (id:=30) mixed (fun _=>false) [3,4] [1] 4 [2] (by kernel_rfl) fun K hK=>?_|refine T.r0 fun K hK=>?_|refine T.r1 fun K hK=>?_|refine T.ct rfl ?_|refine T.cf rfl ?_|refine T.seq ?_|refine T.block ?_|refine T.skip ?_
theorem IC (ls B B1 B2 B3:List IT) (e:ao) (x:IT) (n m:Nat) (q:Bool) (h:e.kind=11\/e.kind=12) (n1:ah adj 99 [ie B ls] [] (.a8 [ie B1 ls,jP (.v n)]) [] []) (n2:ah adj 99 [ie B1 ls] [] (.a8 [ie B2 ls,jP (.v m)]) [] [])
  (g1:ah adj 136 [ie B2 ls,jP x,jP (.p 5 (.v n) (.v m))] [] (.a8 [ie B3 ls,.b q]) [] []):ah adj 101 [ie B ls,cM e,.l [oQ x]] [] (.a8 [ie B3 ls,jP (.v (if e.kind=12 then m else n)),.b q]) [] []:=by
 have b2:=eD 2;have b3:=eD 3;have tw:=qp 5 (.v n) (.v m);rcases h with h|h
 ·rw[if_neg (by omega)];cases q
  ·refine ah.ob Tryz.func101 Tryz.ntmps101 rfl ?_;repeat' first|((first|refine ab (hK _ ?_)|refine aD (hK _ ?_)|refine bj (hK _ ?_));clear hK K)|((first|refine ae ?_|refine aH ?_|refine bB ?_|refine aa rfl (b2) ?_|refine aa rfl (b3) ?_|refine aa rfl (n1) ?_|refine aa rfl (n2) ?_|(refine aa ?_ (tw) ?_;(focus(solve|simp[h,aq x])))|(refine aa ?_ (g1) ?_;(focus(solve|simp[h,aq x]))));simp[h,aq x];(try(refine gen2 ?_ ?_<;>intro hq<;>try simp[h,aq x]at hq)))|(refine T.ret (aB.a8 (Or.inr rfl) ?_)<;>simp[aA,Tryz.results101]<;>omega)|refine T.rd (id:=31) mixed (fun _=>false) [11] (by kernel_rfl) fun K hK=>?_|refine T.mL (id:=34) mixed (fun _=>false) [3,4] [1] 4 [2] (by kernel_rfl) fun K hK=>?_|refine T.r0 fun K hK=>?_|refine T.r1 fun K hK=>?_|refine T.cf rfl ?_|refine T.seq ?_|refine T.block ?_|refine T.skip ?_
  ·refine ah.ob Tryz.func101 Tryz.ntmps101 rfl ?_;repeat' first|((first|refine ab (hK _ ?_)|refine aD (hK _ ?_)|refine bj (hK _ ?_));clear hK K)|((first|refine ae ?_|refine aH ?_|refine bB ?_|refine aa rfl (b2) ?_|refine aa rfl (b3) ?_|refine aa rfl (n1) ?_|refine aa rfl (n2) ?_|(refine aa ?_ (tw) ?_;(focus(solve|simp[h,aq x])))|(refine aa ?_ (g1) ?_;(focus(solve|simp[h,aq x]))));simp[h,aq x];(try(refine gen2 ?_ ?_<;>intro hq<;>try simp[h,aq x]at hq)))|(refine T.ret (aB.a8 (Or.inr rfl) ?_)<;>simp[aA,Tryz.results101]<;>omega)|refine T.rd (id:=31) mixed (fun _=>false) [11] (by kernel_rfl) fun K hK=>?_|refine T.mL (id:=34) mixed (fun _=>false) [3,4] [1] 4 [2] (by kernel_rfl) fun K hK=>?_|refine T.r0 fun K hK=>?_|refine T.r1 fun K hK=>?_|refine T.cf rfl ?_|refine T.seq ?_|refine T.block ?_|refine T.skip ?_
 ·rw[if_pos h];cases q
  ·refine ah.ob Tryz.func101 Tryz.ntmps101 rfl ?_;repeat' first|((first|refine ab (hK _ ?_)|refine aD (hK _ ?_)|refine bj (hK _ ?_));clear hK K)|((first|refine ae ?_|refine aH ?_|refine bB ?_|refine aa rfl (b2) ?_|refine aa rfl (b3) ?_|refine aa rfl (n1) ?_|refine aa rfl (n2) ?_|(refine aa ?_ (tw) ?_;(focus(solve|simp[h,aq x])))|(refine aa ?_ (g1) ?_;(focus(solve|simp[h,aq x]))));simp[h,aq x];(try(refine gen2 ?_ ?_<;>intro hq<;>try simp[h,aq x]at hq)))|(refine T.ret (aB.a8 (Or.inr rfl) ?_)<;>simp[aA,Tryz.results101]<;>omega)|refine T.rd (id:=31) mixed (fun _=>false) [11] (by kernel_rfl) fun K hK=>?_|refine T.mL (id:=33) mixed (fun _=>false) [3,4] [1] 4 [2] (by kernel_rfl) fun K hK=>?_|refine T.r0 fun K hK=>?_|refine T.r1 fun K hK=>?_|refine T.ct rfl ?_|refine T.cf rfl ?_|refine T.seq ?_|refine T.block ?_|refine T.skip ?_
  ·refine ah.ob Tryz.func101 Tryz.ntmps101 rfl ?_;repeat' first|((first|refine ab (hK _ ?_)|refine aD (hK _ ?_)|refine bj (hK _ ?_));clear hK K)|((first|refine ae ?_|refine aH ?_|refine bB ?_|refine aa rfl (b2) ?_|refine aa rfl (b3) ?_|refine aa rfl (n1) ?_|refine aa rfl (n2) ?_|(refine aa ?_ (tw) ?_;(focus(solve|simp[h,aq x])))|(refine aa ?_ (g1) ?_;(focus(solve|simp[h,aq x]))));simp[h,aq x];(try(refine gen2 ?_ ?_<;>intro hq<;>try simp[h,aq x]at hq)))|(refine T.ret (aB.a8 (Or.inr rfl) ?_)<;>simp[aA,Tryz.results101]<;>omega)|refine T.rd (id:=31) mixed (fun _=>false) [11] (by kernel_rfl) fun K hK=>?_|refine T.mL (id:=33) mixed (fun _=>false) [3,4] [1] 4 [2] (by kernel_rfl) fun K hK=>?_|refine T.r0 fun K hK=>?_|refine T.r1 fun K hK=>?_|refine T.ct rfl ?_|refine T.cf rfl ?_|refine T.seq ?_|refine T.block ?_|refine T.skip ?_
end Go.Proofs.YtloolmchekcmeaaGreat
namespace Go.Proofs.YtloolmchekcmeaaGreat
attribute [-simp] Go.Av.ch Go.Av.eY Go.Av.fw Go.Av.fi Go.Av.cY Go.Av.cb
open Go Go.Av
attribute [local irreducible] T ah TX EX LX bC dk bV ck gp aI.kind aI.kids ao.kind ao.name ao.num ao.ty ao.fr ao.label ao.kids
attribute [local simp] aJ al
set_option maxHeartbeats 16000000
set_option maxRecDepth 8000
attribute [local simp] adl
attribute [local irreducible] e6 dT
theorem xA (s:List UInt8) (c:UInt8):dT s c=e6 s c s.length:=by unfold dT;rfl
theorem Ao (s:List UInt8) (c:UInt8):e6 s c 0=-1:=by unfold e6;rfl
theorem Ap (s:List UInt8) (c:UInt8) (p:Nat):e6 s c (p+1)=if s[p]? =some c then(p:Int)else e6 s c p:=by rw[e6]
theorem Aq (s:List UInt8) (c:UInt8) (hs:s.length<=1099511627776):ah adj 98 [.s s,.s [c]] [] (.i (if 0<=dT s c then s.length-1-dT s c else-1)) [] []:=by
 obtain⟨R,hR⟩:∃R,dT s c=R:=⟨_,rfl⟩;rw[hR];rw[xA]at hR;refine ah.ob Tryz.func98 Tryz.ntmps98 rfl ?_;repeat' first|(refine ab (hK _ ?_);clear hK K)|(refine ae ?_;simp;(try simp(disch:=omega)only[wrap64]);(try(refine gen2 ?_ ?_<;>intro hq<;>try simp at hq)))|refine T.r0 fun K hK=>?_|refine T.seq ?_|refine T.block ?_
 refine T.dD (α:=Nat) [0,1] (fun p=>[(4,.i 0),(5,.i ((p:Int)-1))]) (fun _=>[]) (fun _=>[]) (fun _ A=>A) (fun p=>p) (fun p=>p<=s.length/\e6 s c p=R) (by simp;rfl) (fun p hx=>?_) s.length ⟨by omega,hR⟩ (by simp) (by simp) (by simp(disch:=omega) [wrap64]);obtain⟨hp,he⟩:=hx;dsimp only;simp only[gy,adm,adn,adp,ado];cases p with
 |zero=>
  rw[Ao]at he;subst he;repeat' first|(refine ab (hK _ ?_);clear hK K)|(refine ae ?_;simp;(try simp(disch:=omega)only[wrap64]);(try(refine gen2 ?_ ?_<;>intro hq<;>try simp at hq)))|(refine T.ret (aB.data (Or.inr rfl) ?_ ?_)<;>simp[Tryz.results98]<;>omega)|refine T.r0 fun K hK=>?_|refine T.cf rfl ?_|refine T.seq ?_|refine T.exit ?_
 |succ p=>
  have ay:p<s.length:=by omega
  have ux:=yI ay;obtain⟨x,hx⟩:=bM ay;have aX:s[p]=x:=by rw[adr ay]at hx;exact Option.some.inj hx
  rw[aX]at ux;rw[Ap,hx]at he;have pc:(0:Int)<=p:=by omega
  have Hu:((p+1:Nat):Int)-1=p:=by omega
  have Hz:((p:Int)+1).toNat=p+1:=by omega
  have jn:(p:Int)<=p+1:=by omega
  have ku:(p:Int)+1<=s.length:=by omega
  rw[Hu];by_cases hc:x=c
  ·subst hc;rw[if_pos rfl]at he;rw[<-he];repeat' first|(refine ab (hK _ ?_);clear hK K)|(refine ae ?_;simp[ay,pc,Hz,ux,ku];(try simp(disch:=omega)only[wrap64]);(try(refine gen2 ?_ ?_<;>intro hq<;>try simp[ay,pc,Hz,ux,ku]at hq)))|(refine T.ret (aB.data (Or.inr rfl) ?_ ?_)<;>simp[Tryz.results98,pc]<;>omega)|refine T.r0 fun K hK=>?_|(refine⟨by omega,?_⟩)|refine T.ct rfl ?_|refine T.seq ?_|refine T.block ?_|refine T.skip ?_
  ·rw[if_neg (by simpa using hc)]at he;repeat' first|(refine ab (hK _ ?_);clear hK K)|(refine ae ?_;simp[ay,pc,Hz,ux,ku,hc];(try simp(disch:=omega)only[wrap64]);(try(refine gen2 ?_ ?_<;>intro hq<;>try simp[ay,pc,Hz,ux,ku,hc]at hq)))|(refine⟨p,by dsimp only;omega,⟨by omega,he⟩,?_⟩;simp(disch:=omega) [wrap64])|refine T.r0 fun K hK=>?_|refine T.r1 fun K hK=>?_|(refine⟨by omega,?_⟩)|refine T.ct rfl ?_|refine T.cf rfl ?_|refine T.seq ?_|refine T.block ?_|refine T.skip ?_
theorem DP (ls:List IT) (k:Nat) (e:ao) (B ts:List IT) (r:Option (List IT×IT)) (hO:Ag B) (nG:kY B) (hB:B.length<=1000000) (yu:∀u∈ts,sc B.length u=true) (ia:∀u∈ts,gU u)
  (jY:((e.kind=2\/e.kind=3\/e.kind=4)/\ts=[])\/((e.kind=11\/e.kind=12)/\ts.length=1)\/((e.kind=6\/e.kind=7\/e.kind=8\/e.kind=10)/\ts.length=2)\/(e.kind=9/\ts.length=3)) (h:jl k e.kind B ts=some r):IA ls B e ts r:=by
 have uc:∀{B2:List IT} {a b:IT} {B3:List IT} {q:Bool},Ag B2->kY B2->B2.length<=1048576->sc B2.length a=true->sc B2.length b=true->gU a->gU b->jx k B2 a b=some (B3,q)->ah adj 136 [ie B2 ls,jP a,jP b] [] (.a8 [ie B3 ls,.b q]) [] []:=
  fun h1 h2 h3 h4 h5 h6 h7 h8=>Cj ls k _ _ _ _ _ h1.sc h2 h3 h4 h5 h6 h7 h8
 have ubOk:∀{B2:List IT} {a b:IT} {B3:List IT},Ag B2->sc B2.length a=true->sc B2.length b=true->jx k B2 a b=some (B3,true)->Ag B3/\B3.length=B2.length:=fun h1 h2 h3 h4=>ll (k:=k) h1 h2 h3 (by simp[kQ,h4])
 have two:∀(g:∀B1 B2:List IT,ah adj 99 [ie B ls] [] (.a8 [ie B1 ls,jP (.v B.length)]) [] []->ah adj 99 [ie B1 ls] [] (.a8 [ie B2 ls,jP (.v (B.length+1))]) [] []->B2=B++[.v B.length,.v (B.length+1)]->Ag B2->kY B2->B2.length=B.length+2->IA ls B e ts r),IA ls B e ts r:=by
  intro g;have n1:=uh B ls (by omega);have n2:=uh (B++[.v B.length]) ls (by simp;omega);rw[show(B++[IT.v B.length]).length=B.length+1 by simp]at n2;refine g _ _ n1 n2 (by simp) ?_ ?_ (by simp)
  ·rw[show B++[IT.v B.length]++[IT.v (B.length+1)]=B++[.v B.length,.v (B.length+1)] by simp];exact⟨(pU.two B).sc hO.sc,(pU.two B).zh hO.sc hO.zh⟩
  ·refine(nG.app ?_).app ?_<;>intro u hu<;>simp at hu<;>subst hu<;>trivial
 rcases jY with⟨hk,rfl⟩|⟨hk,hl⟩|⟨hk,hl⟩|⟨hk,hl⟩
 ·have hr:r=some (B,.b (if e.kind=2 then 2 else 3)):=by
   rcases hk with h2|h2|h2<;>rw[h2]at h⊢<;>simp[jl]at h<;>exact h.symm
  subst hr;exact⟨B,_,true,F8 ls B e hk,rfl,rfl,rfl⟩
 ·obtain⟨x,rfl⟩:=List.length_eq_one_iff.1 hl;refine two fun B1 B2 n1 n2 e2 o2 k2 l2=>?_
  have h5:¬e.kind=2:=by omega
  have h6:¬(e.kind=3\/e.kind=4):=by omega
  simp only[jl,if_neg h5,if_neg h6,if_pos hk,adk]at h;obtain⟨w,h,hr⟩:=h;rw[<-e2]at h;obtain⟨B3,q,hu,hw⟩:=jS h;have sx:=fq (show B.length<=B2.length by omega) (yu x (by simp));have g:=uc o2 k2 (by omega) sx (show sc B2.length (.p 5 (.v B.length) (.v (B.length+1)))=true by simp[sc];omega) (ia x (by simp)) (by simp[gU]) hu;refine⟨B3,_,q,IC ls B B1 B2 B3 e x _ _ q hk n1 n2 g,?_⟩;rcases hw with⟨rfl,rfl⟩|⟨rfl,rfl⟩
  ·simp at hr;subst hr;exact⟨rfl,rfl,rfl⟩
  ·simp at hr;subst hr;rfl
 ·obtain⟨x,y,rfl⟩:=RR hl;have h5:¬e.kind=2:=by omega
  have h6:¬(e.kind=3\/e.kind=4):=by omega
  have sx:=yu x (by simp);have sy:=yu y (by simp);have kx:=ia x (by simp);have ky:=ia y (by simp);by_cases cO:e.kind=10
  ·simp[jl,cO]at h;subst h;exact⟨B,_,true,F9 ls B e x y cO,rfl,rfl,rfl⟩
  by_cases Se:e.kind=6
  ·refine two fun B1 B2 n1 n2 e2 o2 k2 l2=>?_
   simp only[jl,if_neg h5,if_neg h6,if_neg cO,if_pos Se,adk]at h;obtain⟨w,h,hr⟩:=h;rw[<-e2]at h;obtain⟨B3,q,hu,hw⟩:=jS h;have sx2:=fq (show B.length<=B2.length by omega) sx;have sy2:=fq (show B.length<=B2.length by omega) sy;have g:=uc o2 k2 (by omega) sx2 (show sc B2.length (.p 4 y (.v B.length))=true by simp[sc,sy2];omega) kx (by simp[gU,ky]) hu;refine⟨B3,_,q,IB ls B B1 B2 B3 e x y _ _ q Se n1 n2 g,?_⟩;rcases hw with⟨rfl,rfl⟩|⟨rfl,rfl⟩
   ·simp at hr;subst hr;exact⟨rfl,rfl,rfl⟩
   ·simp at hr;subst hr;rfl
  ·have Sf:e.kind=7\/e.kind=8:=by omega
   simp only[jl,if_neg h5,if_neg h6,if_neg cO,if_neg Se,if_pos Sf]at h;obtain⟨w,LI⟩:∃w,kQ k B x (.b 2)=w:=⟨_,rfl⟩;rw[LI]at h;cases w with
   |none=>simp at h
   |some w=>
    obtain⟨B1,q1,IP,L7⟩:=jS LI;have g1:=uc hO nG (by omega) sx (show sc B.length (.b 2)=true from rfl) kx (by simp[gU]) IP;rcases L7 with⟨rfl,rfl⟩|⟨rfl,rfl⟩
    ·simp only[adk]at h;obtain⟨w2,h,hr⟩:=h;obtain⟨B2,q2,Cr,z7⟩:=jS h;obtain⟨o1,l1⟩:=ubOk hO sx (show sc B.length (.b 2)=true from rfl) IP;have k1:=mD nG kx (show gU (.b 2) by simp[gU]) IP;have g2:=uc o1 k1 (by omega) (by rw[l1];exact sy) (show sc B1.length (.b 2)=true from rfl) ky (show gU (.b 2) by simp[gU]) Cr;refine⟨_,_,_,EK ls B B1 B2 e x y true q2 Sf g1 (fun _=>g2),?_⟩;rcases z7 with⟨rfl,rfl⟩|⟨rfl,rfl⟩
     ·simp at hr;subst hr;exact⟨rfl,rfl,rfl⟩
     ·simp at hr;subst hr;rfl
    ·simp at h;subst h;exact⟨_,_,_,EK ls B B1 B1 e x y false false Sf g1 (fun e=>by cases e),rfl⟩
 ·obtain⟨x,y,z,rfl⟩:=RS hl;have h5:¬e.kind=2:=by omega
  have h6:¬(e.kind=3\/e.kind=4):=by omega
  simp only[jl,if_neg h5,if_neg h6,if_pos hk]at h;obtain⟨w,LI⟩:∃w,kQ k B x (.b 3)=w:=⟨_,rfl⟩;rw[LI]at h;cases w with
  |none=>simp at h
  |some w=>
   obtain⟨B1,q1,IP,L7⟩:=jS LI;have g1:=uc hO nG (by omega) (yu x (by simp)) (show sc B.length (.b 3)=true from rfl) (ia x (by simp)) (by simp[gU]) IP;rcases L7 with⟨rfl,rfl⟩|⟨rfl,rfl⟩
   ·simp only[adk]at h;obtain⟨w2,h,hr⟩:=h;obtain⟨B2,q2,Cr,z7⟩:=jS h;obtain⟨o1,l1⟩:=ubOk hO (yu x (by simp)) (show sc B.length (.b 3)=true from rfl) IP;have k1:=mD nG (ia x (by simp)) (show gU (.b 3) by simp[gU]) IP;have g2:=uc o1 k1 (by omega) (by rw[l1];exact yu y (by simp)) (by rw[l1];exact yu z (by simp)) (ia y (by simp)) (ia z (by simp)) Cr;refine⟨_,_,_,EL ls B B1 B2 e x y z true q2 hk g1 (fun _=>g2),?_⟩;rcases z7 with⟨rfl,rfl⟩|⟨rfl,rfl⟩
    ·simp at hr;subst hr;exact⟨rfl,rfl,rfl⟩
    ·simp at hr;subst hr;rfl
   ·simp at h;subst h;exact⟨_,_,_,EL ls B B1 B1 e x y z false false hk g1 (fun e=>by cases e),rfl⟩
def xB (x:List IT×List IT×IT×Bool):Option (List IT×List IT×IT)->Prop
 |some r=>x.1=r.1/\x.2.1=r.2.1/\x.2.2.1=r.2.2/\x.2.2.2=true
 |none=>x.2.2.2=false
abbrev rE (ns:List UInt8) (ts:List IT) (e:ao) (B ls:List IT) (x:List IT×List IT×IT×Bool):Prop:=
 ah adj 42 [ie B ls,.s ns,.l (ts.map oQ),cM e] [] (.a8 [ie x.1 x.2.1,jP x.2.2.1,.b x.2.2.2]) [] []
def Ar (k:Nat) (ns:List UInt8) (ts:List IT) (e:ao) (B ls:List IT) (x:List IT×List IT×IT×Bool):Prop:=
 rE ns ts e B ls x/\∃r,inf k e B ls ns ts=some r/\xB x r
structure ir (ns:List UInt8) (ts:List IT) (B ls:List IT) (n t:Nat):Prop where
 ok:Ag B
 kd:kY B
 Ga:kY ls
 ctx:DG B ns ts
 len:B.length+2*n<=1000000
 Gc:ls.length+t<=1000000
theorem ir.next {k:Nat} {ns:List UInt8} {ts B ls B' ls':List IT} {t:IT} {u:ao} {n m:Nat} (he:Ba u) (bZ:kY ts) (h:ir ns ts B ls (aU u+n) ((aF u).length+m)) (hi:inf k u B ls ns ts=some (some (B',ls',t))):ir ns ts B' ls' n m/\B.length<=B'.length/\sc B'.length t=true/\gU t:=by
 have h1:=pV he h.ok h.ctx hi;obtain⟨h2,h3,h4⟩:=Io he h.kd h.Ga bZ hi;obtain⟨new,h5,h6,_⟩:=h1.O7;have:=h.len;have:=h.Gc;have:=h1.len;exact⟨⟨h1.ok,h2,h3,h.ctx.le h1.le,by omega,by rw[h5,adv,h6];omega⟩,h1.le,h1.Kg,h4⟩
def qT (X:ao->List IT->List IT->List IT×List IT×IT×Bool) (N:List IT->List IT->List IT->List IT×List IT×IT×Bool):List ao->List IT->List IT->List IT->List IT×List IT×IT×Bool
 |[],C,l,us=>N C l us
 |u::r,C,l,us=>if(X u C l).2.2.2=true then qT X N r (X u C l).1 (X u C l).2.1 (us++[(X u C l).2.2.1])else X u C l
def nq (k:Nat) (ns:List UInt8) (ts:List IT) (L:List ao) (C l us:List IT):Option (Option (List IT×List IT×List IT)):=match nj k L C l ns ts with
 |some (some r)=>some (some (r.1,r.2.1,us++r.2.2))
 |none=>none
 |some none=>some none
theorem oB {k:Nat} {ns:List UInt8} {ts:List IT} {u:ao} {L:List ao} {C l us:List IT}:nq k ns ts (u::L) C l us=match inf k u C l ns ts with
  |some (some r)=>nq k ns ts L r.1 r.2.1 (us++[r.2.2])
  |none=>none
  |some none=>some none:=by
 simp only[nq,nj];cases h:inf k u C l ns ts with
 |none=>rfl
 |some o=>
  cases o with
  |none=>rfl
  |some r=>
   obtain⟨a,b,c⟩:=r;simp only;cases h2:nj k L a b ns ts with
   |none=>rfl
   |some o2=>
    cases o2 with
    |none=>rfl
    |some r2=>obtain⟨d,e,f⟩:=r2;simp
structure ID (k:Nat) (ns:List UInt8) (ts:List IT) (e:ao) (L:List ao) (X:ao->List IT->List IT->List IT×List IT×IT×Bool) (N:List IT->List IT->List IT->List IT×List IT×IT×Bool) (OUT:List IT×List IT×IT×Bool) (R:Option (List IT×List IT×List IT)) (p:Nat) (C l us:List IT):Prop where
 le:p<=L.length
 ul:us.length=p
 cond:ir ns ts C l (bq (L.drop p)+1) (az (L.drop p)).length
 I6:∀u∈us,sc C.length u=true/\gU u
 out:qT X N (L.drop p) C l us=OUT
 res:nq k ns ts (L.drop p) C l us=some R
set_option maxHeartbeats 1000000 in
theorem DQ (k:Nat) (ns:List UInt8) (ts:List IT) (e:ao) (L:List ao) (hL:e.kids=L) (O5:L.length<=3) (h1:e.kind≠1) (h5:e.kind≠5) (bZ:kY ts) (Le:∀u∈L,Ba u) (X:ao->List IT->List IT->List IT×List IT×IT×Bool) (N:List IT->List IT->List IT->List IT×List IT×IT×Bool) (B ls:List IT)
  (hX:∀u∈L,∀C l n m,ir ns ts C l (aU u+n) ((aF u).length+m)->(∃r,inf k u C l ns ts=some r)->Ar k ns ts u C l (X u C l)) (R:Option (List IT×List IT×List IT))
  (hN:∀C l us,ir ns ts C l 1 0->us.length=L.length->(∀u∈us,sc C.length u=true/\gU u)->R=some (C,l,us)->ah adj 101 [ie C l,cM e,.l (us.map oQ)] [] (.a8 [ie (N C l us).1 (N C l us).2.1,jP (N C l us).2.2.1,.b (N C l us).2.2.2]) [] [])
  (hI:ID k ns ts e L X N (qT X N L B ls []) R 0 B ls []):rE ns ts e B ls (qT X N L B ls []):=by
 generalize qT X N L B ls []=OUT at*;obtain⟨O1,O2,O3,O4⟩:=OUT;rw[rE];dsimp only;have Sg:e.kids.length=L.length:=by rw[hL]
 refine ah.ob Tryz.func42 Tryz.ntmps42 rfl ?_;repeat' first|(refine ab (hK _ ?_);clear hK K)|(refine ae ?_;simp[h1,h5];(try(refine gen2 ?_ ?_<;>intro hq<;>try simp[h1,h5]at hq)))|refine T.rs (id:=11) (fun i=>i==0) fun K hK=>?_|refine T.rs (id:=0) (fun _=>false) fun K hK=>?_|refine T.rs (id:=1) (fun _=>false) fun K hK=>?_|refine T.rs (id:=6) (fun _=>false) fun K hK=>?_|refine T.rs (id:=12) (fun _=>false) fun K hK=>?_|refine T.cf rfl ?_|refine T.seq ?_|refine T.block ?_|refine T.skip ?_
 refine T.dD (α:=Nat×List IT×List IT×List IT×List (List CV)) [1,2,4,7,8,9] (fun x=>[(10,.b false),(16,.c (.own 0 x.1)),(17,.i x.1)]) (fun x=>[(0,[.d (.sl (x.2.1.map oQ)),.d (.sl (x.2.2.1.map oQ))])]) (fun x=>x.2.2.2.2) (fun x _=>[{sz:=3,ev:=72,rows:=x.2.2.2.1.map oQ,wr:=true}]) (fun x=>L.length+1-x.1) (fun x=>ID k ns ts e L X N (O1,O2,O3,O4) R x.1 x.2.1 x.2.2.1 x.2.2.2.1) (by simp;rfl) (fun x hx=>?_) (0,B,ls,[],[]) hI (by simp) (by simp) (by simp);obtain⟨p,C,l,us,G⟩:=x;dsimp only at hx⊢;simp only[gy,adm,adn,adp,ado,adq];have AR:=hx.ul;by_cases ay:p<L.length
 ·obtain⟨u,ht⟩:=bM ay;have eA:u∈L:=ads ht;have aX:L[p]=u:=by rw[adr ay]at ht;exact Option.some.inj ht
  have gz:L.drop p=u::L.drop (p+1):=by rw[adt ay,aX]
  have hb:=Le u eA;have hc:=hx.cond;rw[gz]at hc;simp only[bq,az,adv]at hc;have AP:ir ns ts C l (aU u+(bq (L.drop (p+1))+1)) ((aF u).length+(az (L.drop (p+1))).length):=⟨hc.ok,hc.kd,hc.Ga,hc.ctx,by have:=hc.len;omega,hc.Gc⟩;have ho:=hx.out;have hr:=hx.res;obtain⟨hA,r,hi,ha⟩:=hX u eA C l _ _ AP (by
   rw[gz,oB]at hr;cases hz:inf k u C l ns ts with
   |none=>rw[hz]at hr;cases hr
   |some z=>exact⟨z,rfl⟩)
  rw[gz,qT]at ho;rw[gz,oB,hi]at hr;rw[rE]at hA;generalize X u C l=x at*;obtain⟨C',l',t,q⟩:=x;dsimp only at hA ho ha;have ld:L.length=e.kids.length:=by rw[hL]
  have Ck:p<e.kids.length:=by omega
  have Kp:e.kids[p]=u:=by simp only[hL];exact aX
  cases q with
  |false=>
   rw[if_neg (by simp)]at ho;simp only[Prod.mk.injEq]at ho;obtain⟨rfl,rfl,rfl,rfl⟩:=ho;clear hx hX hN hI hc AP hi hr ha;repeat' first|((first|refine ab (hK _ ?_)|refine bj (hK _ ?_));clear hK K)|((first|refine ae ?_|refine bB ?_|refine aa rfl (hA) ?_);simp[Ck,Kp,al u];(try simp(disch:=omega)only[wrap64]);(try(refine gen2 ?_ ?_<;>intro hq<;>try simp[Ck,Kp,al u]at hq)))|(refine T.ret (aB.a8 (Or.inr rfl) ?_)<;>simp[aA,Tryz.results42]<;>omega)|(refine⟨?_,?_⟩;(focus(intros;refine aa rfl (hA) ?_;simp;done)))|refine T.PO (id:=15) mixed (fun _=>false) [13,14,15,16] [0,4,6,7,8] 14 [2] 14 [0,4,6,7,8,13,14,15,16] _ (by kernel_rfl) rfl rfl rfl rfl vM rfl (by simp) fun K hK=>?_|refine T.mL (id:=17) mixed (fun _=>false) [2,3] [1] 3 [2] (by kernel_rfl) fun K hK=>?_|refine T.rs (id:=13) (fun _=>false) fun K hK=>?_|refine T.rs (id:=16) (fun _=>false) fun K hK=>?_|refine T.ct rfl ?_|refine T.seq ?_|refine T.block ?_|refine T.skip ?_
  |true=>
   rw[if_pos rfl]at ho;have hn:ID k ns ts e L X N (O1,O2,O3,O4) R (p+1) C' l' (us++[t]):=by
    cases r with
    |none=>simp[xB]at ha
    |some r=>
     obtain⟨r1,r2,r3⟩:=r;simp only[xB]at ha;obtain⟨rfl,rfl,rfl,_⟩:=ha;obtain⟨g1,g2,g3,g4⟩:=ir.next hb bZ AP hi;exact⟨by omega,by simp[AR],g1,fun v hv=>by
      rcases adu.1 hv with hv|hv
      ·exact⟨fq g2 (hx.I6 v hv).1,(hx.I6 v hv).2⟩
      ·simp at hv;subst hv;exact⟨g3,g4⟩,ho,hr⟩
   clear hX hN hI hc AP hi hr ha;repeat' first|((first|refine ab (hK _ ?_)|refine bj (hK _ ?_));clear hK K)|((first|refine ae ?_|refine bB ?_|refine aa rfl (hA) ?_);simp[Ck,Kp,al u,AR];(try simp(disch:=omega)only[wrap64]);(try(refine gen2 ?_ ?_<;>intro hq<;>try simp[Ck,Kp,al u,AR]at hq)))|(refine⟨by omega,by omega,?_⟩)|(refine⟨(p+1,C',l',us++[t],_),by dsimp only;omega,hn,rfl,?_,?_⟩<;>simp(disch:=omega) [wrap64,aq t])|(refine⟨?_,?_⟩;(focus(intros;refine aa rfl (hA) ?_;simp;done)))|refine T.PO (id:=15) mixed (fun _=>false) [13,14,15,16] [0,4,6,7,8] 14 [2] 14 [0,4,6,7,8,13,14,15,16] _ (by kernel_rfl) rfl rfl rfl rfl vM rfl (by simp) fun K hK=>?_|refine T.rs (id:=13) (fun _=>false) fun K hK=>?_|refine T.rs (id:=16) (fun _=>false) fun K hK=>?_|refine T.rs (id:=18) (fun _=>false) fun K hK=>?_|refine T.eQ (id:=19) (fun _=>false) fun K hK=>?_|refine T.eQ (id:=14) (fun _=>false) fun K hK=>?_|refine T.ct rfl ?_|refine T.cf rfl ?_|refine T.seq ?_|refine T.block ?_|refine T.skip ?_
 ·have fa:p=L.length:=by have:=hx.le;omega
  subst fa;have hc:=hx.cond;have ho:=hx.out;have hr:=hx.res;simp only[List.drop_length,bq,az,List.length_nil]at hc ho hr;simp[nq,nj]at hr;have g:=hN C l us hc AR hx.I6 hr.symm;rw[qT]at ho;generalize N C l us=y at*;subst ho;dsimp only at g;have Ck:¬L.length<e.kids.length:=by omega
  clear hx hX hN hI hc hr;repeat' first|(refine ab (hK _ ?_);clear hK K)|((first|refine ae ?_|(refine aa ?_ (g) ?_;(focus(solve|simp[Ck,ay,Sg,AR]))));simp[Ck,ay,Sg,AR];(try(refine gen2 ?_ ?_<;>intro hq<;>try simp[Ck,ay,Sg,AR]at hq)))|(refine T.ret (aB.a8 (Or.inr rfl) ?_)<;>simp[aA,Tryz.results42]<;>omega)|refine T.rs (id:=13) (fun _=>false) fun K hK=>?_|refine T.rs (id:=20) (fun _=>false) fun K hK=>?_|refine T.cf rfl ?_|refine T.seq ?_|refine T.exit ?_
theorem Gd (ns:List UInt8) (ts:List IT) (c:UInt8) (B ls:List IT) (hc:ts.length=ns.length) (hn:ns.length<=1000000):(0<=dT ns c->∃t,ts[(dT ns c).toNat]? =some t/\rE ns ts (vq [c]) B ls (B,ls,t,true))/\(¬0<=dT ns c->rE ns ts (vq [c]) B ls (B,ls,.v 0,false)):=by
 have hb:=ou ns c ns.length;rw[<-xA]at hb;have k1:=Aq ns c (by omega);refine⟨fun h0=>?_,fun h0=>?_⟩
 ·rw[if_pos h0]at k1;obtain⟨j,hj⟩:∃j:Nat,dT ns c=j:=⟨(dT ns c).toNat,by omega⟩;rw[hj]at k1 hb⊢;have ay:j<ts.length:=by omega
  obtain⟨t,ht⟩:=bM ay;have eA:t∈ts:=ads ht;have aX:ts[j]=t:=by rw[adr ay]at ht;exact Option.some.inj ht
  have gz:ts.drop j=t::ts.drop (j+1):=by rw[adt ay,aX]
  refine⟨t,by simpa using ht,?_⟩;rw[rE];have Pm:¬((ns.length:Int)-1-j<0):=by omega
  have Cs:(ts.length:Int)-1-((ns.length:Int)-1-j)=j:=by omega
  refine ah.ob Tryz.func42 Tryz.ntmps42 rfl ?_;repeat' first|((first|refine ab (hK _ ?_)|refine bj (hK _ ?_));clear hK K)|((first|refine ae ?_|refine bB ?_|refine aa rfl (k1) ?_);simp[Pm,Cs,ay,aX,aq t];(try simp(disch:=omega)only[wrap64]);(try(refine gen2 ?_ ?_<;>intro hq<;>try simp[Pm,Cs,ay,aX,aq t]at hq)))|(refine T.ret (aB.a8 (Or.inr rfl) ?_)<;>simp[aA,Tryz.results42]<;>omega)|refine T.mL (id:=5) mixed (fun _=>false) [9,10] [3,7,8] 10 [2] (by kernel_rfl) fun K hK=>?_|refine T.r0 fun K hK=>?_|refine T.ct rfl ?_|refine T.cf rfl ?_|refine T.seq ?_|refine T.skip ?_
 ·rw[if_neg h0]at k1;rw[rE];refine ah.ob Tryz.func42 Tryz.ntmps42 rfl ?_;repeat' first|(refine ab (hK _ ?_);clear hK K)|((first|refine ae ?_|refine aa rfl (k1) ?_);simp[kD];(try simp(disch:=omega)only[wrap64]);(try(refine gen2 ?_ ?_<;>intro hq<;>try simp[kD]at hq)))|(refine T.ret (aB.a8 (Or.inr rfl) ?_)<;>simp[aA,Tryz.results42]<;>omega)|refine T.r0 fun K hK=>?_|refine T.ct rfl ?_|refine T.seq ?_
theorem Gf (ns:List UInt8) (ts:List IT) (c:UInt8) (t:aI) (b:ao) (B B1 ls:List IT) (n:Nat) (hn:ns.length<=1000000) (bZ:ts.length<=1000000) (sr:ls.length<=1000000) (n1:ah adj 99 [ie B ls] [] (.a8 [ie B1 ls,jP (.v n)]) [] []) (x:List IT×List IT×IT×Bool)
  (hb:rE (ns++[c]) (ts++[.v n]) b B1 (ls++[.v n]) x):rE ns ts (so [c] t b) B ls (x.1,x.2.1,.p 4 (.v n) x.2.2.1,x.2.2.2):=by
 have x7:ns.length<=4611686018427387903:=by omega
 obtain⟨C,l,u,q⟩:=x;rw[rE]at hb⊢;dsimp only at hb⊢;have tw:=qp 4 (.v n) u;cases q
 ·refine ah.ob Tryz.func42 Tryz.ntmps42 rfl ?_;repeat' first|((first|refine ab (hK _ ?_)|refine aD (hK _ ?_)|refine bj (hK _ ?_));clear hK K)|((first|refine ae ?_|refine aH ?_|refine bB ?_|refine aa rfl (n1) ?_|(refine aa ?_ (hb) ?_;(focus(solve|simp[kD,al b,x7])))|(refine aa ?_ (tw) ?_;(focus(solve|simp[kD,al b,x7]))));simp[kD,al b,x7];(try simp(disch:=omega)only[wrap64,jz]);(try(refine gen2 ?_ ?_<;>intro hq<;>try simp[kD,al b,x7]at hq)))|(refine⟨by omega,by omega,?_⟩)|(refine T.ret (aB.a8 (Or.inr rfl) ?_)<;>simp[aA,Tryz.results42,kD]<;>omega)|refine T.mL (id:=8) mixed (fun i=>i==0) [0,3,6,8] [2,4,5] 4 [] (by kernel_rfl) fun K hK=>?_|refine T.PO (id:=9) mixed (fun i=>i==5) [5,7,10,15,20,21,22] [0,3,8,9,12,13,14] 11 [] 20 [0,3,5,7,8,9,10,12,13,14,15,20,21,22] _ (by kernel_rfl) rfl rfl rfl rfl vM rfl (by simp) fun K hK=>?_|refine T.rd (id:=10) mixed (fun _=>false) [5,6] (by kernel_rfl) fun K hK=>?_|refine T.rs (id:=0) (fun _=>false) fun K hK=>?_|refine T.rs (id:=1) (fun _=>false) fun K hK=>?_|refine T.rs (id:=6) (fun _=>false) fun K hK=>?_|refine T.rs (id:=7) (fun _=>false) fun K hK=>?_|refine T.ct rfl ?_|refine T.cf rfl ?_|refine T.seq ?_|refine T.skip ?_
 ·refine ah.ob Tryz.func42 Tryz.ntmps42 rfl ?_;repeat' first|((first|refine ab (hK _ ?_)|refine aD (hK _ ?_)|refine bj (hK _ ?_));clear hK K)|((first|refine ae ?_|refine aH ?_|refine bB ?_|refine aa rfl (n1) ?_|(refine aa ?_ (hb) ?_;(focus(solve|simp[kD,al b,x7])))|(refine aa ?_ (tw) ?_;(focus(solve|simp[kD,al b,x7]))));simp[kD,al b,x7];(try simp(disch:=omega)only[wrap64,jz]);(try(refine gen2 ?_ ?_<;>intro hq<;>try simp[kD,al b,x7]at hq)))|(refine⟨by omega,by omega,?_⟩)|(refine T.ret (aB.a8 (Or.inr rfl) ?_)<;>simp[aA,Tryz.results42,kD]<;>omega)|refine T.mL (id:=8) mixed (fun i=>i==0) [0,3,6,8] [2,4,5] 4 [] (by kernel_rfl) fun K hK=>?_|refine T.PO (id:=9) mixed (fun i=>i==5) [5,7,10,15,20,21,22] [0,3,8,9,12,13,14] 11 [] 20 [0,3,5,7,8,9,10,12,13,14,15,20,21,22] _ (by kernel_rfl) rfl rfl rfl rfl vM rfl (by simp) fun K hK=>?_|refine T.rd (id:=10) mixed (fun _=>false) [5,6] (by kernel_rfl) fun K hK=>?_|refine T.rs (id:=0) (fun _=>false) fun K hK=>?_|refine T.rs (id:=1) (fun _=>false) fun K hK=>?_|refine T.rs (id:=6) (fun _=>false) fun K hK=>?_|refine T.rs (id:=7) (fun _=>false) fun K hK=>?_|refine T.ct rfl ?_|refine T.cf rfl ?_|refine T.seq ?_|refine T.skip ?_
theorem Cl {k:Nat} {ns:List UInt8} {ts:List IT} {X:ao->List IT->List IT->List IT×List IT×IT×Bool} {N:List IT->List IT->List IT->List IT×List IT×IT×Bool} {R:Option (List IT×List IT×List IT)} {r:Option (List IT×List IT×IT)} {len:Nat} (bZ:kY ts)
  (hN:∀C l us,ir ns ts C l 1 0->us.length=len->(∀u∈us,sc C.length u=true/\gU u)->R=some (C,l,us)->xB (N C l us) r) (h0:R=none->r=none):∀(L:List ao) (C l us:List IT),ir ns ts C l (bq L+1) (az L).length->us.length+L.length=len->(∀u∈us,sc C.length u=true/\gU u)->(∀u∈L,Ba u)->
  (∀u∈L,∀C l n m,ir ns ts C l (aU u+n) ((aF u).length+m)->(∃r,inf k u C l ns ts=some r)->Ar k ns ts u C l (X u C l))->nq k ns ts L C l us=some R->xB (qT X N L C l us) r
 |[],C,l,us,hc,hl,hs,_,_,hr=>by
  simp[nq,nj]at hr;rw[qT];exact hN C l us (by simpa[bq,az]using hc) (by simpa using hl) hs hr.symm
 |u::L,C,l,us,hc,hl,hs,hB,hX,hr=>by
  simp only[bq,az,adv]at hc;have AP:ir ns ts C l (aU u+(bq L+1)) ((aF u).length+(az L).length):=⟨hc.ok,hc.kd,hc.Ga,hc.ctx,by have:=hc.len;omega,hc.Gc⟩;rw[oB]at hr;obtain⟨_,q,hi,ha⟩:=hX u (by simp) C l _ _ AP (by
   cases hz:inf k u C l ns ts with
   |none=>rw[hz]at hr;cases hr
   |some z=>exact⟨z,rfl⟩)
  rw[hi]at hr;rw[qT];cases q with
  |none=>
   simp only[xB]at ha;rw[if_neg (by rw[ha];simp)];cases hr
   rw[h0 rfl];exact ha
  |some q=>
   obtain⟨q1,q2,q3⟩:=q;simp only[xB]at ha;obtain⟨e1,e2,e3,e4⟩:=ha;rw[if_pos e4,e1,e2,e3];obtain⟨g1,g2,g3,g4⟩:=ir.next (hB u (by simp)) bZ AP hi;exact Cl bZ hN h0 L q1 q2 (us++[q3]) g1 (by simp at hl⊢;omega) (fun v hv=>by
    rcases adu.1 hv with hv|hv
    ·exact⟨fq g2 (hs v hv).1,(hs v hv).2⟩
    ·simp at hv;subst hv;exact⟨g3,g4⟩) (fun v hv=>hB v (by simp[hv])) (fun v hv=>hX v (by simp[hv])) hr
open Classical in
theorem jT (k:Nat) (ns:List UInt8) (ts:List IT) (e:ao) (O5:e.kids.length<=3) (h1:e.kind≠1) (h5:e.kind≠5) (bZ:kY ts) (Le:∀u∈e.kids,Ba u)
  (jY:∀us:List IT,us.length=e.kids.length->((e.kind=2\/e.kind=3\/e.kind=4)/\us=[])\/((e.kind=11\/e.kind=12)/\us.length=1)\/((e.kind=6\/e.kind=7\/e.kind=8\/e.kind=10)/\us.length=2)\/(e.kind=9/\us.length=3))
  (ih:∀u∈e.kids,∀C l n m,ir ns ts C l (aU u+n) ((aF u).length+m)->(∃r,inf k u C l ns ts=some r)->∃x,Ar k ns ts u C l x)
  (B ls:List IT) (hc:ir ns ts B ls (bq e.kids+1) (az e.kids).length) (r:Option (List IT×List IT×IT)) (hr:inf k e B ls ns ts=some r):∃x,Ar k ns ts e B ls x:=by
 let X:ao->List IT->List IT->List IT×List IT×IT×Bool:=fun u C l=>if h:∃x,Ar k ns ts u C l x then h.choose else([],[],.v 0,false)
 have hX:∀u∈e.kids,∀C l n m,ir ns ts C l (aU u+n) ((aF u).length+m)->(∃r,inf k u C l ns ts=some r)->Ar k ns ts u C l (X u C l):=fun u hu C l n m g1 g2=>by
  have h:=ih u hu C l n m g1 g2;show Ar k ns ts u C l (if h:∃x,Ar k ns ts u C l x then h.choose else([],[],.v 0,false));rw[dif_pos h];exact h.choose_spec
 let NP:List IT->List IT->List IT->(List IT×IT×Bool)->Prop:=fun C l us y=>ah adj 101 [ie C l,cM e,.l (us.map oQ)] [] (.a8 [ie y.1 l,jP y.2.1,.b y.2.2]) [] []/\∃rn,jl k e.kind C us=some rn/\Pl y.1 y.2.1 y.2.2 rn
 let N:List IT->List IT->List IT->List IT×List IT×IT×Bool:=fun C l us=>if h:∃y,NP C l us y then(h.choose.1,l,h.choose.2.1,h.choose.2.2)else([],[],.v 0,false)
 obtain⟨R,hR,Ng,KA⟩:∃R,nj k e.kids B ls ns ts=some R/\(R=none->r=none)/\(∀C l us,R=some (C,l,us)->∃rn,jl k e.kind C us=some rn/\r=rn.map fun z=>(z.1,l,z.2)):=by
  cases e with
  |mk kd s n t f b L=>
   simp only[ao.bX]at h1 h5;rw[inf,if_neg h1]at hr;simp only[if_neg h5]at hr;simp only[ao.bQ,ao.bX];cases hS:nj k L B ls ns ts with
   |none=>rw[hS]at hr;cases hr
   |some R=>
    rw[hS]at hr;refine⟨R,rfl,fun e=>?_,fun C l us e=>?_⟩
    ·subst e;simpa using hr.symm
    ·subst e;simp only[adk]at hr;obtain⟨rn,q1,q2⟩:=hr;exact⟨rn,q1,q2.symm⟩
 have dZ:nq k ns ts e.kids B ls []=some R:=by
  simp only[nq,hR];cases R with
  |none=>rfl
  |some z=>obtain⟨a,b,c⟩:=z;simp
 have TL:∀C l us,ir ns ts C l 1 0->us.length=e.kids.length->(∀u∈us,sc C.length u=true/\gU u)->R=some (C,l,us)->∃y,NP C l us y:=fun C l us g1 g2 g3 g4=>by
  obtain⟨rn,q1,_⟩:=KA C l us g4;obtain⟨D,u,q,g5,g6⟩:=DP l k e C us rn g1.ok g1.kd (by have:=g1.len;omega) (fun v hv=>(g3 v hv).1) (fun v hv=>(g3 v hv).2) (jY us g2) q1;exact⟨(D,u,q),g5,rn,q1,g6⟩
 have hw:=DQ k ns ts e e.kids rfl O5 h1 h5 bZ Le X N B ls hX R (fun C l us g1 g2 g3 g4=>by
  have h:=TL C l us g1 g2 g3 g4;show ah _ _ _ _ (.a8 [ie (if h:∃y,NP C l us y then(h.choose.1,l,h.choose.2.1,h.choose.2.2)else([],[],.v 0,false)).1 (if h:∃y,NP C l us y then(h.choose.1,l,h.choose.2.1,h.choose.2.2)else([],[],.v 0,false)).2.1,jP (if h:∃y,NP C l us y then(h.choose.1,l,h.choose.2.1,h.choose.2.2)else([],[],.v 0,false)).2.2.1,.b (if h:∃y,NP C l us y then(h.choose.1,l,h.choose.2.1,h.choose.2.2)else([],[],.v 0,false)).2.2.2]) [] [];rw[dif_pos h];exact h.choose_spec.1) ⟨Nat.zero_le _,rfl,by simpa using hc,fun u hu=>(by cases hu),by simp,by simpa using dZ⟩
 refine⟨_,hw,r,hr,?_⟩;refine Cl (len:=e.kids.length) bZ (fun C l us g1 g2 g3 g4=>?_) Ng e.kids B ls [] hc (by simp) (fun u hu=>(by cases hu)) Le hX dZ;have h:=TL C l us g1 g2 g3 g4;obtain⟨rn,q1,q2⟩:=KA C l us g4;obtain⟨_,rn',q3,q4⟩:=h.choose_spec;rw[q1]at q3;cases q3
 show xB (if h:∃y,NP C l us y then(h.choose.1,l,h.choose.2.1,h.choose.2.2)else([],[],.v 0,false)) r;rw[dif_pos h,q2];cases rn with
 |none=>exact q4
 |some z=>exact⟨q4.1,rfl,q4.2.1,q4.2.2⟩
theorem ve (k:Nat) {e:ao} (he:Ba e):∀(ns:List UInt8) (ts B ls:List IT) (n m:Nat),kY ts->ns.length+aU e<=1000000->ir ns ts B ls (aU e+n) ((aF e).length+m)->(∃r,inf k e B ls ns ts=some r)->∃x,Ar k ns ts e B ls x:=by
 induction he with
 |var c=>
  intro ns ts B ls n m bZ hn hc ⟨r,hr⟩;have h:=Gd ns ts c B ls hc.ctx.len (by omega);rw[mi]at hr;by_cases h0:0<=dT ns c
  ·obtain⟨t,ht,hA⟩:=h.1 h0;rw[if_pos h0,ht]at hr;simp at hr;exact⟨_,hA,r,by rw[mi,if_pos h0,ht];simpa using hr,by subst hr;exact⟨rfl,rfl,rfl,rfl⟩⟩
  ·rw[if_neg h0]at hr;simp at hr;exact⟨_,h.2 h0,r,by rw[mi,if_neg h0];simpa using hr,by subst hr;rfl⟩
 |num z=>
  intro ns ts B ls n m bZ hn hc ⟨r,hr⟩;exact jT k ns ts _ (by simp) (by simp) (by simp) bZ (by simp) (fun us h=>.inl ⟨by simp,by simpa using h⟩) (by simp) B ls ⟨hc.ok,hc.kd,hc.Ga,hc.ctx,by have:=hc.len;simp[bq,aU]at this⊢;omega,by have:=hc.Gc;simp[az];omega⟩ r hr
 |uK=>
  intro ns ts B ls n m bZ hn hc ⟨r,hr⟩;exact jT k ns ts _ (by simp) (by simp) (by simp) bZ (by simp) (fun us h=>.inl ⟨by simp,by simpa using h⟩) (by simp) B ls ⟨hc.ok,hc.kd,hc.Ga,hc.ctx,by have:=hc.len;simp[bq,aU]at this⊢;omega,by have:=hc.Gc;simp[az];omega⟩ r hr
 |uL=>
  intro ns ts B ls n m bZ hn hc ⟨r,hr⟩;exact jT k ns ts _ (by simp) (by simp) (by simp) bZ (by simp) (fun us h=>.inl ⟨by simp,by simpa using h⟩) (by simp) B ls ⟨hc.ok,hc.kd,hc.Ga,hc.ctx,by have:=hc.len;simp[bq,aU]at this⊢;omega,by have:=hc.Gc;simp[az];omega⟩ r hr
 | @lam c t b hb ih=>
  intro ns ts B ls n m bZ hn hc ⟨r,hr⟩;rw[oz]at hr;simp only[adk]at hr;obtain⟨rb,Nh,hr⟩:=hr;have zn:aU (so [c] t b)=aU b+1:=by simp[aU,bq];omega
  rw[xt,zn]at hc;have hl:=hc.len;have tA:=hc.Gc;simp only[List.length_cons]at tA;have n1:=uh B ls (by omega);have Mw:∀n:Nat,kY [IT.v n]:=fun n u hu=>by simp at hu;subst hu;trivial
  obtain⟨x,hA,rb',q1,q2⟩:=ih (ns++[c]) (ts++[.v B.length]) (B++[.v B.length]) (ls++[.v B.length]) n m (bZ.app (Mw _)) (by simp;omega) ⟨⟨(pU.one B).sc hc.ok.sc,(pU.one B).zh hc.ok.sc hc.ok.zh⟩,hc.kd.app (Mw _),hc.Ga.app (Mw _),⟨by simp[hc.ctx.len],fun u hu=>by
   rcases adu.1 hu with hu|hu
   ·exact fq (by simp) (hc.ctx.I6 u hu)
   ·simp at hu;subst hu;simp[sc]⟩,by simp;omega,by simp;omega⟩ ⟨rb,Nh⟩
  rw[Nh]at q1;cases q1
  refine⟨_,Gf ns ts c t b B (B++[.v B.length]) ls B.length (by omega) (by rw[hc.ctx.len];omega) (by omega) n1 x hA,r,by rw[oz,Nh];simpa using hr,?_⟩;subst hr;cases rb with
  |none=>exact q2
  |some z=>
   obtain⟨z1,z2,z3⟩:=z;simp only[xB]at q2;exact⟨q2.1,q2.2.1,by simp[q2.2.2.1],q2.2.2.2⟩
 | @n2 kd a b hk ha hb iha ihb=>
  intro ns ts B ls n m bZ hn hc ⟨r,hr⟩;have zn:aU (AG kd a b)=aU a+aU b+1:=by simp[aU,bq];omega
  refine jT k ns ts _ (by simp) (by simp;omega) (by simp;omega) bZ (fun u hu=>by simp at hu;rcases hu with rfl|rfl<;>assumption) (fun us h=>.inr (.inr (.inl ⟨by simpa using hk,by simpa using h⟩))) (fun u hu C l n' m' g1 g2=>?_) B ls ⟨hc.ok,hc.kd,hc.Ga,hc.ctx,by have:=hc.len;simp[bq,aU]at this⊢;omega,by have:=hc.Gc;rw[zj hk]at this;simp[az]at this⊢;omega⟩ r hr;simp at hu;rcases hu with rfl|rfl
  ·exact iha ns ts C l n' m' bZ (by omega) g1 g2
  ·exact ihb ns ts C l n' m' bZ (by omega) g1 g2
 | @ite a b c ha hb rK iha ihb ihc=>
  intro ns ts B ls n m bZ hn hc ⟨r,hr⟩;have zn:aU (Fk a b c)=aU a+aU b+aU c+1:=by simp[aU,bq];omega
  refine jT k ns ts _ (by simp) (by simp) (by simp) bZ (fun u hu=>by simp at hu;rcases hu with rfl|rfl|rfl<;>assumption) (fun us h=>.inr (.inr (.inr ⟨by simp,by simpa using h⟩))) (fun u hu C l n' m' g1 g2=>?_) B ls ⟨hc.ok,hc.kd,hc.Ga,hc.ctx,by have:=hc.len;simp[bq,aU]at this⊢;omega,by have:=hc.Gc;rw[zk]at this;simp[az]at this⊢;omega⟩ r hr;simp at hu;rcases hu with rfl|rfl|rfl
  ·exact iha ns ts C l n' m' bZ (by omega) g1 g2
  ·exact ihb ns ts C l n' m' bZ (by omega) g1 g2
  ·exact ihc ns ts C l n' m' bZ (by omega) g1 g2
 | @n1 kd a hk ha ih=>
  intro ns ts B ls n m bZ hn hc ⟨r,hr⟩;have zn:aU (Ed kd a)=aU a+1:=by simp[aU,bq];omega
  refine jT k ns ts _ (by simp) (by simp;omega) (by simp;omega) bZ (fun u hu=>by simp at hu;subst hu;assumption) (fun us h=>.inr (.inl ⟨by simpa using hk,by simpa using h⟩)) (fun u hu C l n' m' g1 g2=>?_) B ls ⟨hc.ok,hc.kd,hc.Ga,hc.ctx,by have:=hc.len;simp[bq,aU]at this⊢;omega,by have:=hc.Gc;rw[zi hk]at this;simp[az]at this⊢;omega⟩ r hr;simp at hu;subst hu;exact ih ns ts C l n' m' bZ (by omega) g1 g2
end Go.Proofs.YtloolmchekcmeaaGreat
namespace Go.Proofs.YtloolmchekcmeaaGreat
attribute [-simp] Go.Av.ch Go.Av.eY Go.Av.fw Go.Av.fi Go.Av.cY Go.Av.cb
open Go Go.Av
attribute [local irreducible] T ah TX EX LX bC dk bV ck gp aI.kind aI.kids ao.kind ao.name ao.num ao.ty ao.fr ao.label ao.kids
attribute [local simp] aJ al
set_option maxHeartbeats 16000000
set_option maxRecDepth 8000
attribute [local simp] adl
theorem As {B:List IT} {K:Nat} (hK:Fuel B K) {t:IT} (ht:sc B.length t=true):∃j,ex B j t=true/\hd B j t=hd B K t:=by
 obtain⟨j,hj⟩:=oA hK ht;refine⟨j+K,oN (by omega) hj,?_⟩;cases t with
 |v n=>
  have hn:n<B.length:=by simpa[sc]using ht
  rw[ic (hK n hn) (show K<=j+K by omega)]
 |b c=>cases K<;>cases j<;>rfl
 |p c x y=>cases K<;>cases j<;>rfl
def At (f:IT->Option aI):List IT->Option (List aI)
 |[]=>some []
 |t::r=>match f t with
  |none=>none
  |some T=>(At f r).map (T::·)
theorem Gg {B:List IT} {K d:Nat} {t u:IT} (hu:hd B K t=u) (hv:∀n,u≠.v n):eZ B K (d+1) t=(At (eZ B K d) u.kids).map (.mk u.kind):=by
 simp only[eZ,hu];cases u with
 |v n=>exact absurd rfl (hv n)
 |b c=>rfl
 |p c x y=>
  simp only[IT.iS,IT.gl,At];cases eZ B K d x with
  |none=>rfl
  |some X=>cases eZ B K d y<;>rfl
theorem Au (B ls:List IT) (hS:s8 B) (nG:kY B) (hB:B.length<=1048576) (K:Nat) (hK:Fuel B K):∀(d:Nat) (t:IT),d<=100->sc B.length t=true->gU t->ah adj 68 [ie B ls,jP t,.i d] [] (.a8 (fY (eZ B K d t))) [] []:=by
 intro d;induction d with
 |zero=>
  intro t _ ht hk;obtain⟨j,hx,hj⟩:=As hK ht;have h1:=lO B ls hS nG hB j t hx ht hk;rw[show eZ B K 0 t=none by simp[eZ],fY];refine ah.ob Tryz.func68 Tryz.ntmps68 rfl ?_;repeat' first|(refine ab (hK _ ?_);clear hK K)|((first|refine ae ?_|refine aa rfl (h1) ?_);simp;(try(refine gen2 ?_ ?_<;>intro hq<;>try simp at hq)))|(refine T.ret (aB.a8 (Or.inr rfl) ?_)<;>simp[aA,Tryz.results68]<;>omega)|refine T.r0 fun K hK=>?_|refine T.ct rfl ?_|refine T.seq ?_
 |succ d ih=>
  intro t qZ ht hk;obtain⟨j,hx,hj⟩:=As hK ht;have h1:=lO B ls hS nG hB j t hx ht hk;rw[hj]at h1;have I8:=Aj hK ht;have Cy:=oO hS (k:=K) ht;have ku:=oP nG (k:=K) hk;have q0:¬(d:Int)+1<1:=by omega
  have hi:=nc;obtain⟨u,hu⟩:∃u,hd B K t=u:=⟨_,rfl⟩;rw[hu]at h1 I8 Cy ku;by_cases hv:∃n,u=.v n
  ·obtain⟨n,rfl⟩:=hv;rw[show eZ B K (d+1) t=some bw by simp[eZ,hu],fY];refine ah.ob Tryz.func68 Tryz.ntmps68 rfl ?_;repeat' first|(refine ab (hK _ ?_);clear hK K)|((first|refine ae ?_|refine aa rfl (h1) ?_|refine aa rfl (hi) ?_);simp[q0];(try(refine gen2 ?_ ?_<;>intro hq<;>try simp[q0]at hq)))|(refine T.ret (aB.a8 (Or.inr rfl) ?_)<;>simp[aA,Tryz.results68]<;>omega)|refine T.r0 fun K hK=>?_|refine T.ct rfl ?_|refine T.cf rfl ?_|refine T.seq ?_|refine T.skip ?_
  have Pk:∀n,u≠.v n:=fun n e=>hv ⟨n,e⟩
  have gv:=jQ ku Pk;rw[Gg hu Pk];have uQ:u.kids.length<=2:=by cases u<;>simp
  have lF:∀w∈u.kids,ah adj 68 [ie B ls,jP w,.i d] [] (.a8 (fY (eZ B K d w))) [] []:=fun w hw=>ih w (by omega) (Al Cy w hw) (xw ku w hw)
  obtain⟨R,hR⟩:∃R,At (eZ B K d) u.kids=R:=⟨_,rfl⟩;rw[hR];obtain⟨L,hL⟩:∃L,u.kids=L:=⟨_,rfl⟩;rw[hL]at hR lF uQ;replace h1:ah adj 102 [ie B ls,jP t] [] (.agg [.d (.i u.kind),.d (.i u.name),.d (.sl (L.map oQ))]) [] []:=by rw[<-hL];exact h1
  have gR:(d:Int)+1-1=d:=by omega
  clear ih I8 Cy ku hx hj;refine ah.ob Tryz.func68 Tryz.ntmps68 rfl ?_;repeat' first|(refine ab (hK _ ?_);clear hK K)|((first|refine ae ?_|refine aa rfl (h1) ?_);simp[q0,gv];(try(refine gen2 ?_ ?_<;>intro hq<;>try simp[q0,gv]at hq)))|refine T.r0 fun K hK=>?_|refine T.cf rfl ?_|refine T.seq ?_|refine T.block ?_|refine T.skip ?_
  refine T.dq 3 1 2 25 (row:=[.d (.i u.kind),.nil]) (by simp) (by simp) ?_;refine T.dD (α:=Nat×List aI×List (List CV)) [2,3,4,6,8] (fun x=>[(7,.b false),(9,.i x.1)]) (fun x=>[(3,[.d (.i u.kind),.own 0 x.1])]) (fun x=>x.2.2) (fun x _=>[{sz:=2,ev:=25,rows:=x.2.1.map ck,wr:=true}]) (fun x=>L.length+1-x.1) (fun x=>x.1<=L.length/\x.2.1.length=x.1/\(At (eZ B K d) (L.drop x.1)).map (x.2.1++·)=R) (by simp;rfl) (fun x hx=>?_) (0,[],[]) ⟨by simp,rfl,by simp[hR]⟩ (by simp) (by simp) (by simp);obtain⟨p,ts,G⟩:=x;obtain⟨hx,hp,he⟩:=hx;dsimp only at hx hp he⊢;simp only[gy,adm,adn,adp,ado,adq];by_cases ay:p<L.length
  ·obtain⟨w,ht⟩:=bM ay;have eA:w∈L:=ads ht;have aX:L[p]=w:=by rw[adr ay]at ht;exact Option.some.inj ht
   have gz:L.drop p=w::L.drop (p+1):=by rw[adt ay,aX]
   have hw:=lF w eA;rw[gz,At]at he;cases hb:eZ B K d w with
   |none=>
    rw[hb]at he hw;simp at he;subst he;simp only[fY]at hw;simp only[Option.map_none,fY];repeat' first|((first|refine ab (hK _ ?_)|refine bj (hK _ ?_));clear hK K)|((first|refine ae ?_|refine bB ?_|refine aa rfl (hw) ?_);simp[ay,aX,aq w,gR];(try simp(disch:=omega)only[wrap64]);(try(refine gen2 ?_ ?_<;>intro hq<;>try simp[ay,aX,aq w,gR]at hq)))|(refine T.ret (aB.a8 (Or.inr rfl) ?_)<;>simp[aA,Tryz.results68]<;>omega)|refine T.mL (id:=10) mixed (fun _=>false) [12,13] [0,2,4,5,8] 13 [] (by kernel_rfl) fun K hK=>?_|(refine⟨?_,?_⟩;(focus(intros;refine aa rfl (hw) ?_;simp;done)))|refine T.r0 fun K hK=>?_|refine T.ct rfl ?_|refine T.seq ?_|refine T.block ?_|refine T.skip ?_
   |some T1=>
    rw[hb]at he hw;simp only[fY]at hw;have Vo:(At (eZ B K d) (L.drop (p+1))).map ((ts++[T1])++·)=R:=by
     rw[<-he];cases At (eZ B K d) (L.drop (p+1))<;>simp
    repeat' first|((first|refine ab (hK _ ?_)|refine bj (hK _ ?_));clear hK K)|((first|refine ae ?_|refine bB ?_|refine aa rfl (hw) ?_);simp[ay,aX,aq w,gR,hp];(try simp(disch:=omega)only[wrap64]);(try(refine gen2 ?_ ?_<;>intro hq<;>try simp[ay,aX,aq w,gR,hp]at hq)))|(refine⟨by omega,by omega,?_⟩)|refine T.mL (id:=10) mixed (fun _=>false) [12,13] [0,2,4,5,8] 13 [] (by kernel_rfl) fun K hK=>?_|(refine⟨?_,?_⟩;(focus(intros;refine aa rfl (hw) ?_;simp;done)))|refine T.r0 fun K hK=>?_|refine T.r1 fun K hK=>?_|refine T.ct rfl ?_|refine T.cf rfl ?_|refine T.seq ?_|refine T.block ?_|refine T.skip ?_
    refine⟨(p+1,ts++[T1],_),by dsimp only;omega,⟨by omega,by simp[hp],Vo⟩,rfl,?_,?_⟩<;>simp(disch:=omega) [wrap64,aJ T1]
  ·have fa:p=L.length:=by omega
   subst fa;simp[At]at he;subst he;simp only[Option.map_some,fY];have eX:¬ts.length<L.length:=by omega
   rw[<-hp];repeat' first|(refine ab (hK _ ?_);clear hK K)|(refine ae ?_;simp[eX];(try(refine gen2 ?_ ?_<;>intro hq<;>try simp[eX]at hq)))|(refine T.ret (aB.a8 (Or.inr rfl) ?_)<;>simp[aA,Tryz.results68]<;>omega)|refine T.r0 fun K hK=>?_|refine T.cf rfl ?_|refine T.seq ?_|refine T.exit ?_
@[simp] theorem Qa:td adj 21=some {ag:=false,sz:=1,lR:=4,zero:=some [.d (.int .i32 0)],el:=none,ar:=none,fl:=[],ik:=some .i32,cS:=false,nC:=false}:=dR (by kernel_rfl)
def V4 (l:List Nat):List (List DV):=l.map fun(n:Nat)=>[DV.i n]
theorem iU {e:ao} (hv:aQ e=true):Ba (mapM aM e)/\kG 14 12 (mapM aM e)/\aU (mapM aM e)<=30/\(aF (mapM aM e)).length<=30:=by
 obtain⟨h1,h2⟩:=c6.1 hv;obtain⟨h3,_,h4⟩:=C9 h1 (.inr rfl);have h5:=h3.types.2;exact⟨Ba.of h1,h3,by omega,by omega⟩
theorem ui (e:ao) (h1:aU e<=30) (h2:(aF e).length<=30):ir [] [] [] [] (aU e+0) ((aF e).length+0):=
 ⟨Ak,fun t h=>(by cases h),fun t h=>(by cases h),xv,by simp;omega,by simp;omega⟩
theorem Aw {e:ao} (hv:aQ e=true):(∃k B ls t,Whole (mapM aM e) k B ls t/\rE [] [] (mapM aM e) [] [] (B,ls,t,true))\/((∃k,inf k (mapM aM e) [] [] [] []=some none)/\∃B ls t,rE [] [] (mapM aM e) [] [] (B,ls,t,false)):=by
 obtain⟨hb,_,hn,ht⟩:=iU hv;rcases sQ hb with⟨k,B,ls,t,hw⟩|⟨k,hk⟩
 ·obtain⟨x,hA,r,hr,ha⟩:=ve k hb [] [] [] [] 0 0 (fun t h=>(by cases h)) (by simp;omega) (ui _ hn ht) ⟨_,hw.inf⟩;rw[hw.inf]at hr;cases hr
  obtain⟨x1,x2,x3,x4⟩:=x;simp only[xB]at ha;obtain⟨rfl,rfl,rfl,rfl⟩:=ha;exact .inl ⟨k,_,_,_,hw,hA⟩
 ·obtain⟨x,hA,r,hr,ha⟩:=ve k hb [] [] [] [] 0 0 (fun t h=>(by cases h)) (by simp;omega) (ui _ hn ht) ⟨_,hk⟩;rw[hk]at hr;cases hr
  obtain⟨x1,x2,x3,x4⟩:=x;simp only[xB]at ha;subst ha;exact .inr ⟨⟨k,hk⟩,_,_,_,hA⟩
end Go.Proofs.YtloolmchekcmeaaGreat
