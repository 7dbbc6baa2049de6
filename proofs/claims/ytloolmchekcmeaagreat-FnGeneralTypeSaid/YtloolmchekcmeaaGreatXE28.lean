/- A part. -/
import Derived.Test.YtloolmchekcmeaaGreatXE27
set_option linter.unusedVariables false
set_option linter.unusedSimpArgs false
open Go.Proofs.Tryz renaming prog->adi
open Option renaming map_eq_some_iff->adj,isSome_none->adk,getD_none->adl,bind->adm
open List renaming set_cons_zero->adn,set_cons_succ->ado,nil_append->adp,cons_append->adq,append_nil->adr,getElem?_eq_getElem->ads,mem_of_getElem?->adt,drop_eq_getElem_cons->adu,mem_append->adv,length_append->adw,mem_cons->adx
open Nat renaming strongRecOn->ady,le_of_lt->adz
open Bool renaming false_eq_true->adA,true_and->adB,false_and->adC,and_eq_true->adD
namespace Go.Proofs.YtloolmchekcmeaaGreat
attribute [-simp] Go.Av.cb Go.Av.eL Go.Av.fj Go.Av.fa Go.Av.cT Go.Av.b9
open Go Go.Av
attribute [local irreducible] T ah TX EX LX bw dh bR cA gA aE.kind aE.kids ao.kind ao.name ao.num ao.ty ao.fr ao.label ao.kids
attribute [local simp] aQ ax
set_option maxHeartbeats 16000000
set_option maxRecDepth 8000
attribute [local simp] adm
@[simp] theorem wm:td adi 72=some {ag:=true,sz:=3,lG:=40,zero:=some [.d (.int .i64 0),.d (.int .i64 0),.nil],el:=none,ar:=none,fl:=[(0,1),(1,1),(2,1)],ik:=none,cL:=false,nj:=false}:=dI (by kernel_rfl)
@[simp] theorem O9:td adi 68=some {ag:=false,sz:=1,lG:=24,zero:=some [.nil],el:=some 72,ar:=none,fl:=[],ik:=none,cL:=false,nj:=false}:=dI (by kernel_rfl)
@[simp] theorem PY:td adi 70=some {ag:=true,sz:=2,lG:=48,zero:=some [.nil,.nil],el:=none,ar:=none,fl:=[(0,1),(1,1)],ik:=none,cL:=false,nj:=false}:=dI (by kernel_rfl)
theorem er (k:Int):ah adi 135 [.i k] [] (gZ (.b k)) [] []:=by
 refine ah.ob Tryz.func135 Tryz.ntmps135 rfl ?_;repeat' first|(refine ab (hK _ ?_);clear hK K)|(refine af ?_;simp;(try(refine gen2 ?_ ?_<;>intro hq<;>try simp at hq)))|(refine T.ret (aD.val (Or.inr rfl) ?_)<;>simp[aF,Tryz.results135,an]<;>omega)|refine T.r0 fun K hK=>?_
theorem qu (k:Int) (x y:IT):ah adi 100 [.i k,gZ x,gZ y] [] (gZ (.p k x y)) [] []:=by
 refine ah.ob Tryz.func100 Tryz.ntmps100 rfl ?_;repeat' first|(refine ab (hK _ ?_);clear hK K)|(refine af ?_;simp;(try(refine gen2 ?_ ?_<;>intro hq<;>try simp at hq)))|(refine T.ret (aD.val (Or.inr rfl) ?_)<;>simp[aF,Tryz.results100,an]<;>omega)|refine T.r0 fun K hK=>?_
theorem uD (B ls:List IT) (hB:B.length<=1048576):ah adi 99 [fR B ls] [] (.bq [fR (B++[.v B.length]) ls,gZ (.v B.length)]) [] []:=by
 refine ah.ob Tryz.func99 Tryz.ntmps99 rfl ?_;repeat' first|(refine ab (hK _ ?_);clear hK K)|(refine af ?_;simp;(try(refine gen2 ?_ ?_<;>intro hq<;>try simp at hq)))|refine T.rs (id:=0) (fun _=>false) fun K hK=>?_|refine T.rs (id:=1) (fun _=>false) fun K hK=>?_|refine T.seq ?_
 refine T.Lx 3 2 (row:=[.d (.i 0),.d (.i B.length),.nil]) (by simp) (by simp) ?_;simp;repeat' first|(refine bz (hK _ ?_);clear hK K)|(refine bO ?_;simp;(try(refine gen2 ?_ ?_<;>intro hq<;>try simp at hq)))|(refine⟨by omega,by omega,?_⟩)|(refine T.ret (aD.bq (Or.inr rfl) ?_)<;>simp[aF,Tryz.results99,kh]<;>omega)|refine T.Df (id:=2) mixed (fun i=>i==0) [0,3,6,8] [2,4,5] 4 [1] (by kernel_rfl) fun K hK=>?_|refine T.pB (id:=3) mixed (fun _=>false) [2,3] [1] 3 [1] (by kernel_rfl) fun K hK=>?_
theorem lE (B ls:List IT) (hS:ry B) (lC:ku B) (hB:B.length<=1048576) (k:Nat) (t:IT) (hx:ex B k t=true) (ht:sc B.length t=true) (hk:gj t):ah adi 102 [fR B ls,gZ t] [] (gZ (hd B k t)) [] []:=by
 obtain⟨R,hR⟩:∃R,hd B k t=R:=⟨_,rfl⟩;rw[hR];refine ah.ob Tryz.func102 Tryz.ntmps102 rfl ?_;repeat' first|(refine ab (hK _ ?_);clear hK K)|(refine af ?_;simp;(try(refine gen2 ?_ ?_<;>intro hq<;>try simp at hq)))|refine T.r0 fun K hK=>?_|refine T.seq ?_|refine T.block ?_
 refine T.dA (α:=Nat×IT) [2,3,4] (fun x=>[]) (fun x=>[(1,(gZ x.2).cells)]) (fun x=>[]) (fun x A=>A) (fun x=>x.1) (fun x=>ex B x.1 x.2=true/\sc B.length x.2=true/\gj x.2/\hd B x.1 x.2=R) (by simp;rfl) (fun x hx=>?_) (k,t) ⟨hx,ht,hk,hR⟩ (by simp) (by simp) (by simp);obtain⟨j,u⟩:=x;obtain⟨hx,hs,RX,he⟩:=hx;dsimp only at hx hs RX he⊢;simp only[gi,adn,ado,adq,adp,adr];cases u with
 |b c=>
  have gx:=kI RX (by simp);simp only[IT.gU]at gx;have hr:R=.b c:=by rw[<-he];cases j<;>rfl
  subst hr;repeat' first|((first|refine ab (hK _ ?_)|refine aA (hK _ ?_));clear hK K)|((first|refine af ?_|refine aG ?_);simp[gx];(try(refine gen2 ?_ ?_<;>intro hq<;>try simp[gx]at hq)))|(refine T.ret (aD.val (Or.inr rfl) ?_)<;>simp[aF,Tryz.results102]<;>omega)|refine T.rd (id:=1) mixed (fun _=>false) [] (by kernel_rfl) fun K hK=>?_|refine T.r0 fun K hK=>?_|refine T.cf rfl ?_|refine T.seq ?_|refine T.exit ?_
 |p c a b=>
  have gx:=kI RX (by simp);simp only[IT.gV]at gx;have hr:R=.p c a b:=by rw[<-he];cases j<;>rfl
  subst hr;repeat' first|((first|refine ab (hK _ ?_)|refine aA (hK _ ?_));clear hK K)|((first|refine af ?_|refine aG ?_);simp[gx];(try(refine gen2 ?_ ?_<;>intro hq<;>try simp[gx]at hq)))|(refine T.ret (aD.val (Or.inr rfl) ?_)<;>simp[aF,Tryz.results102]<;>omega)|refine T.rd (id:=1) mixed (fun _=>false) [] (by kernel_rfl) fun K hK=>?_|refine T.r0 fun K hK=>?_|refine T.cf rfl ?_|refine T.seq ?_|refine T.exit ?_
 |v m=>
  have az:m<B.length:=by simpa[sc]using hs
  obtain⟨w,ht⟩:=bX az;have fz:w∈B:=adt ht;have a8:B[m]=w:=by rw[ads az]at ht;exact Option.some.inj ht
  have jb:B.drop m=w::B.drop (m+1):=by rw[adu az,a8]
  cases hb:bd B m with
  |none=>
   have hw:w=.v m:=by have:=Kd az hb;rw[ht]at this;exact Option.some.inj this
   subst hw;have hr:R=.v m:=by rw[<-he,E2 hb]
   subst hr;repeat' first|((first|refine ab (hK _ ?_)|refine aA (hK _ ?_));clear hK K)|((first|refine af ?_|refine aG ?_);simp[az,a8,kh];(try(refine gen2 ?_ ?_<;>intro hq<;>try simp[az,a8,kh]at hq)))|(refine T.ret (aD.val (Or.inr rfl) ?_)<;>simp[aF,Tryz.results102]<;>omega)|refine T.rd (id:=1) mixed (fun _=>false) [] (by kernel_rfl) fun K hK=>?_|refine T.r0 fun K hK=>?_|refine T.cf rfl ?_|refine T.seq ?_|refine T.exit ?_
  |some w'=>
   obtain⟨h1,h2⟩:=sO hb;have hw:w'=w:=by rw[ht]at h1;exact(Option.some.inj h1).symm
   subst hw;cases j with
   |zero=>simp[ex]at hx
   |succ j=>
    have ji:ex B j w'=true:=by simpa[ex,hb]using hx
    rw[E1 hb]at he;have AY:=Ci hS hb;have kQ:=Iy lC hb;cases w' with
    |v m2=>
     have dc:¬(m2:Int)=m:=by intro e;exact h2 (by rw[show m2=m by omega])
     repeat' first|((first|refine ab (hK _ ?_)|refine aA (hK _ ?_));clear hK K)|((first|refine af ?_|refine aG ?_);simp[az,a8,dc,kh];(try(refine gen2 ?_ ?_<;>intro hq<;>try simp[az,a8,dc,kh]at hq)))|(refine⟨(j,.v m2),by dsimp only;omega,⟨ji,AY,kQ,he⟩,rfl,?_,?_⟩<;>simp(disch:=omega))|refine T.rd (id:=1) mixed (fun _=>false) [] (by kernel_rfl) fun K hK=>?_|refine T.r1 fun K hK=>?_|refine T.ct rfl ?_|refine T.seq ?_|refine T.block ?_|refine T.skip ?_
    |b c=>
     have gx:=kI kQ (by simp);simp only[IT.gU]at gx;repeat' first|((first|refine ab (hK _ ?_)|refine aA (hK _ ?_));clear hK K)|((first|refine af ?_|refine aG ?_);simp[az,a8,gx,EZ,E0];(try(refine gen2 ?_ ?_<;>intro hq<;>try simp[az,a8,gx,EZ,E0]at hq)))|(refine⟨(j,.b c),by dsimp only;omega,⟨ji,AY,kQ,he⟩,rfl,?_,?_⟩<;>simp(disch:=omega))|refine T.rd (id:=1) mixed (fun _=>false) [] (by kernel_rfl) fun K hK=>?_|refine T.r1 fun K hK=>?_|refine T.ct rfl ?_|refine T.seq ?_|refine T.block ?_|refine T.skip ?_
    |p c a b=>
     have gx:=kI kQ (by simp);simp only[IT.gV]at gx;repeat' first|((first|refine ab (hK _ ?_)|refine aA (hK _ ?_));clear hK K)|((first|refine af ?_|refine aG ?_);simp[az,a8,gx,EZ,E0];(try(refine gen2 ?_ ?_<;>intro hq<;>try simp[az,a8,gx,EZ,E0]at hq)))|(refine⟨(j,.p c a b),by dsimp only;omega,⟨ji,AY,kQ,he⟩,rfl,?_,?_⟩<;>simp(disch:=omega))|refine T.rd (id:=1) mixed (fun _=>false) [] (by kernel_rfl) fun K hK=>?_|refine T.r1 fun K hK=>?_|refine T.ct rfl ?_|refine T.seq ?_|refine T.block ?_|refine T.skip ?_
theorem AH (B ls:List IT) (hS:ry B) (lC:ku B) (hB:B.length<=1048576) (n:Nat):∀(k:Nat) (t:IT),ex B k t=true->sc B.length t=true->gj t->ah adi 167 [fR B ls,.i n,gZ t] [] (.b (jk B n k t)) [] []:=by
 intro k;induction k using ady with
 |_ k ih=>
  intro t hx ht hk;have h1:=lE B ls hS lC hB k t hx ht hk;have Gp:=fL hx;have AY:=lA hS (k:=k) ht;have kQ:=mY lC (k:=k) hk;have ji:=jl hx;have wg:=fun c x y=>n0 (c:=c) (x:=x) (y:=y) hx
  rw[<-DX hx];generalize hd B k t=u at*;have key:(∀n,u≠.v n)->(∀w∈u.kids,ah adi 167 [fR B ls,.i n,gZ w] [] (.b (jk B n k w)) [] [])->ah adi 167 [fR B ls,.i n,gZ t] [] (.b (jk B n k u)) [] []:=by
   intro To mS;have gx:=kI kQ To;rw[IB ji To];have xB:u.kids.length<=2:=by cases u<;>simp
   clear ih wg Gp AY kQ ji;obtain⟨f,hf⟩:∃f,(fun w=>jk B n k w)=f:=⟨_,rfl⟩;replace mS:∀w∈u.kids,ah adi 167 [fR B ls,.i n,gZ w] [] (.b (f w)) [] []:=fun w hw=>by rw[<-hf];exact mS w hw
   rw[hf];obtain⟨R,hR⟩:∃R,u.kids.any f=R:=⟨_,rfl⟩;rw[hR];obtain⟨L,hL⟩:∃L,u.kids=L:=⟨_,rfl⟩;rw[hL]at hR mS xB;replace h1:ah adi 102 [fR B ls,gZ t] [] (.agg [.d (.i u.kind),.d (.i u.name),.d (.sl (L.map oN))]) [] []:=by rw[<-hL];exact h1
   refine ah.ob Tryz.func167 Tryz.ntmps167 rfl ?_;repeat' first|(refine ab (hK _ ?_);clear hK K)|((first|refine af ?_|refine aa rfl (h1) ?_);simp[gx];(try(refine gen2 ?_ ?_<;>intro hq<;>try simp[gx]at hq)))|refine T.r0 fun K hK=>?_|refine T.cf rfl ?_|refine T.seq ?_|refine T.block ?_|refine T.skip ?_
   refine T.dA (α:=Nat) [1,3,5] (fun x=>[(6,.b false),(7,.i x)]) (fun x=>[]) (fun x=>[]) (fun x A=>A) (fun x=>L.length+1-x) (fun x=>x<=L.length/\(L.drop x).any f=R) (by simp;rfl) (fun p hx=>?_) 0 ⟨by simp,by simpa using hR⟩ (by simp) (by simp) (by simp);obtain⟨hx,he⟩:=hx;dsimp only at hx he⊢;simp only[gi,adn,ado,adq,adp,adr];by_cases az:p<L.length
   ·obtain⟨w,ht⟩:=bX az;have fz:w∈L:=adt ht;have a8:L[p]=w:=by rw[ads az]at ht;exact Option.some.inj ht
    have jb:L.drop p=w::L.drop (p+1):=by rw[adu az,a8]
    have hw:=mS w fz;rw[jb,List.any_cons]at he;cases hb:f w with
    |true=>
     rw[hb,Bool.true_or]at he;rw[hb]at hw;subst he;repeat' first|((first|refine ab (hK _ ?_)|refine aA (hK _ ?_));clear hK K)|((first|refine af ?_|refine aG ?_|refine aa rfl (hw) ?_);simp[az,a8,an w];(try simp(disch:=omega)only[wrap64]);(try(refine gen2 ?_ ?_<;>intro hq<;>try simp[az,a8,an w]at hq)))|(refine T.ret (aD.data (Or.inr rfl) ?_ ?_)<;>simp[Tryz.results167]<;>omega)|refine T.rd (id:=7) mixed (fun _=>false) [] (by kernel_rfl) fun K hK=>?_|refine T.r0 fun K hK=>?_|refine T.ct rfl ?_|refine T.seq ?_|refine T.block ?_|refine T.skip ?_
    |false=>
     rw[hb,Bool.false_or]at he;rw[hb]at hw;repeat' first|((first|refine ab (hK _ ?_)|refine aA (hK _ ?_));clear hK K)|((first|refine af ?_|refine aG ?_|refine aa rfl (hw) ?_);simp[az,a8,an w];(try simp(disch:=omega)only[wrap64]);(try(refine gen2 ?_ ?_<;>intro hq<;>try simp[az,a8,an w]at hq)))|(refine⟨p+1,by dsimp only;omega,⟨by omega,he⟩,?_,?_,?_⟩<;>simp(disch:=omega) [wrap64])|refine T.rd (id:=7) mixed (fun _=>false) [] (by kernel_rfl) fun K hK=>?_|refine T.r0 fun K hK=>?_|refine T.r1 fun K hK=>?_|refine T.ct rfl ?_|refine T.cf rfl ?_|refine T.seq ?_|refine T.block ?_|refine T.skip ?_
   ·have fX:p=L.length:=by omega
    subst fX;simp at he;subst he;repeat' first|(refine ab (hK _ ?_);clear hK K)|(refine af ?_;simp[az];(try(refine gen2 ?_ ?_<;>intro hq<;>try simp[az]at hq)))|(refine T.ret (aD.data (Or.inr rfl) ?_ ?_)<;>simp[Tryz.results167]<;>omega)|refine T.r0 fun K hK=>?_|refine T.cf rfl ?_|refine T.seq ?_|refine T.exit ?_
  cases hu:u with
  |v m=>
   subst hu;have hb:=Gp m rfl;have ho:jk B n k (.v m)=decide (m=n):=by
    cases k with
    |zero=>simp[ex]at hx
    |succ k=>simp[jk,hb]
   rw[ho];have hc:decide ((m:Int)=n)=decide (m=n):=decide_eq_decide.2 (by omega);by_cases e:m=n
   ·subst e;refine ah.ob Tryz.func167 Tryz.ntmps167 rfl ?_;repeat' first|(refine ab (hK _ ?_);clear hK K)|((first|refine af ?_|refine aa rfl (h1) ?_);simp;(try(refine gen2 ?_ ?_<;>intro hq<;>try simp at hq)))|(refine T.ret (aD.data (Or.inr rfl) ?_ ?_)<;>simp[Tryz.results167]<;>omega)|refine T.r0 fun K hK=>?_|refine T.ct rfl ?_|refine T.seq ?_
   ·have e':¬(m:Int)=n:=by omega
    refine ah.ob Tryz.func167 Tryz.ntmps167 rfl ?_;repeat' first|(refine ab (hK _ ?_);clear hK K)|((first|refine af ?_|refine aa rfl (h1) ?_);simp[e,e'];(try(refine gen2 ?_ ?_<;>intro hq<;>try simp[e,e']at hq)))|(refine T.ret (aD.data (Or.inr rfl) ?_ ?_)<;>simp[Tryz.results167,e,e']<;>omega)|refine T.r0 fun K hK=>?_|refine T.ct rfl ?_|refine T.seq ?_
  |b c=>
   rw[<-hu];exact key (by rw[hu];simp) (by rw[hu];simp)
  |p c x y=>
   rw[<-hu];refine key (by rw[hu];simp) fun w hw=>?_
   obtain⟨j,hj,Je,Jf⟩:=wg c x y hu;rw[hu,IT.jF]at hw;simp only[adx,List.not_mem_nil,or_false]at hw;rcases hw with rfl|rfl
   ·have g1:=ih j hj w Je (qt AY w (by simp[hu])) (na kQ w (by simp[hu]));rwa[<-eo Je (adz hj)]at g1
   ·have g2:=ih j hj w Jf (qt AY w (by simp[hu])) (na kQ w (by simp[hu]));rwa[<-eo Jf (adz hj)]at g2
theorem D6 (B ls:List IT) (hS:ry B) (lC:ku B) (hB:B.length<=1048576) (n:Nat) (hn:n<B.length) (k:Nat) (t:IT) (hx:ex B k t=true) (ht:sc B.length t=true) (hk:gj t):ah adi 158 [fR B ls,.i n,gZ t] [] (.bq [fR (zK k B n t).1 ls,.b (zK k B n t).2]) [] []:=by
 have g:=AH B ls hS lC hB n k t hx ht hk;obtain⟨q,hq⟩:∃q,jk B n k t=q:=⟨_,rfl⟩;rw[hq]at g;have bN:(B.map oN).set n (oN t)=(B.set n t).map oN:=by rw[List.map_set]
 rw[an t]at bN;by_cases hv:t=.v n
 ·subst hv;rw[zK,if_pos rfl];refine ah.ob Tryz.func158 Tryz.ntmps158 rfl ?_;repeat' first|(refine ab (hK _ ?_);clear hK K)|(refine af ?_;simp;(try(refine gen2 ?_ ?_<;>intro hq<;>(try simp at hq)<;>try(have:True:=hq;clear this hq))))|(refine T.ret (aD.bq (Or.inr rfl) ?_)<;>simp[aF,Tryz.results158]<;>omega)|refine T.r0 fun K hK=>?_|refine T.ct rfl ?_|refine T.seq ?_
 have AX:(t.kind=0/\(t.name:Int)≠n)\/t.kind≠0:=by
  cases t with
  |v m=>exact .inl ⟨rfl,fun e=>hv (by simp only[IT.mA]at e;rw[show m=n by omega])⟩
  |b c=>exact .inr (kI hk (by simp))
  |p c x y=>exact .inr (kI hk (by simp))
 rw[zK,if_neg hv,hq];clear hx ht hk hv;rcases AX with⟨h0,hm⟩|h0<;>cases q<;>simp only[if_true,adA,if_false]
 ·rw[h0]at bN;refine ah.ob Tryz.func158 Tryz.ntmps158 rfl ?_;repeat' first|(refine ab (hK _ ?_);clear hK K)|((first|refine af ?_|(refine aa ?_ (g) ?_;(focus(solve|simp[h0,hm,hn,mZ,bN]))));simp[h0,hm,hn,mZ,bN];(try(refine gen2 ?_ ?_<;>intro hq<;>(try simp[h0,hm,hn,mZ,bN]at hq)<;>try(have:True:=hq;clear this hq))))|(refine⟨by omega,by omega,?_⟩)|(refine T.ret (aD.bq (Or.inr rfl) ?_)<;>simp[aF,Tryz.results158]<;>omega)|refine T.rs (id:=5) (fun i=>i==0) fun K hK=>?_|refine T.rs (id:=0) (fun _=>false) fun K hK=>?_|refine T.rs (id:=1) (fun _=>false) fun K hK=>?_|refine T.rs (id:=3) (fun _=>false) fun K hK=>?_|refine T.rs (id:=6) (fun _=>false) fun K hK=>?_|refine T.rs (id:=7) (fun _=>false) fun K hK=>?_|refine T.cf rfl ?_|refine T.seq ?_|refine T.skip ?_
 ·refine ah.ob Tryz.func158 Tryz.ntmps158 rfl ?_;repeat' first|(refine ab (hK _ ?_);clear hK K)|((first|refine af ?_|(refine aa ?_ (g) ?_;(focus(solve|simp[h0,hm,hn]))));simp[h0,hm,hn];(try(refine gen2 ?_ ?_<;>intro hq<;>(try simp[h0,hm,hn]at hq)<;>try(have:True:=hq;clear this hq))))|(refine T.ret (aD.bq (Or.inr rfl) ?_)<;>simp[aF,Tryz.results158]<;>omega)|refine T.r0 fun K hK=>?_|refine T.ct rfl ?_|refine T.cf rfl ?_|refine T.seq ?_|refine T.skip ?_
 ·refine ah.ob Tryz.func158 Tryz.ntmps158 rfl ?_;repeat' first|(refine ab (hK _ ?_);clear hK K)|((first|refine af ?_|(refine aa ?_ (g) ?_;(focus(solve|simp[h0,hn,mZ,bN]))));simp[h0,hn,mZ,bN];(try(refine gen2 ?_ ?_<;>intro hq<;>(try simp[h0,hn,mZ,bN]at hq)<;>try(have:True:=hq;clear this hq))))|(refine⟨by omega,by omega,?_⟩)|(refine T.ret (aD.bq (Or.inr rfl) ?_)<;>simp[aF,Tryz.results158]<;>omega)|refine T.rs (id:=5) (fun i=>i==0) fun K hK=>?_|refine T.rs (id:=0) (fun _=>false) fun K hK=>?_|refine T.rs (id:=1) (fun _=>false) fun K hK=>?_|refine T.rs (id:=3) (fun _=>false) fun K hK=>?_|refine T.rs (id:=6) (fun _=>false) fun K hK=>?_|refine T.rs (id:=7) (fun _=>false) fun K hK=>?_|refine T.cf rfl ?_|refine T.seq ?_|refine T.skip ?_
 ·refine ah.ob Tryz.func158 Tryz.ntmps158 rfl ?_;repeat' first|(refine ab (hK _ ?_);clear hK K)|((first|refine af ?_|refine aa rfl (g) ?_);simp[h0,hn];(try(refine gen2 ?_ ?_<;>intro hq<;>(try simp[h0,hn]at hq)<;>try(have:True:=hq;clear this hq))))|(refine T.ret (aD.bq (Or.inr rfl) ?_)<;>simp[aF,Tryz.results158]<;>omega)|refine T.r0 fun K hK=>?_|refine T.ct rfl ?_|refine T.cf rfl ?_|refine T.seq ?_|refine T.skip ?_
theorem Cz (ls:List IT):∀(k:Nat) (B:List IT) (a b:IT) (B':List IT) (q:Bool),ry B->ku B->B.length<=1048576->sc B.length a=true->sc B.length b=true->gj a->gj b->iD k B a b=some (B',q)->ah adi 136 [fR B ls,gZ a,gZ b] [] (.bq [fR B' ls,.b q]) [] []:=by
 intro k;induction k with
 |zero=>intro B a b B' q _ _ _ _ _ _ _ h;simp[iD]at h
 |succ k ih=>
  intro B a b B' q hS lC hB ha hb FK MZ h;rw[iD]at h;split at h
  case isFalse=>simp at h
  rename_i hex;rw[adD]at hex;have h1:=lE B ls hS lC hB k a hex.1 ha FK;have h2:=lE B ls hS lC hB k b hex.2 hb MZ;have xa:=jl hex.1;have xb:=jl hex.2;have sa:=lA hS (k:=k) ha;have sb:=lA hS (k:=k) hb;have ka:=mY lC (k:=k) FK;have kb:=mY lC (k:=k) MZ;generalize hd B k a=u at*;generalize hd B k b=v at*;have Kl:∀n t,n<B.length->ex B k t=true->sc B.length t=true->gj t->(if t=.v n then some (B,true)else if jk B n k t=true then some (B,false)else some (B.set n t,true))=some (B',q)->ah adi 158 [fR B ls,.i n,gZ t] [] (.bq [fR B' ls,.b q]) [] []:=by
   intro n t hn hx hs hk he;have g:=D6 B ls hS lC hB n hn k t hx hs hk;have:zK k B n t=(B',q):=by
    rw[zK];split at he
    ·rename_i e;rw[if_pos e];simpa using he
    ·rename_i e;rw[if_neg e];split at he
     ·rename_i e2;rw[if_pos e2];simpa using he
     ·rename_i e2;rw[if_neg e2];simpa using he
   rw[this]at g;exact g
  by_cases hu:u.kind=0
  ·obtain⟨n,rfl⟩:∃n,u=.v n:=by
    cases u with
    |v n=>exact⟨n,rfl⟩
    |b c=>exact absurd hu (kI ka (by simp))
    |p c x y=>exact absurd hu (kI ka (by simp))
   have g:=Kl n v (by simpa[sc]using sa) xb sb kb (by cases v<;>exact h);clear ih Kl h;refine ah.ob Tryz.func136 Tryz.ntmps136 rfl ?_;repeat' first|(refine ab (hK _ ?_);clear hK K)|((first|refine af ?_|refine aa rfl (h1) ?_|refine aa rfl (h2) ?_|refine aa rfl (g) ?_);simp;(try(refine gen2 ?_ ?_<;>intro hq<;>(try simp at hq)<;>try(have:True:=hq;clear this hq))))|(refine T.ret (aD.bq (Or.inr rfl) ?_)<;>simp[aF,Tryz.results136]<;>omega)|refine T.r0 fun K hK=>?_|refine T.ct rfl ?_|refine T.seq ?_
  have mP:∀n,u≠.v n:=fun n e=>hu (by rw[e];rfl)
  by_cases hv:v.kind=0
  ·obtain⟨n,rfl⟩:∃n,v=.v n:=by
    cases v with
    |v n=>exact⟨n,rfl⟩
    |b c=>exact absurd hv (kI kb (by simp))
    |p c x y=>exact absurd hv (kI kb (by simp))
   have g:=Kl n u (by simpa[sc]using sb) xa sa ka (by
    cases u with
    |v m=>exact absurd rfl (mP m)
    |b c=>rw[if_neg (by simp)];exact h
    |p c x y=>rw[if_neg (by simp)];exact h)
   clear ih Kl h;refine ah.ob Tryz.func136 Tryz.ntmps136 rfl ?_;repeat' first|(refine ab (hK _ ?_);clear hK K)|((first|refine af ?_|refine aa rfl (h1) ?_|refine aa rfl (h2) ?_|refine aa rfl (g) ?_);simp[hu];(try(refine gen2 ?_ ?_<;>intro hq<;>(try simp[hu]at hq)<;>try(have:True:=hq;clear this hq))))|(refine T.ret (aD.bq (Or.inr rfl) ?_)<;>simp[aF,Tryz.results136]<;>omega)|refine T.r0 fun K hK=>?_|refine T.ct rfl ?_|refine T.cf rfl ?_|refine T.seq ?_|refine T.skip ?_
  by_cases hk:u.kind=v.kind
  ·cases u with
   |v m=>exact absurd rfl (mP m)
   |b i=>
    cases v with
    |v m=>exact absurd rfl hv
    |p j x y=>
     exfalso
     simp only[IT.gU,IT.gV]at hk;simp only[gj]at ka kb;omega
    |b j=>
     simp only[IT.gU]at hk hu hv;subst hk;simp at h;obtain⟨rfl,rfl⟩:=h;clear ih Kl;refine ah.ob Tryz.func136 Tryz.ntmps136 rfl ?_;repeat' first|(refine ab (hK _ ?_);clear hK K)|((first|refine af ?_|refine aa rfl (h1) ?_|refine aa rfl (h2) ?_);simp[hu];(try(refine gen2 ?_ ?_<;>intro hq<;>(try simp[hu]at hq)<;>try(have:True:=hq;clear this hq))))|refine T.r0 fun K hK=>?_|refine T.cf rfl ?_|refine T.seq ?_|refine T.block ?_|refine T.skip ?_
     refine T.dA (α:=Nat) [3,4,5,6,7] (fun x=>[(8,.b true),(9,.i 0)]) (fun x=>[]) (fun x=>[]) (fun x A=>A) (fun x=>1) (fun x=>True) (by simp;rfl) (fun x hx=>?_) 0 trivial (by simp) (by simp) (by simp);simp only[gi,adn,ado,adq,adp,adr];repeat' first|(refine ab (hK _ ?_);clear hK K)|(refine af ?_;simp;(try(refine gen2 ?_ ?_<;>intro hq<;>(try simp at hq)<;>try(have:True:=hq;clear this hq))))|(refine T.ret (aD.bq (Or.inr rfl) ?_)<;>simp[aF,Tryz.results136]<;>omega)|refine T.r0 fun K hK=>?_|refine T.cf rfl ?_|refine T.seq ?_|refine T.exit ?_
   |p i x y=>
    cases v with
    |v m=>exact absurd rfl hv
    |b j=>
     exfalso
     simp only[IT.gU,IT.gV]at hk;simp only[gj]at ka kb;omega
    |p j x' y'=>
     simp only[IT.gV]at hk hu hv;subst hk;simp only[if_true]at h;simp only[gj]at ka kb;simp only[sc,adD]at sa sb;obtain⟨r1,Mm⟩:∃r1,iD k B x x'=r1:=⟨_,rfl⟩;rw[Mm]at h;cases r1 with
     |none=>simp at h
     |some r1=>
      obtain⟨B1,q1⟩:=r1;obtain⟨s1,l1⟩:=ui hS sa.1 sb.1 Mm;have d1:=mz lC ka.2.1 kb.2.1 Mm;have g1:=ih B x x' B1 q1 hS lC hB sa.1 sb.1 ka.2.1 kb.2.1 Mm;have g2:q1=true->ah adi 136 [fR B1 ls,gZ y,gZ y'] [] (.bq [fR B' ls,.b q]) [] []:=fun e=>by
       subst e;exact ih B1 y y' B' q s1 d1 (by omega) (by rw[l1];exact sa.2) (by rw[l1];exact sb.2) ka.2.2 kb.2.2 h
      have hf:q1=false->B'=B1/\q=false:=fun e=>by subst e;simp at h;exact⟨h.1.symm,h.2⟩
      clear ih Kl h Mm;refine ah.ob Tryz.func136 Tryz.ntmps136 rfl ?_;repeat' first|(refine ab (hK _ ?_);clear hK K)|((first|refine af ?_|refine aa rfl (h1) ?_|refine aa rfl (h2) ?_);simp[hu,hv];(try(refine gen2 ?_ ?_<;>intro hq<;>(try simp[hu,hv]at hq)<;>try(have:True:=hq;clear this hq))))|refine T.r0 fun K hK=>?_|refine T.cf rfl ?_|refine T.seq ?_|refine T.block ?_|refine T.skip ?_
      refine T.dA (α:=Nat×List IT×Bool) [3,4,5,6,7] (fun x=>[(8,.b x.2.2),(9,.i x.1)]) (fun x=>[(0,[.d (.sl (x.2.1.map oN)),.d (.sl (ls.map oN))])]) (fun x=>[]) (fun x A=>A) (fun x=>3-x.1) (fun x=>(x.1=0/\x.2.1=B/\x.2.2=true)\/(x.1=1/\x.2.1=B1/\x.2.2=q1)\/(x.1=2/\x.2.1=B'/\x.2.2=q/\q1=true)) (by simp;rfl) (fun x hx=>?_) (0,B,true) (.inl ⟨rfl,rfl,rfl⟩) (by simp) (by simp) (by simp);obtain⟨p,C,ok⟩:=x;dsimp only at hx⊢;simp only[gi,adn,ado,adq,adp,adr];rcases hx with⟨rfl,rfl,rfl⟩|⟨rfl,rfl,rfl⟩|⟨rfl,rfl,rfl,hq⟩
      ·cases q1
       ·repeat' first|((first|refine ab (hK _ ?_)|refine aA (hK _ ?_));clear hK K)|((first|refine af ?_|refine aG ?_|(refine aa ?_ (g1) ?_;(focus(solve|simp[an x,an x']))));simp[an x,an x'];(try simp(disch:=omega)only[wrap64]);(try(refine gen2 ?_ ?_<;>intro hq<;>(try simp[an x,an x']at hq)<;>try(have:True:=hq;clear this hq))))|refine T.yi (id:=11) mixed (fun _=>false) [15] (by kernel_rfl) fun K hK=>?_|refine T.r0 fun K hK=>?_|refine T.r1 fun K hK=>?_|refine T.ct rfl ?_|refine T.seq ?_|refine T.block ?_|refine T.skip ?_
        refine⟨(1,B1,false),by dsimp only;omega,Or.inr (Or.inl ⟨rfl,rfl,rfl⟩),?_,?_,?_⟩<;>simp(disch:=omega) [wrap64,an x,an x']
       ·repeat' first|((first|refine ab (hK _ ?_)|refine aA (hK _ ?_));clear hK K)|((first|refine af ?_|refine aG ?_|(refine aa ?_ (g1) ?_;(focus(solve|simp[an x,an x']))));simp[an x,an x'];(try simp(disch:=omega)only[wrap64]);(try(refine gen2 ?_ ?_<;>intro hq<;>(try simp[an x,an x']at hq)<;>try(have:True:=hq;clear this hq))))|refine T.yi (id:=11) mixed (fun _=>false) [15] (by kernel_rfl) fun K hK=>?_|refine T.r0 fun K hK=>?_|refine T.r1 fun K hK=>?_|refine T.ct rfl ?_|refine T.seq ?_|refine T.block ?_|refine T.skip ?_
        refine⟨(1,B1,true),by dsimp only;omega,Or.inr (Or.inl ⟨rfl,rfl,rfl⟩),?_,?_,?_⟩<;>simp(disch:=omega) [wrap64,an x,an x']
      ·cases ok with
       |false=>
        obtain⟨rfl,rfl⟩:=hf rfl;repeat' first|(refine ab (hK _ ?_);clear hK K)|(refine af ?_;simp;(try(refine gen2 ?_ ?_<;>intro hq<;>(try simp at hq)<;>try(have:True:=hq;clear this hq))))|(refine T.ret (aD.bq (Or.inr rfl) ?_)<;>simp[aF,Tryz.results136]<;>omega)|refine T.r0 fun K hK=>?_|refine T.cf rfl ?_|refine T.seq ?_|refine T.exit ?_
       |true=>
        have g2:=g2 rfl;cases q
        ·repeat' first|((first|refine ab (hK _ ?_)|refine aA (hK _ ?_));clear hK K)|((first|refine af ?_|refine aG ?_|(refine aa ?_ (g2) ?_;(focus(solve|simp[an y,an y']))));simp[an y,an y'];(try simp(disch:=omega)only[wrap64]);(try(refine gen2 ?_ ?_<;>intro hq<;>(try simp[an y,an y']at hq)<;>try(have:True:=hq;clear this hq))))|refine T.yi (id:=11) mixed (fun _=>false) [15] (by kernel_rfl) fun K hK=>?_|refine T.r0 fun K hK=>?_|refine T.r1 fun K hK=>?_|refine T.ct rfl ?_|refine T.seq ?_|refine T.block ?_|refine T.skip ?_
         refine⟨(2,B',false),by dsimp only;omega,Or.inr (Or.inr ⟨rfl,rfl,rfl,rfl⟩),?_,?_,?_⟩<;>simp(disch:=omega) [wrap64,an y,an y']
        ·repeat' first|((first|refine ab (hK _ ?_)|refine aA (hK _ ?_));clear hK K)|((first|refine af ?_|refine aG ?_|(refine aa ?_ (g2) ?_;(focus(solve|simp[an y,an y']))));simp[an y,an y'];(try simp(disch:=omega)only[wrap64]);(try(refine gen2 ?_ ?_<;>intro hq<;>(try simp[an y,an y']at hq)<;>try(have:True:=hq;clear this hq))))|refine T.yi (id:=11) mixed (fun _=>false) [15] (by kernel_rfl) fun K hK=>?_|refine T.r0 fun K hK=>?_|refine T.r1 fun K hK=>?_|refine T.ct rfl ?_|refine T.seq ?_|refine T.block ?_|refine T.skip ?_
         refine⟨(2,B',true),by dsimp only;omega,Or.inr (Or.inr ⟨rfl,rfl,rfl,rfl⟩),?_,?_,?_⟩<;>simp(disch:=omega) [wrap64,an y,an y']
      ·subst hq;cases ok
       ·repeat' first|(refine ab (hK _ ?_);clear hK K)|(refine af ?_;simp;(try(refine gen2 ?_ ?_<;>intro hq<;>(try simp at hq)<;>try(have:True:=hq;clear this hq))))|(refine T.ret (aD.bq (Or.inr rfl) ?_)<;>simp[aF,Tryz.results136]<;>omega)|refine T.r0 fun K hK=>?_|refine T.cf rfl ?_|refine T.seq ?_|refine T.exit ?_
       ·repeat' first|(refine ab (hK _ ?_);clear hK K)|(refine af ?_;simp;(try(refine gen2 ?_ ?_<;>intro hq<;>(try simp at hq)<;>try(have:True:=hq;clear this hq))))|(refine T.ret (aD.bq (Or.inr rfl) ?_)<;>simp[aF,Tryz.results136]<;>omega)|refine T.r0 fun K hK=>?_|refine T.cf rfl ?_|refine T.seq ?_|refine T.exit ?_
  ·have hr:B'=B/\q=false:=by
    cases u with
    |v m=>exact absurd rfl (mP m)
    |b i=>
     cases v with
     |v m=>exact absurd rfl hv
     |b j=>simp only[IT.gU]at hk;simp[hk]at h;exact⟨h.1.symm,h.2⟩
     |p j x y=>simp at h;exact⟨h.1.symm,h.2⟩
    |p i x y=>
     cases v with
     |v m=>exact absurd rfl hv
     |b j=>simp at h;exact⟨h.1.symm,h.2⟩
     |p j x' y'=>simp only[IT.gV]at hk;simp[hk]at h;exact⟨h.1.symm,h.2⟩
   obtain⟨rfl,rfl⟩:=hr;have xB:u.kids.length<=2:=by cases u<;>simp
   clear ih Kl h;refine ah.ob Tryz.func136 Tryz.ntmps136 rfl ?_;repeat' first|(refine ab (hK _ ?_);clear hK K)|((first|refine af ?_|refine aa rfl (h1) ?_|refine aa rfl (h2) ?_);simp[hu,hv,hk];(try(refine gen2 ?_ ?_<;>intro hq<;>(try simp[hu,hv,hk]at hq)<;>try(have:True:=hq;clear this hq))))|refine T.r0 fun K hK=>?_|refine T.cf rfl ?_|refine T.seq ?_|refine T.block ?_|refine T.skip ?_
   refine T.dA (α:=Nat) [3,4,5,6,7] (fun x=>[(8,.b false),(9,.i 0)]) (fun x=>[]) (fun x=>[]) (fun x A=>A) (fun x=>1) (fun x=>True) (by simp;rfl) (fun x hx=>?_) 0 trivial (by simp) (by simp) (by simp);simp only[gi,adn,ado,adq,adp,adr];by_cases az:(0:Int)<u.kids.length
   ·repeat' first|(refine ab (hK _ ?_);clear hK K)|(refine af ?_;simp[az];(try(refine gen2 ?_ ?_<;>intro hq<;>(try simp[az]at hq)<;>try(have:True:=hq;clear this hq))))|(refine T.ret (aD.bq (Or.inr rfl) ?_)<;>simp[aF,Tryz.results136]<;>omega)|refine T.r0 fun K hK=>?_|refine T.cf rfl ?_|refine T.seq ?_|refine T.exit ?_
   ·repeat' first|(refine ab (hK _ ?_);clear hK K)|(refine af ?_;simp[az];(try(refine gen2 ?_ ?_<;>intro hq<;>(try simp[az]at hq)<;>try(have:True:=hq;clear this hq))))|(refine T.ret (aD.bq (Or.inr rfl) ?_)<;>simp[aF,Tryz.results136]<;>omega)|refine T.r0 fun K hK=>?_|refine T.cf rfl ?_|refine T.seq ?_|refine T.exit ?_
theorem jH {k:Nat} {B:List IT} {a b:IT} {r:Option (List IT)} (h:jB k B a b=some r):∃B2 q,iD k B a b=some (B2,q)/\(q=true/\r=some B2\/q=false/\r=none):=by
 rw[jB]at h;split at h
 ·cases h
 ·rename_i B' e;cases h;exact⟨B',true,e,.inl ⟨rfl,rfl⟩⟩
 ·rename_i B' e;cases h;exact⟨B',false,e,.inr ⟨rfl,rfl⟩⟩
def Pa (C:List IT) (u:IT) (q:Bool):Option (List IT×IT)->Prop
 |some (B',t)=>C=B'/\u=t/\q=true
 |none=>q=false
abbrev II (ls:List IT) (B:List IT) (e:ao) (ts:List IT) (r:Option (List IT×IT)):Prop:=
 ∃C u q,ah adi 101 [fR B ls,c6 e,.l (ts.map oN)] [] (.bq [fR C ls,gZ u,.b q]) [] []/\Pa C u q r
theorem Gq (ls B:List IT) (e:ao) (hk:e.kind=2\/e.kind=3\/e.kind=4):ah adi 101 [fR B ls,c6 e,.l []] [] (.bq [fR B ls,gZ (.b (if e.kind=2 then 2 else 3)),.b true]) [] []:=by
 have b2:=er 2;have b3:=er 3;rcases hk with h|h|h
 ·rw[if_pos h];refine ah.ob Tryz.func101 Tryz.ntmps101 rfl ?_;repeat' first|((first|refine ab (hK _ ?_)|refine bz (hK _ ?_));clear hK K)|((first|refine af ?_|refine bO ?_|refine aa rfl (b2) ?_|refine aa rfl (b3) ?_);simp[h];(try(refine gen2 ?_ ?_<;>intro hq<;>try simp[h]at hq)))|(refine T.ret (aD.bq (Or.inr rfl) ?_)<;>simp[aF,Tryz.results101]<;>omega)|refine T.pB (id:=7) mixed (fun _=>false) [2,3] [1] 3 [2] (by kernel_rfl) fun K hK=>?_|refine T.r0 fun K hK=>?_|refine T.ct rfl ?_|refine T.seq ?_|refine T.block ?_
 ·rw[if_neg (by omega)];refine ah.ob Tryz.func101 Tryz.ntmps101 rfl ?_;repeat' first|((first|refine ab (hK _ ?_)|refine bz (hK _ ?_));clear hK K)|((first|refine af ?_|refine bO ?_|refine aa rfl (b2) ?_|refine aa rfl (b3) ?_);simp[h];(try(refine gen2 ?_ ?_<;>intro hq<;>try simp[h]at hq)))|(refine T.ret (aD.bq (Or.inr rfl) ?_)<;>simp[aF,Tryz.results101]<;>omega)|refine T.pB (id:=10) mixed (fun _=>false) [2,3] [1] 3 [2] (by kernel_rfl) fun K hK=>?_|refine T.r0 fun K hK=>?_|refine T.ct rfl ?_|refine T.cf rfl ?_|refine T.seq ?_|refine T.block ?_|refine T.skip ?_
 ·rw[if_neg (by omega)];refine ah.ob Tryz.func101 Tryz.ntmps101 rfl ?_;repeat' first|((first|refine ab (hK _ ?_)|refine bz (hK _ ?_));clear hK K)|((first|refine af ?_|refine bO ?_|refine aa rfl (b2) ?_|refine aa rfl (b3) ?_);simp[h];(try(refine gen2 ?_ ?_<;>intro hq<;>try simp[h]at hq)))|(refine T.ret (aD.bq (Or.inr rfl) ?_)<;>simp[aF,Tryz.results101]<;>omega)|refine T.pB (id:=10) mixed (fun _=>false) [2,3] [1] 3 [2] (by kernel_rfl) fun K hK=>?_|refine T.r0 fun K hK=>?_|refine T.r1 fun K hK=>?_|refine T.ct rfl ?_|refine T.cf rfl ?_|refine T.seq ?_|refine T.block ?_
theorem Gr (ls B:List IT) (e:ao) (x y:IT) (h:e.kind=10):ah adi 101 [fR B ls,c6 e,.l [oN x,oN y]] [] (.bq [fR B ls,gZ (.p 5 x y),.b true]) [] []:=by
 have b2:=er 2;have b3:=er 3;have tw:=qu 5 x y;refine ah.ob Tryz.func101 Tryz.ntmps101 rfl ?_;repeat' first|((first|refine ab (hK _ ?_)|refine aA (hK _ ?_));clear hK K)|((first|refine af ?_|refine aG ?_|refine aa rfl (b2) ?_|refine aa rfl (b3) ?_|(refine aa ?_ (tw) ?_;(focus(solve|simp[h,an x,an y]))));simp[h,an x,an y];(try(refine gen2 ?_ ?_<;>intro hq<;>try simp[h,an x,an y]at hq)))|(refine T.ret (aD.bq (Or.inr rfl) ?_)<;>simp[aF,Tryz.results101,an x,an y]<;>omega)|refine T.rd (id:=12) mixed (fun _=>false) [8,9] (by kernel_rfl) fun K hK=>?_|refine T.r0 fun K hK=>?_|refine T.r1 fun K hK=>?_|refine T.ct rfl ?_|refine T.cf rfl ?_|refine T.seq ?_|refine T.block ?_
theorem E6 (ls B B1 B2:List IT) (e:ao) (x y:IT) (q1 q2:Bool) (h:e.kind=7\/e.kind=8) (g1:ah adi 136 [fR B ls,gZ x,gZ (.b 2)] [] (.bq [fR B1 ls,.b q1]) [] []) (g2:q1=true->ah adi 136 [fR B1 ls,gZ y,gZ (.b 2)] [] (.bq [fR B2 ls,.b q2]) [] []):
  ah adi 101 [fR B ls,c6 e,.l [oN x,oN y]] [] (.bq [fR (if q1 then B2 else B1) ls,gZ (.b (if e.kind=8 then 3 else 2)),.b (q1 && q2)]) [] []:=by
 have b2:=er 2;have b3:=er 3;cases q1 with
 |false=>
  clear g2;simp only[adA,if_false,adC];rcases h with h|h
  ·rw[if_neg (by omega)];refine ah.ob Tryz.func101 Tryz.ntmps101 rfl ?_;repeat' first|((first|refine ab (hK _ ?_)|refine aA (hK _ ?_)|refine bz (hK _ ?_));clear hK K)|((first|refine af ?_|refine aG ?_|refine bO ?_|refine aa rfl (b2) ?_|refine aa rfl (b3) ?_|(refine aa ?_ (g1) ?_;(focus(solve|simp[h,an x,an y]))));simp[h,an x,an y];(try(refine gen2 ?_ ?_<;>intro hq<;>try simp[h,an x,an y]at hq)))|(refine T.ret (aD.bq (Or.inr rfl) ?_)<;>simp[aF,Tryz.results101]<;>omega)|refine T.rd (id:=15) mixed (fun _=>false) [9] (by kernel_rfl) fun K hK=>?_|refine T.pB (id:=20) mixed (fun _=>false) [6,7] [1] 7 [2] (by kernel_rfl) fun K hK=>?_|refine T.r0 fun K hK=>?_|refine T.r1 fun K hK=>?_|refine T.ct rfl ?_|refine T.cf rfl ?_|refine T.seq ?_|refine T.block ?_|refine T.skip ?_
  ·rw[if_pos h];refine ah.ob Tryz.func101 Tryz.ntmps101 rfl ?_;repeat' first|((first|refine ab (hK _ ?_)|refine aA (hK _ ?_)|refine bz (hK _ ?_));clear hK K)|((first|refine af ?_|refine aG ?_|refine bO ?_|refine aa rfl (b2) ?_|refine aa rfl (b3) ?_|(refine aa ?_ (g1) ?_;(focus(solve|simp[h,an x,an y]))));simp[h,an x,an y];(try(refine gen2 ?_ ?_<;>intro hq<;>try simp[h,an x,an y]at hq)))|(refine T.ret (aD.bq (Or.inr rfl) ?_)<;>simp[aF,Tryz.results101]<;>omega)|refine T.rd (id:=15) mixed (fun _=>false) [9] (by kernel_rfl) fun K hK=>?_|refine T.pB (id:=19) mixed (fun _=>false) [6,7] [1] 7 [2] (by kernel_rfl) fun K hK=>?_|refine T.r0 fun K hK=>?_|refine T.r1 fun K hK=>?_|refine T.ct rfl ?_|refine T.cf rfl ?_|refine T.seq ?_|refine T.block ?_|refine T.skip ?_
 |true=>
  have g2:=g2 rfl;simp only[if_true,adB];rcases h with h|h
  ·rw[if_neg (by omega)];cases q2
   ·refine ah.ob Tryz.func101 Tryz.ntmps101 rfl ?_;repeat' first|((first|refine ab (hK _ ?_)|refine aA (hK _ ?_)|refine bz (hK _ ?_));clear hK K)|((first|refine af ?_|refine aG ?_|refine bO ?_|refine aa rfl (b2) ?_|refine aa rfl (b3) ?_|(refine aa ?_ (g1) ?_;(focus(solve|simp[h,an x,an y])))|(refine aa ?_ (g2) ?_;(focus(solve|simp[h,an x,an y]))));simp[h,an x,an y];(try(refine gen2 ?_ ?_<;>intro hq<;>try simp[h,an x,an y]at hq)))|(refine T.ret (aD.bq (Or.inr rfl) ?_)<;>simp[aF,Tryz.results101]<;>omega)|refine T.rd (id:=15) mixed (fun _=>false) [9] (by kernel_rfl) fun K hK=>?_|refine T.yi (id:=17) mixed (fun _=>false) [9] (by kernel_rfl) fun K hK=>?_|refine T.pB (id:=20) mixed (fun _=>false) [6,7] [1] 7 [2] (by kernel_rfl) fun K hK=>?_|refine T.r0 fun K hK=>?_|refine T.r1 fun K hK=>?_|refine T.ct rfl ?_|refine T.cf rfl ?_|refine T.seq ?_|refine T.block ?_|refine T.skip ?_
   ·refine ah.ob Tryz.func101 Tryz.ntmps101 rfl ?_;repeat' first|((first|refine ab (hK _ ?_)|refine aA (hK _ ?_)|refine bz (hK _ ?_));clear hK K)|((first|refine af ?_|refine aG ?_|refine bO ?_|refine aa rfl (b2) ?_|refine aa rfl (b3) ?_|(refine aa ?_ (g1) ?_;(focus(solve|simp[h,an x,an y])))|(refine aa ?_ (g2) ?_;(focus(solve|simp[h,an x,an y]))));simp[h,an x,an y];(try(refine gen2 ?_ ?_<;>intro hq<;>try simp[h,an x,an y]at hq)))|(refine T.ret (aD.bq (Or.inr rfl) ?_)<;>simp[aF,Tryz.results101]<;>omega)|refine T.rd (id:=15) mixed (fun _=>false) [9] (by kernel_rfl) fun K hK=>?_|refine T.yi (id:=17) mixed (fun _=>false) [9] (by kernel_rfl) fun K hK=>?_|refine T.pB (id:=20) mixed (fun _=>false) [6,7] [1] 7 [2] (by kernel_rfl) fun K hK=>?_|refine T.r0 fun K hK=>?_|refine T.r1 fun K hK=>?_|refine T.ct rfl ?_|refine T.cf rfl ?_|refine T.seq ?_|refine T.block ?_|refine T.skip ?_
  ·rw[if_pos h];cases q2
   ·refine ah.ob Tryz.func101 Tryz.ntmps101 rfl ?_;repeat' first|((first|refine ab (hK _ ?_)|refine aA (hK _ ?_)|refine bz (hK _ ?_));clear hK K)|((first|refine af ?_|refine aG ?_|refine bO ?_|refine aa rfl (b2) ?_|refine aa rfl (b3) ?_|(refine aa ?_ (g1) ?_;(focus(solve|simp[h,an x,an y])))|(refine aa ?_ (g2) ?_;(focus(solve|simp[h,an x,an y]))));simp[h,an x,an y];(try(refine gen2 ?_ ?_<;>intro hq<;>try simp[h,an x,an y]at hq)))|(refine T.ret (aD.bq (Or.inr rfl) ?_)<;>simp[aF,Tryz.results101]<;>omega)|refine T.rd (id:=15) mixed (fun _=>false) [9] (by kernel_rfl) fun K hK=>?_|refine T.yi (id:=17) mixed (fun _=>false) [9] (by kernel_rfl) fun K hK=>?_|refine T.pB (id:=19) mixed (fun _=>false) [6,7] [1] 7 [2] (by kernel_rfl) fun K hK=>?_|refine T.r0 fun K hK=>?_|refine T.r1 fun K hK=>?_|refine T.ct rfl ?_|refine T.cf rfl ?_|refine T.seq ?_|refine T.block ?_
   ·refine ah.ob Tryz.func101 Tryz.ntmps101 rfl ?_;repeat' first|((first|refine ab (hK _ ?_)|refine aA (hK _ ?_)|refine bz (hK _ ?_));clear hK K)|((first|refine af ?_|refine aG ?_|refine bO ?_|refine aa rfl (b2) ?_|refine aa rfl (b3) ?_|(refine aa ?_ (g1) ?_;(focus(solve|simp[h,an x,an y])))|(refine aa ?_ (g2) ?_;(focus(solve|simp[h,an x,an y]))));simp[h,an x,an y];(try(refine gen2 ?_ ?_<;>intro hq<;>try simp[h,an x,an y]at hq)))|(refine T.ret (aD.bq (Or.inr rfl) ?_)<;>simp[aF,Tryz.results101]<;>omega)|refine T.rd (id:=15) mixed (fun _=>false) [9] (by kernel_rfl) fun K hK=>?_|refine T.yi (id:=17) mixed (fun _=>false) [9] (by kernel_rfl) fun K hK=>?_|refine T.pB (id:=19) mixed (fun _=>false) [6,7] [1] 7 [2] (by kernel_rfl) fun K hK=>?_|refine T.r0 fun K hK=>?_|refine T.r1 fun K hK=>?_|refine T.ct rfl ?_|refine T.cf rfl ?_|refine T.seq ?_|refine T.block ?_
theorem E7 (ls B B1 B2:List IT) (e:ao) (x y z:IT) (q1 q2:Bool) (h:e.kind=9) (g1:ah adi 136 [fR B ls,gZ x,gZ (.b 3)] [] (.bq [fR B1 ls,.b q1]) [] []) (g2:q1=true->ah adi 136 [fR B1 ls,gZ y,gZ z] [] (.bq [fR B2 ls,.b q2]) [] []):
  ah adi 101 [fR B ls,c6 e,.l [oN x,oN y,oN z]] [] (.bq [fR (if q1 then B2 else B1) ls,gZ y,.b (q1 && q2)]) [] []:=by
 have b2:=er 2;have b3:=er 3;cases q1 with
 |false=>
  clear g2;simp only[adA,if_false,adC];refine ah.ob Tryz.func101 Tryz.ntmps101 rfl ?_;repeat' first|((first|refine ab (hK _ ?_)|refine aA (hK _ ?_)|refine bz (hK _ ?_));clear hK K)|((first|refine af ?_|refine aG ?_|refine bO ?_|refine aa rfl (b2) ?_|refine aa rfl (b3) ?_|(refine aa ?_ (g1) ?_;(focus(solve|simp[h,an x,an y,an z]))));simp[h,an x,an y,an z];(try(refine gen2 ?_ ?_<;>intro hq<;>try simp[h,an x,an y,an z]at hq)))|(refine T.ret (aD.bq (Or.inr rfl) ?_)<;>simp[aF,Tryz.results101]<;>omega)|refine T.rd (id:=22) mixed (fun _=>false) [9] (by kernel_rfl) fun K hK=>?_|refine T.pB (id:=25) mixed (fun _=>false) [8,9] [2,3] 9 [2] (by kernel_rfl) fun K hK=>?_|refine T.r0 fun K hK=>?_|refine T.r1 fun K hK=>?_|refine T.ct rfl ?_|refine T.cf rfl ?_|refine T.seq ?_|refine T.block ?_|refine T.skip ?_
 |true=>
  have g2:=g2 rfl;simp only[if_true,adB];cases q2
  ·refine ah.ob Tryz.func101 Tryz.ntmps101 rfl ?_;repeat' first|((first|refine ab (hK _ ?_)|refine aA (hK _ ?_)|refine bz (hK _ ?_));clear hK K)|((first|refine af ?_|refine aG ?_|refine bO ?_|refine aa rfl (b2) ?_|refine aa rfl (b3) ?_|(refine aa ?_ (g1) ?_;(focus(solve|simp[h,an x,an y,an z])))|(refine aa ?_ (g2) ?_;(focus(solve|simp[h,an x,an y,an z]))));simp[h,an x,an y,an z];(try(refine gen2 ?_ ?_<;>intro hq<;>try simp[h,an x,an y,an z]at hq)))|(refine T.ret (aD.bq (Or.inr rfl) ?_)<;>simp[aF,Tryz.results101]<;>omega)|refine T.rd (id:=22) mixed (fun _=>false) [9] (by kernel_rfl) fun K hK=>?_|refine T.yi (id:=24) mixed (fun _=>false) [11] (by kernel_rfl) fun K hK=>?_|refine T.pB (id:=25) mixed (fun _=>false) [8,9] [2,3] 9 [2] (by kernel_rfl) fun K hK=>?_|refine T.r0 fun K hK=>?_|refine T.r1 fun K hK=>?_|refine T.ct rfl ?_|refine T.cf rfl ?_|refine T.seq ?_|refine T.block ?_
  ·refine ah.ob Tryz.func101 Tryz.ntmps101 rfl ?_;repeat' first|((first|refine ab (hK _ ?_)|refine aA (hK _ ?_)|refine bz (hK _ ?_));clear hK K)|((first|refine af ?_|refine aG ?_|refine bO ?_|refine aa rfl (b2) ?_|refine aa rfl (b3) ?_|(refine aa ?_ (g1) ?_;(focus(solve|simp[h,an x,an y,an z])))|(refine aa ?_ (g2) ?_;(focus(solve|simp[h,an x,an y,an z]))));simp[h,an x,an y,an z];(try(refine gen2 ?_ ?_<;>intro hq<;>try simp[h,an x,an y,an z]at hq)))|(refine T.ret (aD.bq (Or.inr rfl) ?_)<;>simp[aF,Tryz.results101]<;>omega)|refine T.rd (id:=22) mixed (fun _=>false) [9] (by kernel_rfl) fun K hK=>?_|refine T.yi (id:=24) mixed (fun _=>false) [11] (by kernel_rfl) fun K hK=>?_|refine T.pB (id:=25) mixed (fun _=>false) [8,9] [2,3] 9 [2] (by kernel_rfl) fun K hK=>?_|refine T.r0 fun K hK=>?_|refine T.r1 fun K hK=>?_|refine T.ct rfl ?_|refine T.cf rfl ?_|refine T.seq ?_|refine T.block ?_
theorem IJ (ls B B1 B2 B3:List IT) (e:ao) (x y:IT) (n m:Nat) (q:Bool) (h:e.kind=6) (n1:ah adi 99 [fR B ls] [] (.bq [fR B1 ls,gZ (.v n)]) [] []) (n2:ah adi 99 [fR B1 ls] [] (.bq [fR B2 ls,gZ (.v m)]) [] [])
  (g1:ah adi 136 [fR B2 ls,gZ x,gZ (.p 4 y (.v n))] [] (.bq [fR B3 ls,.b q]) [] []):ah adi 101 [fR B ls,c6 e,.l [oN x,oN y]] [] (.bq [fR B3 ls,gZ (.v n),.b q]) [] []:=by
 have b2:=er 2;have b3:=er 3;have tw:=qu 4 y (.v n);cases q
 ·refine ah.ob Tryz.func101 Tryz.ntmps101 rfl ?_;repeat' first|((first|refine ab (hK _ ?_)|refine aA (hK _ ?_)|refine bz (hK _ ?_));clear hK K)|((first|refine af ?_|refine aG ?_|refine bO ?_|refine aa rfl (b2) ?_|refine aa rfl (b3) ?_|refine aa rfl (n1) ?_|refine aa rfl (n2) ?_|(refine aa ?_ (tw) ?_;(focus(solve|simp[h,an x,an y])))|(refine aa ?_ (g1) ?_;(focus(solve|simp[h,an x,an y]))));simp[h,an x,an y];(try(refine gen2 ?_ ?_<;>intro hq<;>try simp[h,an x,an y]at hq)))|(refine T.ret (aD.bq (Or.inr rfl) ?_)<;>simp[aF,Tryz.results101]<;>omega)|refine T.rd (id:=29) mixed (fun _=>false) [13] (by kernel_rfl) fun K hK=>?_|refine T.pB (id:=30) mixed (fun _=>false) [3,4] [1] 4 [2] (by kernel_rfl) fun K hK=>?_|refine T.r0 fun K hK=>?_|refine T.r1 fun K hK=>?_|refine T.ct rfl ?_|refine T.cf rfl ?_|refine T.seq ?_|refine T.block ?_|refine T.skip ?_
 ·refine ah.ob Tryz.func101 Tryz.ntmps101 rfl ?_;repeat' first|((first|refine ab (hK _ ?_)|refine aA (hK _ ?_)|refine bz (hK _ ?_));clear hK K)|((first|refine af ?_|refine aG ?_|refine bO ?_|refine aa rfl (b2) ?_|refine aa rfl (b3) ?_|refine aa rfl (n1) ?_|refine aa rfl (n2) ?_|(refine aa ?_ (tw) ?_;(focus(solve|simp[h,an x,an y])))|(refine aa ?_ (g1) ?_;(focus(solve|simp[h,an x,an y]))));simp[h,an x,an y];(try(refine gen2 ?_ ?_<;>intro hq<;>try simp[h,an x,an y]at hq)))|(refine T.ret (aD.bq (Or.inr rfl) ?_)<;>simp[aF,Tryz.results101]<;>omega)|refine T.rd (id:=29) mixed (fun _=>false) [13] (by kernel_rfl) fun K hK=>?_|refine T.pB (id:=30) mixed (fun _=>false) [3,4] [1] 4 [2] (by kernel_rfl) fun K hK=>?_|refine T.r0 fun K hK=>?_|refine T.r1 fun K hK=>?_|refine T.ct rfl ?_|refine T.cf rfl ?_|refine T.seq ?_|refine T.block ?_|refine T.skip ?_
theorem IK (ls B B1 B2 B3:List IT) (e:ao) (x:IT) (n m:Nat) (q:Bool) (h:e.kind=11\/e.kind=12) (n1:ah adi 99 [fR B ls] [] (.bq [fR B1 ls,gZ (.v n)]) [] []) (n2:ah adi 99 [fR B1 ls] [] (.bq [fR B2 ls,gZ (.v m)]) [] [])
  (g1:ah adi 136 [fR B2 ls,gZ x,gZ (.p 5 (.v n) (.v m))] [] (.bq [fR B3 ls,.b q]) [] []):ah adi 101 [fR B ls,c6 e,.l [oN x]] [] (.bq [fR B3 ls,gZ (.v (if e.kind=12 then m else n)),.b q]) [] []:=by
 have b2:=er 2;have b3:=er 3;have tw:=qu 5 (.v n) (.v m);rcases h with h|h
 ·rw[if_neg (by omega)];cases q
  ·refine ah.ob Tryz.func101 Tryz.ntmps101 rfl ?_;repeat' first|((first|refine ab (hK _ ?_)|refine aA (hK _ ?_)|refine bz (hK _ ?_));clear hK K)|((first|refine af ?_|refine aG ?_|refine bO ?_|refine aa rfl (b2) ?_|refine aa rfl (b3) ?_|refine aa rfl (n1) ?_|refine aa rfl (n2) ?_|(refine aa ?_ (tw) ?_;(focus(solve|simp[h,an x])))|(refine aa ?_ (g1) ?_;(focus(solve|simp[h,an x]))));simp[h,an x];(try(refine gen2 ?_ ?_<;>intro hq<;>try simp[h,an x]at hq)))|(refine T.ret (aD.bq (Or.inr rfl) ?_)<;>simp[aF,Tryz.results101]<;>omega)|refine T.rd (id:=31) mixed (fun _=>false) [11] (by kernel_rfl) fun K hK=>?_|refine T.pB (id:=34) mixed (fun _=>false) [3,4] [1] 4 [2] (by kernel_rfl) fun K hK=>?_|refine T.r0 fun K hK=>?_|refine T.r1 fun K hK=>?_|refine T.cf rfl ?_|refine T.seq ?_|refine T.block ?_|refine T.skip ?_
  ·refine ah.ob Tryz.func101 Tryz.ntmps101 rfl ?_;repeat' first|((first|refine ab (hK _ ?_)|refine aA (hK _ ?_)|refine bz (hK _ ?_));clear hK K)|((first|refine af ?_|refine aG ?_|refine bO ?_|refine aa rfl (b2) ?_|refine aa rfl (b3) ?_|refine aa rfl (n1) ?_|refine aa rfl (n2) ?_|(refine aa ?_ (tw) ?_;(focus(solve|simp[h,an x])))|(refine aa ?_ (g1) ?_;(focus(solve|simp[h,an x]))));simp[h,an x];(try(refine gen2 ?_ ?_<;>intro hq<;>try simp[h,an x]at hq)))|(refine T.ret (aD.bq (Or.inr rfl) ?_)<;>simp[aF,Tryz.results101]<;>omega)|refine T.rd (id:=31) mixed (fun _=>false) [11] (by kernel_rfl) fun K hK=>?_|refine T.pB (id:=34) mixed (fun _=>false) [3,4] [1] 4 [2] (by kernel_rfl) fun K hK=>?_|refine T.r0 fun K hK=>?_|refine T.r1 fun K hK=>?_|refine T.cf rfl ?_|refine T.seq ?_|refine T.block ?_|refine T.skip ?_
 ·rw[if_pos h];cases q
  ·refine ah.ob Tryz.func101 Tryz.ntmps101 rfl ?_;repeat' first|((first|refine ab (hK _ ?_)|refine aA (hK _ ?_)|refine bz (hK _ ?_));clear hK K)|((first|refine af ?_|refine aG ?_|refine bO ?_|refine aa rfl (b2) ?_|refine aa rfl (b3) ?_|refine aa rfl (n1) ?_|refine aa rfl (n2) ?_|(refine aa ?_ (tw) ?_;(focus(solve|simp[h,an x])))|(refine aa ?_ (g1) ?_;(focus(solve|simp[h,an x]))));simp[h,an x];(try(refine gen2 ?_ ?_<;>intro hq<;>try simp[h,an x]at hq)))|(refine T.ret (aD.bq (Or.inr rfl) ?_)<;>simp[aF,Tryz.results101]<;>omega)|refine T.rd (id:=31) mixed (fun _=>false) [11] (by kernel_rfl) fun K hK=>?_|refine T.pB (id:=33) mixed (fun _=>false) [3,4] [1] 4 [2] (by kernel_rfl) fun K hK=>?_|refine T.r0 fun K hK=>?_|refine T.r1 fun K hK=>?_|refine T.ct rfl ?_|refine T.cf rfl ?_|refine T.seq ?_|refine T.block ?_|refine T.skip ?_
  ·refine ah.ob Tryz.func101 Tryz.ntmps101 rfl ?_;repeat' first|((first|refine ab (hK _ ?_)|refine aA (hK _ ?_)|refine bz (hK _ ?_));clear hK K)|((first|refine af ?_|refine aG ?_|refine bO ?_|refine aa rfl (b2) ?_|refine aa rfl (b3) ?_|refine aa rfl (n1) ?_|refine aa rfl (n2) ?_|(refine aa ?_ (tw) ?_;(focus(solve|simp[h,an x])))|(refine aa ?_ (g1) ?_;(focus(solve|simp[h,an x]))));simp[h,an x];(try(refine gen2 ?_ ?_<;>intro hq<;>try simp[h,an x]at hq)))|(refine T.ret (aD.bq (Or.inr rfl) ?_)<;>simp[aF,Tryz.results101]<;>omega)|refine T.rd (id:=31) mixed (fun _=>false) [11] (by kernel_rfl) fun K hK=>?_|refine T.pB (id:=33) mixed (fun _=>false) [3,4] [1] 4 [2] (by kernel_rfl) fun K hK=>?_|refine T.r0 fun K hK=>?_|refine T.r1 fun K hK=>?_|refine T.ct rfl ?_|refine T.cf rfl ?_|refine T.seq ?_|refine T.block ?_|refine T.skip ?_
end Go.Proofs.YtloolmchekcmeaaGreat
namespace Go.Proofs.YtloolmchekcmeaaGreat
attribute [-simp] Go.Av.cb Go.Av.eL Go.Av.fj Go.Av.fa Go.Av.cT Go.Av.b9
open Go Go.Av
attribute [local irreducible] T ah TX EX LX bw dh bR cA gA aE.kind aE.kids ao.kind ao.name ao.num ao.ty ao.fr ao.label ao.kids
attribute [local simp] aQ ax
set_option maxHeartbeats 16000000
set_option maxRecDepth 8000
attribute [local simp] adm
attribute [local irreducible] ee dp
theorem x5 (s:List UInt8) (c:UInt8):dp s c=ee s c s.length:=by unfold dp;rfl
theorem AI (s:List UInt8) (c:UInt8):ee s c 0=-1:=by unfold ee;rfl
theorem AJ (s:List UInt8) (c:UInt8) (p:Nat):ee s c (p+1)=if s[p]? =some c then(p:Int)else ee s c p:=by rw[ee]
theorem AK (s:List UInt8) (c:UInt8) (hs:s.length<=1099511627776):ah adi 98 [.s s,.s [c]] [] (.i (if 0<=dp s c then s.length-1-dp s c else-1)) [] []:=by
 obtain⟨R,hR⟩:∃R,dp s c=R:=⟨_,rfl⟩;rw[hR];rw[x5]at hR;refine ah.ob Tryz.func98 Tryz.ntmps98 rfl ?_;repeat' first|(refine ab (hK _ ?_);clear hK K)|(refine af ?_;simp;(try simp(disch:=omega)only[wrap64]);(try(refine gen2 ?_ ?_<;>intro hq<;>try simp at hq)))|refine T.r0 fun K hK=>?_|refine T.seq ?_|refine T.block ?_
 refine T.dA (α:=Nat) [0,1] (fun p=>[(4,.i 0),(5,.i ((p:Int)-1))]) (fun _=>[]) (fun _=>[]) (fun _ A=>A) (fun p=>p) (fun p=>p<=s.length/\ee s c p=R) (by simp;rfl) (fun p hx=>?_) s.length ⟨by omega,hR⟩ (by simp) (by simp) (by simp(disch:=omega) [wrap64]);obtain⟨hp,he⟩:=hx;dsimp only;simp only[gi,adn,ado,adq,adp];cases p with
 |zero=>
  rw[AI]at he;subst he;repeat' first|(refine ab (hK _ ?_);clear hK K)|(refine af ?_;simp;(try simp(disch:=omega)only[wrap64]);(try(refine gen2 ?_ ?_<;>intro hq<;>try simp at hq)))|(refine T.ret (aD.data (Or.inr rfl) ?_ ?_)<;>simp[Tryz.results98]<;>omega)|refine T.r0 fun K hK=>?_|refine T.cf rfl ?_|refine T.seq ?_|refine T.exit ?_
 |succ p=>
  have az:p<s.length:=by omega
  have qH:=tJ az;obtain⟨x,hx⟩:=bX az;have a8:s[p]=x:=by rw[ads az]at hx;exact Option.some.inj hx
  rw[a8]at qH;rw[AJ,hx]at he;have mB:(0:Int)<=p:=by omega
  have HI:((p+1:Nat):Int)-1=p:=by omega
  have yL:((p:Int)+1).toNat=p+1:=by omega
  have oD:(p:Int)<=p+1:=by omega
  have kQ:(p:Int)+1<=s.length:=by omega
  rw[HI];by_cases hc:x=c
  ·subst hc;rw[if_pos rfl]at he;rw[<-he];repeat' first|(refine ab (hK _ ?_);clear hK K)|(refine af ?_;simp[az,mB,yL,qH,kQ];(try simp(disch:=omega)only[wrap64]);(try(refine gen2 ?_ ?_<;>intro hq<;>try simp[az,mB,yL,qH,kQ]at hq)))|(refine T.ret (aD.data (Or.inr rfl) ?_ ?_)<;>simp[Tryz.results98,mB]<;>omega)|refine T.r0 fun K hK=>?_|(refine⟨by omega,?_⟩)|refine T.ct rfl ?_|refine T.seq ?_|refine T.block ?_|refine T.skip ?_
  ·rw[if_neg (by simpa using hc)]at he;repeat' first|(refine ab (hK _ ?_);clear hK K)|(refine af ?_;simp[az,mB,yL,qH,kQ,hc];(try simp(disch:=omega)only[wrap64]);(try(refine gen2 ?_ ?_<;>intro hq<;>try simp[az,mB,yL,qH,kQ,hc]at hq)))|(refine⟨p,by dsimp only;omega,⟨by omega,he⟩,?_⟩;simp(disch:=omega) [wrap64])|refine T.r0 fun K hK=>?_|refine T.r1 fun K hK=>?_|(refine⟨by omega,?_⟩)|refine T.ct rfl ?_|refine T.cf rfl ?_|refine T.seq ?_|refine T.block ?_|refine T.skip ?_
theorem D7 (ls:List IT) (k:Nat) (e:ao) (B ts:List IT) (r:Option (List IT×IT)) (hO:vW B) (lC:ku B) (hB:B.length<=1000000) (yV:∀u∈ts,sc B.length u=true) (fu:∀u∈ts,gj u)
  (jh:((e.kind=2\/e.kind=3\/e.kind=4)/\ts=[])\/((e.kind=11\/e.kind=12)/\ts.length=1)\/((e.kind=6\/e.kind=7\/e.kind=8\/e.kind=10)/\ts.length=2)\/(e.kind=9/\ts.length=3)) (h:ir k e.kind B ts=some r):II ls B e ts r:=by
 have uc:∀{B2:List IT} {a b:IT} {B3:List IT} {q:Bool},vW B2->ku B2->B2.length<=1048576->sc B2.length a=true->sc B2.length b=true->gj a->gj b->iD k B2 a b=some (B3,q)->ah adi 136 [fR B2 ls,gZ a,gZ b] [] (.bq [fR B3 ls,.b q]) [] []:=
  fun h1 h2 h3 h4 h5 h6 h7 h8=>Cz ls k _ _ _ _ _ h1.sc h2 h3 h4 h5 h6 h7 h8
 have ubOk:∀{B2:List IT} {a b:IT} {B3:List IT},vW B2->sc B2.length a=true->sc B2.length b=true->iD k B2 a b=some (B3,true)->vW B3/\B3.length=B2.length:=fun h1 h2 h3 h4=>je (k:=k) h1 h2 h3 (by simp[jB,h4])
 have two:∀(g:∀B1 B2:List IT,ah adi 99 [fR B ls] [] (.bq [fR B1 ls,gZ (.v B.length)]) [] []->ah adi 99 [fR B1 ls] [] (.bq [fR B2 ls,gZ (.v (B.length+1))]) [] []->B2=B++[.v B.length,.v (B.length+1)]->vW B2->ku B2->B2.length=B.length+2->II ls B e ts r),II ls B e ts r:=by
  intro g;have n1:=uD B ls (by omega);have n2:=uD (B++[.v B.length]) ls (by simp;omega);rw[show(B++[IT.v B.length]).length=B.length+1 by simp]at n2;refine g _ _ n1 n2 (by simp) ?_ ?_ (by simp)
  ·rw[show B++[IT.v B.length]++[IT.v (B.length+1)]=B++[.v B.length,.v (B.length+1)] by simp];exact⟨(lO.two B).sc hO.sc,(lO.two B).vu hO.sc hO.vu⟩
  ·refine(lC.app ?_).app ?_<;>intro u hu<;>simp at hu<;>subst hu<;>trivial
 rcases jh with⟨hk,rfl⟩|⟨hk,hl⟩|⟨hk,hl⟩|⟨hk,hl⟩
 ·have hr:r=some (B,.b (if e.kind=2 then 2 else 3)):=by
   rcases hk with h2|h2|h2<;>rw[h2]at h⊢<;>simp[ir]at h<;>exact h.symm
  subst hr;exact⟨B,_,true,Gq ls B e hk,rfl,rfl,rfl⟩
 ·obtain⟨x,rfl⟩:=List.length_eq_one_iff.1 hl;refine two fun B1 B2 n1 n2 e2 o2 k2 l2=>?_
  have h5:¬e.kind=2:=by omega
  have h6:¬(e.kind=3\/e.kind=4):=by omega
  simp only[ir,if_neg h5,if_neg h6,if_pos hk,adj]at h;obtain⟨w,h,hr⟩:=h;rw[<-e2]at h;obtain⟨B3,q,hu,hw⟩:=jH h;have sx:=dL (show B.length<=B2.length by omega) (yV x (by simp));have g:=uc o2 k2 (by omega) sx (show sc B2.length (.p 5 (.v B.length) (.v (B.length+1)))=true by simp[sc];omega) (fu x (by simp)) (by simp[gj]) hu;refine⟨B3,_,q,IK ls B B1 B2 B3 e x _ _ q hk n1 n2 g,?_⟩;rcases hw with⟨rfl,rfl⟩|⟨rfl,rfl⟩
  ·simp at hr;subst hr;exact⟨rfl,rfl,rfl⟩
  ·simp at hr;subst hr;rfl
 ·obtain⟨x,y,rfl⟩:=RG hl;have h5:¬e.kind=2:=by omega
  have h6:¬(e.kind=3\/e.kind=4):=by omega
  have sx:=yV x (by simp);have sy:=yV y (by simp);have kx:=fu x (by simp);have ky:=fu y (by simp);by_cases cE:e.kind=10
  ·simp[ir,cE]at h;subst h;exact⟨B,_,true,Gr ls B e x y cE,rfl,rfl,rfl⟩
  by_cases RY:e.kind=6
  ·refine two fun B1 B2 n1 n2 e2 o2 k2 l2=>?_
   simp only[ir,if_neg h5,if_neg h6,if_neg cE,if_pos RY,adj]at h;obtain⟨w,h,hr⟩:=h;rw[<-e2]at h;obtain⟨B3,q,hu,hw⟩:=jH h;have sx2:=dL (show B.length<=B2.length by omega) sx;have sy2:=dL (show B.length<=B2.length by omega) sy;have g:=uc o2 k2 (by omega) sx2 (show sc B2.length (.p 4 y (.v B.length))=true by simp[sc,sy2];omega) kx (by simp[gj,ky]) hu;refine⟨B3,_,q,IJ ls B B1 B2 B3 e x y _ _ q RY n1 n2 g,?_⟩;rcases hw with⟨rfl,rfl⟩|⟨rfl,rfl⟩
   ·simp at hr;subst hr;exact⟨rfl,rfl,rfl⟩
   ·simp at hr;subst hr;rfl
  ·have RZ:e.kind=7\/e.kind=8:=by omega
   simp only[ir,if_neg h5,if_neg h6,if_neg cE,if_neg RY,if_pos RZ]at h;obtain⟨w,LA⟩:∃w,jB k B x (.b 2)=w:=⟨_,rfl⟩;rw[LA]at h;cases w with
   |none=>simp at h
   |some w=>
    obtain⟨B1,q1,IZ,LY⟩:=jH LA;have g1:=uc hO lC (by omega) sx (show sc B.length (.b 2)=true from rfl) kx (by simp[gj]) IZ;rcases LY with⟨rfl,rfl⟩|⟨rfl,rfl⟩
    ·simp only[adj]at h;obtain⟨w2,h,hr⟩:=h;obtain⟨B2,q2,CK,Ar⟩:=jH h;obtain⟨o1,l1⟩:=ubOk hO sx (show sc B.length (.b 2)=true from rfl) IZ;have k1:=mz lC kx (show gj (.b 2) by simp[gj]) IZ;have g2:=uc o1 k1 (by omega) (by rw[l1];exact sy) (show sc B1.length (.b 2)=true from rfl) ky (show gj (.b 2) by simp[gj]) CK;refine⟨_,_,_,E6 ls B B1 B2 e x y true q2 RZ g1 (fun _=>g2),?_⟩;rcases Ar with⟨rfl,rfl⟩|⟨rfl,rfl⟩
     ·simp at hr;subst hr;exact⟨rfl,rfl,rfl⟩
     ·simp at hr;subst hr;rfl
    ·simp at h;subst h;exact⟨_,_,_,E6 ls B B1 B1 e x y false false RZ g1 (fun e=>by cases e),rfl⟩
 ·obtain⟨x,y,z,rfl⟩:=RH hl;have h5:¬e.kind=2:=by omega
  have h6:¬(e.kind=3\/e.kind=4):=by omega
  simp only[ir,if_neg h5,if_neg h6,if_pos hk]at h;obtain⟨w,LA⟩:∃w,jB k B x (.b 3)=w:=⟨_,rfl⟩;rw[LA]at h;cases w with
  |none=>simp at h
  |some w=>
   obtain⟨B1,q1,IZ,LY⟩:=jH LA;have g1:=uc hO lC (by omega) (yV x (by simp)) (show sc B.length (.b 3)=true from rfl) (fu x (by simp)) (by simp[gj]) IZ;rcases LY with⟨rfl,rfl⟩|⟨rfl,rfl⟩
   ·simp only[adj]at h;obtain⟨w2,h,hr⟩:=h;obtain⟨B2,q2,CK,Ar⟩:=jH h;obtain⟨o1,l1⟩:=ubOk hO (yV x (by simp)) (show sc B.length (.b 3)=true from rfl) IZ;have k1:=mz lC (fu x (by simp)) (show gj (.b 3) by simp[gj]) IZ;have g2:=uc o1 k1 (by omega) (by rw[l1];exact yV y (by simp)) (by rw[l1];exact yV z (by simp)) (fu y (by simp)) (fu z (by simp)) CK;refine⟨_,_,_,E7 ls B B1 B2 e x y z true q2 hk g1 (fun _=>g2),?_⟩;rcases Ar with⟨rfl,rfl⟩|⟨rfl,rfl⟩
    ·simp at hr;subst hr;exact⟨rfl,rfl,rfl⟩
    ·simp at hr;subst hr;rfl
   ·simp at h;subst h;exact⟨_,_,_,E7 ls B B1 B1 e x y z false false hk g1 (fun e=>by cases e),rfl⟩
def x6 (x:List IT×List IT×IT×Bool):Option (List IT×List IT×IT)->Prop
 |some r=>x.1=r.1/\x.2.1=r.2.1/\x.2.2.1=r.2.2/\x.2.2.2=true
 |none=>x.2.2.2=false
abbrev rG (ns:List UInt8) (ts:List IT) (e:ao) (B ls:List IT) (x:List IT×List IT×IT×Bool):Prop:=
 ah adi 42 [fR B ls,.s ns,.l (ts.map oN),c6 e] [] (.bq [fR x.1 x.2.1,gZ x.2.2.1,.b x.2.2.2]) [] []
def AL (k:Nat) (ns:List UInt8) (ts:List IT) (e:ao) (B ls:List IT) (x:List IT×List IT×IT×Bool):Prop:=
 rG ns ts e B ls x/\∃r,inf k e B ls ns ts=some r/\x6 x r
structure gL (ns:List UInt8) (ts:List IT) (B ls:List IT) (n t:Nat):Prop where
 ok:vW B
 kd:ku B
 Gs:ku ls
 ctx:yS B ns ts
 len:B.length+2*n<=1000000
 Gt:ls.length+t<=1000000
theorem gL.next {k:Nat} {ns:List UInt8} {ts B ls B' ls':List IT} {t:IT} {u:ao} {n m:Nat} (he:Ba u) (b7:ku ts) (h:gL ns ts B ls (aT u+n) ((aH u).length+m)) (hi:inf k u B ls ns ts=some (some (B',ls',t))):gL ns ts B' ls' n m/\B.length<=B'.length/\sc B'.length t=true/\gj t:=by
 have h1:=eX he h.ok h.ctx hi;obtain⟨h2,h3,h4⟩:=Iz he h.kd h.Gs b7 hi;obtain⟨new,h5,h6,_⟩:=h1.DZ;have:=h.len;have:=h.Gt;have:=h1.len;exact⟨⟨h1.ok,h2,h3,h.ctx.le h1.le,by omega,by rw[h5,adw,h6];omega⟩,h1.le,h1.vv,h4⟩
def qQ (X:ao->List IT->List IT->List IT×List IT×IT×Bool) (N:List IT->List IT->List IT->List IT×List IT×IT×Bool):List ao->List IT->List IT->List IT->List IT×List IT×IT×Bool
 |[],C,l,us=>N C l us
 |u::r,C,l,us=>if(X u C l).2.2.2=true then qQ X N r (X u C l).1 (X u C l).2.1 (us++[(X u C l).2.2.1])else X u C l
def nc (k:Nat) (ns:List UInt8) (ts:List IT) (L:List ao) (C l us:List IT):Option (Option (List IT×List IT×List IT)):=match mV k L C l ns ts with
 |some (some r)=>some (some (r.1,r.2.1,us++r.2.2))
 |none=>none
 |some none=>some none
theorem ov {k:Nat} {ns:List UInt8} {ts:List IT} {u:ao} {L:List ao} {C l us:List IT}:nc k ns ts (u::L) C l us=match inf k u C l ns ts with
  |some (some r)=>nc k ns ts L r.1 r.2.1 (us++[r.2.2])
  |none=>none
  |some none=>some none:=by
 simp only[nc,mV];cases h:inf k u C l ns ts with
 |none=>rfl
 |some o=>
  cases o with
  |none=>rfl
  |some r=>
   obtain⟨a,b,c⟩:=r;simp only;cases h2:mV k L a b ns ts with
   |none=>rfl
   |some o2=>
    cases o2 with
    |none=>rfl
    |some r2=>obtain⟨d,e,f⟩:=r2;simp
structure IL (k:Nat) (ns:List UInt8) (ts:List IT) (e:ao) (L:List ao) (X:ao->List IT->List IT->List IT×List IT×IT×Bool) (N:List IT->List IT->List IT->List IT×List IT×IT×Bool) (OUT:List IT×List IT×IT×Bool) (R:Option (List IT×List IT×List IT)) (p:Nat) (C l us:List IT):Prop where
 le:p<=L.length
 ul:us.length=p
 cond:gL ns ts C l (bk (L.drop p)+1) (aC (L.drop p)).length
 GQ:∀u∈us,sc C.length u=true/\gj u
 out:qQ X N (L.drop p) C l us=OUT
 res:nc k ns ts (L.drop p) C l us=some R
set_option maxHeartbeats 1000000 in
theorem D8 (k:Nat) (ns:List UInt8) (ts:List IT) (e:ao) (L:List ao) (hL:e.kids=L) (OR:L.length<=3) (h1:e.kind≠1) (h5:e.kind≠5) (b7:ku ts) (K7:∀u∈L,Ba u) (X:ao->List IT->List IT->List IT×List IT×IT×Bool) (N:List IT->List IT->List IT->List IT×List IT×IT×Bool) (B ls:List IT)
  (hX:∀u∈L,∀C l n m,gL ns ts C l (aT u+n) ((aH u).length+m)->(∃r,inf k u C l ns ts=some r)->AL k ns ts u C l (X u C l)) (R:Option (List IT×List IT×List IT))
  (hN:∀C l us,gL ns ts C l 1 0->us.length=L.length->(∀u∈us,sc C.length u=true/\gj u)->R=some (C,l,us)->ah adi 101 [fR C l,c6 e,.l (us.map oN)] [] (.bq [fR (N C l us).1 (N C l us).2.1,gZ (N C l us).2.2.1,.b (N C l us).2.2.2]) [] [])
  (hI:IL k ns ts e L X N (qQ X N L B ls []) R 0 B ls []):rG ns ts e B ls (qQ X N L B ls []):=by
 generalize qQ X N L B ls []=OUT at*;obtain⟨O1,O2,O3,O4⟩:=OUT;rw[rG];dsimp only;have R0:e.kids.length=L.length:=by rw[hL]
 refine ah.ob Tryz.func42 Tryz.ntmps42 rfl ?_;repeat' first|(refine ab (hK _ ?_);clear hK K)|(refine af ?_;simp[h1,h5];(try(refine gen2 ?_ ?_<;>intro hq<;>try simp[h1,h5]at hq)))|refine T.rs (id:=11) (fun i=>i==0) fun K hK=>?_|refine T.rs (id:=0) (fun _=>false) fun K hK=>?_|refine T.rs (id:=1) (fun _=>false) fun K hK=>?_|refine T.rs (id:=6) (fun _=>false) fun K hK=>?_|refine T.rs (id:=12) (fun _=>false) fun K hK=>?_|refine T.cf rfl ?_|refine T.seq ?_|refine T.block ?_|refine T.skip ?_
 refine T.dA (α:=Nat×List IT×List IT×List IT×List (List CV)) [1,2,4,7,8,9] (fun x=>[(10,.b false),(16,.c (.own 0 x.1)),(17,.i x.1)]) (fun x=>[(0,[.d (.sl (x.2.1.map oN)),.d (.sl (x.2.2.1.map oN))])]) (fun x=>x.2.2.2.2) (fun x _=>[{sz:=3,eJ:=72,rows:=x.2.2.2.1.map oN,wr:=true}]) (fun x=>L.length+1-x.1) (fun x=>IL k ns ts e L X N (O1,O2,O3,O4) R x.1 x.2.1 x.2.2.1 x.2.2.2.1) (by simp;rfl) (fun x hx=>?_) (0,B,ls,[],[]) hI (by simp) (by simp) (by simp);obtain⟨p,C,l,us,G⟩:=x;dsimp only at hx⊢;simp only[gi,adn,ado,adq,adp,adr];have A9:=hx.ul;by_cases az:p<L.length
 ·obtain⟨u,ht⟩:=bX az;have fz:u∈L:=adt ht;have a8:L[p]=u:=by rw[ads az]at ht;exact Option.some.inj ht
  have jb:L.drop p=u::L.drop (p+1):=by rw[adu az,a8]
  have hb:=K7 u fz;have hc:=hx.cond;rw[jb]at hc;simp only[bk,aC,adw]at hc;have CJ:gL ns ts C l (aT u+(bk (L.drop (p+1))+1)) ((aH u).length+(aC (L.drop (p+1))).length):=⟨hc.ok,hc.kd,hc.Gs,hc.ctx,by have:=hc.len;omega,hc.Gt⟩;have ho:=hx.out;have hr:=hx.res;obtain⟨hA,r,hi,ha⟩:=hX u fz C l _ _ CJ (by
   rw[jb,ov]at hr;cases hz:inf k u C l ns ts with
   |none=>rw[hz]at hr;cases hr
   |some z=>exact⟨z,rfl⟩)
  rw[jb,qQ]at ho;rw[jb,ov,hi]at hr;rw[rG]at hA;generalize X u C l=x at*;obtain⟨C',l',t,q⟩:=x;dsimp only at hA ho ha;have mD:L.length=e.kids.length:=by rw[hL]
  have CA:p<e.kids.length:=by omega
  have Km:e.kids[p]=u:=by simp only[hL];exact a8
  cases q with
  |false=>
   rw[if_neg (by simp)]at ho;simp only[Prod.mk.injEq]at ho;obtain⟨rfl,rfl,rfl,rfl⟩:=ho;clear hx hX hN hI hc CJ hi hr ha;repeat' first|((first|refine ab (hK _ ?_)|refine bz (hK _ ?_));clear hK K)|((first|refine af ?_|refine bO ?_|refine aa rfl (hA) ?_);simp[CA,Km,ax u];(try simp(disch:=omega)only[wrap64]);(try(refine gen2 ?_ ?_<;>intro hq<;>try simp[CA,Km,ax u]at hq)))|(refine T.ret (aD.bq (Or.inr rfl) ?_)<;>simp[aF,Tryz.results42]<;>omega)|(refine⟨?_,?_⟩;(focus(intros;refine aa rfl (hA) ?_;simp;done)))|refine T.PD (id:=15) mixed (fun _=>false) [13,14,15,16] [0,4,6,7,8] 14 [2] 14 [0,4,6,7,8,13,14,15,16] _ (by kernel_rfl) rfl rfl rfl rfl wm rfl (by simp) fun K hK=>?_|refine T.pB (id:=17) mixed (fun _=>false) [2,3] [1] 3 [2] (by kernel_rfl) fun K hK=>?_|refine T.rs (id:=13) (fun _=>false) fun K hK=>?_|refine T.rs (id:=16) (fun _=>false) fun K hK=>?_|refine T.ct rfl ?_|refine T.seq ?_|refine T.block ?_|refine T.skip ?_
  |true=>
   rw[if_pos rfl]at ho;have hn:IL k ns ts e L X N (O1,O2,O3,O4) R (p+1) C' l' (us++[t]):=by
    cases r with
    |none=>simp[x6]at ha
    |some r=>
     obtain⟨r1,r2,r3⟩:=r;simp only[x6]at ha;obtain⟨rfl,rfl,rfl,_⟩:=ha;obtain⟨g1,g2,g3,g4⟩:=gL.next hb b7 CJ hi;exact⟨by omega,by simp[A9],g1,fun v hv=>by
      rcases adv.1 hv with hv|hv
      ·exact⟨dL g2 (hx.GQ v hv).1,(hx.GQ v hv).2⟩
      ·simp at hv;subst hv;exact⟨g3,g4⟩,ho,hr⟩
   clear hX hN hI hc CJ hi hr ha;repeat' first|((first|refine ab (hK _ ?_)|refine bz (hK _ ?_));clear hK K)|((first|refine af ?_|refine bO ?_|refine aa rfl (hA) ?_);simp[CA,Km,ax u,A9];(try simp(disch:=omega)only[wrap64]);(try(refine gen2 ?_ ?_<;>intro hq<;>try simp[CA,Km,ax u,A9]at hq)))|(refine⟨by omega,by omega,?_⟩)|(refine⟨(p+1,C',l',us++[t],_),by dsimp only;omega,hn,rfl,?_,?_⟩<;>simp(disch:=omega) [wrap64,an t])|(refine⟨?_,?_⟩;(focus(intros;refine aa rfl (hA) ?_;simp;done)))|refine T.PD (id:=15) mixed (fun _=>false) [13,14,15,16] [0,4,6,7,8] 14 [2] 14 [0,4,6,7,8,13,14,15,16] _ (by kernel_rfl) rfl rfl rfl rfl wm rfl (by simp) fun K hK=>?_|refine T.rs (id:=13) (fun _=>false) fun K hK=>?_|refine T.rs (id:=16) (fun _=>false) fun K hK=>?_|refine T.rs (id:=18) (fun _=>false) fun K hK=>?_|refine T.eH (id:=19) (fun _=>false) fun K hK=>?_|refine T.eH (id:=14) (fun _=>false) fun K hK=>?_|refine T.ct rfl ?_|refine T.cf rfl ?_|refine T.seq ?_|refine T.block ?_|refine T.skip ?_
 ·have fX:p=L.length:=by have:=hx.le;omega
  subst fX;have hc:=hx.cond;have ho:=hx.out;have hr:=hx.res;simp only[List.drop_length,bk,aC,List.length_nil]at hc ho hr;simp[nc,mV]at hr;have g:=hN C l us hc A9 hx.GQ hr.symm;rw[qQ]at ho;generalize N C l us=y at*;subst ho;dsimp only at g;have CA:¬L.length<e.kids.length:=by omega
  clear hx hX hN hI hc hr;repeat' first|(refine ab (hK _ ?_);clear hK K)|((first|refine af ?_|(refine aa ?_ (g) ?_;(focus(solve|simp[CA,az,R0,A9]))));simp[CA,az,R0,A9];(try(refine gen2 ?_ ?_<;>intro hq<;>try simp[CA,az,R0,A9]at hq)))|(refine T.ret (aD.bq (Or.inr rfl) ?_)<;>simp[aF,Tryz.results42]<;>omega)|refine T.rs (id:=13) (fun _=>false) fun K hK=>?_|refine T.rs (id:=20) (fun _=>false) fun K hK=>?_|refine T.cf rfl ?_|refine T.seq ?_|refine T.exit ?_
theorem Gu (ns:List UInt8) (ts:List IT) (c:UInt8) (B ls:List IT) (hc:ts.length=ns.length) (hn:ns.length<=1000000):(0<=dp ns c->∃t,ts[(dp ns c).toNat]? =some t/\rG ns ts (q8 [c]) B ls (B,ls,t,true))/\(¬0<=dp ns c->rG ns ts (q8 [c]) B ls (B,ls,.v 0,false)):=by
 have hb:=nY ns c ns.length;rw[<-x5]at hb;have k1:=AK ns c (by omega);refine⟨fun h0=>?_,fun h0=>?_⟩
 ·rw[if_pos h0]at k1;obtain⟨j,hj⟩:∃j:Nat,dp ns c=j:=⟨(dp ns c).toNat,by omega⟩;rw[hj]at k1 hb⊢;have az:j<ts.length:=by omega
  obtain⟨t,ht⟩:=bX az;have fz:t∈ts:=adt ht;have a8:ts[j]=t:=by rw[ads az]at ht;exact Option.some.inj ht
  have jb:ts.drop j=t::ts.drop (j+1):=by rw[adu az,a8]
  refine⟨t,by simpa using ht,?_⟩;rw[rG];have Pb:¬((ns.length:Int)-1-j<0):=by omega
  have CL:(ts.length:Int)-1-((ns.length:Int)-1-j)=j:=by omega
  refine ah.ob Tryz.func42 Tryz.ntmps42 rfl ?_;repeat' first|((first|refine ab (hK _ ?_)|refine bz (hK _ ?_));clear hK K)|((first|refine af ?_|refine bO ?_|refine aa rfl (k1) ?_);simp[Pb,CL,az,a8,an t];(try simp(disch:=omega)only[wrap64]);(try(refine gen2 ?_ ?_<;>intro hq<;>try simp[Pb,CL,az,a8,an t]at hq)))|(refine T.ret (aD.bq (Or.inr rfl) ?_)<;>simp[aF,Tryz.results42]<;>omega)|refine T.pB (id:=5) mixed (fun _=>false) [9,10] [3,7,8] 10 [2] (by kernel_rfl) fun K hK=>?_|refine T.r0 fun K hK=>?_|refine T.ct rfl ?_|refine T.cf rfl ?_|refine T.seq ?_|refine T.skip ?_
 ·rw[if_neg h0]at k1;rw[rG];refine ah.ob Tryz.func42 Tryz.ntmps42 rfl ?_;repeat' first|(refine ab (hK _ ?_);clear hK K)|((first|refine af ?_|refine aa rfl (k1) ?_);simp[kh];(try simp(disch:=omega)only[wrap64]);(try(refine gen2 ?_ ?_<;>intro hq<;>try simp[kh]at hq)))|(refine T.ret (aD.bq (Or.inr rfl) ?_)<;>simp[aF,Tryz.results42]<;>omega)|refine T.r0 fun K hK=>?_|refine T.ct rfl ?_|refine T.seq ?_
theorem Gv (ns:List UInt8) (ts:List IT) (c:UInt8) (t:aE) (b:ao) (B B1 ls:List IT) (n:Nat) (hn:ns.length<=1000000) (b7:ts.length<=1000000) (vO:ls.length<=1000000) (n1:ah adi 99 [fR B ls] [] (.bq [fR B1 ls,gZ (.v n)]) [] []) (x:List IT×List IT×IT×Bool)
  (hb:rG (ns++[c]) (ts++[.v n]) b B1 (ls++[.v n]) x):rG ns ts (pD [c] t b) B ls (x.1,x.2.1,.p 4 (.v n) x.2.2.1,x.2.2.2):=by
 have yx:ns.length<=4611686018427387903:=by omega
 obtain⟨C,l,u,q⟩:=x;rw[rG]at hb⊢;dsimp only at hb⊢;have tw:=qu 4 (.v n) u;cases q
 ·refine ah.ob Tryz.func42 Tryz.ntmps42 rfl ?_;repeat' first|((first|refine ab (hK _ ?_)|refine aA (hK _ ?_)|refine bz (hK _ ?_));clear hK K)|((first|refine af ?_|refine aG ?_|refine bO ?_|refine aa rfl (n1) ?_|(refine aa ?_ (hb) ?_;(focus(solve|simp[kh,ax b,yx])))|(refine aa ?_ (tw) ?_;(focus(solve|simp[kh,ax b,yx]))));simp[kh,ax b,yx];(try simp(disch:=omega)only[wrap64,fC]);(try(refine gen2 ?_ ?_<;>intro hq<;>try simp[kh,ax b,yx]at hq)))|(refine⟨by omega,by omega,?_⟩)|(refine T.ret (aD.bq (Or.inr rfl) ?_)<;>simp[aF,Tryz.results42,kh]<;>omega)|refine T.pB (id:=8) mixed (fun i=>i==0) [0,3,6,8] [2,4,5] 4 [] (by kernel_rfl) fun K hK=>?_|refine T.PD (id:=9) mixed (fun i=>i==5) [5,7,10,15,20,21,22] [0,3,8,9,12,13,14] 11 [] 20 [0,3,5,7,8,9,10,12,13,14,15,20,21,22] _ (by kernel_rfl) rfl rfl rfl rfl wm rfl (by simp) fun K hK=>?_|refine T.rd (id:=10) mixed (fun _=>false) [5,6] (by kernel_rfl) fun K hK=>?_|refine T.rs (id:=0) (fun _=>false) fun K hK=>?_|refine T.rs (id:=1) (fun _=>false) fun K hK=>?_|refine T.rs (id:=6) (fun _=>false) fun K hK=>?_|refine T.rs (id:=7) (fun _=>false) fun K hK=>?_|refine T.ct rfl ?_|refine T.cf rfl ?_|refine T.seq ?_|refine T.skip ?_
 ·refine ah.ob Tryz.func42 Tryz.ntmps42 rfl ?_;repeat' first|((first|refine ab (hK _ ?_)|refine aA (hK _ ?_)|refine bz (hK _ ?_));clear hK K)|((first|refine af ?_|refine aG ?_|refine bO ?_|refine aa rfl (n1) ?_|(refine aa ?_ (hb) ?_;(focus(solve|simp[kh,ax b,yx])))|(refine aa ?_ (tw) ?_;(focus(solve|simp[kh,ax b,yx]))));simp[kh,ax b,yx];(try simp(disch:=omega)only[wrap64,fC]);(try(refine gen2 ?_ ?_<;>intro hq<;>try simp[kh,ax b,yx]at hq)))|(refine⟨by omega,by omega,?_⟩)|(refine T.ret (aD.bq (Or.inr rfl) ?_)<;>simp[aF,Tryz.results42,kh]<;>omega)|refine T.pB (id:=8) mixed (fun i=>i==0) [0,3,6,8] [2,4,5] 4 [] (by kernel_rfl) fun K hK=>?_|refine T.PD (id:=9) mixed (fun i=>i==5) [5,7,10,15,20,21,22] [0,3,8,9,12,13,14] 11 [] 20 [0,3,5,7,8,9,10,12,13,14,15,20,21,22] _ (by kernel_rfl) rfl rfl rfl rfl wm rfl (by simp) fun K hK=>?_|refine T.rd (id:=10) mixed (fun _=>false) [5,6] (by kernel_rfl) fun K hK=>?_|refine T.rs (id:=0) (fun _=>false) fun K hK=>?_|refine T.rs (id:=1) (fun _=>false) fun K hK=>?_|refine T.rs (id:=6) (fun _=>false) fun K hK=>?_|refine T.rs (id:=7) (fun _=>false) fun K hK=>?_|refine T.ct rfl ?_|refine T.cf rfl ?_|refine T.seq ?_|refine T.skip ?_
theorem CB {k:Nat} {ns:List UInt8} {ts:List IT} {X:ao->List IT->List IT->List IT×List IT×IT×Bool} {N:List IT->List IT->List IT->List IT×List IT×IT×Bool} {R:Option (List IT×List IT×List IT)} {r:Option (List IT×List IT×IT)} {len:Nat} (b7:ku ts)
  (hN:∀C l us,gL ns ts C l 1 0->us.length=len->(∀u∈us,sc C.length u=true/\gj u)->R=some (C,l,us)->x6 (N C l us) r) (h0:R=none->r=none):∀(L:List ao) (C l us:List IT),gL ns ts C l (bk L+1) (aC L).length->us.length+L.length=len->(∀u∈us,sc C.length u=true/\gj u)->(∀u∈L,Ba u)->
  (∀u∈L,∀C l n m,gL ns ts C l (aT u+n) ((aH u).length+m)->(∃r,inf k u C l ns ts=some r)->AL k ns ts u C l (X u C l))->nc k ns ts L C l us=some R->x6 (qQ X N L C l us) r
 |[],C,l,us,hc,hl,hs,_,_,hr=>by
  simp[nc,mV]at hr;rw[qQ];exact hN C l us (by simpa[bk,aC]using hc) (by simpa using hl) hs hr.symm
 |u::L,C,l,us,hc,hl,hs,hB,hX,hr=>by
  simp only[bk,aC,adw]at hc;have CJ:gL ns ts C l (aT u+(bk L+1)) ((aH u).length+(aC L).length):=⟨hc.ok,hc.kd,hc.Gs,hc.ctx,by have:=hc.len;omega,hc.Gt⟩;rw[ov]at hr;obtain⟨_,q,hi,ha⟩:=hX u (by simp) C l _ _ CJ (by
   cases hz:inf k u C l ns ts with
   |none=>rw[hz]at hr;cases hr
   |some z=>exact⟨z,rfl⟩)
  rw[hi]at hr;rw[qQ];cases q with
  |none=>
   simp only[x6]at ha;rw[if_neg (by rw[ha];simp)];cases hr
   rw[h0 rfl];exact ha
  |some q=>
   obtain⟨q1,q2,q3⟩:=q;simp only[x6]at ha;obtain⟨e1,e2,e3,e4⟩:=ha;rw[if_pos e4,e1,e2,e3];obtain⟨g1,g2,g3,g4⟩:=gL.next (hB u (by simp)) b7 CJ hi;exact CB b7 hN h0 L q1 q2 (us++[q3]) g1 (by simp at hl⊢;omega) (fun v hv=>by
    rcases adv.1 hv with hv|hv
    ·exact⟨dL g2 (hs v hv).1,(hs v hv).2⟩
    ·simp at hv;subst hv;exact⟨g3,g4⟩) (fun v hv=>hB v (by simp[hv])) (fun v hv=>hX v (by simp[hv])) hr
open Classical in
theorem jI (k:Nat) (ns:List UInt8) (ts:List IT) (e:ao) (OR:e.kids.length<=3) (h1:e.kind≠1) (h5:e.kind≠5) (b7:ku ts) (K7:∀u∈e.kids,Ba u)
  (jh:∀us:List IT,us.length=e.kids.length->((e.kind=2\/e.kind=3\/e.kind=4)/\us=[])\/((e.kind=11\/e.kind=12)/\us.length=1)\/((e.kind=6\/e.kind=7\/e.kind=8\/e.kind=10)/\us.length=2)\/(e.kind=9/\us.length=3))
  (ih:∀u∈e.kids,∀C l n m,gL ns ts C l (aT u+n) ((aH u).length+m)->(∃r,inf k u C l ns ts=some r)->∃x,AL k ns ts u C l x)
  (B ls:List IT) (hc:gL ns ts B ls (bk e.kids+1) (aC e.kids).length) (r:Option (List IT×List IT×IT)) (hr:inf k e B ls ns ts=some r):∃x,AL k ns ts e B ls x:=by
 let X:ao->List IT->List IT->List IT×List IT×IT×Bool:=fun u C l=>if h:∃x,AL k ns ts u C l x then h.choose else([],[],.v 0,false)
 have hX:∀u∈e.kids,∀C l n m,gL ns ts C l (aT u+n) ((aH u).length+m)->(∃r,inf k u C l ns ts=some r)->AL k ns ts u C l (X u C l):=fun u hu C l n m g1 g2=>by
  have h:=ih u hu C l n m g1 g2;show AL k ns ts u C l (if h:∃x,AL k ns ts u C l x then h.choose else([],[],.v 0,false));rw[dif_pos h];exact h.choose_spec
 let NP:List IT->List IT->List IT->(List IT×IT×Bool)->Prop:=fun C l us y=>ah adi 101 [fR C l,c6 e,.l (us.map oN)] [] (.bq [fR y.1 l,gZ y.2.1,.b y.2.2]) [] []/\∃rn,ir k e.kind C us=some rn/\Pa y.1 y.2.1 y.2.2 rn
 let N:List IT->List IT->List IT->List IT×List IT×IT×Bool:=fun C l us=>if h:∃y,NP C l us y then(h.choose.1,l,h.choose.2.1,h.choose.2.2)else([],[],.v 0,false)
 obtain⟨R,hR,Nb,KA⟩:∃R,mV k e.kids B ls ns ts=some R/\(R=none->r=none)/\(∀C l us,R=some (C,l,us)->∃rn,ir k e.kind C us=some rn/\r=rn.map fun z=>(z.1,l,z.2)):=by
  cases e with
  |mk kd s n t f b L=>
   simp only[ao.b4]at h1 h5;rw[inf,if_neg h1]at hr;simp only[if_neg h5]at hr;simp only[ao.bQ,ao.b4];cases hS:mV k L B ls ns ts with
   |none=>rw[hS]at hr;cases hr
   |some R=>
    rw[hS]at hr;refine⟨R,rfl,fun e=>?_,fun C l us e=>?_⟩
    ·subst e;simpa using hr.symm
    ·subst e;simp only[adj]at hr;obtain⟨rn,q1,q2⟩:=hr;exact⟨rn,q1,q2.symm⟩
 have fw:nc k ns ts e.kids B ls []=some R:=by
  simp only[nc,hR];cases R with
  |none=>rfl
  |some z=>obtain⟨a,b,c⟩:=z;simp
 have Tp:∀C l us,gL ns ts C l 1 0->us.length=e.kids.length->(∀u∈us,sc C.length u=true/\gj u)->R=some (C,l,us)->∃y,NP C l us y:=fun C l us g1 g2 g3 g4=>by
  obtain⟨rn,q1,_⟩:=KA C l us g4;obtain⟨D,u,q,g5,g6⟩:=D7 l k e C us rn g1.ok g1.kd (by have:=g1.len;omega) (fun v hv=>(g3 v hv).1) (fun v hv=>(g3 v hv).2) (jh us g2) q1;exact⟨(D,u,q),g5,rn,q1,g6⟩
 have hw:=D8 k ns ts e e.kids rfl OR h1 h5 b7 K7 X N B ls hX R (fun C l us g1 g2 g3 g4=>by
  have h:=Tp C l us g1 g2 g3 g4;show ah _ _ _ _ (.bq [fR (if h:∃y,NP C l us y then(h.choose.1,l,h.choose.2.1,h.choose.2.2)else([],[],.v 0,false)).1 (if h:∃y,NP C l us y then(h.choose.1,l,h.choose.2.1,h.choose.2.2)else([],[],.v 0,false)).2.1,gZ (if h:∃y,NP C l us y then(h.choose.1,l,h.choose.2.1,h.choose.2.2)else([],[],.v 0,false)).2.2.1,.b (if h:∃y,NP C l us y then(h.choose.1,l,h.choose.2.1,h.choose.2.2)else([],[],.v 0,false)).2.2.2]) [] [];rw[dif_pos h];exact h.choose_spec.1) ⟨Nat.zero_le _,rfl,by simpa using hc,fun u hu=>(by cases hu),by simp,by simpa using fw⟩
 refine⟨_,hw,r,hr,?_⟩;refine CB (len:=e.kids.length) b7 (fun C l us g1 g2 g3 g4=>?_) Nb e.kids B ls [] hc (by simp) (fun u hu=>(by cases hu)) K7 hX fw;have h:=Tp C l us g1 g2 g3 g4;obtain⟨rn,q1,q2⟩:=KA C l us g4;obtain⟨_,rn',q3,q4⟩:=h.choose_spec;rw[q1]at q3;cases q3
 show x6 (if h:∃y,NP C l us y then(h.choose.1,l,h.choose.2.1,h.choose.2.2)else([],[],.v 0,false)) r;rw[dif_pos h,q2];cases rn with
 |none=>exact q4
 |some z=>exact⟨q4.1,rfl,q4.2.1,q4.2.2⟩
theorem vE (k:Nat) {e:ao} (he:Ba e):∀(ns:List UInt8) (ts B ls:List IT) (n m:Nat),ku ts->ns.length+aT e<=1000000->gL ns ts B ls (aT e+n) ((aH e).length+m)->(∃r,inf k e B ls ns ts=some r)->∃x,AL k ns ts e B ls x:=by
 induction he with
 |var c=>
  intro ns ts B ls n m b7 hn hc ⟨r,hr⟩;have h:=Gu ns ts c B ls hc.ctx.len (by omega);rw[jW]at hr;by_cases h0:0<=dp ns c
  ·obtain⟨t,ht,hA⟩:=h.1 h0;rw[if_pos h0,ht]at hr;simp at hr;exact⟨_,hA,r,by rw[jW,if_pos h0,ht];simpa using hr,by subst hr;exact⟨rfl,rfl,rfl,rfl⟩⟩
  ·rw[if_neg h0]at hr;simp at hr;exact⟨_,h.2 h0,r,by rw[jW,if_neg h0];simpa using hr,by subst hr;rfl⟩
 |num z=>
  intro ns ts B ls n m b7 hn hc ⟨r,hr⟩;exact jI k ns ts _ (by simp) (by simp) (by simp) b7 (by simp) (fun us h=>.inl ⟨by simp,by simpa using h⟩) (by simp) B ls ⟨hc.ok,hc.kd,hc.Gs,hc.ctx,by have:=hc.len;simp[bk,aT]at this⊢;omega,by have:=hc.Gt;simp[aC];omega⟩ r hr
 |tP=>
  intro ns ts B ls n m b7 hn hc ⟨r,hr⟩;exact jI k ns ts _ (by simp) (by simp) (by simp) b7 (by simp) (fun us h=>.inl ⟨by simp,by simpa using h⟩) (by simp) B ls ⟨hc.ok,hc.kd,hc.Gs,hc.ctx,by have:=hc.len;simp[bk,aT]at this⊢;omega,by have:=hc.Gt;simp[aC];omega⟩ r hr
 |tQ=>
  intro ns ts B ls n m b7 hn hc ⟨r,hr⟩;exact jI k ns ts _ (by simp) (by simp) (by simp) b7 (by simp) (fun us h=>.inl ⟨by simp,by simpa using h⟩) (by simp) B ls ⟨hc.ok,hc.kd,hc.Gs,hc.ctx,by have:=hc.len;simp[bk,aT]at this⊢;omega,by have:=hc.Gt;simp[aC];omega⟩ r hr
 | @lam c t b hb ih=>
  intro ns ts B ls n m b7 hn hc ⟨r,hr⟩;rw[kX]at hr;simp only[adj]at hr;obtain⟨rb,Kf,hr⟩:=hr;have AX:aT (pD [c] t b)=aT b+1:=by simp[aT,bk];omega
  rw[rC,AX]at hc;have hl:=hc.len;have vN:=hc.Gt;simp only[List.length_cons]at vN;have n1:=uD B ls (by omega);have Ms:∀n:Nat,ku [IT.v n]:=fun n u hu=>by simp at hu;subst hu;trivial
  obtain⟨x,hA,rb',q1,q2⟩:=ih (ns++[c]) (ts++[.v B.length]) (B++[.v B.length]) (ls++[.v B.length]) n m (b7.app (Ms _)) (by simp;omega) ⟨⟨(lO.one B).sc hc.ok.sc,(lO.one B).vu hc.ok.sc hc.ok.vu⟩,hc.kd.app (Ms _),hc.Gs.app (Ms _),⟨by simp[hc.ctx.len],fun u hu=>by
   rcases adv.1 hu with hu|hu
   ·exact dL (by simp) (hc.ctx.GQ u hu)
   ·simp at hu;subst hu;simp[sc]⟩,by simp;omega,by simp;omega⟩ ⟨rb,Kf⟩
  rw[Kf]at q1;cases q1
  refine⟨_,Gv ns ts c t b B (B++[.v B.length]) ls B.length (by omega) (by rw[hc.ctx.len];omega) (by omega) n1 x hA,r,by rw[kX,Kf];simpa using hr,?_⟩;subst hr;cases rb with
  |none=>exact q2
  |some z=>
   obtain⟨z1,z2,z3⟩:=z;simp only[x6]at q2;exact⟨q2.1,q2.2.1,by simp[q2.2.2.1],q2.2.2.2⟩
 | @n2 kd a b hk ha hb iha ihb=>
  intro ns ts B ls n m b7 hn hc ⟨r,hr⟩;have AX:aT (Ag kd a b)=aT a+aT b+1:=by simp[aT,bk];omega
  refine jI k ns ts _ (by simp) (by simp;omega) (by simp;omega) b7 (fun u hu=>by simp at hu;rcases hu with rfl|rfl<;>assumption) (fun us h=>.inr (.inr (.inl ⟨by simpa using hk,by simpa using h⟩))) (fun u hu C l n' m' g1 g2=>?_) B ls ⟨hc.ok,hc.kd,hc.Gs,hc.ctx,by have:=hc.len;simp[bk,aT]at this⊢;omega,by have:=hc.Gt;rw[uw hk]at this;simp[aC]at this⊢;omega⟩ r hr;simp at hu;rcases hu with rfl|rfl
  ·exact iha ns ts C l n' m' b7 (by omega) g1 g2
  ·exact ihb ns ts C l n' m' b7 (by omega) g1 g2
 | @ite a b c ha hb pH iha ihb ihc=>
  intro ns ts B ls n m b7 hn hc ⟨r,hr⟩;have AX:aT (Ex a b c)=aT a+aT b+aT c+1:=by simp[aT,bk];omega
  refine jI k ns ts _ (by simp) (by simp) (by simp) b7 (fun u hu=>by simp at hu;rcases hu with rfl|rfl|rfl<;>assumption) (fun us h=>.inr (.inr (.inr ⟨by simp,by simpa using h⟩))) (fun u hu C l n' m' g1 g2=>?_) B ls ⟨hc.ok,hc.kd,hc.Gs,hc.ctx,by have:=hc.len;simp[bk,aT]at this⊢;omega,by have:=hc.Gt;rw[ux]at this;simp[aC]at this⊢;omega⟩ r hr;simp at hu;rcases hu with rfl|rfl|rfl
  ·exact iha ns ts C l n' m' b7 (by omega) g1 g2
  ·exact ihb ns ts C l n' m' b7 (by omega) g1 g2
  ·exact ihc ns ts C l n' m' b7 (by omega) g1 g2
 | @n1 kd a hk ha ih=>
  intro ns ts B ls n m b7 hn hc ⟨r,hr⟩;have AX:aT (Di kd a)=aT a+1:=by simp[aT,bk];omega
  refine jI k ns ts _ (by simp) (by simp;omega) (by simp;omega) b7 (fun u hu=>by simp at hu;subst hu;assumption) (fun us h=>.inr (.inl ⟨by simpa using hk,by simpa using h⟩)) (fun u hu C l n' m' g1 g2=>?_) B ls ⟨hc.ok,hc.kd,hc.Gs,hc.ctx,by have:=hc.len;simp[bk,aT]at this⊢;omega,by have:=hc.Gt;rw[uv hk]at this;simp[aC]at this⊢;omega⟩ r hr;simp at hu;subst hu;exact ih ns ts C l n' m' b7 (by omega) g1 g2
end Go.Proofs.YtloolmchekcmeaaGreat
namespace Go.Proofs.YtloolmchekcmeaaGreat
attribute [-simp] Go.Av.cb Go.Av.eL Go.Av.fj Go.Av.fa Go.Av.cT Go.Av.b9
open Go Go.Av
attribute [local irreducible] T ah TX EX LX bw dh bR cA gA aE.kind aE.kids ao.kind ao.name ao.num ao.ty ao.fr ao.label ao.kids
attribute [local simp] aQ ax
set_option maxHeartbeats 16000000
set_option maxRecDepth 8000
attribute [local simp] adm
theorem D9 (B ls:List IT) (hS:ry B) (lC:ku B) (hB:B.length<=1048576):∀(k:Nat) (t:IT),ex B k t=true->sc B.length t=true->gj t->∀most:Nat,most<=1000->ah adi 44 [fR B ls,gZ t,.i most] [] (.i (min (iU B k t) (most+1):Nat)) [] []:=by
 intro k;induction k using ady with
 |_ k ih=>
  intro t hx ht hk most hm;have h1:=lE B ls hS lC hB k t hx ht hk;have Gp:=fL hx;have AY:=lA hS (k:=k) ht;have kQ:=mY lC (k:=k) hk;have ji:=jl hx;have wg:=fun c x y=>n0 (c:=c) (x:=x) (y:=y) hx
  rw[<-AD hx];generalize hd B k t=u at*;have leaf:u.kids=[]->iU B k u=1->ah adi 44 [fR B ls,gZ t,.i most] [] (.i (min (iU B k u) (most+1):Nat)) [] []:=by
   intro h0 hz;have eg:min (iU B k u) (most+1)=1:=by omega
   rw[eg];replace h1:ah adi 102 [fR B ls,gZ t] [] (.agg [.d (.i u.kind),.d (.i u.name),.d (.sl [])]) [] []:=by rw[show([]:List (List DV))=u.kids.map oN by rw[h0];rfl];exact h1
   clear ih wg Gp;refine ah.ob Tryz.func44 Tryz.ntmps44 rfl ?_;repeat' first|(refine ab (hK _ ?_);clear hK K)|((first|refine af ?_|refine aa rfl (h1) ?_);simp;(try simp(disch:=omega)only[wrap64]);(try(refine gen2 ?_ ?_<;>intro hq<;>try simp at hq)))|refine T.r0 fun K hK=>?_|refine T.seq ?_|refine T.block ?_
   refine T.dA (α:=Nat) [2,3,4,6] (fun x=>[(7,.i 1),(8,.i 0)]) (fun x=>[]) (fun x=>[]) (fun x A=>A) (fun x=>1) (fun x=>True) (by simp;rfl) (fun x hx=>?_) 0 trivial (by simp) (by simp) (by simp);simp only[gi,adn,ado,adq,adp,adr];repeat' first|(refine ab (hK _ ?_);clear hK K)|(refine af ?_;simp;(try simp(disch:=omega)only[wrap64]);(try(refine gen2 ?_ ?_<;>intro hq<;>try simp at hq)))|(refine T.ret (aD.data (Or.inr rfl) ?_ ?_)<;>simp[Tryz.results44]<;>omega)|refine T.r0 fun K hK=>?_|refine T.cf rfl ?_|refine T.seq ?_|refine T.exit ?_
  cases hu:u with
  |v m=>
   subst hu;exact leaf rfl (by
    have hb:=Gp m rfl;cases k with
    |zero=>rfl
    |succ k=>simp[iU,hb])
  |b c=>
   subst hu;exact leaf rfl (by cases k<;>rfl)
  |p c x y=>
   subst hu;obtain⟨j,hj,Je,Jf⟩:=wg c x y rfl;have g1:=fun m hm=>ih j hj x Je (qt AY x (by simp)) (na kQ x (by simp)) m hm
   have g2:=fun m hm=>ih j hj y Jf (qt AY y (by simp)) (na kQ y (by simp)) m hm
   obtain⟨k',rfl⟩:∃k',k=k'+1:=⟨k-1,by omega⟩;have hz:iU B (k'+1) (.p c x y)=1+iU B j x+iU B j y:=by
    have Vb:ex B k' x=true/\ex B k' y=true:=by simpa[ex]using ji
    rw[iU,ep Je (show j<=k' by omega),ep Jf (show j<=k' by omega)]
   rw[hz];have p1:=sU (B:=B) (k:=j) (t:=x);have p2:=sU (B:=B) (k:=j) (t:=y);generalize iU B j x=a at*;generalize iU B j y=b at*;clear ih wg Gp;refine ah.ob Tryz.func44 Tryz.ntmps44 rfl ?_;repeat' first|(refine ab (hK _ ?_);clear hK K)|((first|refine af ?_|refine aa rfl (h1) ?_);simp;(try simp(disch:=omega)only[wrap64]);(try(refine gen2 ?_ ?_<;>intro hq<;>try simp at hq)))|refine T.r0 fun K hK=>?_|refine T.seq ?_|refine T.block ?_
   refine T.dA (α:=Nat×Nat) [2,3,4,6] (fun x=>[(7,.i x.2),(8,.i x.1)]) (fun x=>[]) (fun x=>[]) (fun x A=>A) (fun x=>3-x.1) (fun x=>(x.1=0/\x.2=1)\/(x.1=1/\x.2=1+min a most/\1<=most)\/(x.1=2/\x.2=min (1+a+b) (most+1))) (by simp;rfl) (fun z zn=>?_) (0,1) (.inl ⟨rfl,rfl⟩) (by simp) (by simp) (by simp);obtain⟨p,n⟩:=z;dsimp only at zn⊢;simp only[gi,adn,ado,adq,adp,adr];rcases zn with⟨rfl,rfl⟩|⟨rfl,hn,Jn⟩|⟨rfl,rfl⟩
   ·by_cases Vd:1<=most
    ·have e1:(1:Int)<=most:=by omega
     have k1:=g1 (most-1) (by omega);rw[show most-1+1=most by omega,show((most-1:Nat):Int)=(most:Int)-1 by omega]at k1;repeat' first|((first|refine ab (hK _ ?_)|refine aA (hK _ ?_));clear hK K)|((first|refine af ?_|refine aG ?_|(refine aa ?_ (k1) ?_;(focus(solve|simp[e1,an x]))));simp[e1,an x];(try simp(disch:=omega)only[wrap64]);(try(refine gen2 ?_ ?_<;>intro hq<;>try simp[e1,an x]at hq)))|refine T.yi (id:=6) mixed (fun _=>false) [] (by kernel_rfl) fun K hK=>?_|refine T.r0 fun K hK=>?_|refine T.r1 fun K hK=>?_|refine T.ct rfl ?_|refine T.seq ?_|refine T.block ?_|refine T.skip ?_
     refine⟨(1,1+min a most),by dsimp only;omega,Or.inr (Or.inl ⟨rfl,rfl,Vd⟩),?_,?_,?_⟩<;>simp(disch:=omega) [wrap64,an x]
    ·have e1:¬(1:Int)<=most:=by omega
     have eg:min (1+a+b) (most+1)=1:=by omega
     rw[eg];repeat' first|(refine ab (hK _ ?_);clear hK K)|(refine af ?_;simp[e1];(try simp(disch:=omega)only[wrap64]);(try(refine gen2 ?_ ?_<;>intro hq<;>try simp[e1]at hq)))|(refine T.ret (aD.data (Or.inr rfl) ?_ ?_)<;>simp[Tryz.results44]<;>omega)|refine T.r0 fun K hK=>?_|refine T.cf rfl ?_|refine T.seq ?_|refine T.exit ?_
   ·by_cases PK:n<=most
    ·have e1:(n:Int)<=most:=by omega
     have k2:=g2 (most-n) (by omega);rw[show((most-n:Nat):Int)=(most:Int)-n by omega]at k2;have e2:n+min b (most-n+1)=min (1+a+b) (most+1):=by omega
     repeat' first|((first|refine ab (hK _ ?_)|refine aA (hK _ ?_));clear hK K)|((first|refine af ?_|refine aG ?_|(refine aa ?_ (k2) ?_;(focus(solve|simp[e1,an y]))));simp[e1,an y];(try simp(disch:=omega)only[wrap64]);(try(refine gen2 ?_ ?_<;>intro hq<;>try simp[e1,an y]at hq)))|refine T.yi (id:=6) mixed (fun _=>false) [] (by kernel_rfl) fun K hK=>?_|refine T.r0 fun K hK=>?_|refine T.r1 fun K hK=>?_|refine T.ct rfl ?_|refine T.seq ?_|refine T.block ?_|refine T.skip ?_
     refine⟨(2,n+min b (most-n+1)),by dsimp only;omega,Or.inr (Or.inr ⟨rfl,e2⟩),?_,?_,?_⟩<;>simp(disch:=omega) [wrap64,an y]
    ·have e1:¬(n:Int)<=most:=by omega
     have eg:min (1+a+b) (most+1)=n:=by omega
     rw[eg];repeat' first|(refine ab (hK _ ?_);clear hK K)|(refine af ?_;simp[e1];(try simp(disch:=omega)only[wrap64]);(try(refine gen2 ?_ ?_<;>intro hq<;>try simp[e1]at hq)))|(refine T.ret (aD.data (Or.inr rfl) ?_ ?_)<;>simp[Tryz.results44]<;>omega)|refine T.r0 fun K hK=>?_|refine T.cf rfl ?_|refine T.seq ?_|refine T.exit ?_
   ·repeat' first|(refine ab (hK _ ?_);clear hK K)|(refine af ?_;simp;(try simp(disch:=omega)only[wrap64]);(try(refine gen2 ?_ ?_<;>intro hq<;>try simp at hq)))|(refine T.ret (aD.data (Or.inr rfl) ?_ ?_)<;>simp[Tryz.results44]<;>omega)|refine T.r0 fun K hK=>?_|refine T.cf rfl ?_|refine T.seq ?_|refine T.exit ?_
theorem IM {B:List IT} {K:Nat} (hK:Fuel B K) {t:IT} (ht:sc B.length t=true):∃j,ex B j t=true/\hd B j t=hd B K t:=by
 obtain⟨j,hj⟩:=jE hK ht;refine⟨j+K,oM (by omega) hj,?_⟩;cases t with
 |v n=>
  have hn:n<B.length:=by simpa[sc]using ht
  rw[gI (hK n hn) (show K<=j+K by omega)]
 |b c=>cases K<;>cases j<;>rfl
 |p c x y=>cases K<;>cases j<;>rfl
def R1 (f:IT->Option aE):List IT->Option (List aE)
 |[]=>some []
 |t::r=>match f t with
  |none=>none
  |some T=>(R1 f r).map (T::·)
@[simp] theorem PZ:td adi 21=some {ag:=false,sz:=1,lG:=4,zero:=some [.d (.int .i32 0)],el:=none,ar:=none,fl:=[],ik:=some .i32,cL:=false,nj:=false}:=dI (by kernel_rfl)
def Ea (l:List Nat):List (List DV):=l.map fun(n:Nat)=>[DV.i n]
theorem mf (l:List Nat):(Ea l).length=l.length:=by simp[Ea]
theorem IN (B ls:List IT) (t:IT) (m:Nat) (seen:List Nat) (hl:seen.length<=30) (h1:ah adi 102 [fR B ls,gZ t] [] (gZ (.v m)) [] []):
  ah adi 45 [fR B ls,gZ t,.l (Ea seen)] [] (.bq [.s [xV (kg m seen)],.l (Ea (if m∈seen then seen else seen++[m]))]) [] []:=by
 obtain⟨I,hI⟩:∃I,kg m seen=I:=⟨_,rfl⟩;rw[hI];refine ah.ob Tryz.func45 Tryz.ntmps45 rfl ?_;repeat' first|(refine ab (hK _ ?_);clear hK K)|((first|refine af ?_|refine aa rfl (h1) ?_);simp;(try(refine gen2 ?_ ?_<;>intro hq<;>try simp at hq)))|refine T.r0 fun K hK=>?_|refine T.ct rfl ?_|refine T.seq ?_|refine T.block ?_
 refine T.dA (α:=Nat) [2,3,4] (fun p=>[(6,.s []),(7,.c .nil),(8,.i p)]) (fun _=>[]) (fun _=>[]) (fun _ A=>A) (fun p=>seen.length+1-p) (fun p=>p<=seen.length/\p+kg m (seen.drop p)=I/\(m∈seen↔m∈seen.drop p)) (by simp;rfl) (fun p hx=>?_) 0 ⟨by simp,by simpa using hI,by simp⟩ (by simp) (by simp) (by simp);obtain⟨hp,he,hm⟩:=hx;dsimp only;simp only[gi,adn,ado,adq,adp];have Kn:IntKind.i64.wrap (97+(p:Int))=97+p:=wrap64 (by omega) (by omega);have Ko:IntKind.i32.wrap (97+(p:Int))=97+p:=by simp[IntKind.wrap,IntKind.bits,IntKind.signed];omega
 have mB:(0:Int)<=97+p:=by omega
 have P0:(97:Int)+p<128:=by omega
 have yL:((97:Int)+p).toNat=97+p:=by omega
 by_cases az:p<seen.length
 ·obtain⟨w,ht⟩:=bX az;have fz:w∈seen:=adt ht;have a8:seen[p]=w:=by rw[ads az]at ht;exact Option.some.inj ht
  have jb:seen.drop p=w::seen.drop (p+1):=by rw[adu az,a8]
  rw[jb]at he hm;have P1:p<(Ea seen).length:=by rw[mf];exact az
  have uK:(Ea seen)[p]=[.i w]:=by simp[Ea,a8]
  by_cases e:w=m
  ·subst e;rw[kg,if_pos rfl]at he;have uQ:I=p:=by omega
   subst uQ;have bZ:w∈seen:=hm.2 (by simp);rw[if_pos bZ];repeat' first|((first|refine ab (hK _ ?_)|refine aA (hK _ ?_));clear hK K)|((first|refine af ?_|refine aG ?_);simp[P1,uK,mf,az,Kn,Ko,mB,P0,yL];(try simp(disch:=omega)only[wrap64]);(try(refine gen2 ?_ ?_<;>intro hq<;>try simp[P1,uK,mf,az,Kn,Ko,mB,P0,yL]at hq)))|(refine T.ret (aD.bq (Or.inr rfl) ?_)<;>simp[aF,Tryz.results45,xV]<;>omega)|refine T.rd (id:=6) mixed (fun _=>false) [] (by kernel_rfl) fun K hK=>?_|refine T.r0 fun K hK=>?_|refine T.ct rfl ?_|refine T.seq ?_|refine T.block ?_|refine T.skip ?_
  ·rw[kg,if_neg e]at he;have e':¬(w:Int)=m:=by omega
   have O0:m∈seen↔m∈seen.drop (p+1):=by
    rw[hm];simp only[adx];exact⟨fun h=>h.resolve_left (fun q=>e q.symm),.inr⟩
   repeat' first|((first|refine ab (hK _ ?_)|refine aA (hK _ ?_));clear hK K)|((first|refine af ?_|refine aG ?_);simp[P1,uK,mf,az,e'];(try simp(disch:=omega)only[wrap64]);(try(refine gen2 ?_ ?_<;>intro hq<;>try simp[P1,uK,mf,az,e']at hq)))|(refine⟨p+1,by dsimp only;omega,⟨by omega,by omega,O0⟩,?_,?_,?_⟩<;>simp(disch:=omega) [wrap64])|refine T.rd (id:=6) mixed (fun _=>false) [] (by kernel_rfl) fun K hK=>?_|refine T.r0 fun K hK=>?_|refine T.r1 fun K hK=>?_|refine T.ct rfl ?_|refine T.cf rfl ?_|refine T.seq ?_|refine T.block ?_|refine T.skip ?_
 ·have fX:p=seen.length:=by omega
  subst fX;have fe:m∉seen:=fun h=>by simpa using hm.1 h
  have uQ:I=seen.length:=by simp[kg]at he;omega
  subst uQ;rw[if_neg fe];have C1:Ea (seen++[m])=Ea seen++[[.i m]]:=by simp[Ea]
  have dK:∀r∈Ea seen,r.length=1:=fun r hr=>by simp[Ea]at hr;obtain⟨a,_,rfl⟩:=hr;rfl
  rw[C1];repeat' first|((first|refine ab (hK _ ?_)|refine bz (hK _ ?_));clear hK K)|((first|refine af ?_|refine bO ?_);simp[mf,Kn,Ko,mB,P0,yL];(try simp(disch:=omega)only[wrap64]);(try(refine gen2 ?_ ?_<;>intro hq<;>try simp[mf,Kn,Ko,mB,P0,yL]at hq)))|(refine⟨dK,by omega,by omega,?_⟩)|(refine⟨by omega,by omega,?_⟩)|(refine T.ret (aD.bq (Or.inr rfl) ?_)<;>simp[aF,Tryz.results45,xV,mf]<;>omega)|refine T.pB (id:=8) mixed (fun i=>i==5) [5,7,11] [1,3,4,9,10] 12 [] (by kernel_rfl) fun K hK=>?_|refine T.rs (id:=4) (fun _=>false) fun K hK=>?_|refine T.cf rfl ?_|refine T.seq ?_|refine T.exit ?_
theorem Eb (c:Int) (hc:c=2\/c=3):ah adi 103 [eu (.mk c [])] [] (.s [fq c]) [] []:=by
 rcases hc with rfl|rfl
 ·refine ah.ob Tryz.func103 Tryz.ntmps103 rfl ?_;repeat' first|(refine ab (hK _ ?_);clear hK K)|(refine af ?_;simp;(try(refine gen2 ?_ ?_<;>intro hq<;>try simp at hq)))|(refine T.ret (aD.data (Or.inr rfl) ?_ ?_)<;>simp[Tryz.results103,fq]<;>omega)|refine T.r0 fun K hK=>?_|refine T.ct rfl ?_|refine T.cf rfl ?_|refine T.seq ?_|refine T.block ?_
 ·refine ah.ob Tryz.func103 Tryz.ntmps103 rfl ?_;repeat' first|(refine ab (hK _ ?_);clear hK K)|(refine af ?_;simp;(try(refine gen2 ?_ ?_<;>intro hq<;>try simp at hq)))|(refine T.ret (aD.data (Or.inr rfl) ?_ ?_)<;>simp[Tryz.results103,fq]<;>omega)|refine T.r0 fun K hK=>?_|refine T.ct rfl ?_|refine T.cf rfl ?_|refine T.seq ?_|refine T.block ?_
theorem Gw (B ls:List IT) (t:IT) (c:Int) (hc:c=2\/c=3) (rows:List (List DV)) (h1:ah adi 102 [fR B ls,gZ t] [] (gZ (.b c)) [] []):
  ah adi 45 [fR B ls,gZ t,.l rows] [] (.bq [.s [fq c],.l rows]) [] []:=by
 have h2:=Eb c hc;have h0:¬c=0:=by omega
 refine ah.ob Tryz.func45 Tryz.ntmps45 rfl ?_;repeat' first|(refine ab (hK _ ?_);clear hK K)|((first|refine af ?_|refine aa rfl (h1) ?_|(refine aa ?_ (h2) ?_;(focus(solve|simp[h0]))));simp[h0];(try(refine gen2 ?_ ?_<;>intro hq<;>try simp[h0]at hq)))|(refine T.ret (aD.bq (Or.inr rfl) ?_)<;>simp[aF,Tryz.results45]<;>omega)|refine T.r0 fun K hK=>?_|refine T.ct rfl ?_|refine T.cf rfl ?_|refine T.seq ?_|refine T.skip ?_
theorem Gx (B ls:List IT) (t:IT) (c:Int) (hc:c=4\/c=5) (x y:IT) (r0 r1 r2:List (List DV)) (a b:List UInt8) (ha:a.length<=100000) (hb:b.length<=100000) (h1:ah adi 102 [fR B ls,gZ t] [] (gZ (.p c x y)) [] [])
  (h2:ah adi 45 [fR B ls,gZ x,.l r0] [] (.bq [.s a,.l r1]) [] []) (h3:ah adi 45 [fR B ls,gZ y,.l r1] [] (.bq [.s b,.l r2]) [] []):
  ah adi 45 [fR B ls,gZ t,.l r0] [] (.bq [.s (40::(a++fq c::(b++[41]))),.l r2]) [] []:=by
 rcases hc with rfl|rfl
 ·refine ah.ob Tryz.func45 Tryz.ntmps45 rfl ?_;repeat' first|((first|refine ab (hK _ ?_)|refine aA (hK _ ?_));clear hK K)|((first|refine af ?_|refine aG ?_|refine aa rfl (h1) ?_|(refine aa ?_ (h2) ?_;(focus(solve|simp[an x,an y])))|(refine aa ?_ (h3) ?_;(focus(solve|simp[an x,an y]))));simp[an x,an y];(try simp(disch:=omega)only[wrap64,fC]);(try(refine gen2 ?_ ?_<;>intro hq<;>try simp[an x,an y]at hq)))|(refine T.ret (aD.bq (Or.inr rfl) ?_)<;>simp[aF,Tryz.results45,fq]<;>omega)|refine T.rd (id:=11) mixed (fun _=>false) [] (by kernel_rfl) fun K hK=>?_|refine T.rd (id:=12) mixed (fun _=>false) [] (by kernel_rfl) fun K hK=>?_|refine T.r0 fun K hK=>?_|refine T.cf rfl ?_|refine T.seq ?_|refine T.skip ?_
 ·refine ah.ob Tryz.func45 Tryz.ntmps45 rfl ?_;repeat' first|((first|refine ab (hK _ ?_)|refine aA (hK _ ?_));clear hK K)|((first|refine af ?_|refine aG ?_|refine aa rfl (h1) ?_|(refine aa ?_ (h2) ?_;(focus(solve|simp[an x,an y])))|(refine aa ?_ (h3) ?_;(focus(solve|simp[an x,an y]))));simp[an x,an y];(try simp(disch:=omega)only[wrap64,fC]);(try(refine gen2 ?_ ?_<;>intro hq<;>try simp[an x,an y]at hq)))|(refine T.ret (aD.bq (Or.inr rfl) ?_)<;>simp[aF,Tryz.results45,fq]<;>omega)|refine T.rd (id:=11) mixed (fun _=>false) [] (by kernel_rfl) fun K hK=>?_|refine T.rd (id:=12) mixed (fun _=>false) [] (by kernel_rfl) fun K hK=>?_|refine T.r0 fun K hK=>?_|refine T.r1 fun K hK=>?_|refine T.ct rfl ?_|refine T.cf rfl ?_|refine T.seq ?_|refine T.skip ?_
theorem Ec (B ls:List IT) (hS:ry B) (lC:ku B) (hB:B.length<=1048576):∀(k:Nat) (t:IT),ex B k t=true->sc B.length t=true->gj t->∀seen:List Nat,2*seen.length+iU B k t<=60->ah adi 45 [fR B ls,gZ t,.l (Ea seen)] [] (.bq [.s (lP B k t seen).1,.l (Ea (lP B k t seen).2)]) [] []:=by
 intro k;induction k using ady with
 |_ k ih=>
  intro t hx ht hk seen hz;have h1:=lE B ls hS lC hB k t hx ht hk;have Gp:=fL hx;have AY:=lA hS (k:=k) ht;have kQ:=mY lC (k:=k) hk;have ji:=jl hx;have wg:=fun c x y=>n0 (c:=c) (x:=x) (y:=y) hx
  rw[<-AD hx]at hz;rw[<-D2 hx];generalize hd B k t=u at*;obtain⟨k',rfl⟩:∃k',k=k'+1:=⟨k-1,by cases k<;>simp[ex]at hx⊢⟩;cases hu:u with
  |v m=>
   subst hu;have hb:=Gp m rfl;rw[show lP B (k'+1) (.v m) seen=([xV (kg m seen)],if m∈seen then seen else seen++[m]) by simp[lP,hb]];exact IN B ls t m seen (by omega) h1
  |b c=>
   subst hu;exact Gw B ls t c kQ _ h1
  |p c x y=>
   subst hu;obtain⟨j,hj,Je,Jf⟩:=wg c x y rfl;have Vb:ex B k' x=true/\ex B k' y=true:=by simpa[ex]using ji
   have e1:=fun s=>eY (seen:=s) Je (show j<=k' by omega)
   have e2:=fun s=>eY (seen:=s) Jf (show j<=k' by omega)
   have z1:=ep Je (show j<=k' by omega);have z2:=ep Jf (show j<=k' by omega);simp only[iU,z1,z2]at hz;simp only[lP,e1,e2];obtain⟨l1,l2,l3⟩:=oe (seen:=seen) Je;have p2:=sU (B:=B) (k:=j) (t:=y);have g1:=ih j hj x Je (qt AY x (by simp)) (na kQ x (by simp)) seen (by omega);have g2:=ih j hj y Jf (qt AY y (by simp)) (na kQ y (by simp)) (lP B j x seen).2 (by omega);obtain⟨l4,l5,l6⟩:=oe (seen:=(lP B j x seen).2) Jf;exact Gx B ls t c (by simp only[gj]at kQ;exact kQ.1) x y _ _ _ _ _ (by omega) (by omega) h1 g1 g2
theorem jJ {e:ao} (hv:a6 e=true):Ba (mapM aS e)/\kP 14 12 (mapM aS e)/\aT (mapM aS e)<=30/\(aH (mapM aS e)).length<=30:=by
 obtain⟨h1,h2⟩:=fh.1 hv;obtain⟨h3,_,h4⟩:=Ds h1 (.inr rfl);have h5:=h3.types.2;exact⟨Ba.of h1,h3,by omega,by omega⟩
theorem uE (e:ao) (h1:aT e<=30) (h2:(aH e).length<=30):gL [] [] [] [] (aT e+0) ((aH e).length+0):=
 ⟨wj,fun t h=>(by cases h),fun t h=>(by cases h),sS,by simp;omega,by simp;omega⟩
theorem AM {e:ao} (hv:a6 e=true):(∃k B ls t,Whole (mapM aS e) k B ls t/\rG [] [] (mapM aS e) [] [] (B,ls,t,true))\/((∃k,inf k (mapM aS e) [] [] [] []=some none)/\∃B ls t,rG [] [] (mapM aS e) [] [] (B,ls,t,false)):=by
 obtain⟨hb,_,hn,ht⟩:=jJ hv;rcases sV hb with⟨k,B,ls,t,hw⟩|⟨k,hk⟩
 ·obtain⟨x,hA,r,hr,ha⟩:=vE k hb [] [] [] [] 0 0 (fun t h=>(by cases h)) (by simp;omega) (uE _ hn ht) ⟨_,hw.inf⟩;rw[hw.inf]at hr;cases hr
  obtain⟨x1,x2,x3,x4⟩:=x;simp only[x6]at ha;obtain⟨rfl,rfl,rfl,rfl⟩:=ha;exact .inl ⟨k,_,_,_,hw,hA⟩
 ·obtain⟨x,hA,r,hr,ha⟩:=vE k hb [] [] [] [] 0 0 (fun t h=>(by cases h)) (by simp;omega) (uE _ hn ht) ⟨_,hk⟩;rw[hk]at hr;cases hr
  obtain⟨x1,x2,x3,x4⟩:=x;simp only[x6]at ha;subst ha;exact .inr ⟨⟨k,hk⟩,_,_,_,hA⟩
theorem vY (e:ao) (hn:fy e<=1073741824):ah adi 12 [c6 e] [] (.bq [.s ((AE e).getD []),.b (AE e).isSome]) [] []:=by
 have h1:=jT e (by omega);rw[AE];cases hv:a6 e with
 |false=>
  rw[hv]at h1;simp only[adA,if_false,adl,adk];refine ah.ob Tryz.func12 Tryz.ntmps12 rfl ?_;repeat' first|(refine ab (hK _ ?_);clear hK K)|((first|refine af ?_|refine aa rfl (h1) ?_);simp;(try(refine gen2 ?_ ?_<;>intro hq<;>try simp at hq)))|(refine T.ret (aD.bq (Or.inr rfl) ?_)<;>simp[aF,Tryz.results12]<;>omega)|refine T.r0 fun K hK=>?_|refine T.ct rfl ?_|refine T.seq ?_
 |true=>
  rw[hv]at h1;simp only[if_true];have h2:=Gc 14 e 12 (fh.1 hv).1 hn;rcases AM hv with⟨k,B,ls,t,hw,hA⟩|⟨⟨k,hk⟩,B,ls,t,hA⟩
  ·obtain⟨hi,Jg,Nc,fu,vN,vO,P2⟩:=hw.ok;obtain⟨hb,_,Mt,_⟩:=jJ hv;obtain⟨K,hK⟩:=hw.fuel;obtain⟨j,hj⟩:=jE hK hi.vv;have h3:=D9 B ls hi.ok.sc Jg (by omega) j t hj hi.vv fu 30 (by omega);rw[rG]at hA;dsimp only at hA;by_cases hz:iU B j t<=30
   ·have h4:=Ec B ls hi.ok.sc Jg (by omega) j t hj hi.vv fu [] (by simp;omega);rw[uB hw hj hz];simp only[Option.getD_some,Option.isSome_some];have hm:min (iU B j t) (30+1)=iU B j t:=by omega
    rw[hm]at h3;have hc:¬(30:Int)<iU B j t:=by omega
    simp only[Ea,List.map_nil]at h4;generalize lP B j t []=W at*;generalize iU B j t=Z at*;generalize mapM aS e=E at*;refine ah.ob Tryz.func12 Tryz.ntmps12 rfl ?_;repeat' first|(refine ab (hK _ ?_);clear hK K)|((first|refine af ?_|refine aa rfl (h1) ?_|refine aa rfl (h2) ?_|(refine aa ?_ (hA) ?_;(focus(solve|simp[hc])))|refine aa rfl (h3) ?_|(refine aa ?_ (h4) ?_;(focus(solve|simp[hc]))));simp[hc];(try(refine gen2 ?_ ?_<;>intro hq<;>try simp[hc]at hq)))|(refine T.ret (aD.bq (Or.inr rfl) ?_)<;>simp[aF,Tryz.results12]<;>omega)|refine T.r0 fun K hK=>?_|refine T.cf rfl ?_|refine T.seq ?_|refine T.skip ?_
   ·rw[rF hw hj hz];simp only[adl,adk];have hm:min (iU B j t) (30+1)=31:=by omega
    rw[hm]at h3;generalize mapM aS e=E at*;refine ah.ob Tryz.func12 Tryz.ntmps12 rfl ?_;repeat' first|(refine ab (hK _ ?_);clear hK K)|((first|refine af ?_|refine aa rfl (h1) ?_|refine aa rfl (h2) ?_|(refine aa ?_ (hA) ?_;(focus(solve|simp)))|refine aa rfl (h3) ?_);simp;(try(refine gen2 ?_ ?_<;>intro hq<;>try simp at hq)))|(refine T.ret (aD.bq (Or.inr rfl) ?_)<;>simp[aF,Tryz.results12]<;>omega)|refine T.r0 fun K hK=>?_|refine T.ct rfl ?_|refine T.cf rfl ?_|refine T.seq ?_|refine T.skip ?_
  ·rw[zL hk];simp only[adl,adk];rw[rG]at hA;dsimp only at hA;generalize mapM aS e=E at*;refine ah.ob Tryz.func12 Tryz.ntmps12 rfl ?_;repeat' first|(refine ab (hK _ ?_);clear hK K)|((first|refine af ?_|refine aa rfl (h1) ?_|refine aa rfl (h2) ?_|(refine aa ?_ (hA) ?_;(focus(solve|simp))));simp;(try(refine gen2 ?_ ?_<;>intro hq<;>try simp at hq)))|(refine T.ret (aD.bq (Or.inr rfl) ?_)<;>simp[aF,Tryz.results12]<;>omega)|refine T.r0 fun K hK=>?_|refine T.ct rfl ?_|refine T.cf rfl ?_|refine T.seq ?_|refine T.skip ?_
end Go.Proofs.YtloolmchekcmeaaGreat
