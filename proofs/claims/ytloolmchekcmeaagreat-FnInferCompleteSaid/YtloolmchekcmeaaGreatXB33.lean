/- A part. -/
import Derived.Test.YtloolmchekcmeaaGreatXB32
set_option linter.unusedVariables false
set_option linter.unusedSimpArgs false
open Option renaming isSome_none->adZ,getD_none->ad0,map_some->ad1,bind_none->ad2
open List renaming append_nil->ad3
namespace Go.Proofs.YtloolmchekcmeaaGreat
attribute [-simp] Go.Av.cj Go.Av.e0 Go.Av.fH Go.Av.fy Go.Av.cW Go.Av.cg
open Go Go.Av
attribute [local irreducible] T ah TX EX LX bB dn bW cx ie aG.kind aG.kids al.kind al.name al.num al.ty al.fr al.label al.kids
attribute [local simp] aL au
set_option maxHeartbeats 16000000
set_option maxRecDepth 8000
attribute [local simp] Option.bind
def zT (B:List IT) (K:Nat) (Ts:List aG) (l:List IT):Option (List aG):=(l4 B K l).map (Ts++·)
theorem Et {B:List IT} {K:Nat} {Ts:List aG} {t:IT} {l:List IT}:zT B K Ts (t::l)=match eU B K 4 t with
  |none=>none
  |some T=>zT B K (Ts++[T]) l:=by
 simp only[zT,l4];cases eU B K 4 t with
 |none=>rfl
 |some T=>cases l4 B K l<;>simp
theorem vR (e:al) (hn:e9 e<=1073741824):ah Tryz.prog 26 [cL e] [] (.a8 [cL ((jD e).getD (ee,aW)).1,dF ((jD e).getD (ee,aW)).2,.b (jD e).isSome]) [] []:=by
 have h1:=iF e (by omega);cases hv:aS e with
 |false=>
  rw[hv]at h1;simp only[jD,hv,Bool.false_eq_true,if_false,ad0,adZ];refine ah.ob Tryz.func26 Tryz.ntmps26 rfl ?_;repeat' first|(refine ab (hK _ ?_);clear hK K)|((first|refine ae ?_|refine aa rfl (h1) ?_);simp;(try(refine gen2 ?_ ?_<;>intro hq<;>try simp at hq)))|(refine T.ret (aB.a8 (Or.inr rfl) ?_)<;>simp[ay,Tryz.results26,ee,aW]<;>omega)|refine T.r0 fun K hK=>?_|refine T.ct rfl ?_|refine T.seq ?_
 |true=>
  rw[hv]at h1;have h2:=Gu 14 e 12 (eu.1 hv).1 hn;rcases A5 hv with⟨k,B,ls,t,hw,hA⟩|⟨⟨k,hk⟩,B,ls,t,hA⟩
  rotate_left
  ·rw[rN]at hA;dsimp only at hA;simp only[jD,hv,if_true,vu hk,ad2,ad0,adZ];refine ah.ob Tryz.func26 Tryz.ntmps26 rfl ?_;repeat' first|(refine ab (hK _ ?_);clear hK K)|((first|refine ae ?_|refine aa rfl (h1) ?_|refine aa rfl (h2) ?_|(refine aa ?_ (hA) ?_;(focus(solve|simp[au (mapM aK e)]))));simp[au (mapM aK e)];(try(refine gen2 ?_ ?_<;>intro hq<;>try simp[au (mapM aK e)]at hq)))|(refine T.ret (aB.a8 (Or.inr rfl) ?_)<;>simp[ay,Tryz.results26,ee,aW]<;>omega)|refine T.r0 fun K hK=>?_|refine T.ct rfl ?_|refine T.cf rfl ?_|refine T.seq ?_|refine T.skip ?_
  obtain⟨hi,Kq,Lh,fx,vV,vK,Sl⟩:=hw.ok;obtain⟨K,hK⟩:=hw.fuel;obtain⟨hb,jK,Li,Pr⟩:=lQ hv;simp only[jD,hv,if_true,pZ hw hK];obtain⟨R,hR⟩:∃R,R=l4 B K ls:=⟨_,rfl⟩;have Lj:∀Ts,R=some Ts->Ts.length=ls.length/\∀T∈Ts,ak 4 T=true:=fun Ts h=>by
   have:=nj hi.ok.sc Kq hK vK Lh (hR.symm.trans h);exact⟨by rw[this.1];simp,fun T hT=>(this.2 T hT).1⟩
  rw[<-hR];have kst:∀t∈ls,ah Tryz.prog 68 [hP B ls,jV t,.i 4] [] (.a8 (fN (eU B K 4 t))) [] []:=fun t ht=>
   A4 B ls hi.ok.sc Kq (by omega) K hK 4 t (by omega) (vK t ht) (Lh t ht)
  rw[rN]at hA;dsimp only at hA;have Sm:ls.length<=1000000:=by omega
  generalize So:mapM aK e=b at*;clear hi Kq Lh fx Sl hw;refine ah.ob Tryz.func26 Tryz.ntmps26 rfl ?_;repeat' first|(refine ab (hK _ ?_);clear hK K)|((first|refine ae ?_|refine aa rfl (h1) ?_|refine aa rfl (h2) ?_|(refine aa ?_ (hA) ?_;(focus(solve|simp[au b]))));simp[au b];(try(refine gen2 ?_ ?_<;>intro hq<;>try simp[au b]at hq)))|refine T.rs (id:=7) (fun i=>i==0) fun K hK=>?_|refine T.rs (id:=0) (fun _=>false) fun K hK=>?_|refine T.rs (id:=1) (fun _=>false) fun K hK=>?_|refine T.rs (id:=3) (fun _=>false) fun K hK=>?_|refine T.rs (id:=4) (fun _=>false) fun K hK=>?_|refine T.rs (id:=5) (fun _=>false) fun K hK=>?_|refine T.rs (id:=8) (fun _=>false) fun K hK=>?_|refine T.cf rfl ?_|refine T.seq ?_|refine T.block ?_|refine T.skip ?_
  refine T.dU (α:=Nat×List aG×List (List CV)) [2,3,5,6] (fun x=>[(4,.b false),(9,.c (.own 0 x.1)),(10,.i x.1)]) (fun _=>[]) (fun x=>x.2.2) (fun x _=>[{sz:=2,eA:=25,rows:=x.2.1.map cx,wr:=true}]) (fun x=>ls.length+1-x.1) (fun x=>x.1<=ls.length/\x.2.1.length=x.1/\zT B K x.2.1 (ls.drop x.1)=R) (by simp;rfl) (fun x hx=>?_) (0,[],[]) ⟨by simp,rfl,by simp[zT,hR]⟩ (by simp) (by simp) (by simp);obtain⟨j,Ts,Gb⟩:=x;obtain⟨hj,Fl,dY⟩:=hx;dsimp only at hj Fl dY⊢;simp only[iy,List.set_cons_zero,List.set_cons_succ,List.cons_append,List.nil_append,ad3];by_cases ax:j<ls.length
  ·obtain⟨w,ht⟩:=bR ax;have eQ:w∈ls:=List.mem_of_getElem? ht;have bf:ls[j]=w:=by rw[List.getElem?_eq_getElem ax]at ht;exact Option.some.inj ht
   have gP:ls.drop j=w::ls.drop (j+1):=by rw[List.drop_eq_getElem_cons ax,bf]
   have hs:=kst w eQ;rw[gP,Et]at dY;cases hT:eU B K 4 w with
   |none=>
    rw[hT]at dY hs;simp only at dY;subst dY;simp only[fN,ad2,ad0,adZ]at hs⊢;clear Lj h1 h2 hA kst;repeat' first|((first|refine ab (hK _ ?_)|refine bc (hK _ ?_));clear hK K)|((first|refine ae ?_|refine bw ?_|(refine aa ?_ (hs) ?_;(focus(solve|simp[ax,bf,an w]))));simp[ax,bf,an w];(try simp(disch:=omega)only[wrap64]);(try(refine gen2 ?_ ?_<;>intro hq<;>try simp[ax,bf,an w]at hq)))|(refine T.ret (aB.a8 (Or.inr rfl) ?_)<;>simp[ay,Tryz.results26,ee,aW]<;>omega)|refine T.mK (id:=11) mixed (fun _=>false) [10,11] [0,2,4,5,6] 11 [] (by kernel_rfl) fun K hK=>?_|(refine⟨?_,?_⟩;(focus(intros;refine aa ?_ (hs) ?_;(focus(solve|simp[ax,bf,an w]));simp;done)))|refine T.r0 fun K hK=>?_|refine T.ct rfl ?_|refine T.seq ?_|refine T.block ?_|refine T.skip ?_
   |some T0=>
    rw[hT]at dY hs;simp only at dY;simp only[fN]at hs;clear Lj h1 h2 hA kst;repeat' first|((first|refine ab (hK _ ?_)|refine bc (hK _ ?_));clear hK K)|((first|refine ae ?_|refine bw ?_|(refine aa ?_ (hs) ?_;(focus(solve|simp[ax,bf,an w,aL T0,Fl]))));simp[ax,bf,an w,aL T0,Fl];(try simp(disch:=omega)only[wrap64]);(try(refine gen2 ?_ ?_<;>intro hq<;>try simp[ax,bf,an w,aL T0,Fl]at hq)))|(refine⟨by omega,by omega,?_⟩)|(refine⟨(j+1,Ts++[T0],_),by dsimp only;omega,⟨by omega,by simp[Fl],dY⟩,rfl,?_,?_⟩<;>simp(disch:=omega) [wrap64,aL T0])|refine T.mK (id:=11) mixed (fun _=>false) [10,11] [0,2,4,5,6] 11 [] (by kernel_rfl) fun K hK=>?_|(refine⟨?_,?_⟩;(focus(intros;refine aa ?_ (hs) ?_;(focus(solve|simp[ax,bf,an w,aL T0,Fl]));simp;done)))|refine T.r0 fun K hK=>?_|refine T.r1 fun K hK=>?_|refine T.ct rfl ?_|refine T.cf rfl ?_|refine T.seq ?_|refine T.block ?_|refine T.skip ?_
  ·have jA:j=ls.length:=by omega
   subst jA;rw[List.drop_length]at dY;simp only[zT,l4,ad1,ad3]at dY;obtain⟨ES,oV⟩:=Lj Ts dY.symm;subst dY;simp only[Option.bind_some];have PZ:jF 14 12 b:=So▸jK;have Ps:aS b=true:=eu.2 ⟨jK,by omega⟩;have TS:oe b Ts=some (bx b Ts):=by
    rw[oe,if_pos];simp only[Bool.and_eq_true,decide_eq_true_eq,List.all_eq_true];exact⟨⟨Ps,by rw[ES,vV]⟩,fun T hT=>oV T hT⟩
   have kw:=yN b Ts (by have:=PZ.small;subst So;omega) (fun T hT=>by have:=dp (oV T hT);omega) (by omega);rw[TS]at kw;have iw:e9 (bx b Ts)<=1073741824:=by
    obtain⟨q1,q2⟩:=PZ.bx (ts:=Ts) oV;have:=q1.small;subst So;omega
   have kt:=xh (bx b Ts) (by omega);have IX:bV [] (bx b Ts)=if aS (bx b Ts)=true then bO [] (bx b Ts)else none:=by simp[bV,rl]
   rw[<-IX];clear IX iw oV Lj kst vK TS Ps PZ;generalize bx b Ts=out at*;generalize bV [] out=X at*;simp only[zo]at kw;cases X with
   |none=>
    simp only[fN,Option.map_none,ad0,adZ]at kt⊢;repeat' first|(refine ab (hK _ ?_);clear hK K)|((first|refine ae ?_|(refine aa ?_ (kw) ?_;(focus(solve|simp[ax,Fl,au b,au out])))|refine aa rfl (kt) ?_);simp[ax,Fl,au b,au out];(try(refine gen2 ?_ ?_<;>intro hq<;>try simp[ax,Fl,au b,au out]at hq)))|(refine T.ret (aB.a8 (Or.inr rfl) ?_)<;>simp[ay,Tryz.results26,ee,aW]<;>omega)|refine T.r0 fun K hK=>?_|refine T.ct rfl ?_|refine T.cf rfl ?_|refine T.seq ?_|refine T.exit ?_
   |some T0=>
    simp only[fN,ad1,Option.getD_some,Option.isSome_some]at kt⊢;repeat' first|((first|refine ab (hK _ ?_)|refine bc (hK _ ?_));clear hK K)|((first|refine ae ?_|refine bw ?_|(refine aa ?_ (kw) ?_;(focus(solve|simp[ax,Fl,au b,au out,aL T0])))|refine aa rfl (kt) ?_);simp[ax,Fl,au b,au out,aL T0];(try(refine gen2 ?_ ?_<;>intro hq<;>try simp[ax,Fl,au b,au out,aL T0]at hq)))|(refine T.ret (aB.a8 (Or.inr rfl) ?_)<;>simp[ay,Tryz.results26,au out,aL T0]<;>omega)|refine T.mK (id:=19) mixed (fun _=>false) [2,3] [1] 3 [1] (by kernel_rfl) fun K hK=>?_|refine T.r0 fun K hK=>?_|refine T.cf rfl ?_|refine T.seq ?_|refine T.skip ?_|refine T.exit ?_
end Go.Proofs.YtloolmchekcmeaaGreat
