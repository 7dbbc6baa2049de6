/- A part. -/
import Derived.Test.YtloolmchekcmeaaGreatXD5
set_option linter.unusedVariables false
set_option linter.unusedSimpArgs false
open Go.Proofs.Tryz renaming prog->Z6
open List renaming getElem?_eq_getElem->Z7,mem_of_getElem?->Z8,drop_eq_getElem_cons->Z9,mem_append->aaa,all_cons->aab
open Option renaming isSome_some->aac,isSome_none->aad
open Bool renaming and_eq_true->aae
namespace Go.Proofs.YtloolmchekcmeaaGreat
attribute [-simp] Go.Av.iw Go.Av.gI Go.Av.cZ Go.Av.j5 Go.Av.df Go.Av.bX Go.Av.back Go.Av.gW Go.Av.one Go.Av.c9 Go.Av.xO Go.Av.ef Go.Av.AV.dw Go.Av.CV.dw Go.Av.fR Go.Av.AV.cJ Go.Av.CV.cJ Go.Av.bP Go.Av.eu Go.Av.eN Go.Av.eG Go.Av.b8 Go.Av.bN
open Go Go.Av
attribute [local irreducible] T ah b5 eK aF.kind aF.kids ak.kind ak.name ak.num ak.ty ak.fr ak.label ak.kids
attribute [local simp] aN au
set_option maxHeartbeats 4000000
@[simp] theorem Hs:td Z6 139=some {ag:=false,sz:=1,kI:=24,zero:=some [.nil],el:=some 146,ar:=none,fl:=[],ik:=none,cy:=false,l6:=false}:=dq (by kernel_rfl)
@[simp] theorem Pt:td Z6 146=some {ag:=true,sz:=3,kI:=48,zero:=some [.d (.str []),.d (.int .i64 0),.nil],el:=none,ar:=none,fl:=[(0,1),(1,2)],ik:=none,cy:=false,l6:=false}:=dq (by kernel_rfl)
theorem Fp (ctx:List dI) (s:List UInt8) (hl:ctx.length<=1099511627776) (hn:∀b∈ctx,dF b.ty<=1099511627776):
  ah Z6 121 [.l (ctx.map lJ),.s s] [] (.aZ (match dO ctx s with|some t=>[ec t,.b true]|none=>[ec aX,.b false])) [] []:=by
 have Ht:∀p,p<ctx.length->dO (ctx.take (p+1)) s=if(ctx[p]?.map dI.name)=some s then ctx[p]?.map dI.ty else dO (ctx.take p) s:=by
  have GB:∀(l:List dI) (b:dI),dO (l++[b]) s=if b.name=s then some b.ty else dO l s:=by
   intro l;induction l with
   |nil=>intro b;simp[dO]
   |cons x r ih=>
    intro b;simp only[List.cons_append,dO,ih b];by_cases hb:b.name=s
    ·simp[hb]
    ·simp[hb]
  intro p hp;rw[List.take_add_one,Z7 hp];simp only[Option.toList_some,GB,Option.map_some,Option.some.injEq]
 refine ah.ob Tryz.func121 Tryz.ntmps121 rfl ?_;repeat' first|(refine ab (hK _ ?_);clear hK K)|(refine ae ?_;simp;(try simp(disch:=omega)only[wrap64]);(try(refine gen2 ?_ ?_<;>intro hq<;>try simp at hq)))|refine T.r0 fun K hK=>?_|refine T.seq ?_|refine T.block ?_
 obtain⟨R,hR⟩:∃R,dO ctx s=R:=⟨_,rfl⟩;rw[hR];refine T.fJ (fun p:Nat=>⟨[(0,.l (ctx.map lJ)),(1,.s s),(4,.c (.ptr 0 0)),(6,.i ((p:Int)-1))],[[.d (.i 0),.nil]],[]⟩) (fun p=>p) (fun p=>p<=ctx.length/\dO (ctx.take p) s=R) (fun p hp=>?_) ctx.length (by simpa using hR) (by simp);obtain⟨hi,he⟩:=hp;cases p with
 |zero=>
  simp[dO]at he;subst he;repeat' first|(refine ab (hK _ ?_);clear hK K)|(refine ae ?_;simp;(try(refine gen2 ?_ ?_<;>intro hq<;>try simp at hq)))|(refine T.ret (az.aZ (Or.inr rfl) ?_)<;>simp[aE,Tryz.results121]<;>omega)|refine T.r0 fun K hK=>?_|refine T.cf rfl ?_|refine T.seq ?_|refine T.exit ?_
 |succ p=>
  rw[Ht p (by omega)]at he;have ax:p<ctx.length:=by omega
  obtain⟨b,ht⟩:=bz ax;have eJ:b∈ctx:=Z8 ht;have bg:ctx[p]=b:=by rw[Z7 ax]at ht;exact Option.some.inj ht
  have oE:(0:Int)<=(p:Int)+1-1:=by omega
  have Hu:((p:Int)+1-1)=p:=by omega
  have Ux:=cM b.ty (hn b eJ);rw[ht]at he;by_cases hb:b.name=s
  ·simp[hb]at he;subst he;repeat' first|(refine ab (hK _ ?_);clear hK K)|((first|refine ae ?_|refine aa rfl (Ux) ?_);simp[ax,bg,oE,Hu,hb,lJ];(try simp(disch:=omega)only[wrap64]);(try(refine gen2 ?_ ?_<;>intro hq<;>try simp[ax,bg,oE,Hu,hb,lJ]at hq)))|(refine T.ret (az.aZ (Or.inr rfl) ?_)<;>simp[aE,Tryz.results121]<;>omega)|refine T.r0 fun K hK=>?_|refine T.ct rfl ?_|refine T.seq ?_|refine T.block ?_|refine T.skip ?_
  ·simp[hb]at he;repeat' first|(refine ab (hK _ ?_);clear hK K)|(refine ae ?_;simp[ax,bg,oE,Hu,hb,lJ];(try simp(disch:=omega)only[wrap64]);(try(refine gen2 ?_ ?_<;>intro hq<;>try simp[ax,bg,oE,Hu,hb,lJ]at hq)))|(refine⟨p,by dsimp only;omega,⟨by omega,he⟩,rfl,rfl,?_⟩;simp(disch:=omega) [wrap64])|refine T.r0 fun K hK=>?_|refine T.r1 fun K hK=>?_|refine T.ct rfl ?_|refine T.cf rfl ?_|refine T.seq ?_|refine T.block ?_|refine T.skip ?_
theorem Fq (ctx:List dI) (s:List UInt8) (t:aF) (hl:ctx.length<=1099511627776):
  ah Z6 147 [.l (ctx.map lJ),.s s,ec t] [] (.l ((ctx++[dI.mk s t]).map lJ)) [] []:=by
 refine ah.ob Tryz.func147 Tryz.ntmps147 rfl ?_;repeat' first|((first|refine ab (hK _ ?_)|refine bm (hK _ ?_));clear hK K)|((first|refine ae ?_|refine bF ?_);simp[lJ];(try(refine gen2 ?_ ?_<;>intro hq<;>try simp[lJ]at hq)))|(refine⟨by omega,by omega,?_⟩)|(refine T.ret (az.val (Or.inr rfl) ?_)<;>simp[aE,Tryz.results147,lJ]<;>omega)|refine T.pN (id:=1) mixed (fun i=>i==0) [0,2,7] [4,5,6] 3 [] (by kernel_rfl) fun K hK=>?_|refine T.rs (id:=0) (fun _=>false) fun K hK=>?_
theorem zQ (ctx:List dI) (hl:ctx.length<=1099511627776) (hn:∀b∈ctx,dF b.ty<=1099511627776):ah Z6 144 [.l (ctx.map lJ)] [] (.b (uZ ctx)) [] []:=by
 simp only[uZ];obtain⟨R,hR⟩:∃R,ctx.all (fun b=>dG b.name && al 4 b.ty)=R:=⟨_,rfl⟩;rw[hR];refine ah.ob Tryz.func144 Tryz.ntmps144 rfl ?_;repeat' first|(refine ab (hK _ ?_);clear hK K)|(refine ae ?_;simp;(try(refine gen2 ?_ ?_<;>intro hq<;>try simp at hq)))|refine T.r0 fun K hK=>?_|refine T.seq ?_|refine T.block ?_
 refine T.fJ (fun p:Nat=>⟨[(0,.l (ctx.map lJ)),(3,.i p)],[],[]⟩) (fun p=>ctx.length+1-p) (fun p=>p<=ctx.length/\(ctx.drop p).all (fun b=>dG b.name && al 4 b.ty)=R) (fun p hp=>?_) 0 (by simpa using hR) (by simp);obtain⟨hi,he⟩:=hp;by_cases ax:p<ctx.length
 ·obtain⟨b,ht⟩:=bz ax;have eJ:b∈ctx:=Z8 ht;have bg:ctx[p]=b:=by rw[Z7 ax]at ht;exact Option.some.inj ht
  have iY:ctx.drop p=b::ctx.drop (p+1):=by rw[Z9 ax,bg]
  have h1:=yH b.name;have h2:=jz b.ty (hn b eJ);rw[iY,aab]at he;cases vA:dG b.name<;>rw[vA]at h1 he
  ·repeat' first|(refine ab (hK _ ?_);clear hK K)|((first|refine ae ?_|refine aa rfl (h1) ?_);simp[ax,bg,lJ];(try simp(disch:=omega)only[wrap64]);(try(refine gen2 ?_ ?_<;>intro hq<;>try simp[ax,bg,lJ]at hq)))|(refine T.ret (az.data (Or.inr rfl) ?_ ?_)<;>simp[Tryz.results144,<-he]<;>omega)|refine T.r0 fun K hK=>?_|refine T.ct rfl ?_|refine T.seq ?_|refine T.block ?_|refine T.skip ?_
  ·cases LA:al 4 b.ty<;>rw[LA]at h2 he
   ·repeat' first|(refine ab (hK _ ?_);clear hK K)|((first|refine ae ?_|refine aa rfl (h1) ?_|refine aa rfl (h2) ?_);simp[ax,bg,lJ];(try simp(disch:=omega)only[wrap64]);(try(refine gen2 ?_ ?_<;>intro hq<;>try simp[ax,bg,lJ]at hq)))|(refine T.ret (az.data (Or.inr rfl) ?_ ?_)<;>simp[Tryz.results144,<-he]<;>omega)|refine T.r0 fun K hK=>?_|refine T.ct rfl ?_|refine T.seq ?_|refine T.block ?_|refine T.skip ?_
   ·repeat' first|(refine ab (hK _ ?_);clear hK K)|((first|refine ae ?_|refine aa rfl (h1) ?_|refine aa rfl (h2) ?_);simp[ax,bg,lJ];(try simp(disch:=omega)only[wrap64]);(try(refine gen2 ?_ ?_<;>intro hq<;>try simp[ax,bg,lJ]at hq)))|(refine⟨p+1,by dsimp only;omega,⟨by omega,by simpa using he⟩,rfl,rfl,?_⟩;simp(disch:=omega) [wrap64])|refine T.r0 fun K hK=>?_|refine T.r1 fun K hK=>?_|refine T.ct rfl ?_|refine T.cf rfl ?_|refine T.seq ?_|refine T.block ?_|refine T.skip ?_
 ·have eb:p=ctx.length:=by omega
  subst eb;simp at he;subst he;repeat' first|(refine ab (hK _ ?_);clear hK K)|(refine ae ?_;simp[ax];(try(refine gen2 ?_ ?_<;>intro hq<;>try simp[ax]at hq)))|(refine T.ret (az.data (Or.inr rfl) ?_ ?_)<;>simp[Tryz.results144, *]<;>omega)|refine T.r0 fun K hK=>?_|refine T.cf rfl ?_|refine T.seq ?_|refine T.exit ?_
theorem ji:∀(d:Nat) (t:aF),al d t=true->dF t+2<=2 ^ d
 |0,t,h=>by simp[al]at h
 |d+1,t,h=>by
  obtain⟨e,he,_,hl,hs⟩:=iS h;obtain rfl:d=e:=by omega
  rw[ed];have hp:1<=2 ^ d:=Nat.one_le_two_pow;have Uy:2 ^(d+1)=2*2 ^ d:=by rw[Nat.pow_succ];omega
  match hk:t.kids,hl with
  |[],_=>simp[aL];omega
  |[a],_=>have:=ji d a (hs a (by simp[hk]));simp[aL];omega
  |[a,b],_=>
   have h1:=ji d a (hs a (by simp[hk]));have h2:=ji d b (hs b (by simp[hk]));simp[aL];omega
theorem dZ {t:aF} (h:al 4 t=true):dF t<=14:=by have:=ji 4 t h;omega
theorem kN {k:Int} {t:aF} (hk:k=4\/k=5) (h:al 4 t=true):t.kind=k->2<=t.kids.length:=by
 intro he;obtain⟨_,_,hl,_,_⟩:=iS h;rw[he]at hl;rcases hk with rfl|rfl<;>simp[e7]at hl<;>omega
theorem wR:∀(d:Nat) (e:ak),d<=1000->fa e<=1099511627776->ah Z6 96 [cE e,.i d] [] (.b (a8 14 d e)) [] []
 |0,e,_,_=>by
  refine ah.ob Tryz.func96 Tryz.ntmps96 rfl ?_;repeat' first|((first|refine ab (hK _ ?_)|refine aB (hK _ ?_));clear hK K)|((first|refine ae ?_|refine aG ?_);simp;(try(refine gen2 ?_ ?_<;>intro hq<;>try simp at hq)))|(refine T.ret (az.data (Or.inr rfl) ?_ ?_)<;>simp[Tryz.results96,a8]<;>omega)|refine T.rd (id:=1) mixed (fun _=>false) [] (by kernel_rfl) fun K hK=>?_|refine T.r0 fun K hK=>?_|refine T.ct rfl ?_|refine T.seq ?_
 |d+1,e,hd,hn=>by
  obtain⟨kJ,qD,CR,uw⟩:=cU hn;have iv:=Fa e.kind;have gE:¬((d:Int)+1<1):=by omega
  have kX:a8 14 (d+1) e=(decide (e.kind≠14)&&(decide (cL e.kind=e.kids.length)&& fe e)&& e.kids.all (a8 14 d)):=rfl;by_cases yk:e.kind=14
  ·rw[yk]at iv;rw[show a8 14 (d+1) e=false by rw[kX];simp[yk]];refine ah.ob Tryz.func96 Tryz.ntmps96 rfl ?_;repeat' first|((first|refine ab (hK _ ?_)|refine aB (hK _ ?_));clear hK K)|((first|refine ae ?_|refine aG ?_|refine aa rfl (iv) ?_);simp[gE,yk];(try(refine gen2 ?_ ?_<;>intro hq<;>try simp[gE,yk]at hq)))|(refine T.ret (az.data (Or.inr rfl) ?_ ?_)<;>simp[Tryz.results96]<;>omega)|refine T.rd (id:=1) mixed (fun _=>false) [] (by kernel_rfl) fun K hK=>?_|refine T.r0 fun K hK=>?_|refine T.ct rfl ?_|refine T.seq ?_
  by_cases hlen:cL e.kind=e.kids.length
  rotate_left
  ·rw[show a8 14 (d+1) e=false by rw[kX];simp[hlen]];refine ah.ob Tryz.func96 Tryz.ntmps96 rfl ?_;repeat' first|((first|refine ab (hK _ ?_)|refine aB (hK _ ?_));clear hK K)|((first|refine ae ?_|refine aG ?_|refine aa rfl (iv) ?_);simp[gE,hlen];(try(refine gen2 ?_ ?_<;>intro hq<;>try simp[gE,hlen]at hq)))|(refine T.ret (az.data (Or.inr rfl) ?_ ?_)<;>simp[Tryz.results96]<;>omega)|refine T.rd (id:=1) mixed (fun _=>false) [] (by kernel_rfl) fun K hK=>?_|refine T.r0 fun K hK=>?_|refine T.ct rfl ?_|refine T.seq ?_
  rw[hlen]at iv;have N4:a8 14 (d+1) e=(fe e && e.kids.all (a8 14 d)):=by rw[kX];simp[yk,hlen]
  have c7:=Hi e yk kJ;obtain⟨R,hR⟩:∃R,e.kids.all (a8 14 d)=R:=⟨_,rfl⟩;rw[N4,hR];generalize fe e=O at c7;clear kX N4;cases O
  ·refine ah.ob Tryz.func96 Tryz.ntmps96 rfl ?_;repeat' first|((first|refine ab (hK _ ?_)|refine aB (hK _ ?_));clear hK K)|((first|refine ae ?_|refine aG ?_|refine aa rfl (iv) ?_|refine aa rfl (c7) ?_);simp[gE,yk];(try(refine gen2 ?_ ?_<;>intro hq<;>try simp[gE,yk]at hq)))|(refine T.ret (az.data (Or.inr rfl) ?_ ?_)<;>simp[Tryz.results96]<;>omega)|refine T.rd (id:=1) mixed (fun _=>false) [] (by kernel_rfl) fun K hK=>?_|refine T.r0 fun K hK=>?_|refine T.ct rfl ?_|refine T.seq ?_
  refine ah.ob Tryz.func96 Tryz.ntmps96 rfl ?_;repeat' first|((first|refine ab (hK _ ?_)|refine aB (hK _ ?_));clear hK K)|((first|refine ae ?_|refine aG ?_|refine aa rfl (iv) ?_|refine aa rfl (c7) ?_);simp[gE,yk];(try(refine gen2 ?_ ?_<;>intro hq<;>try simp[gE,yk]at hq)))|refine T.rd (id:=1) mixed (fun _=>false) [] (by kernel_rfl) fun K hK=>?_|refine T.r0 fun K hK=>?_|refine T.cf rfl ?_|refine T.seq ?_|refine T.block ?_|refine T.skip ?_
  rw[Bool.true_and];refine T.fJ (fun p:Nat=>⟨[(1,.i (d+1)),(2,.c (.ptr 0 0)),(5,.i p)],[(cE e).cells],[]⟩) (fun p=>e.kids.length+1-p) (fun p=>p<=e.kids.length/\(e.kids.drop p).all (a8 14 d)=R) (fun p hp=>?_) 0 (by simpa using hR) (by simp);obtain⟨hi,he⟩:=hp;by_cases ax:p<e.kids.length
  ·obtain⟨u,ht⟩:=bz ax;have eJ:u∈e.kids:=Z8 ht;have bg:e.kids[p]=u:=by rw[Z7 ax]at ht;exact Option.some.inj ht
   have iY:e.kids.drop p=u::e.kids.drop (p+1):=by rw[Z9 ax,bg]
   have hu:=wR d u (by omega) (uw u eJ);rw[iY,aab]at he;cases hb:a8 14 d u<;>rw[hb]at hu he
   ·repeat' first|(refine ab (hK _ ?_);clear hK K)|((first|refine ae ?_|refine aa rfl (hu) ?_);simp[ax,bg];(try simp(disch:=omega)only[wrap64]);(try(refine gen2 ?_ ?_<;>intro hq<;>try simp[ax,bg]at hq)))|(refine T.ret (az.data (Or.inr rfl) ?_ ?_)<;>simp[Tryz.results96,<-he]<;>omega)|refine T.r0 fun K hK=>?_|refine T.ct rfl ?_|refine T.seq ?_|refine T.block ?_|refine T.skip ?_
   ·repeat' first|(refine ab (hK _ ?_);clear hK K)|((first|refine ae ?_|refine aa rfl (hu) ?_);simp[ax,bg];(try simp(disch:=omega)only[wrap64]);(try(refine gen2 ?_ ?_<;>intro hq<;>try simp[ax,bg]at hq)))|(refine⟨p+1,by dsimp only;omega,⟨by omega,by simpa using he⟩,rfl,rfl,?_⟩;simp(disch:=omega) [wrap64])|refine T.r0 fun K hK=>?_|refine T.r1 fun K hK=>?_|refine T.ct rfl ?_|refine T.cf rfl ?_|refine T.seq ?_|refine T.block ?_|refine T.skip ?_
  ·have eb:p=e.kids.length:=by omega
   subst eb;simp at he;repeat' first|(refine ab (hK _ ?_);clear hK K)|(refine ae ?_;simp[ax];(try(refine gen2 ?_ ?_<;>intro hq<;>try simp[ax]at hq)))|(refine T.ret (az.data (Or.inr rfl) ?_ ?_)<;>simp[Tryz.results96,he]<;>omega)|refine T.r0 fun K hK=>?_|refine T.cf rfl ?_|refine T.seq ?_|refine T.exit ?_
theorem jB (e:ak) (hn:fa e<=1099511627776):ah Z6 41 [cE e] [] (.b (aV e)) [] []:=by
 have h1:=wR 12 e (by omega) hn;have h2:=wB 12 e (by omega) hn;rw[show aV e=(a8 14 12 e && decide (cC 12 e<=30))from rfl];generalize a8 14 12 e=a at*;generalize cC 12 e=b at*;refine ah.ob Tryz.func41 Tryz.ntmps41 rfl ?_;repeat' first|(refine ab (hK _ ?_);clear hK K)|((first|refine ae ?_|refine aa rfl (h1) ?_|refine aa rfl (h2) ?_);simp;(try(refine gen2 ?_ ?_<;>intro hq<;>try simp at hq)))|(refine T.ret (az.data (Or.inr rfl) ?_ ?_)<;>simp[Tryz.results41, *]<;>omega)|refine T.r0 fun K hK=>?_
def Js (e:ak) (ts:List aF) (r:Option aF):Prop:=∃t',(∀t,r=some t->t'=t)/\ah Z6 165 [cE e,.l (ts.map b5)] [] (.aZ [ec t',.b r.isSome]) [] []
theorem Q3 (e:ak) (a b:aF) (hk:e.kind=6) (ha:al 4 a=true) (hb:al 4 b=true):
  Js e [a,b] (match cQ 4 a with|some (x,y)=>if aD b x=true then some y else none|none=>none):=by
 have hm:=qY 4 a (by have:=dZ ha;omega) (kN (.inl rfl) ha);cases hr:cQ 4 a with
 |none=>
  rw[hr]at hm;refine⟨aX,by simp,?_⟩;refine ah.ob Tryz.func165 Tryz.ntmps165 rfl ?_;repeat' first|((first|refine ab (hK _ ?_)|refine aB (hK _ ?_));clear hK K)|((first|refine ae ?_|refine aG ?_|refine aa rfl (hm) ?_);simp[hk];(try(refine gen2 ?_ ?_<;>intro hq<;>try simp[hk]at hq)))|(refine T.ret (az.aZ (Or.inr rfl) ?_)<;>simp[aE,Tryz.results165]<;>omega)|refine T.rd (id:=4) mixed (fun _=>false) [9] (by kernel_rfl) fun K hK=>?_|refine T.r0 fun K hK=>?_|refine T.ct rfl ?_|refine T.seq ?_|refine T.block ?_
 |some p=>
  obtain⟨x,y⟩:=p;rw[hr]at hm;obtain⟨hx,hy⟩:=eA hr ha;have hc:=c3 4 b x (by omega) hb hx;refine⟨y,?_,?_⟩
  ·intro t h;dsimp only at h;split at h<;>simp at h;exact h
  dsimp only at hm⊢;rw[show(if aD b x=true then some y else none).isSome=aD b x by cases aD b x<;>rfl];generalize aD b x=c at hc;refine ah.ob Tryz.func165 Tryz.ntmps165 rfl ?_;repeat' first|((first|refine ab (hK _ ?_)|refine aB (hK _ ?_));clear hK K)|((first|refine ae ?_|refine aG ?_|refine aa rfl (hm) ?_|refine aa rfl (hc) ?_);simp[hk];(try(refine gen2 ?_ ?_<;>intro hq<;>try simp[hk]at hq)))|(refine T.ret (az.aZ (Or.inr rfl) ?_)<;>simp[aE,Tryz.results165, *]<;>omega)|refine T.rd (id:=4) mixed (fun _=>false) [9] (by kernel_rfl) fun K hK=>?_|refine T.r0 fun K hK=>?_|refine T.ct rfl ?_|refine T.seq ?_|refine T.block ?_
theorem Q4 (e:ak) (a b:aF) (hk:e.kind=7) (ha:al 4 a=true) (hb:al 4 b=true):
  Js e [a,b] (if aD a bp=true/\aD b bp=true then some bp else none):=by
 have hi:al 4 bp=true:=by simp[al,e7]
 have h1:=c3 4 a bp (by omega) ha hi;have h2:=c3 4 b bp (by omega) hb hi;have h3:=rZ;have h4:=pQ;refine⟨bp,?_,?_⟩
 ·intro t h;split at h<;>simp at h;exact h
 rw[show(if aD a bp=true/\aD b bp=true then some bp else none).isSome=(aD a bp && aD b bp) by cases aD a bp<;>cases aD b bp<;>rfl];generalize aD a bp=c1 at h1⊢;generalize aD b bp=c2 at h2⊢;refine ah.ob Tryz.func165 Tryz.ntmps165 rfl ?_;repeat' first|((first|refine ab (hK _ ?_)|refine aB (hK _ ?_));clear hK K)|((first|refine ae ?_|refine aG ?_|refine aa rfl (h3) ?_|(refine aa ?_ (h1) ?_;(focus(solve|simp[hk])))|(refine aa ?_ (h2) ?_;(focus(solve|simp[hk]))));simp[hk];(try(refine gen2 ?_ ?_<;>intro hq<;>try simp[hk]at hq)))|(refine T.ret (az.aZ (Or.inr rfl) ?_)<;>simp[aE,Tryz.results165, *]<;>omega)|refine T.rd (id:=6) mixed (fun _=>false) [13] (by kernel_rfl) fun K hK=>?_|refine T.r0 fun K hK=>?_|refine T.ct rfl ?_|refine T.cf rfl ?_|refine T.seq ?_|refine T.block ?_
theorem Q5 (e:ak) (a b:aF) (hk:e.kind=8) (ha:al 4 a=true) (hb:al 4 b=true):
  Js e [a,b] (if aD a bp=true/\aD b bp=true then some cx else none):=by
 have hi:al 4 bp=true:=by simp[al,e7]
 have h1:=c3 4 a bp (by omega) ha hi;have h2:=c3 4 b bp (by omega) hb hi;have h3:=rZ;have h4:=pQ;refine⟨cx,?_,?_⟩
 ·intro t h;split at h<;>simp at h;exact h
 rw[show(if aD a bp=true/\aD b bp=true then some cx else none).isSome=(aD a bp && aD b bp) by cases aD a bp<;>cases aD b bp<;>rfl];generalize aD a bp=c1 at h1⊢;generalize aD b bp=c2 at h2⊢;refine ah.ob Tryz.func165 Tryz.ntmps165 rfl ?_;repeat' first|((first|refine ab (hK _ ?_)|refine aB (hK _ ?_));clear hK K)|((first|refine ae ?_|refine aG ?_|refine aa rfl (h3) ?_|refine aa rfl (h4) ?_|(refine aa ?_ (h1) ?_;(focus(solve|simp[hk])))|(refine aa ?_ (h2) ?_;(focus(solve|simp[hk]))));simp[hk];(try(refine gen2 ?_ ?_<;>intro hq<;>try simp[hk]at hq)))|(refine T.ret (az.aZ (Or.inr rfl) ?_)<;>simp[aE,Tryz.results165, *]<;>omega)|refine T.rd (id:=8) mixed (fun _=>false) [13] (by kernel_rfl) fun K hK=>?_|refine T.r0 fun K hK=>?_|refine T.ct rfl ?_|refine T.cf rfl ?_|refine T.seq ?_|refine T.block ?_
theorem Q6 (e:ak) (a b c:aF) (hk:e.kind=9) (ha:al 4 a=true) (hb:al 4 b=true) (hc:al 4 c=true):
  Js e [a,b,c] (if aD b c=true/\aD a cx=true then some (bC b c)else none):=by
 have hi:al 4 cx=true:=by simp[al,e7]
 have h1:=c3 4 b c (by omega) hb hc;have h2:=c3 4 a cx (by omega) ha hi;have h4:=pQ;by_cases Pu:aD b c=true
 rotate_left
 ·have LB:aD b c=false:=by simpa using Pu
  rw[LB]at h1;refine⟨aX,by simp[LB],?_⟩;rw[if_neg (by simp[LB])];refine ah.ob Tryz.func165 Tryz.ntmps165 rfl ?_;repeat' first|((first|refine ab (hK _ ?_)|refine aB (hK _ ?_));clear hK K)|((first|refine ae ?_|refine aG ?_|refine aa rfl (h1) ?_);simp[hk];(try(refine gen2 ?_ ?_<;>intro hq<;>try simp[hk]at hq)))|(refine T.ret (az.aZ (Or.inr rfl) ?_)<;>simp[aE,Tryz.results165]<;>omega)|refine T.rd (id:=10) mixed (fun _=>false) [] (by kernel_rfl) fun K hK=>?_|refine T.r0 fun K hK=>?_|refine T.ct rfl ?_|refine T.cf rfl ?_|refine T.seq ?_|refine T.block ?_
 have h5:=Ff b c (by have:=dZ hb;omega) (by have:=dZ hc;omega) Pu;rw[Pu]at h1;refine⟨bC b c,?_,?_⟩
 ·intro t h;split at h<;>simp at h;exact h
 rw[show(if aD b c=true/\aD a cx=true then some (bC b c)else none).isSome=aD a cx by rw[Pu];cases aD a cx<;>rfl];generalize aD a cx=c2 at h2⊢;generalize bC b c=mt at h5⊢;refine ah.ob Tryz.func165 Tryz.ntmps165 rfl ?_;repeat' first|((first|refine ab (hK _ ?_)|refine aB (hK _ ?_));clear hK K)|((first|refine ae ?_|refine aG ?_|refine aa rfl (h1) ?_|refine aa rfl (h5) ?_|refine aa rfl (h4) ?_|(refine aa ?_ (h2) ?_;(focus(solve|simp[hk]))));simp[hk];(try(refine gen2 ?_ ?_<;>intro hq<;>try simp[hk]at hq)))|(refine T.ret (az.aZ (Or.inr rfl) ?_)<;>simp[aE,Tryz.results165, *]<;>omega)|refine T.rd (id:=10) mixed (fun _=>false) [] (by kernel_rfl) fun K hK=>?_|refine T.rd (id:=12) mixed (fun _=>false) [12] (by kernel_rfl) fun K hK=>?_|refine T.r0 fun K hK=>?_|refine T.ct rfl ?_|refine T.cf rfl ?_|refine T.seq ?_|refine T.block ?_|refine T.skip ?_
theorem N5 (e:ak) (a b:aF) (hk:e.kind=10) (ha:al 4 a=true) (hb:al 4 b=true):Js e [a,b] (rT 5 a b):=by
 have h1:=Bo 5 a b (by have:=dZ ha;omega) (by have:=dZ hb;omega);refine⟨.mk 5 [a,b],?_,?_⟩
 ·intro t h;simp only[rT]at h;split at h<;>simp at h;exact h
 rw[show(rT 5 a b).isSome=al 4 (.mk 5 [a,b]) by simp only[rT];split<;>simp[*]];generalize al 4 (.mk 5 [a,b])=c at h1⊢;refine ah.ob Tryz.func165 Tryz.ntmps165 rfl ?_;repeat' first|((first|refine ab (hK _ ?_)|refine aB (hK _ ?_));clear hK K)|((first|refine ae ?_|refine aG ?_|refine aa rfl (h1) ?_);simp[hk];(try(refine gen2 ?_ ?_<;>intro hq<;>try simp[hk]at hq)))|(refine T.ret (az.aZ (Or.inr rfl) ?_)<;>simp[aE,Tryz.results165, *]<;>omega)|refine T.rd (id:=14) mixed (fun _=>false) [9] (by kernel_rfl) fun K hK=>?_|refine T.r0 fun K hK=>?_|refine T.ct rfl ?_|refine T.cf rfl ?_|refine T.seq ?_|refine T.block ?_
theorem N6 (e:ak) (a:aF) (hk:e.kind=11) (ha:al 4 a=true):Js e [a] ((cQ 5 a).map (·.1)):=by
 have hm:=qY 5 a (by have:=dZ ha;omega) (kN (.inr rfl) ha);cases hr:cQ 5 a with
 |none=>
  rw[hr]at hm;refine⟨aX,by simp,?_⟩;refine ah.ob Tryz.func165 Tryz.ntmps165 rfl ?_;repeat' first|(refine ab (hK _ ?_);clear hK K)|((first|refine ae ?_|refine aa rfl (hm) ?_);simp[hk];(try(refine gen2 ?_ ?_<;>intro hq<;>try simp[hk]at hq)))|(refine T.ret (az.aZ (Or.inr rfl) ?_)<;>simp[aE,Tryz.results165]<;>omega)|refine T.r0 fun K hK=>?_|refine T.ct rfl ?_|refine T.cf rfl ?_|refine T.seq ?_|refine T.block ?_
 |some p=>
  obtain⟨x,y⟩:=p;rw[hr]at hm;refine⟨(x,y).1,by simp,?_⟩;dsimp only at hm⊢;refine ah.ob Tryz.func165 Tryz.ntmps165 rfl ?_;repeat' first|(refine ab (hK _ ?_);clear hK K)|((first|refine ae ?_|refine aa rfl (hm) ?_);simp[hk];(try(refine gen2 ?_ ?_<;>intro hq<;>try simp[hk]at hq)))|(refine T.ret (az.aZ (Or.inr rfl) ?_)<;>simp[aE,Tryz.results165]<;>omega)|refine T.r0 fun K hK=>?_|refine T.ct rfl ?_|refine T.cf rfl ?_|refine T.seq ?_|refine T.block ?_
theorem N7 (e:ak) (a:aF) (hk:e.kind=12) (ha:al 4 a=true):Js e [a] ((cQ 5 a).map (·.2)):=by
 have hm:=qY 5 a (by have:=dZ ha;omega) (kN (.inr rfl) ha);cases hr:cQ 5 a with
 |none=>
  rw[hr]at hm;refine⟨aX,by simp,?_⟩;refine ah.ob Tryz.func165 Tryz.ntmps165 rfl ?_;repeat' first|(refine ab (hK _ ?_);clear hK K)|((first|refine ae ?_|refine aa rfl (hm) ?_);simp[hk];(try(refine gen2 ?_ ?_<;>intro hq<;>try simp[hk]at hq)))|(refine T.ret (az.aZ (Or.inr rfl) ?_)<;>simp[aE,Tryz.results165]<;>omega)|refine T.r0 fun K hK=>?_|refine T.ct rfl ?_|refine T.cf rfl ?_|refine T.seq ?_|refine T.block ?_
 |some p=>
  obtain⟨x,y⟩:=p;rw[hr]at hm;refine⟨(x,y).2,by simp,?_⟩;dsimp only at hm⊢;refine ah.ob Tryz.func165 Tryz.ntmps165 rfl ?_;repeat' first|(refine ab (hK _ ?_);clear hK K)|((first|refine ae ?_|refine aa rfl (hm) ?_);simp[hk];(try(refine gen2 ?_ ?_<;>intro hq<;>try simp[hk]at hq)))|(refine T.ret (az.aZ (Or.inr rfl) ?_)<;>simp[aE,Tryz.results165]<;>omega)|refine T.r0 fun K hK=>?_|refine T.ct rfl ?_|refine T.cf rfl ?_|refine T.seq ?_|refine T.block ?_
theorem N8 (e:ak) (a:aF) (hk:e.kind=13) (ha:al 4 a=true) (he:al 4 e.ty=true):Js e [a] (if aD a e.ty=true then some e.ty else none):=by
 have h1:=cM e.ty (by have:=dZ he;omega);have h2:=c3 4 a e.ty (by omega) ha he;refine⟨e.ty,?_,?_⟩
 ·intro t h;split at h<;>simp at h;exact h
 rw[show(if aD a e.ty=true then some e.ty else none).isSome=aD a e.ty by cases aD a e.ty<;>rfl];generalize aD a e.ty=c at h2⊢;refine ah.ob Tryz.func165 Tryz.ntmps165 rfl ?_;repeat' first|((first|refine ab (hK _ ?_)|refine aB (hK _ ?_));clear hK K)|((first|refine ae ?_|refine aG ?_|refine aa rfl (h1) ?_|refine aa rfl (h2) ?_);simp[hk];(try(refine gen2 ?_ ?_<;>intro hq<;>try simp[hk]at hq)))|(refine T.ret (az.aZ (Or.inr rfl) ?_)<;>simp[aE,Tryz.results165, *]<;>omega)|refine T.rd (id:=22) mixed (fun _=>false) [9] (by kernel_rfl) fun K hK=>?_|refine T.r0 fun K hK=>?_|refine T.ct rfl ?_|refine T.cf rfl ?_|refine T.seq ?_|refine T.block ?_
theorem BH (ctx:List dI) (e:ak) (ts:List aF) (hk:5<e.kind/\e.kind<14) (hlen:(ts.length:Int)=cL e.kind) (b6:∀u∈ts,al 4 u=true) (he:bY e.kind=true->al 4 e.ty=true):
  Js e ts (c6 ctx e.kind e.name e.ty ts):=by
 have C1:e.kind=6\/e.kind=7\/e.kind=8\/e.kind=9\/e.kind=10\/e.kind=11\/e.kind=12\/e.kind=13:=by omega
 rcases C1 with h|h|h|h|h|h|h|h
 ·rw[h]at hlen
  match ts,hlen with
  |[a,b],_=>
   have e1:c6 ctx e.kind e.name e.ty [a,b]=(match cQ 4 a with|some (x,y)=>if aD b x=true then some y else none|none=>none):=by rw[h];rfl
   rw[e1];exact Q3 e a b h (b6 a (by simp)) (b6 b (by simp))
 ·rw[h]at hlen
  match ts,hlen with
  |[a,b],_=>have:=Q4 e a b h (b6 a (by simp)) (b6 b (by simp));simpa[c6,h]using this
 ·rw[h]at hlen
  match ts,hlen with
  |[a,b],_=>have:=Q5 e a b h (b6 a (by simp)) (b6 b (by simp));simpa[c6,h]using this
 ·rw[h]at hlen
  match ts,hlen with
  |[a,b,c],_=>have:=Q6 e a b c h (b6 a (by simp)) (b6 b (by simp)) (b6 c (by simp));simpa[c6,h]using this
 ·rw[h]at hlen
  match ts,hlen with
  |[a,b],_=>have:=N5 e a b h (b6 a (by simp)) (b6 b (by simp));simpa[c6,h]using this
 ·rw[h]at hlen
  match ts,hlen with
  |[a],_=>have:=N6 e a h (b6 a (by simp));simpa[c6,h]using this
 ·rw[h]at hlen
  match ts,hlen with
  |[a],_=>have:=N7 e a h (b6 a (by simp));simpa[c6,h]using this
 ·rw[h]at hlen
  match ts,hlen with
  |[a],_=>have:=N8 e a h (b6 a (by simp)) (he (by simp[bY,h]));simpa[c6,h]using this
def II (ctx:List dI) (e:ak):Prop:=∃t',(∀t,eQ ctx e=some t->t'=t)/\ah Z6 146 [.l (ctx.map lJ),cE e] [] (.aZ [ec t',.b (eQ ctx e).isSome]) [] []
theorem BI (ctx:List dI) (e:ak) (hl:ctx.length<=1099511627776) (hc:ir ctx) (hlen:cL e.kind=e.kids.length) (hk:e.kind=1\/e.kind=2\/e.kind=3\/e.kind=4):II ctx e:=by
 have kh:e.kids=[]:=by
  have:e.kids.length=0:=by
   rcases hk with h|h|h|h<;>rw[h]at hlen<;>simp[cL]at hlen<;>omega
  exact List.eq_nil_of_length_eq_zero this
 have ht:eQ ctx e=c6 ctx e.kind e.name e.ty []:=by rw[mr,kh];simp[eg]
 simp only[II,ht];have h3:=rZ;have h4:=pQ;rcases hk with h|h|h|h
 ·have mJ:=Fp ctx e.name hl (fun b hb=>by have:=dZ (hc b hb);omega);rw[show c6 ctx e.kind e.name e.ty []=dO ctx e.name by simp[c6,h]];cases hr:dO ctx e.name with
  |none=>
   rw[hr]at mJ;refine⟨aX,by simp,?_⟩;dsimp only at mJ⊢;refine ah.ob Tryz.func146 Tryz.ntmps146 rfl ?_;repeat' first|(refine ab (hK _ ?_);clear hK K)|((first|refine ae ?_|refine aa rfl (mJ) ?_);simp[h];(try(refine gen2 ?_ ?_<;>intro hq<;>try simp[h]at hq)))|(refine T.ret (az.aZ (Or.inr rfl) ?_)<;>simp[aE,Tryz.results146]<;>omega)|refine T.r0 fun K hK=>?_|refine T.ct rfl ?_|refine T.seq ?_|refine T.block ?_
  |some t=>
   rw[hr]at mJ;refine⟨t,by simp,?_⟩;dsimp only at mJ⊢;refine ah.ob Tryz.func146 Tryz.ntmps146 rfl ?_;repeat' first|(refine ab (hK _ ?_);clear hK K)|((first|refine ae ?_|refine aa rfl (mJ) ?_);simp[h];(try(refine gen2 ?_ ?_<;>intro hq<;>try simp[h]at hq)))|(refine T.ret (az.aZ (Or.inr rfl) ?_)<;>simp[aE,Tryz.results146]<;>omega)|refine T.r0 fun K hK=>?_|refine T.ct rfl ?_|refine T.seq ?_|refine T.block ?_
 ·refine⟨bp,by simp[c6,h],?_⟩;rw[show(c6 ctx e.kind e.name e.ty []).isSome=true by simp[c6,h]];refine ah.ob Tryz.func146 Tryz.ntmps146 rfl ?_;repeat' first|(refine ab (hK _ ?_);clear hK K)|((first|refine ae ?_|refine aa rfl (h3) ?_);simp[h];(try(refine gen2 ?_ ?_<;>intro hq<;>try simp[h]at hq)))|(refine T.ret (az.aZ (Or.inr rfl) ?_)<;>simp[aE,Tryz.results146]<;>omega)|refine T.r0 fun K hK=>?_|refine T.ct rfl ?_|refine T.cf rfl ?_|refine T.seq ?_|refine T.block ?_
 ·refine⟨cx,by simp[c6,h],?_⟩;rw[show(c6 ctx e.kind e.name e.ty []).isSome=true by simp[c6,h]];refine ah.ob Tryz.func146 Tryz.ntmps146 rfl ?_;repeat' first|(refine ab (hK _ ?_);clear hK K)|((first|refine ae ?_|refine aa rfl (h4) ?_);simp[h];(try(refine gen2 ?_ ?_<;>intro hq<;>try simp[h]at hq)))|(refine T.ret (az.aZ (Or.inr rfl) ?_)<;>simp[aE,Tryz.results146]<;>omega)|refine T.r0 fun K hK=>?_|refine T.ct rfl ?_|refine T.cf rfl ?_|refine T.seq ?_|refine T.block ?_|refine T.skip ?_
 ·refine⟨cx,by simp[c6,h],?_⟩;rw[show(c6 ctx e.kind e.name e.ty []).isSome=true by simp[c6,h]];refine ah.ob Tryz.func146 Tryz.ntmps146 rfl ?_;repeat' first|(refine ab (hK _ ?_);clear hK K)|((first|refine ae ?_|refine aa rfl (h4) ?_);simp[h];(try(refine gen2 ?_ ?_<;>intro hq<;>try simp[h]at hq)))|(refine T.ret (az.aZ (Or.inr rfl) ?_)<;>simp[aE,Tryz.results146]<;>omega)|refine T.r0 fun K hK=>?_|refine T.r1 fun K hK=>?_|refine T.ct rfl ?_|refine T.cf rfl ?_|refine T.seq ?_|refine T.block ?_
theorem C2 (ctx:List dI) (e b:ak) (hl:ctx.length<=1099511627776) (hk:e.kind=5) (hb:e.kids=[b]) (Bn:al 4 e.ty=true)
  (hs:∀t,eQ (ctx++[dI.mk e.name e.ty]) b=some t->al 4 t=true) (ih:II (ctx++[dI.mk e.name e.ty]) b):II ctx e:=by
 have ht:eQ ctx e=match eQ (ctx++[dI.mk e.name e.ty]) b with|some t=>rT 4 e.ty t|none=>none:=by
  rw[mr,hb];simp only[cc,hk,eg,if_true];cases eQ (ctx++[dI.mk e.name e.ty]) b with
  |none=>rfl
  |some t=>simp[c6]
 obtain⟨t',h1,h2⟩:=ih;have hm:=Fq ctx e.name e.ty hl;generalize ctx++[dI.mk e.name e.ty]=ctx' at*;simp only[II,ht];cases hr:eQ ctx' b with
 |none=>
  rw[hr]at h2;refine⟨aX,by simp,?_⟩;dsimp only[Option.isSome]at h2⊢;refine ah.ob Tryz.func146 Tryz.ntmps146 rfl ?_;repeat' first|((first|refine ab (hK _ ?_)|refine bm (hK _ ?_));clear hK K)|((first|refine ae ?_|refine bF ?_|refine aa rfl (hm) ?_|refine aa rfl (h2) ?_);simp[hk,hb];(try(refine gen2 ?_ ?_<;>intro hq<;>try simp[hk,hb]at hq)))|(refine T.ret (az.aZ (Or.inr rfl) ?_)<;>simp[aE,Tryz.results146]<;>omega)|refine T.pN (id:=10) mixed (fun _=>false) [14,15] [2,4,5,7,8,9,10] 15 [] (by kernel_rfl) fun K hK=>?_|(refine⟨?_,?_⟩;(focus(intros;refine aa rfl (hm) ?_;simp;done)))|(refine⟨?_,?_⟩;(focus(intros;refine aa rfl (h2) ?_;simp;done)))|refine T.r0 fun K hK=>?_|refine T.r1 fun K hK=>?_|refine T.ct rfl ?_|refine T.cf rfl ?_|refine T.seq ?_|refine T.block ?_
 |some t=>
  rw[hr]at h2;obtain rfl:=h1 t hr;have SO:=Bo 4 e.ty t' (by have:=dZ Bn;omega) (by have:=dZ (hs t' hr);omega);refine⟨.mk 4 [e.ty,t'],?_,?_⟩
  ·intro u h;simp only[rT]at h;split at h<;>simp at h;exact h
  simp only[aac]at h2;dsimp only;rw[show(rT 4 e.ty t').isSome=al 4 (.mk 4 [e.ty,t']) by simp only[rT];split<;>simp[*]];generalize al 4 (.mk 4 [e.ty,t'])=c at SO;refine ah.ob Tryz.func146 Tryz.ntmps146 rfl ?_;repeat' first|((first|refine ab (hK _ ?_)|refine bm (hK _ ?_));clear hK K)|((first|refine ae ?_|refine bF ?_|refine aa rfl (hm) ?_|refine aa rfl (h2) ?_|refine aa rfl (SO) ?_);simp[hk,hb];(try(refine gen2 ?_ ?_<;>intro hq<;>try simp[hk,hb]at hq)))|(refine T.ret (az.aZ (Or.inr rfl) ?_)<;>simp[aE,Tryz.results146,aN]<;>omega)|refine T.pN (id:=10) mixed (fun _=>false) [14,15] [2,4,5,7,8,9,10] 15 [] (by kernel_rfl) fun K hK=>?_|(refine⟨?_,?_⟩;(focus(intros;refine aa rfl (hm) ?_;simp;done)))|(refine⟨?_,?_⟩;(focus(intros;refine aa rfl (h2) ?_;simp;done)))|refine T.r0 fun K hK=>?_|refine T.r1 fun K hK=>?_|refine T.ct rfl ?_|refine T.cf rfl ?_|refine T.seq ?_|refine T.block ?_|refine T.skip ?_
theorem uA (ctx:List dI) (e:ak) (R:Option (List aF)) (t':aF) (ok:Bool) (hl:ctx.length<=1099511627776) (hk:5<e.kind/\e.kind<14) (hlen:e.kids.length<=3) (hR:eg ctx e.kids=R)
  (hs:∀u∈e.kids,∀t,eQ ctx u=some t->al 4 t=true) (ih:∀u∈e.kids,II ctx u) (N9:R=none->t'=aX/\ok=false)
  (Oa:∀ts,R=some ts->(∀u∈ts,al 4 u=true)->ah Z6 165 [cE e,.l (ts.map b5)] [] (.aZ [ec t',.b ok]) [] []):
  ah Z6 146 [.l (ctx.map lJ),cE e] [] (.aZ [ec t',.b ok]) [] []:=by
 have gF:¬e.kind=1:=by omega
 have kn:¬e.kind=2:=by omega
 have SP:¬e.kind=3:=by omega
 have SQ:¬e.kind=4:=by omega
 have Pv:¬e.kind=5:=by omega
 refine ah.ob Tryz.func146 Tryz.ntmps146 rfl ?_;repeat' first|(refine ab (hK _ ?_);clear hK K)|(refine ae ?_;simp[gF,kn,SP,SQ,Pv];(try(refine gen2 ?_ ?_<;>intro hq<;>try simp[gF,kn,SP,SQ,Pv]at hq)))|refine T.rs (id:=14) (fun i=>i==0) fun K hK=>?_|refine T.rs (id:=0) (fun _=>false) fun K hK=>?_|refine T.rs (id:=1) (fun _=>false) fun K hK=>?_|refine T.rs (id:=2) (fun _=>false) fun K hK=>?_|refine T.rs (id:=4) (fun _=>false) fun K hK=>?_|refine T.rs (id:=6) (fun _=>false) fun K hK=>?_|refine T.cw (id:=7) (fun _=>false) fun K hK=>?_|refine T.rs (id:=9) (fun _=>false) fun K hK=>?_|refine T.rs (id:=15) (fun _=>false) fun K hK=>?_|refine T.cf rfl ?_|refine T.seq ?_|refine T.block ?_|refine T.skip ?_
 refine T.fJ (fun x:Nat×List aF×List (List CV)=>⟨[(0,.l (ctx.map lJ)),(3,.c (.ptr 0 0)),(4,.c (.ptr 1 0)),(8,.c (.own 0 x.1)),(9,.i x.1)],(cE e).cells::[.d (.i 0),.nil]::x.2.2,[{sz:=2,dE:=25,rows:=x.2.1.map b5,wr:=true}]⟩) (fun x=>e.kids.length+1-x.1) (fun x=>x.1<=e.kids.length/\x.2.1.length=x.1/\(∀u∈x.2.1,al 4 u=true)/\(eg ctx (e.kids.drop x.1)).map (x.2.1++·)=R) (fun x hx=>?_) (0,[],[]) (by simp[hR]) (by simp);obtain⟨p,ts,G⟩:=x;obtain⟨hi,hp,kX,he⟩:=hx;dsimp only at hi hp kX he⊢;by_cases ax:p<e.kids.length
 ·obtain⟨u,ht⟩:=bz ax;have eJ:u∈e.kids:=Z8 ht;have bg:e.kids[p]=u:=by rw[Z7 ax]at ht;exact Option.some.inj ht
  have iY:e.kids.drop p=u::e.kids.drop (p+1):=by rw[Z9 ax,bg]
  obtain⟨tu,h1,h2⟩:=ih u eJ;have Hv:=hs u eJ;rw[iY]at he;simp only[eg]at he;cases hb:eQ ctx u with
  |none=>
   rw[hb]at h2 he;simp only[aad]at h2;obtain⟨rfl,rfl⟩:=N9 (by simpa using he.symm);repeat' first|(refine ab (hK _ ?_);clear hK K)|((first|refine ae ?_|refine aa rfl (h2) ?_);simp[ax,bg,hp];(try simp(disch:=omega)only[wrap64]);(try(refine gen2 ?_ ?_<;>intro hq<;>try simp[ax,bg,hp]at hq)))|(refine T.ret (az.aZ (Or.inr rfl) ?_)<;>simp[aE,Tryz.results146]<;>omega)|refine T.rs (id:=16) (fun _=>false) fun K hK=>?_|refine T.rs (id:=18) (fun _=>false) fun K hK=>?_|refine T.rs (id:=19) (fun _=>false) fun K hK=>?_|refine T.rs (id:=20) (fun _=>false) fun K hK=>?_|refine T.ct rfl ?_|refine T.seq ?_|refine T.block ?_|refine T.skip ?_
  |some t=>
   obtain rfl:=h1 t hb;rw[hb]at h2 he;simp only[aac]at h2;have SI:(eg ctx (e.kids.drop (p+1))).map ((ts++[tu])++·)=R:=by
    rw[<-he];cases eg ctx (e.kids.drop (p+1))<;>simp
   have Q7:∀v∈ts++[tu],al 4 v=true:=fun v hv=>by
    rcases aaa.1 hv with h|h
    ·exact kX v h
    ·simp at h;subst h;exact Hv _ hb
   repeat' first|(refine ab (hK _ ?_);clear hK K)|((first|refine ae ?_|refine aa rfl (h2) ?_);simp[ax,bg,hp];(try simp(disch:=omega)only[wrap64]);(try(refine gen2 ?_ ?_<;>intro hq<;>try simp[ax,bg,hp]at hq)))|(refine⟨by omega,by omega,?_⟩)|(refine⟨(p+1,ts++[tu],_),by dsimp only;omega,⟨by dsimp only;omega,by simp[hp],Q7,SI⟩,rfl,?_,?_⟩<;>simp(disch:=omega) [wrap64,aN])|refine T.rs (id:=16) (fun _=>false) fun K hK=>?_|refine T.rs (id:=18) (fun _=>false) fun K hK=>?_|refine T.rs (id:=19) (fun _=>false) fun K hK=>?_|refine T.cw (id:=21) (fun _=>false) fun K hK=>?_|refine T.cw (id:=17) (fun _=>false) fun K hK=>?_|refine T.ct rfl ?_|refine T.cf rfl ?_|refine T.seq ?_|refine T.block ?_|refine T.skip ?_
 ·have eb:p=e.kids.length:=by omega
  subst eb;simp[eg]at he;have dJ:=Oa ts he.symm kX;repeat' first|(refine ab (hK _ ?_);clear hK K)|((first|refine ae ?_|(refine aa ?_ (dJ) ?_;(focus(solve|simp[ax,hp]))));simp[ax,hp];(try(refine gen2 ?_ ?_<;>intro hq<;>try simp[ax,hp]at hq)))|(refine T.ret (az.aZ (Or.inr rfl) ?_)<;>simp[aE,Tryz.results146]<;>omega)|refine T.rs (id:=16) (fun _=>false) fun K hK=>?_|refine T.rs (id:=22) (fun _=>false) fun K hK=>?_|refine T.cf rfl ?_|refine T.seq ?_|refine T.exit ?_
theorem BJ (ctx:List dI) (e:ak) (hl:ctx.length<=1099511627776) (hk:5<e.kind/\e.kind<14) (hlen:cL e.kind=e.kids.length) (Bn:bY e.kind=true->al 4 e.ty=true)
  (hs:∀u∈e.kids,∀t,eQ ctx u=some t->al 4 t=true) (ih:∀u∈e.kids,II ctx u):II ctx e:=by
 have Pv:¬e.kind=5:=by omega
 have VF:=rV e.kind;have ht:eQ ctx e=(eg ctx e.kids).bind (c6 ctx e.kind e.name e.ty):=by
  rw[mr,cc,if_neg Pv];cases eg ctx e.kids<;>rfl
 simp only[II,ht];cases hr:eg ctx e.kids with
 |none=>
  refine⟨aX,by simp,?_⟩;exact uA ctx e none aX false hl hk (by omega) hr hs ih (fun _=>⟨rfl,rfl⟩) (fun ts h=>by simp at h)
 |some ts=>
  have ax:=wk hr;have Q8:∀u∈ts,al 4 u=true:=by
   have hl:∀(l:List ak) (ts:List aF),(∀u∈l,u∈e.kids)->eg ctx l=some ts->∀u∈ts,al 4 u=true:=by
    intro l;induction l with
    |nil=>intro ts _ h;simp[eg]at h;subst h;simp
    |cons x r ihl=>
     intro ts hm h;simp only[eg]at h;split at h
     ·simp at h
     ·rename_i tx Qz;split at h
      ·simp at h
      ·rename_i us Nt;simp at h;subst h;intro u hu;simp only[List.mem_cons]at hu;rcases hu with rfl|hu
       ·exact hs x (hm x (by simp)) _ Qz
       ·exact ihl us (fun v hv=>hm v (by simp[hv])) Nt u hu
   exact hl e.kids ts (fun _ h=>h) hr
  obtain⟨t',h1,h2⟩:=BH ctx e ts hk (by rw[ax];exact hlen.symm) Q8 Bn;refine⟨t',by simpa using h1,?_⟩;rw[show((some ts).bind (c6 ctx e.kind e.name e.ty))=c6 ctx e.kind e.name e.ty ts from rfl];exact uA ctx e (some ts) t' _ hl hk (by omega) hr hs ih (fun h=>by simp at h) (fun us h _=>by simp at h;subst h;exact h2)
theorem BK (k:Int) (n:Nat) (h:cL k=n):0<k/\k<15:=by
 simp only[cL]at h;split at h
 ·omega
 ·split at h
  ·omega
  ·split at h
   ·omega
   ·split at h<;>omega
theorem Fs:∀(e:ak) (d:Nat) (ctx:List dI),a8 14 d e=true->ctx.length+d<=1099511627776->ir ctx->II ctx e:=by
 intro e;induction e using ak.ind with
 |h e ih=>
  intro d ctx hs hl hc;obtain⟨d',rfl,cY,hlen,c7,iv⟩:=fD hs;have hb:=BK e.kind _ hlen;by_cases h5:e.kind=5
  ·have Bn:al 4 e.ty=true:=gv c7 (by simp[bY,h5]);have yS:e.kids.length=1:=by rw[h5]at hlen;simp[cL]at hlen;omega
   match hk:e.kids,yS with
   |[b],_=>
    have Q9:b∈e.kids:=by simp[hk]
    have AD:ir (ctx++[dI.mk e.name e.ty]):=by
     intro x hx;rcases aaa.1 hx with h|h
     ·exact hc x h
     ·simp at h;subst h;exact Bn
    exact C2 ctx e b (by omega) h5 hk Bn (fun t h=>iu b d' 14 _ t (iv b Q9) AD h) (ih b Q9 d' _ (iv b Q9) (by simp;omega) AD)
  ·by_cases VG:e.kind<5
   ·exact BI ctx e (by omega) hc hlen (by omega)
   ·exact BJ ctx e (by omega) ⟨by omega,by omega⟩ hlen (gv c7) (fun u hu t h=>iu u d' 14 ctx t (iv u hu) hc h) (fun u hu=>ih u hu d' ctx (iv u hu) (by omega) hc)
def cS (ctx:List dI) (e:ak):Option aF:=if uZ ctx=true/\aV e=true then eQ ctx e else none
abbrev iC:Option aF->List AV
 |some t=>[ec t,.b true]
 |none=>[ec aX,.b false]
theorem C3 (ctx:List dI) (e:ak) (hl:ctx.length<=1073741824) (EN:∀b∈ctx,dF b.ty<=1099511627776) (hn:fa e<=1099511627776):ah Z6 118 [.l (ctx.map lJ),cE e] [] (.aZ (iC (cS ctx e))) [] []:=by
 have h1:=zQ ctx (by omega) EN;have h2:=jB e hn;cases hc:uZ ctx with
 |false=>
  rw[show cS ctx e=none by simp[cS,hc]];rw[hc]at h1;refine ah.ob Tryz.func118 Tryz.ntmps118 rfl ?_;repeat' first|(refine ab (hK _ ?_);clear hK K)|((first|refine ae ?_|refine aa rfl (h1) ?_);simp;(try(refine gen2 ?_ ?_<;>intro hq<;>try simp at hq)))|(refine T.ret (az.aZ (Or.inr rfl) ?_)<;>simp[aE,Tryz.results118]<;>omega)|refine T.r0 fun K hK=>?_|refine T.ct rfl ?_|refine T.seq ?_
 |true=>
  rw[hc]at h1;cases hv:aV e with
  |false=>
   rw[show cS ctx e=none by simp[cS,hv]];rw[hv]at h2;refine ah.ob Tryz.func118 Tryz.ntmps118 rfl ?_;repeat' first|(refine ab (hK _ ?_);clear hK K)|((first|refine ae ?_|refine aa rfl (h1) ?_|refine aa rfl (h2) ?_);simp;(try(refine gen2 ?_ ?_<;>intro hq<;>try simp at hq)))|(refine T.ret (az.aZ (Or.inr rfl) ?_)<;>simp[aE,Tryz.results118]<;>omega)|refine T.r0 fun K hK=>?_|refine T.ct rfl ?_|refine T.seq ?_
  |true=>
   rw[hv]at h2;have eU:ir ctx:=fun b hb=>by
    simp only[uZ,aae,List.all_eq_true]at hc;exact(hc.1 b hb).2
   have kX:a8 14 12 e=true:=by simp only[aV,aae]at hv;exact hv.1
   obtain⟨t',h3,h4⟩:=Fs e 12 ctx kX (by omega) eU;rw[show cS ctx e=eQ ctx e by simp[cS,hc,hv]];cases hr:eQ ctx e with
   |none=>
    rw[hr]at h4;have h5:=yJ t' false;simp only[aad]at h4;refine ah.ob Tryz.func118 Tryz.ntmps118 rfl ?_;repeat' first|(refine ab (hK _ ?_);clear hK K)|((first|refine ae ?_|refine aa rfl (h1) ?_|refine aa rfl (h2) ?_|refine aa rfl (h4) ?_|refine aa rfl (h5) ?_);simp;(try(refine gen2 ?_ ?_<;>intro hq<;>try simp at hq)))|(refine T.ret (az.aZ (Or.inr rfl) ?_)<;>simp[aE,Tryz.results118]<;>omega)|refine T.r0 fun K hK=>?_|refine T.cf rfl ?_|refine T.seq ?_|refine T.skip ?_
   |some t=>
    obtain rfl:=h3 t hr;rw[hr]at h4;have h5:=yJ t' true;simp only[aac]at h4;refine ah.ob Tryz.func118 Tryz.ntmps118 rfl ?_;repeat' first|(refine ab (hK _ ?_);clear hK K)|((first|refine ae ?_|refine aa rfl (h1) ?_|refine aa rfl (h2) ?_|refine aa rfl (h4) ?_|refine aa rfl (h5) ?_);simp;(try(refine gen2 ?_ ?_<;>intro hq<;>try simp at hq)))|(refine T.ret (az.aZ (Or.inr rfl) ?_)<;>simp[aE,Tryz.results118]<;>omega)|refine T.r0 fun K hK=>?_|refine T.cf rfl ?_|refine T.seq ?_|refine T.skip ?_
theorem C4 (e:ak) (hn:fa e<=1099511627776):ah Z6 70 [cE e] [] (.aZ (iC (cS [] e))) [] []:=by
 have h:=C3 [] e (by simp) (by simp) hn;cases hr:cS [] e with
 |none=>
  rw[hr]at h;refine ah.ob Tryz.func70 Tryz.ntmps70 rfl ?_;repeat' first|(refine ab (hK _ ?_);clear hK K)|((first|refine ae ?_|(refine aa ?_ (h) ?_;(focus(solve|simp))));simp)|(refine T.ret (az.aZ (Or.inr rfl) ?_)<;>simp[aE,Tryz.results70]<;>omega)|refine T.r0 fun K hK=>?_
 |some t=>
  rw[hr]at h;refine ah.ob Tryz.func70 Tryz.ntmps70 rfl ?_;repeat' first|(refine ab (hK _ ?_);clear hK K)|((first|refine ae ?_|(refine aa ?_ (h) ?_;(focus(solve|simp))));simp)|(refine T.ret (az.aZ (Or.inr rfl) ?_)<;>simp[aE,Tryz.results70]<;>omega)|refine T.r0 fun K hK=>?_
end Go.Proofs.YtloolmchekcmeaaGreat
namespace Go.Proofs.YtloolmchekcmeaaGreat
attribute [-simp] Go.Av.cZ Go.Av.j5 Go.Av.df Go.Av.bX Go.Av.back Go.Av.gW Go.Av.one Go.Av.c9 Go.Av.xO Go.Av.ef Go.Av.AV.dw Go.Av.CV.dw Go.Av.fR Go.Av.AV.cJ Go.Av.CV.cJ Go.Av.bP Go.Av.eu Go.Av.eN Go.Av.eG Go.Av.b8 Go.Av.bN
open Go Go.Av
attribute [local irreducible] T ah TX EX LX dA dB bL b5 eK aF.kind aF.kids ak.kind ak.name ak.num ak.ty ak.fr ak.label ak.kids
attribute [local simp] aN au
set_option maxHeartbeats 1000000
@[simp] theorem SR:td Z6 105=some {ag:=true,sz:=2,kI:=32,zero:=some [.nil,.d (.int .i64 0)],el:=none,ar:=none,fl:=[(0,1),(1,1)],ik:=none,cy:=false,l6:=false}:=dq (by kernel_rfl)
@[simp] theorem SS:td Z6 5=some {ag:=false,sz:=1,kI:=1,zero:=some [.d (.int .u8 0)],el:=none,ar:=none,fl:=[],ik:=some .u8,cy:=false,l6:=false}:=dq (by kernel_rfl)
@[simp] theorem Ra:td Z6 22=some {ag:=false,sz:=1,kI:=24,zero:=some [.nil],el:=some 5,ar:=none,fl:=[],ik:=none,cy:=false,l6:=false}:=dq (by kernel_rfl)
@[simp] theorem Pw:td Z6 109=some {ag:=false,sz:=1,kI:=24,zero:=some [.nil],el:=some 9,ar:=none,fl:=[],ik:=none,cy:=false,l6:=false}:=dq (by kernel_rfl)
abbrev ints (l:List Int):List (List DV):=l.map fun n=>[.i n]
abbrev strs (l:List (List UInt8)):List (List DV):=l.map fun s=>[.str s]
end Go.Proofs.YtloolmchekcmeaaGreat
namespace Go.Proofs.YtloolmchekcmeaaGreat
attribute [-simp] Go.Av.cZ Go.Av.j5 Go.Av.df Go.Av.bX Go.Av.back Go.Av.gW Go.Av.one Go.Av.c9 Go.Av.xO Go.Av.ef Go.Av.AV.dw Go.Av.CV.dw Go.Av.fR Go.Av.AV.cJ Go.Av.CV.cJ Go.Av.bP Go.Av.eu Go.Av.eN Go.Av.eG Go.Av.b8 Go.Av.bN
open Go Go.Av
attribute [local irreducible] T ah TX EX LX dA dB bL b5 eK aF.kind aF.kids ak.kind ak.name ak.num ak.ty ak.fr ak.label ak.kids
attribute [local simp] aN au
set_option maxHeartbeats 16000000
set_option maxRecDepth 8000
end Go.Proofs.YtloolmchekcmeaaGreat
namespace Go.Proofs.YtloolmchekcmeaaGreat
attribute [-simp] Go.Av.j5 Go.Av.df Go.Av.bX Go.Av.back Go.Av.gW Go.Av.one Go.Av.c9 Go.Av.xO Go.Av.ef Go.Av.AV.dw Go.Av.CV.dw Go.Av.fR Go.Av.AV.cJ Go.Av.CV.cJ Go.Av.bP Go.Av.eu Go.Av.eN Go.Av.eG Go.Av.b8 Go.Av.bN
open Go Go.Av
attribute [local irreducible] T ah TX EX LX dA dB bL b5 eK aF.kind aF.kids ak.kind ak.name ak.num ak.ty ak.fr ak.label ak.kids
attribute [local simp] aN au
set_option maxHeartbeats 16000000
set_option maxRecDepth 8000
def Uz:Nat->Nat|0=>0|m+1=>3*(Uz m+1)+3000
def UA:Nat->Nat|0=>0|m+1=>3*(UA m+102)+100
end Go.Proofs.YtloolmchekcmeaaGreat
