/- A part. -/
import Derived.Test.YtloolmchekcmeaaGreatXD30
set_option linter.unusedVariables false
set_option linter.unusedSimpArgs false
open Go.Proofs.Tryz renaming prog->adW
open List renaming zipWith->adX,nil_append->adY,cons_append->adZ,append_nil->ad0,sizeOf_lt_of_mem->ad1,reverse_perm->ad2,mem_of_getElem?->ad3,length_zipWith->ad4,getElem?_eq_getElem->ad5
namespace Go.Proofs.YtloolmchekcmeaaGreat
attribute [-simp] Go.Av.bN Go.Av.IT.gK Go.Av.IT.eH Go.Av.IT.ey Go.Av.IT.gj Go.Av.IT.gL Go.Av.IT.gM Go.Av.IT.gN Go.Av.IT.gO Go.Av.IT.e8 Go.Av.fh
open Go Go.Av
attribute [local irreducible] T ah TX EX LX dA dB bL b5 eK aF.kind aF.kids ak.kind ak.name ak.num ak.ty ak.fr ak.label ak.kids
attribute [local simp] aN au
set_option maxHeartbeats 16000000
set_option maxRecDepth 8000
attribute [local irreducible] TJ aH dt bZ nE ei
@[simp] theorem R1:td adW 5=some {ag:=false,sz:=1,kI:=1,zero:=some [.d (.int .u8 0)],el:=none,ar:=none,fl:=[],ik:=some .u8,cy:=false,l6:=false}:=dq (by kernel_rfl)
@[simp] theorem PL:td adW 22=some {ag:=false,sz:=1,kI:=24,zero:=some [.nil],el:=some 5,ar:=none,fl:=[],ik:=none,cy:=false,l6:=false}:=dq (by kernel_rfl)
def vj (n:Nat):List UInt8:=if n=0 then []else Lib.decDigits n
theorem FX {n:Nat} (h:0<n) (out:List UInt8):vj n++out=vj (n / 10)++(UInt8.ofNat (48+n % 10)::out):=by
 rw[vj,if_neg (by omega)]
 conv=>lhs;rw[Lib.decDigits]
 split
 ·rename_i h1;have e1:n / 10=0:=by omega
  have e2:n % 10=n:=by omega
  rw[e1,e2];simp[vj]
 ·rename_i h1;rw[vj,if_neg (by omega)];simp
theorem FY (n:Nat):(Lib.decDigits n).length<=n+1:=by
 induction n using Nat.strongRecOn with
 |_ n ih=>
  rw[Lib.decDigits];split
  ·simp
  ·have:=ih (n / 10) (by omega);simp;omega
theorem uN (k:Nat) (h0:1<=k) (hk:k<=2199023255552):ah adW 119 [.i (k:Int)] [] (.c (.d (.str (BY k)))) [] []:=by
 have gx:¬(k:Int)<=0:=by omega
 have gF:¬k=0:=by omega
 refine ah.ob Tryz.func119 Tryz.ntmps119 rfl ?_;repeat' first|(refine ab (hK _ ?_);clear hK K)|(refine ae ?_;simp[gx,gF];(try(refine gen2 ?_ ?_<;>intro hq<;>(try simp[gx,gF]at hq)<;>try(have:True:=hq;clear this hq))))|refine T.r0 fun K hK=>?_|refine T.cf rfl ?_|refine T.seq ?_|refine T.block ?_|refine T.skip ?_
 refine T.dr (α:=Nat×List UInt8) [2] (fun x=>[(0,.i (x.1:Int)),(3,.c (.d (.str x.2)))]) (fun _=>[]) (fun _=>[]) (fun _ _=>[]) (fun x=>x.1+1) (fun x=>x.1<=k/\vj x.1++x.2=vj k) (by simp;rfl) (fun x hx=>?_) (k,[]) (by simp) (by simp) (by simp) (by simp);obtain⟨n,out⟩:=x;obtain⟨hn,ho⟩:=hx;dsimp only at hn ho⊢;simp only[gI,adZ,adY];have VP:out.length<=k+1:=by
  have h1:(vj n++out).length=(vj k).length:=by rw[ho]
  have h2:=FY k;rw[vj,vj,if_neg gF]at h1;simp at h1;omega
 have key:∀k:Nat,k<=9->∃z:Int,IntKind.i64.wrap (48+(k:Int))=z/\IntKind.u8.wrap z=z/\0<=z/\z<256/\UInt8.ofNat z.toNat=UInt8.ofNat (48+k):=fun k hk=>by
  refine⟨((48+k:Nat):Int),?_,Oj (by omega),by omega,by omega,by rw[Int.toNat_natCast]⟩;rw[wrap64 (by omega) (by omega)];omega
 have yS:1+out.length<=4611686018427387904:=by omega
 by_cases ax:0<n
 ·have ou:(0:Int)<(n:Int):=by omega
  rw[FX ax]at ho;obtain⟨q,hq⟩:∃q,n / 10=q:=⟨_,rfl⟩;obtain⟨r,hr⟩:∃r,n % 10=r:=⟨_,rfl⟩;obtain⟨z,z1,z2,z3,z4,z5⟩:=key r (by omega);have e1:(n:Int).tmod 10=(r:Int):=by rw[Int.tmod_eq_emod_of_nonneg (by omega)];omega
  have e2:(n:Int).tdiv 10=(q:Int):=by rw[Int.tdiv_eq_ediv_of_nonneg (by omega)];omega
  rw[hq,hr]at ho;obtain⟨c,hc⟩:∃c,UInt8.ofNat (48+r)=c:=⟨_,rfl⟩;rw[hc]at ho z5;have Hf:q<n:=by omega
  repeat' first|(refine ab (hK _ ?_);clear hK K)|(refine ae ?_;simp[ax,ou,yS,e1,e2,z1,z2,z3,z4,z5,bytesOf,pI];(try simp(disch:=omega)only[wrap64,Ib]);(try(refine gen2 ?_ ?_<;>intro hq<;>(try simp[ax,ou,yS,e1,e2,z1,z2,z3,z4,z5,bytesOf,pI]at hq)<;>try(have:True:=hq;clear this hq))))|refine T.r0 fun K hK=>?_|refine T.r1 fun K hK=>?_|refine T.ct rfl ?_|refine T.seq ?_|refine T.block ?_|refine T.skip ?_
  refine⟨(q,c::out),by dsimp only;omega,⟨by dsimp only;omega,ho⟩,rfl,?_,?_⟩<;>simp(disch:=omega) [e2,ou,wrap64]
 ·have ou:¬(0:Int)<(n:Int):=by omega
  obtain rfl:n=0:=by omega
  simp[vj,gF]at ho;repeat' first|(refine ab (hK _ ?_);clear hK K)|(refine ae ?_;simp[ou,yS];(try(refine gen2 ?_ ?_<;>intro hq<;>(try simp[ou,yS]at hq)<;>try(have:True:=hq;clear this hq))))|(refine T.ret (az.data (Or.inr rfl) ?_ ?_)<;>simp[Tryz.results119,BY,ho]<;>omega)|refine T.r0 fun K hK=>?_|refine T.cf rfl ?_|refine T.seq ?_|refine T.exit ?_
theorem qn (l:List ak) (k:Nat) (hk:k+dm l<=1099511627776) (hlen:l.length<=1099511627776) (h:∀t∈l,∀(k:Nat) v,k+dm t.kids<=1099511627776->aH adW 75 [.c (.d (.raw v)),.i (k:Int)] [(nE 25 28 t.kids,v)] fun r L'=>r=.i ((k+dm t.kids:Nat):Int)/\L'=[(nE 25 28 (bW t.kids k),v)]) (v:Value):
  aH adW 75 [.c (.d (.raw v)),.i (k:Int)] [(nE 25 28 l,v)] fun r L'=>r=.i ((k+dm l:Nat):Int)/\L'=[(nE 25 28 (bW l k),v)]:=by
 rw[vC,vC,fF];refine aH.mono (R:=fun r L'=>∃cs',L'=[(.t 28 9 l.length cs',v)]/\(r=.i ((k+dm l:Nat):Int)/\cs'=ei 25 28 (bW l k))) ?_ (by rintro r L' ⟨_,rfl,rfl,rfl⟩;exact⟨rfl,rfl⟩);refine aH.BD Tryz.func75 (by kernel_rfl) rfl (by kernel_rfl) (by simp[Tryz.ntmps75]) ?_ ?_
 rotate_left
 rw[Tryz.ntmps75]
 rotate_left
 ·exact uB _ _ l
 intro ds Lc vz ES;obtain⟨vs,hv,ON,rfl⟩:=qH _ _ vz;rw[ON];clear vz ES ON;repeat' first|(refine aq (hK _ _ ?_);clear hK K)|(refine ay ?_;simp;(try(refine J2 ?_ ?_<;>intro hq<;>try simp at hq)))|refine TJ.rs (fun _=>false) fun K hK=>?_|refine TJ.seq ?_|refine TJ.block ?_
 refine TJ.dr (α:=Nat) [0,4] (fun j=>[(1,.i ((k+dm (l.take j):Nat):Int)),(5,.i j)]) (fun _=>[]) (fun _=>[]) (fun j _=>[{sz:=9,dE:=28,rows:=adX pU (mM l k j) vs,wr:=true}]) (fun j=>qk 25 28 (mM l k j) vs) (fun j=>l.length+1-j) (fun j=>j<=l.length) (by simp;rfl) (fun j hj=>?_) 0 (by simp) (by simp) (by simp[Em]) (by simp[dm]) (M:=[]) (by simp[Em]);dsimp only at hj⊢;simp only[gI,adZ,adY];by_cases ax:j<l.length
 ·obtain⟨u,hu⟩:=bz ax;have Di:u∈l:=ad3 hu;obtain⟨⟨v1,v2,v3⟩,iG⟩:=bz (l:=vs) (i:=j) (by omega);have hle:=so l (j+1);have Hv:=pj hu;rw[nH]at Hv;have IH:=nI (f:=pU) (KH (k:=k) hu) iG;obtain⟨kj,Gl⟩:∃kj,kj=k+dm (l.take j):=⟨_,rfl⟩;have ye:=JM (k:=k) hu;rw[<-Gl,xc]at ye;have Ig:(adX (mz 25 28) (mM l k j) vs)[j]? =some (mz 25 28 u (v1,v2,v3)):=nI (KH hu) iG;have U4:j<(adX (mz 25 28) (mM l k j) vs).length:=(List.getElem?_eq_some_iff.1 Ig).1;have Cb:(adX (mz 25 28) (mM l k j) vs).set j [(dt 25 (bE u.ty.kids (kj+4)),v1),(dt 25 (bE u.fr.kids (kj+5+aL u.ty.kids)),v2),(nE 25 28 (bW u.kids (kj+6+aL u.ty.kids+aL u.fr.kids)),v3)]=adX (mz 25 28) (mM l k (j+1)) vs:=by
   rw[ye,<-kB iG];simp only[mz,ak.jI,ak.jJ,ak.bD,aF.bD]
  have xQ:(adX pU (mM l k j) vs).set j [.i kj,.str (BY (kj+1)),.i ((kj+2:Nat):Int),.i ((kj+3:Nat):Int),.raw v1,.i ((kj+4+aL u.ty.kids:Nat):Int),.raw v2,.i ((kj+5+aL u.ty.kids+aL u.fr.kids:Nat):Int),.raw v3]=adX pU (mM l k (j+1)) vs:=by
   rw[ye,<-kB iG];simp only[pU,ak.cb,ak.gu,ak.ng,ak.jI,ak.jJ,ak.iR,aF.cb]
  have pH:(adX pU (mM l k j) vs).length=l.length:=by rw[ad4,L4];omega
  have Dv:((k+dm (l.take (j+1)):Nat):Int)=((kj+6+aL u.ty.kids+aL u.fr.kids+dm u.kids:Nat):Int):=by rw[Hv,Gl];congr 1;omega
  have R2:=uN (kj+1) (by omega) (by omega);have rJ:=iV u.ty.kids (kj+4) (by omega) v1;have zo:=iV u.fr.kids (kj+5+aL u.ty.kids) (by omega) v2;have Fo:=h u Di (kj+6+aL u.ty.kids+aL u.fr.kids) v3 (by omega);have PM:(qk 25 28 (mM l k j) vs).Perm (((dt 25 u.ty.kids,v1)::(dt 25 u.fr.kids,v2)::(nE 25 28 u.kids,v3)::((adX (mz 25 28) (mM l k j) vs).eraseIdx j).flatten)++[]):=by
   rw[ad0];exact HV Ig
  have Tm:=JL [(dt 25 (bE u.ty.kids (kj+4)),v1),(dt 25 (bE u.fr.kids (kj+5+aL u.ty.kids)),v2),(nE 25 28 (bW u.kids (kj+6+aL u.ty.kids+aL u.fr.kids)),v3)] U4;rw[Cb]at Tm;refine TJ.less PM ?_;generalize ((adX (mz 25 28) (mM l k j) vs).eraseIdx j).flatten=D at*;rw[<-Gl]at*;have U5:=IH;obtain⟨R,hR⟩:∃R,R=adX pU (mM l k j) vs:=⟨_,rfl⟩;rw[<-hR]at IH xQ pH⊢;have rq:∀h,R[j]'h=pU u (v1,v2,v3):=fun hh=>by rw[ad5 hh]at IH;exact Option.some.inj IH
  have eR:j<R.length:=by omega
  generalize aL u.ty.kids=na at*;generalize aL u.fr.kids=nb at*;generalize dm u.kids=nc at*;rw[show((kj+5+na:Nat):Int)=(kj:Int)+4+(na:Int)+1 by omega]at zo;rw[show((kj+6+na+nb:Nat):Int)=(kj:Int)+5+(na:Int)+(nb:Int)+1 by omega]at Fo;repeat' first|(refine aq (hK _ _ ?_);clear hK K)|(refine ay ?_;simp[ax,pH,eR,rq];(try simp(disch:=omega)only[wrap64]);(try(refine J2 ?_ ?_<;>intro hq<;>try simp[ax,pH,eR,rq]at hq)))|(refine bx rfl (R2) ?_;simp[ax,pH,eR,rq];(try simp(disch:=omega)only[wrap64]);(try(refine J2 ?_ ?_<;>intro hq<;>try simp[ax,pH,eR,rq]at hq)))|(refine aJ (L2:=(dt 25 u.fr.kids,v2)::(nE 25 28 u.kids,v3)::D) ?_ ?_ (rJ) ?_;(focus(solve|exact .refl _));(focus(solve|(repeat' first|exact dj.nil|apply dj.cons|apply jA.c|apply jA.agg|exact jV.nil|apply jV.cons|exact c4.d|exact c4.nil|exact c4.np|(refine c4.cR ?_ (eh _ _);(focus(solve|simp)))|(refine c4.cR ?_ (eS _ _ _);(focus(solve|simp))))));rintro _ _ ⟨rfl,rfl⟩;simp[ax,pH,eR,rq];(try simp(disch:=omega)only[wrap64]);(try(refine J2 ?_ ?_<;>intro hq<;>try simp[ax,pH,eR,rq]at hq)))|(refine aJ (L2:=(dt 25 (bE u.ty.kids (kj+4)),v1)::(nE 25 28 u.kids,v3)::D) ?_ ?_ (zo) ?_;(focus(solve|exact List.Perm.swap _ _ _));(focus(solve|(repeat' first|exact dj.nil|apply dj.cons|apply jA.c|apply jA.agg|exact jV.nil|apply jV.cons|exact c4.d|exact c4.nil|exact c4.np|(refine c4.cR ?_ (eh _ _);(focus(solve|simp)))|(refine c4.cR ?_ (eS _ _ _);(focus(solve|simp))))));rintro _ _ ⟨rfl,rfl⟩;simp[ax,pH,eR,rq];(try simp(disch:=omega)only[wrap64]);(try(refine J2 ?_ ?_<;>intro hq<;>try simp[ax,pH,eR,rq]at hq)))|(refine aJ (L2:=(dt 25 (bE u.fr.kids (kj+5+na)),v2)::(dt 25 (bE u.ty.kids (kj+4)),v1)::D) ?_ ?_ (Fo) ?_;(focus(solve|exact(List.Perm.cons _ (List.Perm.swap _ _ _)).trans (List.Perm.swap _ _ _)));(focus(solve|(repeat' first|exact dj.nil|apply dj.cons|apply jA.c|apply jA.agg|exact jV.nil|apply jV.cons|exact c4.d|exact c4.nil|exact c4.np|(refine c4.cR ?_ (eh _ _);(focus(solve|simp)))|(refine c4.cR ?_ (eS _ _ _);(focus(solve|simp))))));rintro _ _ ⟨rfl,rfl⟩;simp[ax,pH,eR,rq];(try simp(disch:=omega)only[wrap64]);(try(refine J2 ?_ ?_<;>intro hq<;>try simp[ax,pH,eR,rq]at hq)))|refine TJ.rs (fun _=>false) fun K hK=>?_|refine TJ.cw (fun _=>false) fun K hK=>?_|refine TJ.cond rfl (fun aA=>?_) (fun aA=>absurd aA (by decide))|refine TJ.seq ?_|refine TJ.block ?_|refine TJ.skip ?_
  refine⟨j+1,[],by dsimp only;omega,by dsimp only;omega,?_,?_⟩
  ·dsimp only;rw[<-xQ,Dv];simp(disch:=omega) [wrap64];simp[Int.add_assoc]
  ·dsimp only;rw[ad0];refine List.Perm.trans ?_ Tm;exact(ad2 [(dt 25 (bE u.ty.kids (kj+4)),v1),(dt 25 (bE u.fr.kids (kj+5+na)),v2),(nE 25 28 (bW u.kids (kj+6+na+nb)),v3)]).append_right D
 ·have eb:j=l.length:=by omega
  subst eb;rw[L3,List.take_length];repeat' first|(refine aq (hK _ _ ?_);clear hK K)|(refine ay ?_;simp[ax];(try(refine J2 ?_ ?_<;>intro hq<;>try simp[ax]at hq)))|refine TJ.rs (fun _=>false) fun K hK=>?_|refine TJ.cond rfl (fun aA=>absurd aA (by decide)) (fun aA=>?_)|refine TJ.seq ?_|refine TJ.exit ?_
  refine TJ.ret (BC.one (r:=.i ((k+dm l:Nat):Int)) (Or.inr rfl) (by simp[Tryz.results75]) (by simp[DV.eM]) rfl ?_ (pV 25 28 (l:=bW l k) (by rw[fF];exact hv)) (M:=[]) (by simp[qk]) ⟨rfl,rfl⟩);rw[ad4,fF];omega
theorem pB:(l:List ak)->(k:Nat)->k+dm l<=1099511627776->(v:Value)->aH adW 75 [.c (.d (.raw v)),.i (k:Int)] [(nE 25 28 l,v)] fun r L'=>r=.i ((k+dm l:Nat):Int)/\L'=[(nE 25 28 (bW l k),v)]
 |l,k,hk,v=>qn l k hk (by have:=xe l;omega) (fun t ht k v hk=>pB t.kids k hk v) v
termination_by l=>SizeOf.sizeOf l
decreasing_by have:=ad1 ht;cases t;simp at*;omega
theorem qM (e:ak) (k:Nat) (hk:k+JK e<=1099511627776) (v:V3):aH adW 31 [.agg ((pU e v).map CV.d),.i (k:Int)] (mz 25 28 e v) fun r L'=>r=.i ((k+aL e.ty.kids+aL e.fr.kids+dm e.kids:Nat):Int)/\
  L'=mz 25 28 (.mk e.kind e.name e.num (.mk e.ty.kind (bE e.ty.kids k)) (.mk e.fr.kind (bE e.fr.kids (k+aL e.ty.kids))) e.label (bW e.kids (k+aL e.ty.kids+aL e.fr.kids))) v:=by
 obtain⟨v1,v2,v3⟩:=v;rw[nH]at hk;have rJ:=l5 e.ty k (by omega) v1;have zo:=l5 e.fr (k+aL e.ty.kids) (by omega) v2;have Fo:=pB e.kids (k+aL e.ty.kids+aL e.fr.kids) (by omega) v3;simp only[mz,ak.jI,ak.jJ,ak.bD,aF.bD];generalize k+aL e.ty.kids+aL e.fr.kids=k3 at*;generalize k+aL e.ty.kids=k2 at*;generalize k3+dm e.kids=k4 at*;refine aH.ob Tryz.func31 Tryz.ntmps31 rfl ?_;repeat' first|(refine aq (hK _ _ ?_);clear hK K)|((first|refine ay ?_|(refine aJ (L2:=(dt 25 e.fr.kids,v2)::(nE 25 28 e.kids,v3)::[]) ?_ ?_ (rJ) ?_;(focus(solve|exact .refl _));(focus(solve|(repeat' first|exact dj.nil|apply dj.cons|apply jA.c|apply jA.agg|exact jV.nil|apply jV.cons|exact c4.d|exact c4.nil|exact c4.np|(refine c4.cR ?_ (eh _ _);(focus(solve|simp)))|(refine c4.cR ?_ (eS _ _ _);(focus(solve|simp))))));rintro _ _ ⟨rfl,rfl⟩)|(refine aJ (L2:=(dt 25 (bE e.ty.kids k),v1)::(nE 25 28 e.kids,v3)::[]) ?_ ?_ (zo) ?_;(focus(solve|exact List.Perm.swap _ _ _));(focus(solve|(repeat' first|exact dj.nil|apply dj.cons|apply jA.c|apply jA.agg|exact jV.nil|apply jV.cons|exact c4.d|exact c4.nil|exact c4.np|(refine c4.cR ?_ (eh _ _);(focus(solve|simp)))|(refine c4.cR ?_ (eS _ _ _);(focus(solve|simp))))));rintro _ _ ⟨rfl,rfl⟩)|(refine aJ (L2:=(dt 25 (bE e.fr.kids k2),v2)::(dt 25 (bE e.ty.kids k),v1)::[]) ?_ ?_ (Fo) ?_;(focus(solve|exact(List.Perm.cons _ (List.Perm.swap _ _ _)).trans (List.Perm.swap _ _ _)));(focus(solve|(repeat' first|exact dj.nil|apply dj.cons|apply jA.c|apply jA.agg|exact jV.nil|apply jV.cons|exact c4.d|exact c4.nil|exact c4.np|(refine c4.cR ?_ (eh _ _);(focus(solve|simp)))|(refine c4.cR ?_ (eS _ _ _);(focus(solve|simp))))));rintro _ _ ⟨rfl,rfl⟩));simp;(try(refine J2 ?_ ?_<;>intro hq<;>try simp at hq)))|refine TJ.rs (fun _=>false) fun K hK=>?_
 refine TJ.ret (bk.agg (Or.inr rfl) (r:=.i k4) (r':=.i k4) (L':=[(dt 25 (bE e.ty.kids k),v1),(dt 25 (bE e.fr.kids k2),v2),(nE 25 28 (bW e.kids k3),v3)]) (M:=[]) (by simp[Tryz.results31]) (by simp[DV.eM]) ?_ ⟨rfl,rfl⟩);rw[ad0];exact(ad2 _).symm
end Go.Proofs.YtloolmchekcmeaaGreat
namespace Go.Proofs.YtloolmchekcmeaaGreat
attribute [-simp] Go.Av.bN Go.Av.IT.gK Go.Av.IT.eH Go.Av.IT.ey Go.Av.IT.gj Go.Av.IT.gL Go.Av.IT.gM Go.Av.IT.gN Go.Av.IT.gO Go.Av.IT.e8 Go.Av.fh
open Go Go.Av
attribute [local irreducible] T ah TX EX LX dA dB bL b5 eK aF.kind aF.kids ak.kind ak.name ak.num ak.ty ak.fr ak.label ak.kids
attribute [local simp] aN au
set_option maxHeartbeats 16000000
set_option maxRecDepth 8000
theorem xC (l:List ak) (k:Nat) (hk:k+dm l<=1099511627776) (h:∀t∈l,∀(k:Nat),k+dm t.kids<=1099511627776->ah adW 77 [.l ((bW t.kids k).map eK),.i (k:Int)] [] (.i ((k+dm t.kids:Nat):Int)) [] []):
  ah adW 77 [.l ((bW l k).map eK),.i (k:Int)] [] (.i ((k+dm l:Nat):Int)) [] []:=by
 have hlen:=xe l;obtain⟨Z,hZ⟩:∃Z,Z=bW l k:=⟨_,rfl⟩;have JZ:Z.length=l.length:=by rw[hZ,fF]
 rw[<-hZ];refine ah.ob Tryz.func77 Tryz.ntmps77 rfl ?_;repeat' first|(refine ab (hK _ ?_);clear hK K)|(refine ae ?_;simp;(try(refine gen2 ?_ ?_<;>intro hq<;>try simp at hq)))|refine T.r0 fun K hK=>?_|refine T.seq ?_|refine T.block ?_
 refine T.dr (α:=Nat) [0] (fun j=>[(1,.i ((k+dm (l.take j):Nat):Int)),(5,.i j)]) (fun _=>[]) (fun _=>[]) (fun j _=>[]) (fun j=>l.length+1-j) (fun j=>j<=l.length) (by simp;rfl) (fun j hj=>?_) 0 (by simp) (by simp) (by simp) (by simp[dm]);dsimp only at hj⊢;simp only[gI,adZ,adY];by_cases ax:j<l.length
 ·obtain⟨u,hu⟩:=bz ax;have Di:u∈l:=ad3 hu;have hle:=so l (j+1);have Hv:=pj hu;rw[nH]at Hv;have KP:Z[j]? =some (ri u (k+dm (l.take j))):=by rw[hZ];exact FE hu
  obtain⟨kj,Gl⟩:∃kj,kj=k+dm (l.take j):=⟨_,rfl⟩;have Dv:((k+dm (l.take (j+1)):Nat):Int)=((kj+6+aL u.ty.kids+aL u.fr.kids+dm u.kids:Nat):Int):=by rw[Hv,Gl];congr 1;omega
  rw[<-Gl]at KP⊢;have R2:=uN (kj+1) (by omega) (by omega);have rJ:=kH u.ty.kids (kj+4) (by omega);have zo:=kH u.fr.kids (kj+5+aL u.ty.kids) (by omega);have Fo:=h u Di (kj+6+aL u.ty.kids+aL u.fr.kids) (by omega);have bg:∀h,Z[j]'h=ri u kj:=fun hh=>by rw[ad5 hh]at KP;exact Option.some.inj KP
  rw[xc]at bg;generalize bE u.ty.kids (kj+4)=q1 at*;generalize bE u.fr.kids (kj+5+aL u.ty.kids)=q2 at*;generalize bW u.kids (kj+6+aL u.ty.kids+aL u.fr.kids)=q3 at*;generalize aL u.ty.kids=na at*;generalize aL u.fr.kids=nb at*;generalize dm u.kids=nc at*;rw[show((kj+5+na:Nat):Int)=(kj:Int)+4+(na:Int)+1 by omega]at zo;rw[show((kj+6+na+nb:Nat):Int)=(kj:Int)+5+(na:Int)+(nb:Int)+1 by omega]at Fo;have f1:¬((kj:Int)+4+na<0):=by omega
  have f2:¬((kj:Int)+5+na+nb<0):=by omega
  have f3:¬((kj:Int)+6+na+nb+nc<0):=by omega
  have f4:((kj:Int)+2=kj+1+1):=by omega
  have f5:((kj:Int)+3=kj+1+1+1):=by omega
  repeat' first|((first|refine ab (hK _ ?_)|refine aB (hK _ ?_));clear hK K)|((first|refine ae ?_|refine aG ?_|refine aa rfl (R2) ?_|refine aa rfl (rJ) ?_|refine aa rfl (zo) ?_|refine aa rfl (Fo) ?_);simp[ax,JZ,bg,f1,f2,f3,f4,f5];(try simp(disch:=omega)only[wrap64]);(try(refine gen2 ?_ ?_<;>intro hq<;>try simp[ax,JZ,bg,f1,f2,f3,f4,f5]at hq)))|(refine⟨j+1,by dsimp only;omega,by dsimp only;omega,?_⟩;(dsimp only;rw[Dv];simp(disch:=omega) [wrap64]))|refine T.rd (id:=7) mixed (fun _=>false) [] (by kernel_rfl) fun K hK=>?_|refine T.r0 fun K hK=>?_|refine T.r1 fun K hK=>?_|refine T.ct rfl ?_|refine T.cf rfl ?_|refine T.seq ?_|refine T.block ?_|refine T.skip ?_
 ·have eb:j=l.length:=by omega
  subst eb;repeat' first|(refine ab (hK _ ?_);clear hK K)|(refine ae ?_;simp[ax,JZ];(try(refine gen2 ?_ ?_<;>intro hq<;>try simp[ax,JZ]at hq)))|(refine T.ret (az.data (Or.inr rfl) ?_ ?_)<;>simp[Tryz.results77]<;>omega)|refine T.r0 fun K hK=>?_|refine T.cf rfl ?_|refine T.seq ?_|refine T.exit ?_
theorem sD:(l:List ak)->(k:Nat)->k+dm l<=1099511627776->ah adW 77 [.l ((bW l k).map eK),.i (k:Int)] [] (.i ((k+dm l:Nat):Int)) [] []
 |l,k,hk=>xC l k hk (fun t ht k hk=>sD t.kids k hk)
termination_by l=>SizeOf.sizeOf l
decreasing_by have:=ad1 ht;cases t;simp at*;omega
def Iq (e:ak) (k:Nat):ak:=.mk e.kind e.name e.num (.mk e.ty.kind (bE e.ty.kids k)) (.mk e.fr.kind (bE e.fr.kids (k+aL e.ty.kids))) e.label (bW e.kids (k+aL e.ty.kids+aL e.fr.kids))
theorem Cf (e:ak) (k:Nat) (hk:k+JK e<=1099511627776):ah adW 33 [cE (Iq e k),.i (k:Int)] [] (.i ((k+aL e.ty.kids+aL e.fr.kids+dm e.kids:Nat):Int)) [] []:=by
 rw[nH]at hk;have h1:=pA e.ty.kind e.ty.kids k (by omega);have h2:=pA e.fr.kind e.fr.kids (k+aL e.ty.kids) (by omega);have h3:=sD e.kids (k+aL e.ty.kids+aL e.fr.kids) (by omega);rw[Iq];generalize bE e.ty.kids k=q1 at*;generalize bE e.fr.kids (k+aL e.ty.kids)=q2 at*;generalize bW e.kids (k+aL e.ty.kids+aL e.fr.kids)=q3 at*;have f1:¬(((k+aL e.ty.kids:Nat):Int)<0):=by omega
 have f2:¬(((k+aL e.ty.kids+aL e.fr.kids:Nat):Int)<0):=by omega
 have f3:¬(((k+aL e.ty.kids+aL e.fr.kids+dm e.kids:Nat):Int)<0):=by omega
 generalize ((k+aL e.ty.kids+aL e.fr.kids+dm e.kids:Nat):Int)=k3 at*;generalize ((k+aL e.ty.kids+aL e.fr.kids:Nat):Int)=k2 at*;generalize ((k+aL e.ty.kids:Nat):Int)=k1 at*;refine ah.ob Tryz.func33 Tryz.ntmps33 rfl ?_;repeat' first|(refine ab (hK _ ?_);clear hK K)|((first|refine ae ?_|(refine aa ?_ (h1) ?_;(focus(solve|simp[f1,f2,f3])))|(refine aa ?_ (h2) ?_;(focus(solve|simp[f1,f2,f3])))|refine aa rfl (h3) ?_);simp[f1,f2,f3];(try(refine gen2 ?_ ?_<;>intro hq<;>try simp[f1,f2,f3]at hq)))|(refine T.ret (az.data (Or.inr rfl) ?_ ?_)<;>simp[Tryz.results33]<;>omega)|refine T.r0 fun K hK=>?_|refine T.cf rfl ?_|refine T.seq ?_|refine T.skip ?_
theorem xD (c:Int) (l:List aF) (k:Nat) (hk:k+aL l<=1099511627776):ah adW 34 [.agg [.d (.i c),.d (.sl ((bE l k).map b5))],.i (k:Int)] [] (.i ((k+aL l:Nat):Int)) [] []:=by
 have h:=pA c l k hk;simp only[ec,aF.cb,aF.bD]at h;exact h
theorem xE (e:ak) (k:Nat) (hk:k+JK e<=1099511627776):ah adW 33 [.agg [.d (.i e.kind),.d (.str e.name),.d (.i e.num),.d (.i e.ty.kind),.d (.sl ((bE e.ty.kids k).map b5)),.d (.i e.fr.kind),.d (.sl ((bE e.fr.kids (k+aL e.ty.kids)).map b5)),.d (.i e.label),.d (.sl ((bW e.kids (k+aL e.ty.kids+aL e.fr.kids)).map eK))],.i (k:Int)] [] (.i ((k+aL e.ty.kids+aL e.fr.kids+dm e.kids:Nat):Int)) [] []:=by
 have h:=Cf e k hk;simp only[Iq,cE,ec,aF.cb,aF.bD,ak.cb,ak.gu,ak.ng,ak.jI,ak.jJ,ak.iR,ak.bD]at h;exact h
end Go.Proofs.YtloolmchekcmeaaGreat
