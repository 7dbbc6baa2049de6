/- A part. -/
import Derived.Test.YtloolmchekcmeaaGreatXE20
set_option linter.unusedVariables false
set_option linter.unusedSimpArgs false
open Go.Proofs.Tryz renaming prog->abg
open Option renaming bind->abh
open List renaming getElem?_eq_getElem->abi,take_add_one->abj,set_cons_zero->abk,set_cons_succ->abl,nil_append->abm,getElem?_map->abn,drop_eq_getElem_cons->abo,cons_append->abp,append_nil->abq,take_of_length_le->abr,mem_of_getElem?->abt,length_take->abu,getElem?_eq_some_iff->abv
namespace Go.Proofs.YtloolmchekcmeaaGreat
attribute [-simp] Go.Av.cb Go.Av.eL Go.Av.fj Go.Av.fa Go.Av.cT Go.Av.b9
open Go Go.Av
attribute [local irreducible] T ah TX EX LX bw dh bR cA gA aE.kind aE.kids ao.kind ao.name ao.num ao.ty ao.fr ao.label ao.kids
attribute [local simp] aQ ax
set_option maxHeartbeats 16000000
set_option maxRecDepth 8000
@[simp] theorem OP:td abg 132=some {ag:=true,sz:=26,lG:=26,zero:=some (Ru UL),el:=none,ar:=some (26,4),fl:=[],ik:=none,cL:=false,nj:=false}:=dI (by kernel_rfl)
end Go.Proofs.YtloolmchekcmeaaGreat
namespace Go.Proofs.YtloolmchekcmeaaGreat
attribute [-simp] Go.Av.cb Go.Av.eL Go.Av.fj Go.Av.fa Go.Av.cT Go.Av.b9
open Go Go.Av
attribute [local irreducible] T ah TX EX LX bw dh bR cA gA aE.kind aE.kids ao.kind ao.name ao.num ao.ty ao.fr ao.label ao.kids
attribute [local simp] aQ ax
set_option maxHeartbeats 16000000
set_option maxRecDepth 8000
attribute [local simp] abh
abbrev Te (o:Option ao):List AV:=match o with
 |some x=>[c6 x,.i 1]
 |none=>[c6 e0,.i 3]
end Go.Proofs.YtloolmchekcmeaaGreat
namespace Go.Proofs.YtloolmchekcmeaaGreat
attribute [-simp] Go.Av.cb Go.Av.eL Go.Av.fj Go.Av.fa Go.Av.cT Go.Av.b9
open Go Go.Av
attribute [local irreducible] T ah TX EX LX bw dh bR cA gA aE.kind aE.kids ao.kind ao.name ao.num ao.ty ao.fr ao.label ao.kids
attribute [local simp] aQ ax
set_option maxHeartbeats 16000000
set_option maxRecDepth 8000
def US (l:List aE) (p:Nat):Nat:=((l.take p).map vV).sum
@[simp] theorem PU:td abg 188=some {ag:=false,sz:=1,lG:=8,zero:=some [.d (.int .u64 0)],el:=none,ar:=none,fl:=[],ik:=some .u64,cL:=false,nj:=false}:=dI (by kernel_rfl)
@[simp] theorem OQ:td abg 77=some {ag:=false,sz:=1,lG:=24,zero:=some [.nil],el:=some 3,ar:=none,fl:=[],ik:=none,cL:=false,nj:=false}:=dI (by kernel_rfl)
def UT (e:ao):Int:=if lr e=true then((DI e).length:Int)-(DI (KY e)).length else 0
abbrev Tf (e:ao):AV:=.agg [.d (.i e.kind),.d (.str e.name),.d (.i e.num),.d (.i e.ty.kind),.d (.sl (e.ty.kids.map cA)),.d (.i e.fr.kind),.d (.sl (e.fr.kids.map cA)),.d (.i e.label),.own 0 e.kids.length]
def UU (l:List ao) (p:Nat):List ao:=(l.map KY).take p++l.drop p
end Go.Proofs.YtloolmchekcmeaaGreat
namespace Go.Proofs.YtloolmchekcmeaaGreat
attribute [-simp] Go.Av.cb Go.Av.eL Go.Av.fj Go.Av.fa Go.Av.cT Go.Av.b9
open Go Go.Av
attribute [local irreducible] T ah TX EX LX bw dh bR cA gA aE.kind aE.kids ao.kind ao.name ao.num ao.ty ao.fr ao.label ao.kids
attribute [local simp] aQ ax
set_option maxHeartbeats 16000000
set_option maxRecDepth 8000
attribute [local simp] abh
abbrev Tg (p:ao×Int×Int):List AV:=[c6 p.1,.i p.2.1,.i p.2.2]
abbrev UW (p:ao×Int×Int×Int):List AV:=[c6 p.1,.i p.2.1,.i p.2.2.1,.i p.2.2.2]
abbrev UX (e:ao):List AV:=match K0 e with
 |some x=>[c6 x,.i 1,.i 0]
 |none=>[c6 e0,.i 2,.i (Im e.kind)]
def Th (p:ao×Int×Int):ao×Int×Int:=if p.2.1=1 then(p.1,1,0)else(e0,p.2.1,p.2.2)
def VQ (p:ao×Int×Int×Int):ao×Int×Int×Int:=if p.2.1=1 then(e0,5,0,p.2.2.2)else p
end Go.Proofs.YtloolmchekcmeaaGreat
namespace Go.Proofs.YtloolmchekcmeaaGreat
attribute [-simp] Go.Av.cb Go.Av.eL Go.Av.fj Go.Av.fa Go.Av.cT Go.Av.b9
open Go Go.Av
attribute [local irreducible] T ah TX EX LX bw dh bR cA gA aE.kind aE.kids ao.kind ao.name ao.num ao.ty ao.fr ao.label ao.kids
attribute [local simp] aQ ax
set_option maxHeartbeats 16000000
set_option maxRecDepth 8000
def Ti (e:ao) (f t:aE) (l:Int):ao:=if ez f t=true then e else Ey e f t l
theorem DP (e:ao) (dt:¬e.kind=13) (gk:¬e.kind=14) (h5:e.kind=5) (hn:fy e<=1073741824)
  (ih:∀u∈e.kids,ah abg 43 [c6 u] [] (c6 (mapM aS u)) [] []):ah abg 43 [c6 e] [] (c6 (.mk e.kind e.name e.num kD bx 0 (e.kids.map (mapM aS)))) [] []:=by
 have RC:e.kids.length<=1073741824:=by have:=px e.kids;rw[jO]at hn;omega
 have qC:=mU;refine ah.ob Tryz.func43 Tryz.ntmps43 rfl ?_;repeat' first|(refine ab (hK _ ?_);clear hK K)|((first|refine af ?_|refine aa rfl (qC) ?_);simp[dt,gk,h5];(try(refine gen2 ?_ ?_<;>intro hq<;>try simp[dt,gk,h5]at hq)))|refine T.r0 fun K hK=>?_|refine T.r1 fun K hK=>?_|refine T.ct rfl ?_|refine T.cf rfl ?_|refine T.seq ?_|refine T.block ?_|refine T.skip ?_
 refine T.dM 2 8 9 28 (row:=[.d (.i 5),.d (.str e.name),.d (.i e.num),.d (.i 1),.d (.sl []),.d (.i 0),.nil,.d (.i 0),.nil]) (by simp) (by simp) ?_;refine T.dA (α:=Nat) [1,2,3] (fun x=>[(4,.i x)]) (fun x=>[(2,[.d (.i 5),.d (.str e.name),.d (.i e.num),.d (.i 1),.d (.sl []),.d (.i 0),.nil,.d (.i 0),.own 0 x])]) (fun x=>[]) (fun p _=>[{sz:=9,eJ:=28,rows:=((e.kids.map (mapM aS)).take p).map gA,wr:=true}]) (fun x=>e.kids.length+1-x) (fun x=>x<=e.kids.length) (by simp;rfl) (fun p hp=>?_) 0 (by simp) (by simp) (by simp) (by simp);dsimp only at hp⊢;simp only[gi,abk,abl,abp,abm,abq];by_cases az:p<e.kids.length
 ·obtain⟨u,ht⟩:=bX az;have fz:u∈e.kids:=abt ht;have a8:e.kids[p]=u:=by rw[abi az]at ht;exact Option.some.inj ht
  have jb:e.kids.drop p=u::e.kids.drop (p+1):=by rw[abo az,a8]
  have hu:=ih u fz;have qe:(e.kids.map (mapM aS)).take (p+1)=(e.kids.map (mapM aS)).take p++[mapM aS u]:=by rw[abj,abn,ht];rfl
  have qc:min p (e.kids.map (mapM aS)).length=p:=by simp;omega
  generalize e.kids.map (mapM aS)=Z at*;generalize mapM aS u=su at*;repeat' first|((first|refine ab (hK _ ?_)|refine aA (hK _ ?_));clear hK K)|((first|refine af ?_|refine aG ?_|refine aa rfl (hu) ?_);simp[az,a8,qc];(try simp(disch:=omega)only[wrap64]);(try(refine gen2 ?_ ?_<;>intro hq<;>try simp[az,a8,qc]at hq)))|(refine⟨by omega,by omega,?_⟩)|(refine⟨p+1,by dsimp only;omega,by dsimp only;omega,?_,?_,?_⟩<;>simp(disch:=omega) [gi,wrap64,qe,ax,qc])|refine T.yi (id:=9) mixed (fun _=>false) [9,11] (by kernel_rfl) fun K hK=>?_|refine T.r0 fun K hK=>?_|refine T.r1 fun K hK=>?_|refine T.ct rfl ?_|refine T.seq ?_|refine T.block ?_|refine T.skip ?_
 ·have fX:p=e.kids.length:=by omega
  subst fX;have qc:(e.kids.map (mapM aS)).length=e.kids.length:=by simp
  rw[abr (by omega)];generalize e.kids.map (mapM aS)=Z at*;repeat' first|(refine ab (hK _ ?_);clear hK K)|(refine af ?_;simp[az,qc];(try(refine gen2 ?_ ?_<;>intro hq<;>try simp[az,qc]at hq)))|(refine T.ret (aD.val (Or.inr rfl) ?_)<;>simp[aF,Tryz.results43,qc,h5]<;>omega)|refine T.r0 fun K hK=>?_|refine T.cf rfl ?_|refine T.seq ?_|refine T.exit ?_
theorem DQ (e:ao) (dt:¬e.kind=13) (gk:¬e.kind=14) (h5:¬e.kind=5) (hn:fy e<=1073741824)
  (ih:∀u∈e.kids,ah abg 43 [c6 u] [] (c6 (mapM aS u)) [] []):ah abg 43 [c6 e] [] (c6 (.mk e.kind e.name e.num bx bx 0 (e.kids.map (mapM aS)))) [] []:=by
 have RC:e.kids.length<=1073741824:=by have:=px e.kids;rw[jO]at hn;omega
 have qC:=mU;refine ah.ob Tryz.func43 Tryz.ntmps43 rfl ?_;repeat' first|(refine ab (hK _ ?_);clear hK K)|(refine af ?_;simp[dt,gk,h5];(try(refine gen2 ?_ ?_<;>intro hq<;>try simp[dt,gk,h5]at hq)))|refine T.r0 fun K hK=>?_|refine T.cf rfl ?_|refine T.seq ?_|refine T.block ?_|refine T.skip ?_
 refine T.dM 2 8 9 28 (row:=[.d (.i e.kind),.d (.str e.name),.d (.i e.num),.d (.i 0),.nil,.d (.i 0),.nil,.d (.i 0),.nil]) (by simp) (by simp) ?_;refine T.dA (α:=Nat) [1,2,3] (fun x=>[(4,.i x)]) (fun x=>[(2,[.d (.i e.kind),.d (.str e.name),.d (.i e.num),.d (.i 0),.nil,.d (.i 0),.nil,.d (.i 0),.own 0 x])]) (fun x=>[]) (fun p _=>[{sz:=9,eJ:=28,rows:=((e.kids.map (mapM aS)).take p).map gA,wr:=true}]) (fun x=>e.kids.length+1-x) (fun x=>x<=e.kids.length) (by simp;rfl) (fun p hp=>?_) 0 (by simp) (by simp) (by simp) (by simp);dsimp only at hp⊢;simp only[gi,abk,abl,abp,abm,abq];by_cases az:p<e.kids.length
 ·obtain⟨u,ht⟩:=bX az;have fz:u∈e.kids:=abt ht;have a8:e.kids[p]=u:=by rw[abi az]at ht;exact Option.some.inj ht
  have jb:e.kids.drop p=u::e.kids.drop (p+1):=by rw[abo az,a8]
  have hu:=ih u fz;have qe:(e.kids.map (mapM aS)).take (p+1)=(e.kids.map (mapM aS)).take p++[mapM aS u]:=by rw[abj,abn,ht];rfl
  have qc:min p (e.kids.map (mapM aS)).length=p:=by simp;omega
  generalize e.kids.map (mapM aS)=Z at*;generalize mapM aS u=su at*;repeat' first|((first|refine ab (hK _ ?_)|refine aA (hK _ ?_));clear hK K)|((first|refine af ?_|refine aG ?_|refine aa rfl (hu) ?_);simp[az,a8,qc];(try simp(disch:=omega)only[wrap64]);(try(refine gen2 ?_ ?_<;>intro hq<;>try simp[az,a8,qc]at hq)))|(refine⟨by omega,by omega,?_⟩)|(refine⟨p+1,by dsimp only;omega,by dsimp only;omega,?_,?_,?_⟩<;>simp(disch:=omega) [gi,wrap64,qe,ax,qc])|refine T.yi (id:=9) mixed (fun _=>false) [9,11] (by kernel_rfl) fun K hK=>?_|refine T.r0 fun K hK=>?_|refine T.r1 fun K hK=>?_|refine T.ct rfl ?_|refine T.seq ?_|refine T.block ?_|refine T.skip ?_
 ·have fX:p=e.kids.length:=by omega
  subst fX;have qc:(e.kids.map (mapM aS)).length=e.kids.length:=by simp
  rw[abr (by omega)];generalize e.kids.map (mapM aS)=Z at*;repeat' first|(refine ab (hK _ ?_);clear hK K)|(refine af ?_;simp[az,qc];(try(refine gen2 ?_ ?_<;>intro hq<;>try simp[az,qc]at hq)))|(refine T.ret (aD.val (Or.inr rfl) ?_)<;>simp[aF,Tryz.results43,qc,h5]<;>omega)|refine T.r0 fun K hK=>?_|refine T.cf rfl ?_|refine T.seq ?_|refine T.exit ?_
theorem Gc (nt:Int):∀(e:ao) (d:Nat),kP nt d e->fy e<=1073741824->ah abg 43 [c6 e] [] (c6 (mapM aS e)) [] []:=by
 intro e;induction e using ao.ind with
 |h e ih=>
  intro d hv hn;obtain⟨dG,Ad⟩:=hv.plain;obtain⟨d',rfl,_,_,_,hk⟩:=gH hv.shape;have ih':∀u∈e.kids,ah abg 43 [c6 u] [] (c6 (mapM aS u)) [] []:=fun u hu=>ih u hu d' (kP.of (hk u hu)) (by have:=wR hu;rw[jO]at hn;omega)
  by_cases hh:e.kind=13\/e.kind=14
  ·obtain⟨x,hx⟩:=dG hh;have h1:=ih' x (by simp[hx]);rw[show mapM aS e=mapM aS x by rw[sw];simp[aS,hh,hx]];generalize mapM aS x=R at*;rcases hh with hh|hh
   ·refine ah.ob Tryz.func43 Tryz.ntmps43 rfl ?_;repeat' first|(refine ab (hK _ ?_);clear hK K)|((first|refine af ?_|(refine aa ?_ (h1) ?_;(focus(solve|simp[hh,hx,ax]))));simp[hh,hx,ax];(try(refine gen2 ?_ ?_<;>intro hq<;>try simp[hh,hx,ax]at hq)))|(refine T.ret (aD.val (Or.inr rfl) ?_)<;>simp[aF,Tryz.results43]<;>omega)|refine T.r0 fun K hK=>?_|refine T.ct rfl ?_|refine T.seq ?_
   ·refine ah.ob Tryz.func43 Tryz.ntmps43 rfl ?_;repeat' first|(refine ab (hK _ ?_);clear hK K)|((first|refine af ?_|(refine aa ?_ (h1) ?_;(focus(solve|simp[hh,hx,ax]))));simp[hh,hx,ax];(try(refine gen2 ?_ ?_<;>intro hq<;>try simp[hh,hx,ax]at hq)))|(refine T.ret (aD.val (Or.inr rfl) ?_)<;>simp[aF,Tryz.results43]<;>omega)|refine T.r0 fun K hK=>?_|refine T.ct rfl ?_|refine T.seq ?_
  ·obtain⟨hf,hl,ht⟩:=Ad hh;have dt:¬e.kind=13:=fun h=>hh (.inl h)
   have gk:¬e.kind=14:=fun h=>hh (.inr h)
   by_cases h5:e.kind=5
   ·rw[show mapM aS e=.mk e.kind e.name e.num kD bx 0 (e.kids.map (mapM aS)) by rw[sw];simp[aS,h5,hf,hl]];exact DP e dt gk h5 hn ih'
   ·rw[show mapM aS e=.mk e.kind e.name e.num bx bx 0 (e.kids.map (mapM aS)) by rw[sw];simp[aS,hh,h5,hf,hl,ht h5]];exact DQ e dt gk h5 hn ih'
end Go.Proofs.YtloolmchekcmeaaGreat
namespace Go.Proofs.YtloolmchekcmeaaGreat
attribute [-simp] Go.Av.cb Go.Av.eL Go.Av.fj Go.Av.fa Go.Av.cT Go.Av.b9
open Go Go.Av
attribute [local irreducible] T ah TX EX LX bw dh bR cA gA aE.kind aE.kids ao.kind ao.name ao.num ao.ty ao.fr ao.label ao.kids
attribute [local simp] aQ ax
set_option maxHeartbeats 16000000
set_option maxRecDepth 8000
attribute [local simp] abh
def sN (l:List aE):List aE:=l.map fun t=>if t.kind=1 then bP else t
theorem xJ (l:List aE):(sN l).length=l.length:=by simp[sN]
def lz (l:List aE) (j:Nat):List (List DV):=(sN (l.take j)++l.drop j).map cA
theorem Gd (l:List aE) (j:Nat) (h:j<=l.length):(lz l j).length=l.length:=by simp[lz,sN];omega
theorem Cg {l:List aE} {j:Nat} {u:aE} (h:l[j]? =some u):(lz l j)[j]? =some (cA u):=by
 have az:=(abv.1 h).1;have hl:(sN (l.take j)).length=j:=by rw[xJ,abu];omega
 rw[lz,abn,List.getElem?_append_right (by omega),hl,Nat.sub_self,List.getElem?_drop,Nat.add_zero,h]
 rfl
theorem xK {l:List aE} {j:Nat} {u:aE} (h:l[j]? =some u):lz l (j+1)=(lz l j).set j (cA (if u.kind=1 then bP else u)):=by
 have az:=(abv.1 h).1;have hl:(sN (l.take j)).length=j:=by rw[xJ,abu];omega
 have hd:l.drop j=u::l.drop (j+1):=by rw[abo az];congr 1;rw[abi az]at h;exact Option.some.inj h
 have ht:sN (l.take (j+1))=sN (l.take j)++[if u.kind=1 then bP else u]:=by rw[abj,h];simp[sN]
 simp only[lz,ht,List.map_append,hd,List.map_cons];rw[List.set_append_right _ _ (by simp[hl])];simp[hl]
theorem DR {l:List aE} {j:Nat} {u:aE} (h:l[j]? =some u) (hk:¬u.kind=1):lz l (j+1)=lz l j:=by
 rw[xK h,if_neg hk];apply List.ext_getElem?;intro i;rw[List.getElem?_set];split
 ·rename_i e;subst e;split
  ·rw[Cg h]
  ·rename_i hn;rw[List.getElem?_eq_none (by omega)]
 ·rfl
theorem DT (l:List aE):lz l 0=l.map cA:=by simp[lz,sN]
theorem Gf (l:List aE):lz l l.length=(sN l).map cA:=by simp[lz]
theorem DU (b:List Int) (hb:okB b) (p:Nat) (hp:p+20000000<=1099511627776):bw abg 37 [] b p 20000000 (RV c6 wc fun e=>fy e<=2000000):=by
 refine bw.cx Tryz.func37 (by kernel_rfl) rfl (by kernel_rfl) (by simp[Tryz.ntmps37]) ?_;rw[Tryz.ntmps37];repeat' first|(refine ab (hK _ ?_);clear hK K)|(refine af ?_;simp;(try simp(disch:=omega)only[wrap64]);(try(refine gen2 ?_ ?_<;>intro hq<;>try simp at hq)))|(refine jt rfl (pO _ (by omega)) ?_;simp;(try simp(disch:=omega)only[wrap64]);(try(refine gen2 ?_ ?_<;>intro hq<;>try simp at hq)))|((first|refine aB 0 rfl rfl (jy b hb 1 (by omega) _ (by omega)) (fun t p1 ht dG b8=>?_)|(refine aB 0 rfl rfl (iA b hb _ (by omega) [3,4,2,5] (by simp) (by simp)) (fun z p1 hz dG b8=>?_);simp at hz)|refine aB 0 rfl rfl (Dv b hb [] (by simp) (by simp) _ (by assumption) _ (by omega) (by omega) _ (by omega)) (fun e p1 he dG b8=>?_));simp)|refine TX.rs (id:=0) (fun _=>false) fun K hK=>?_|refine TX.rs (id:=1) (fun _=>false) fun K hK=>?_|refine TX.rs (id:=2) (fun _=>false) fun K hK=>?_|refine TX.rs (id:=3) (fun _=>false) fun K hK=>?_|refine TX.seq ?_|refine TX.block ?_
 have OR:(dP e).length<=2000001:=by
  rw[dP];split
  ·have:=(nS e).2;omega
  ·simp
 have hi:=BI;have eM:∀t∈dP e,gl t<=2000001:=fun t ht=>by
  rw[dP]at ht;split at ht
  ·have:=(nS e).1;have:=ig ht;omega
  ·cases ht
 have kW:=yR e (sN (dP e)) (by omega) (fun t ht=>by
  obtain⟨u,hu,rfl⟩:=List.mem_map.1 ht;have:=eM u hu;split
  ·simp[bP,cH,cY]
  ·omega) (by rw[xJ];omega)
 have UY:∀x,jz e (sN (dP e))=some x->fy x<=9000:=fun x h=>vi (xl h).2.1
 generalize jz e (sN (dP e))=W at*;generalize dP e=l at*;refine TX.dA (α:=Nat) [0,2,3,4] (fun j=>[(5,.i j)]) (fun _=>[]) (fun _=>[]) (fun j _=>[{sz:=2,eJ:=25,rows:=lz l j,wr:=true}]) (fun j=>l.length-j) (fun j=>j<=l.length) (by simp;rfl) (fun j hj=>?_) 0 (by simp) (by simp) (by simp[DT]) (by simp);dsimp only at hj⊢;simp only[gi,abk,abl,abp,abm,abq];have ni:=Gd l j hj;by_cases az:j<l.length
 ·obtain⟨u,hu⟩:=bX az;have h1:=Cg hu;have a8:∀h,(lz l j)[j]'h=cA u:=fun h=>by rw[abi h]at h1;exact Option.some.inj h1
  by_cases hk:u.kind=1
  ·have hn:=xK hu;rw[if_pos hk,show cA bP=[.i 2,.sl []] by simp[aQ,bP]]at hn;repeat' first|(refine ab (hK _ ?_);clear hK K)|((first|refine af ?_|refine aa rfl (hi) ?_);simp[az,ni,a8,aQ u,hk];(try simp(disch:=omega)only[wrap64]);(try(refine gen2 ?_ ?_<;>intro hq<;>try simp[az,ni,a8,aQ u,hk]at hq)))|(refine EX.next (j+1) (by omega) (by omega) ⟨by simp,by rw[hn],?_⟩;simp(disch:=omega) [wrap64])|refine TX.rs (fun _=>false) fun K hK=>?_|refine TX.eH (fun _=>false) fun K hK=>?_|refine TX.cond rfl (fun al=>?_) (fun al=>absurd al (by decide))|refine TX.seq ?_|refine TX.block ?_|refine TX.skip ?_|refine EX.ij ?_|refine EX.gQ ?_
  ·have hn:=DR hu hk;repeat' first|(refine ab (hK _ ?_);clear hK K)|(refine af ?_;simp[az,ni,a8,aQ u,hk];(try simp(disch:=omega)only[wrap64]);(try(refine gen2 ?_ ?_<;>intro hq<;>try simp[az,ni,a8,aQ u,hk]at hq)))|(refine EX.next (j+1) (by omega) (by omega) ⟨by simp,by simp[hn],?_⟩;simp(disch:=omega) [wrap64])|refine TX.rs (fun _=>false) fun K hK=>?_|refine TX.eH (fun _=>false) fun K hK=>?_|refine TX.cond rfl (fun al=>?_) (fun al=>absurd al (by decide))|refine TX.cond rfl (fun al=>absurd al (by decide)) (fun al=>?_)|refine TX.seq ?_|refine TX.block ?_|refine TX.skip ?_|refine EX.ij ?_|refine EX.gQ ?_
 ·have iZ:j=l.length:=by omega
  subst iZ;rw[Gf]at ni⊢;rw[List.length_map]at ni;cases W with
  |none=>
   simp only[xk]at kW;repeat' first|(refine ab (hK _ ?_);clear hK K)|((first|refine af ?_|(refine aa ?_ (kW) ?_;(focus(solve|simp[az,ni,ax e]))));simp[az,ni,ax e];(try simp(disch:=omega)only[wrap64]);(try(refine gen2 ?_ ?_<;>intro hq<;>try simp[az,ni,ax e]at hq)))|(refine aB 0 rfl rfl (vj b hb _ (by omega)) (fun x1 p1 dn dG b8=>?_);simp[az,ni,ax e];(try simp(disch:=omega)only[wrap64]);(try(refine gen2 ?_ ?_<;>intro hq<;>try simp[az,ni,ax e]at hq)))|refine TX.rs (fun _=>false) fun K hK=>?_|refine TX.cond rfl (fun al=>absurd al (by decide)) (fun al=>?_)|refine TX.seq ?_|refine TX.skip ?_|refine TX.exit ?_|refine EX.ij ?_|refine EX.oH ?_|refine EX.kE ?_|refine EX.FB ?_
   all_goals(
    refine TX.ret ?_;repeat' first|refine EX.mq ?_|refine EX.il ?_|refine EX.eV ?_|refine EX.mr ?_
    apply EX.ze (ks:=[])
    case he=>exact Or.inr rfl
    case mL=>simp[aF,dQ,Tryz.results37]<;>rfl
    case hv=>first|(dsimp only[Av.one];exact rfl)|dsimp only[Av.one]
    case hx=>repeat' first|exact ec.var _|exact bn.yD _|exact cU.var _|exact eE.row _|exact cU.row _|exact bf.nil|exact bc.nil|exact bg.nil|exact bf.map _|exact bc.map _|exact bg.map _|exact bn.int _|exact bn.str _|exact bn.bool _|apply bn.p2|apply bn.p3|apply bn.tm|apply bn.ty|apply cU.node|apply eE.of|apply bf.cons|apply bc.cons|apply bg.cons|apply bn.yk|apply bn.yE|apply bn.yF|apply ec.node|apply bf.app|apply bc.app|apply bg.app|exact IsCos.map _|exact IsCos.nil|apply bn.co|apply IsCos.cons|apply IsCos.app|apply bn.ops|exact IsOps.map _|exact IsOps.nil|apply IsOps.cons|apply IsOps.app|apply IsOps.set|apply IsOps.take
    case hA=>exact rfl
    case ml=>simp
    case hV=>exact rfl
    case h1=>omega
    case h2=>omega
    case hg=>omega)
  |some x=>
   have hx:=UY x rfl;simp only[xk]at kW;repeat' first|(refine ab (hK _ ?_);clear hK K)|((first|refine af ?_|(refine aa ?_ (kW) ?_;(focus(solve|simp[az,ni,ax e,ax x]))));simp[az,ni,ax e,ax x];(try simp(disch:=omega)only[wrap64]);(try(refine gen2 ?_ ?_<;>intro hq<;>try simp[az,ni,ax e,ax x]at hq)))|(refine aB 0 rfl rfl (dU b hb _ (by omega) 3 (by omega)) (fun x1 p1 dn dG b8=>?_);simp[az,ni,ax e,ax x];(try simp(disch:=omega)only[wrap64]);(try(refine gen2 ?_ ?_<;>intro hq<;>try simp[az,ni,ax e,ax x]at hq)))|(refine aB 0 rfl rfl (vj b hb _ (by omega)) (fun x1 p1 dn dG b8=>?_);simp[az,ni,ax e,ax x];(try simp(disch:=omega)only[wrap64]);(try(refine gen2 ?_ ?_<;>intro hq<;>try simp[az,ni,ax e,ax x]at hq)))|refine TX.rs (fun _=>false) fun K hK=>?_|refine TX.cond rfl (fun al=>?_) (fun al=>absurd al (by decide))|refine TX.cond rfl (fun al=>absurd al (by decide)) (fun al=>?_)|refine TX.seq ?_|refine TX.skip ?_|refine TX.exit ?_|refine EX.ij ?_|refine EX.oH ?_|refine EX.kE ?_|refine EX.FB ?_
   all_goals(
    refine TX.ret ?_;repeat' first|refine EX.mq ?_|refine EX.il ?_|refine EX.eV ?_|refine EX.mr ?_
    apply EX.ze (ks:=[])
    case he=>exact Or.inr rfl
    case mL=>simp[aF,dQ,Tryz.results37]<;>rfl
    case hv=>first|(dsimp only[Av.one];exact rfl)|dsimp only[Av.one]
    case hx=>repeat' first|exact ec.var _|exact bn.yD _|exact cU.var _|exact eE.row _|exact cU.row _|exact bf.nil|exact bc.nil|exact bg.nil|exact bf.map _|exact bc.map _|exact bg.map _|exact bn.int _|exact bn.str _|exact bn.bool _|apply bn.p2|apply bn.p3|apply bn.tm|apply bn.ty|apply cU.node|apply eE.of|apply bf.cons|apply bc.cons|apply bg.cons|apply bn.yk|apply bn.yE|apply bn.yF|apply ec.node|apply bf.app|apply bc.app|apply bg.app|exact IsCos.map _|exact IsCos.nil|apply bn.co|apply IsCos.cons|apply IsCos.app|apply bn.ops|exact IsOps.map _|exact IsOps.nil|apply IsOps.cons|apply IsOps.app|apply IsOps.set|apply IsOps.take
    case hA=>exact rfl
    case ml=>simp
    case hV=>exact rfl
    case h1=>omega
    case h2=>omega
    case hg=>omega)
theorem rv (b:List Int) (hb:∀n∈b,0<=n/\n<=255):dh abg 10 [.l (rB b)] (RV c6 wc fun e=>fy e<=3000000):=by
 obtain⟨b,p,hb,hp,hc⟩:=Dp b hb;refine dh.cx Tryz.func10 (by kernel_rfl) rfl (by kernel_rfl) (by simp[Tryz.ntmps10]) ?_;rw[Tryz.ntmps10];repeat' first|(refine ab (hK _ ?_);clear hK K)|(refine af ?_;simp;(try simp(disch:=omega)only[wrap64]);(try(refine gen2 ?_ ?_<;>intro hq<;>try simp at hq)))|(refine aB 1 rfl rfl (DU b hb _ (by omega)) (fun x1 p1 dn dG b8=>?_);simp;(try simp(disch:=omega)only[wrap64]);(try(refine gen2 ?_ ?_<;>intro hq<;>try simp at hq)))|(refine aB 1 rfl rfl (BP b hb _ (by omega) _ (by omega)) (fun x1 p1 dn dG b8=>?_);simp;(try simp(disch:=omega)only[wrap64]);(try(refine gen2 ?_ ?_<;>intro hq<;>try simp at hq)))|(refine Bv rfl hc ?_;simp[back])|refine TX.rs (fun _=>false) fun K hK=>?_
 all_goals(
  refine TX.ret ?_;repeat' first|refine EX.mq ?_|refine EX.il ?_|refine EX.eV ?_|refine EX.mr ?_
  apply EX.NN (ks:=[])
  case he=>exact Or.inr rfl
  case mL=>simp[aF,dQ,Tryz.results10]<;>rfl
  case hv=>first|(dsimp only[Av.one];exact rfl)|dsimp only[Av.one]
  case hx=>repeat' first|exact ec.var _|exact bn.yD _|exact cU.var _|exact eE.row _|exact cU.row _|exact bf.nil|exact bc.nil|exact bg.nil|exact bf.map _|exact bc.map _|exact bg.map _|exact bn.int _|exact bn.str _|exact bn.bool _|apply bn.p2|apply bn.p3|apply bn.tm|apply bn.ty|apply cU.node|apply eE.of|apply bf.cons|apply bc.cons|apply bg.cons|apply bn.yk|apply bn.yE|apply bn.yF|apply ec.node|apply bf.app|apply bc.app|apply bg.app|exact IsCos.map _|exact IsCos.nil|apply bn.co|apply IsCos.cons|apply IsCos.app|apply bn.ops|exact IsOps.map _|exact IsOps.nil|apply IsOps.cons|apply IsOps.app|apply IsOps.set|apply IsOps.take
  case hA=>exact rfl
  case ml=>simp
  case hg=>omega)
end Go.Proofs.YtloolmchekcmeaaGreat
