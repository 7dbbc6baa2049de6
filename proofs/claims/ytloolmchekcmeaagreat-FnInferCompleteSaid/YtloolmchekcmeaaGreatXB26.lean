/- A part. -/
import Derived.Test.YtloolmchekcmeaaGreatXB25
set_option linter.unusedVariables false
set_option linter.unusedSimpArgs false
open Option renaming bind->acZ
open List renaming take_of_length_le->ac0,take_add_one->ac1,set_cons_zero->ac2,set_cons_succ->ac3,nil_append->ac4,mem_of_getElem?->ac5,getElem?_map->ac6,getElem?_eq_getElem->ac7,drop_eq_getElem_cons->ac8,cons_append->ac9,append_nil->ada
namespace Go.Proofs.YtloolmchekcmeaaGreat
attribute [-simp] Go.Av.cj Go.Av.e0 Go.Av.fH Go.Av.fy Go.Av.cW Go.Av.cg Go.Av.IT.jQ Go.Av.IT.fJ Go.Av.IT.fi Go.Av.IT.jv Go.Av.IT.jR Go.Av.IT.jS Go.Av.IT.jT Go.Av.IT.jU Go.Av.IT.gv Go.Av.hM
open Go Go.Av
attribute [local irreducible] T ah TX EX LX bB dn bW cx ie aG.kind aG.kids al.kind al.name al.num al.ty al.fr al.label al.kids
attribute [local simp] aL au
set_option maxHeartbeats 16000000
set_option maxRecDepth 8000
attribute [local simp] acZ
abbrev TK (o:Option al):List AV:=match o with
 |some x=>[cL x,.i 1]
 |none=>[cL ee,.i 3]
end Go.Proofs.YtloolmchekcmeaaGreat
namespace Go.Proofs.YtloolmchekcmeaaGreat
attribute [-simp] Go.Av.cj Go.Av.e0 Go.Av.fH Go.Av.fy Go.Av.cW Go.Av.cg Go.Av.IT.jQ Go.Av.IT.fJ Go.Av.IT.fi Go.Av.IT.jv Go.Av.IT.jR Go.Av.IT.jS Go.Av.IT.jT Go.Av.IT.jU Go.Av.IT.gv Go.Av.hM
open Go Go.Av
attribute [local irreducible] T ah TX EX LX bB dn bW cx ie aG.kind aG.kids al.kind al.name al.num al.ty al.fr al.label al.kids
attribute [local simp] aL au
set_option maxHeartbeats 16000000
set_option maxRecDepth 8000
def Vt (e:al):Int:=if lF e=true then((D2 e).length:Int)-(D2 (K3 e)).length else 0
abbrev TL (e:al):AV:=.agg [.d (.i e.kind),.d (.str e.name),.d (.i e.num),.d (.i e.ty.kind),.d (.sl (e.ty.kids.map cx)),.d (.i e.fr.kind),.d (.sl (e.fr.kids.map cx)),.d (.i e.label),.own 0 e.kids.length]
def Vu (l:List al) (p:Nat):List al:=(l.map K3).take p++l.drop p
end Go.Proofs.YtloolmchekcmeaaGreat
namespace Go.Proofs.YtloolmchekcmeaaGreat
attribute [-simp] Go.Av.cj Go.Av.e0 Go.Av.fH Go.Av.fy Go.Av.cW Go.Av.cg Go.Av.IT.jQ Go.Av.IT.fJ Go.Av.IT.fi Go.Av.IT.jv Go.Av.IT.jR Go.Av.IT.jS Go.Av.IT.jT Go.Av.IT.jU Go.Av.IT.gv Go.Av.hM
open Go Go.Av
attribute [local irreducible] T ah TX EX LX bB dn bW cx ie aG.kind aG.kids al.kind al.name al.num al.ty al.fr al.label al.kids
attribute [local simp] aL au
set_option maxHeartbeats 16000000
set_option maxRecDepth 8000
attribute [local simp] acZ
abbrev TM (p:al×Int×Int):List AV:=[cL p.1,.i p.2.1,.i p.2.2]
abbrev Vv (p:al×Int×Int×Int):List AV:=[cL p.1,.i p.2.1,.i p.2.2.1,.i p.2.2.2]
abbrev Vw (e:al):List AV:=match K5 e with
 |some x=>[cL x,.i 1,.i 0]
 |none=>[cL ee,.i 2,.i (Ij e.kind)]
def TN (p:al×Int×Int):al×Int×Int:=if p.2.1=1 then(p.1,1,0)else(ee,p.2.1,p.2.2)
def V7 (p:al×Int×Int×Int):al×Int×Int×Int:=if p.2.1=1 then(ee,5,0,p.2.2.2)else p
end Go.Proofs.YtloolmchekcmeaaGreat
namespace Go.Proofs.YtloolmchekcmeaaGreat
attribute [-simp] Go.Av.cj Go.Av.e0 Go.Av.fH Go.Av.fy Go.Av.cW Go.Av.cg Go.Av.IT.jQ Go.Av.IT.fJ Go.Av.IT.fi Go.Av.IT.jv Go.Av.IT.jR Go.Av.IT.jS Go.Av.IT.jT Go.Av.IT.jU Go.Av.IT.gv Go.Av.hM
open Go Go.Av
attribute [local irreducible] T ah TX EX LX bB dn bW cx ie aG.kind aG.kids al.kind al.name al.num al.ty al.fr al.label al.kids
attribute [local simp] aL au
set_option maxHeartbeats 16000000
set_option maxRecDepth 8000
def TO (e:al) (f t:aG) (l:Int):al:=if eL f t=true then e else BN e f t l
theorem El (e:al) (dG:¬e.kind=13) (gF:¬e.kind=14) (h5:e.kind=5) (hn:e9 e<=1073741824)
  (ih:∀u∈e.kids,ah Tryz.prog 43 [cL u] [] (cL (mapM aK u)) [] []):ah Tryz.prog 43 [cL e] [] (cL (.mk e.kind e.name e.num kM aW 0 (e.kids.map (mapM aK)))) [] []:=by
 have Sf:e.kids.length<=1073741824:=by have:=pA e.kids;rw[j7]at hn;omega
 have oT:=lJ;refine ah.ob Tryz.func43 Tryz.ntmps43 rfl ?_;repeat' first|(refine ab (hK _ ?_);clear hK K)|((first|refine ae ?_|refine aa rfl (oT) ?_);simp[dG,gF,h5];(try(refine gen2 ?_ ?_<;>intro hq<;>try simp[dG,gF,h5]at hq)))|refine T.r0 fun K hK=>?_|refine T.r1 fun K hK=>?_|refine T.ct rfl ?_|refine T.cf rfl ?_|refine T.seq ?_|refine T.block ?_|refine T.skip ?_
 refine T.dq 2 8 9 28 (row:=[.d (.i 5),.d (.str e.name),.d (.i e.num),.d (.i 1),.d (.sl []),.d (.i 0),.nil,.d (.i 0),.nil]) (by simp) (by simp) ?_;refine T.dU (α:=Nat) [1,2,3] (fun x=>[(4,.i x)]) (fun x=>[(2,[.d (.i 5),.d (.str e.name),.d (.i e.num),.d (.i 1),.d (.sl []),.d (.i 0),.nil,.d (.i 0),.own 0 x])]) (fun x=>[]) (fun p _=>[{sz:=9,eA:=28,rows:=((e.kids.map (mapM aK)).take p).map ie,wr:=true}]) (fun x=>e.kids.length+1-x) (fun x=>x<=e.kids.length) (by simp;rfl) (fun p hp=>?_) 0 (by simp) (by simp) (by simp) (by simp);dsimp only at hp⊢;simp only[iy,ac2,ac3,ac9,ac4,ada];by_cases ax:p<e.kids.length
 ·obtain⟨u,ht⟩:=bR ax;have eQ:u∈e.kids:=ac5 ht;have bf:e.kids[p]=u:=by rw[ac7 ax]at ht;exact Option.some.inj ht
  have gP:e.kids.drop p=u::e.kids.drop (p+1):=by rw[ac8 ax,bf]
  have hu:=ih u eQ;have mL:(e.kids.map (mapM aK)).take (p+1)=(e.kids.map (mapM aK)).take p++[mapM aK u]:=by rw[ac1,ac6,ht];rfl
  have oX:min p (e.kids.map (mapM aK)).length=p:=by simp;omega
  generalize e.kids.map (mapM aK)=Z at*;generalize mapM aK u=su at*;repeat' first|((first|refine ab (hK _ ?_)|refine aC (hK _ ?_));clear hK K)|((first|refine ae ?_|refine aI ?_|refine aa rfl (hu) ?_);simp[ax,bf,oX];(try simp(disch:=omega)only[wrap64]);(try(refine gen2 ?_ ?_<;>intro hq<;>try simp[ax,bf,oX]at hq)))|(refine⟨by omega,by omega,?_⟩)|(refine⟨p+1,by dsimp only;omega,by dsimp only;omega,?_,?_,?_⟩<;>simp(disch:=omega) [iy,wrap64,mL,au,oX])|refine T.yA (id:=9) mixed (fun _=>false) [9,11] (by kernel_rfl) fun K hK=>?_|refine T.r0 fun K hK=>?_|refine T.r1 fun K hK=>?_|refine T.ct rfl ?_|refine T.seq ?_|refine T.block ?_|refine T.skip ?_
 ·have ff:p=e.kids.length:=by omega
  subst ff;have oX:(e.kids.map (mapM aK)).length=e.kids.length:=by simp
  rw[ac0 (by omega)];generalize e.kids.map (mapM aK)=Z at*;repeat' first|(refine ab (hK _ ?_);clear hK K)|(refine ae ?_;simp[ax,oX];(try(refine gen2 ?_ ?_<;>intro hq<;>try simp[ax,oX]at hq)))|(refine T.ret (aB.val (Or.inr rfl) ?_)<;>simp[ay,Tryz.results43,oX,h5]<;>omega)|refine T.r0 fun K hK=>?_|refine T.cf rfl ?_|refine T.seq ?_|refine T.exit ?_
theorem Em (e:al) (dG:¬e.kind=13) (gF:¬e.kind=14) (h5:¬e.kind=5) (hn:e9 e<=1073741824)
  (ih:∀u∈e.kids,ah Tryz.prog 43 [cL u] [] (cL (mapM aK u)) [] []):ah Tryz.prog 43 [cL e] [] (cL (.mk e.kind e.name e.num aW aW 0 (e.kids.map (mapM aK)))) [] []:=by
 have Sf:e.kids.length<=1073741824:=by have:=pA e.kids;rw[j7]at hn;omega
 have oT:=lJ;refine ah.ob Tryz.func43 Tryz.ntmps43 rfl ?_;repeat' first|(refine ab (hK _ ?_);clear hK K)|(refine ae ?_;simp[dG,gF,h5];(try(refine gen2 ?_ ?_<;>intro hq<;>try simp[dG,gF,h5]at hq)))|refine T.r0 fun K hK=>?_|refine T.cf rfl ?_|refine T.seq ?_|refine T.block ?_|refine T.skip ?_
 refine T.dq 2 8 9 28 (row:=[.d (.i e.kind),.d (.str e.name),.d (.i e.num),.d (.i 0),.nil,.d (.i 0),.nil,.d (.i 0),.nil]) (by simp) (by simp) ?_;refine T.dU (α:=Nat) [1,2,3] (fun x=>[(4,.i x)]) (fun x=>[(2,[.d (.i e.kind),.d (.str e.name),.d (.i e.num),.d (.i 0),.nil,.d (.i 0),.nil,.d (.i 0),.own 0 x])]) (fun x=>[]) (fun p _=>[{sz:=9,eA:=28,rows:=((e.kids.map (mapM aK)).take p).map ie,wr:=true}]) (fun x=>e.kids.length+1-x) (fun x=>x<=e.kids.length) (by simp;rfl) (fun p hp=>?_) 0 (by simp) (by simp) (by simp) (by simp);dsimp only at hp⊢;simp only[iy,ac2,ac3,ac9,ac4,ada];by_cases ax:p<e.kids.length
 ·obtain⟨u,ht⟩:=bR ax;have eQ:u∈e.kids:=ac5 ht;have bf:e.kids[p]=u:=by rw[ac7 ax]at ht;exact Option.some.inj ht
  have gP:e.kids.drop p=u::e.kids.drop (p+1):=by rw[ac8 ax,bf]
  have hu:=ih u eQ;have mL:(e.kids.map (mapM aK)).take (p+1)=(e.kids.map (mapM aK)).take p++[mapM aK u]:=by rw[ac1,ac6,ht];rfl
  have oX:min p (e.kids.map (mapM aK)).length=p:=by simp;omega
  generalize e.kids.map (mapM aK)=Z at*;generalize mapM aK u=su at*;repeat' first|((first|refine ab (hK _ ?_)|refine aC (hK _ ?_));clear hK K)|((first|refine ae ?_|refine aI ?_|refine aa rfl (hu) ?_);simp[ax,bf,oX];(try simp(disch:=omega)only[wrap64]);(try(refine gen2 ?_ ?_<;>intro hq<;>try simp[ax,bf,oX]at hq)))|(refine⟨by omega,by omega,?_⟩)|(refine⟨p+1,by dsimp only;omega,by dsimp only;omega,?_,?_,?_⟩<;>simp(disch:=omega) [iy,wrap64,mL,au,oX])|refine T.yA (id:=9) mixed (fun _=>false) [9,11] (by kernel_rfl) fun K hK=>?_|refine T.r0 fun K hK=>?_|refine T.r1 fun K hK=>?_|refine T.ct rfl ?_|refine T.seq ?_|refine T.block ?_|refine T.skip ?_
 ·have ff:p=e.kids.length:=by omega
  subst ff;have oX:(e.kids.map (mapM aK)).length=e.kids.length:=by simp
  rw[ac0 (by omega)];generalize e.kids.map (mapM aK)=Z at*;repeat' first|(refine ab (hK _ ?_);clear hK K)|(refine ae ?_;simp[ax,oX];(try(refine gen2 ?_ ?_<;>intro hq<;>try simp[ax,oX]at hq)))|(refine T.ret (aB.val (Or.inr rfl) ?_)<;>simp[ay,Tryz.results43,oX,h5]<;>omega)|refine T.r0 fun K hK=>?_|refine T.cf rfl ?_|refine T.seq ?_|refine T.exit ?_
theorem Gu (nt:Int):∀(e:al) (d:Nat),jF nt d e->e9 e<=1073741824->ah Tryz.prog 43 [cL e] [] (cL (mapM aK e)) [] []:=by
 intro e;induction e using al.ind with
 |h e ih=>
  intro d hv hn;obtain⟨dM,Ai⟩:=hv.plain;obtain⟨d',rfl,_,_,_,hk⟩:=fV hv.shape;have ih':∀u∈e.kids,ah Tryz.prog 43 [cL u] [] (cL (mapM aK u)) [] []:=fun u hu=>ih u hu d' (jF.of (hk u hu)) (by have:=wM hu;rw[j7]at hn;omega)
  by_cases hh:e.kind=13\/e.kind=14
  ·obtain⟨x,hx⟩:=dM hh;have h1:=ih' x (by simp[hx]);rw[show mapM aK e=mapM aK x by rw[sH];simp[aK,hh,hx]];generalize mapM aK x=R at*;rcases hh with hh|hh
   ·refine ah.ob Tryz.func43 Tryz.ntmps43 rfl ?_;repeat' first|(refine ab (hK _ ?_);clear hK K)|((first|refine ae ?_|(refine aa ?_ (h1) ?_;(focus(solve|simp[hh,hx,au]))));simp[hh,hx,au];(try(refine gen2 ?_ ?_<;>intro hq<;>try simp[hh,hx,au]at hq)))|(refine T.ret (aB.val (Or.inr rfl) ?_)<;>simp[ay,Tryz.results43]<;>omega)|refine T.r0 fun K hK=>?_|refine T.ct rfl ?_|refine T.seq ?_
   ·refine ah.ob Tryz.func43 Tryz.ntmps43 rfl ?_;repeat' first|(refine ab (hK _ ?_);clear hK K)|((first|refine ae ?_|(refine aa ?_ (h1) ?_;(focus(solve|simp[hh,hx,au]))));simp[hh,hx,au];(try(refine gen2 ?_ ?_<;>intro hq<;>try simp[hh,hx,au]at hq)))|(refine T.ret (aB.val (Or.inr rfl) ?_)<;>simp[ay,Tryz.results43]<;>omega)|refine T.r0 fun K hK=>?_|refine T.ct rfl ?_|refine T.seq ?_
  ·obtain⟨hf,hl,ht⟩:=Ai hh;have dG:¬e.kind=13:=fun h=>hh (.inl h)
   have gF:¬e.kind=14:=fun h=>hh (.inr h)
   by_cases h5:e.kind=5
   ·rw[show mapM aK e=.mk e.kind e.name e.num kM aW 0 (e.kids.map (mapM aK)) by rw[sH];simp[aK,h5,hf,hl]];exact El e dG gF h5 hn ih'
   ·rw[show mapM aK e=.mk e.kind e.name e.num aW aW 0 (e.kids.map (mapM aK)) by rw[sH];simp[aK,hh,h5,hf,hl,ht h5]];exact Em e dG gF h5 hn ih'
end Go.Proofs.YtloolmchekcmeaaGreat
