/- A part. -/
import Derived.Test.YtloolmchekcmeaaGreatXD22
set_option linter.unusedVariables false
set_option linter.unusedSimpArgs false
open Go.Proofs.Tryz renaming prog->acN
open Option renaming bind->acO
open List renaming take_of_length_le->acP,take_add_one->acQ,set_cons_zero->acR,set_cons_succ->acS,nil_append->acT,mem_of_getElem?->acU,getElem?_map->acV,getElem?_eq_getElem->acW,drop_eq_getElem_cons->acX,cons_append->acY,append_nil->acZ
namespace Go.Proofs.YtloolmchekcmeaaGreat
attribute [-simp] Go.Av.bP Go.Av.eu Go.Av.eN Go.Av.eG Go.Av.b8 Go.Av.bN Go.Av.IT.gK Go.Av.IT.eH Go.Av.IT.ey Go.Av.IT.gj Go.Av.IT.gL Go.Av.IT.gM Go.Av.IT.gN Go.Av.IT.gO Go.Av.IT.e8 Go.Av.fh
open Go Go.Av
attribute [local irreducible] T ah TX EX LX dA dB bL b5 eK aF.kind aF.kids ak.kind ak.name ak.num ak.ty ak.fr ak.label ak.kids
attribute [local simp] aN au
set_option maxHeartbeats 16000000
set_option maxRecDepth 8000
@[simp] theorem OL:td acN 132=some {ag:=true,sz:=26,kI:=26,zero:=some (Rg UF),el:=none,ar:=some (26,4),fl:=[],ik:=none,cy:=false,l6:=false}:=dq (by kernel_rfl)
end Go.Proofs.YtloolmchekcmeaaGreat
namespace Go.Proofs.YtloolmchekcmeaaGreat
attribute [-simp] Go.Av.bP Go.Av.eu Go.Av.eN Go.Av.eG Go.Av.b8 Go.Av.bN Go.Av.IT.gK Go.Av.IT.eH Go.Av.IT.ey Go.Av.IT.gj Go.Av.IT.gL Go.Av.IT.gM Go.Av.IT.gN Go.Av.IT.gO Go.Av.IT.e8 Go.Av.fh
open Go Go.Av
attribute [local irreducible] T ah TX EX LX dA dB bL b5 eK aF.kind aF.kids ak.kind ak.name ak.num ak.ty ak.fr ak.label ak.kids
attribute [local simp] aN au
set_option maxHeartbeats 16000000
set_option maxRecDepth 8000
attribute [local simp] acO
abbrev Td (o:Option ak):List AV:=match o with
 |some x=>[cE x,.i 1]
 |none=>[cE c5,.i 3]
end Go.Proofs.YtloolmchekcmeaaGreat
namespace Go.Proofs.YtloolmchekcmeaaGreat
attribute [-simp] Go.Av.bP Go.Av.eu Go.Av.eN Go.Av.eG Go.Av.b8 Go.Av.bN Go.Av.IT.gK Go.Av.IT.eH Go.Av.IT.ey Go.Av.IT.gj Go.Av.IT.gL Go.Av.IT.gM Go.Av.IT.gN Go.Av.IT.gO Go.Av.IT.e8 Go.Av.fh
open Go Go.Av
attribute [local irreducible] T ah TX EX LX dA dB bL b5 eK aF.kind aF.kids ak.kind ak.name ak.num ak.ty ak.fr ak.label ak.kids
attribute [local simp] aN au
set_option maxHeartbeats 16000000
set_option maxRecDepth 8000
theorem jL {α:Type} (f:α->Nat):∀(l:List α) (p:Nat),((l.take p).map f).sum<=(l.map f).sum
 |[],p=>by simp
 |x::r,0=>by simp
 |x::r,p+1=>by have:=jL f r p;simp only[List.take_succ_cons,List.map_cons,List.sum_cons];omega
def UY (l:List aF) (p:Nat):Nat:=((l.take p).map vg).sum
@[simp] theorem PH:td acN 188=some {ag:=false,sz:=1,kI:=8,zero:=some [.d (.int .u64 0)],el:=none,ar:=none,fl:=[],ik:=some .u64,cy:=false,l6:=false}:=dq (by kernel_rfl)
@[simp] theorem OM:td acN 77=some {ag:=false,sz:=1,kI:=24,zero:=some [.nil],el:=some 3,ar:=none,fl:=[],ik:=none,cy:=false,l6:=false}:=dq (by kernel_rfl)
def UZ (e:ak):Int:=if kY e=true then((C9 e).length:Int)-(C9 (KB e)).length else 0
abbrev Te (e:ak):AV:=.agg [.d (.i e.kind),.d (.str e.name),.d (.i e.num),.d (.i e.ty.kind),.d (.sl (e.ty.kids.map b5)),.d (.i e.fr.kind),.d (.sl (e.fr.kids.map b5)),.d (.i e.label),.own 0 e.kids.length]
def U0 (l:List ak) (p:Nat):List ak:=(l.map KB).take p++l.drop p
end Go.Proofs.YtloolmchekcmeaaGreat
namespace Go.Proofs.YtloolmchekcmeaaGreat
attribute [-simp] Go.Av.bP Go.Av.eu Go.Av.eN Go.Av.eG Go.Av.b8 Go.Av.bN Go.Av.IT.gK Go.Av.IT.eH Go.Av.IT.ey Go.Av.IT.gj Go.Av.IT.gL Go.Av.IT.gM Go.Av.IT.gN Go.Av.IT.gO Go.Av.IT.e8 Go.Av.fh
open Go Go.Av
attribute [local irreducible] T ah TX EX LX dA dB bL b5 eK aF.kind aF.kids ak.kind ak.name ak.num ak.ty ak.fr ak.label ak.kids
attribute [local simp] aN au
set_option maxHeartbeats 16000000
set_option maxRecDepth 8000
attribute [local simp] acO
abbrev Tf (p:ak×Int×Int):List AV:=[cE p.1,.i p.2.1,.i p.2.2]
abbrev U1 (p:ak×Int×Int×Int):List AV:=[cE p.1,.i p.2.1,.i p.2.2.1,.i p.2.2.2]
abbrev U2 (e:ak):List AV:=match KD e with
 |some x=>[cE x,.i 1,.i 0]
 |none=>[cE c5,.i 2,.i (HH e.kind)]
def Tg (p:ak×Int×Int):ak×Int×Int:=if p.2.1=1 then(p.1,1,0)else(c5,p.2.1,p.2.2)
def VN (p:ak×Int×Int×Int):ak×Int×Int×Int:=if p.2.1=1 then(c5,5,0,p.2.2.2)else p
end Go.Proofs.YtloolmchekcmeaaGreat
namespace Go.Proofs.YtloolmchekcmeaaGreat
attribute [-simp] Go.Av.bP Go.Av.eu Go.Av.eN Go.Av.eG Go.Av.b8 Go.Av.bN Go.Av.IT.gK Go.Av.IT.eH Go.Av.IT.ey Go.Av.IT.gj Go.Av.IT.gL Go.Av.IT.gM Go.Av.IT.gN Go.Av.IT.gO Go.Av.IT.e8 Go.Av.fh
open Go Go.Av
attribute [local irreducible] T ah TX EX LX dA dB bL b5 eK aF.kind aF.kids ak.kind ak.name ak.num ak.ty ak.fr ak.label ak.kids
attribute [local simp] aN au
set_option maxHeartbeats 16000000
set_option maxRecDepth 8000
def Th (e:ak) (f t:aF) (l:Int):ak:=if ew f t=true then e else DX e f t l
theorem Dr (e:ak) (dn:¬e.kind=13) (fX:¬e.kind=14) (h5:e.kind=5) (hn:fa e<=1073741824)
  (ih:∀u∈e.kids,ah acN 43 [cE u] [] (cE (mapM aO u)) [] []):ah acN 43 [cE e] [] (cE (.mk e.kind e.name e.num km aX 0 (e.kids.map (mapM aO)))) [] []:=by
 have RP:e.kids.length<=1073741824:=by have:=jK e.kids;rw[fS]at hn;omega
 have Fg:=wC;refine ah.ob Tryz.func43 Tryz.ntmps43 rfl ?_;repeat' first|(refine ab (hK _ ?_);clear hK K)|((first|refine ae ?_|refine aa rfl (Fg) ?_);simp[dn,fX,h5];(try(refine gen2 ?_ ?_<;>intro hq<;>try simp[dn,fX,h5]at hq)))|refine T.r0 fun K hK=>?_|refine T.r1 fun K hK=>?_|refine T.ct rfl ?_|refine T.cf rfl ?_|refine T.seq ?_|refine T.block ?_|refine T.skip ?_
 refine T.dK 2 8 9 28 (row:=[.d (.i 5),.d (.str e.name),.d (.i e.num),.d (.i 1),.d (.sl []),.d (.i 0),.nil,.d (.i 0),.nil]) (by simp) (by simp) ?_;refine T.dr (α:=Nat) [1,2,3] (fun x=>[(4,.i x)]) (fun x=>[(2,[.d (.i 5),.d (.str e.name),.d (.i e.num),.d (.i 1),.d (.sl []),.d (.i 0),.nil,.d (.i 0),.own 0 x])]) (fun x=>[]) (fun p _=>[{sz:=9,dE:=28,rows:=((e.kids.map (mapM aO)).take p).map eK,wr:=true}]) (fun x=>e.kids.length+1-x) (fun x=>x<=e.kids.length) (by simp;rfl) (fun p hp=>?_) 0 (by simp) (by simp) (by simp) (by simp);dsimp only at hp⊢;simp only[gI,acR,acS,acY,acT,acZ];by_cases ax:p<e.kids.length
 ·obtain⟨u,ht⟩:=bz ax;have eJ:u∈e.kids:=acU ht;have bg:e.kids[p]=u:=by rw[acW ax]at ht;exact Option.some.inj ht
  have iY:e.kids.drop p=u::e.kids.drop (p+1):=by rw[acX ax,bg]
  have hu:=ih u eJ;have qA:(e.kids.map (mapM aO)).take (p+1)=(e.kids.map (mapM aO)).take p++[mapM aO u]:=by rw[acQ,acV,ht];rfl
  have oB:min p (e.kids.map (mapM aO)).length=p:=by simp;omega
  generalize e.kids.map (mapM aO)=Z at*;generalize mapM aO u=su at*;repeat' first|((first|refine ab (hK _ ?_)|refine aB (hK _ ?_));clear hK K)|((first|refine ae ?_|refine aG ?_|refine aa rfl (hu) ?_);simp[ax,bg,oB];(try simp(disch:=omega)only[wrap64]);(try(refine gen2 ?_ ?_<;>intro hq<;>try simp[ax,bg,oB]at hq)))|(refine⟨by omega,by omega,?_⟩)|(refine⟨p+1,by dsimp only;omega,by dsimp only;omega,?_,?_,?_⟩<;>simp(disch:=omega) [gI,wrap64,qA,au,oB])|refine T.AS (id:=9) mixed (fun _=>false) [9,11] (by kernel_rfl) fun K hK=>?_|refine T.r0 fun K hK=>?_|refine T.r1 fun K hK=>?_|refine T.ct rfl ?_|refine T.seq ?_|refine T.block ?_|refine T.skip ?_
 ·have eb:p=e.kids.length:=by omega
  subst eb;have oB:(e.kids.map (mapM aO)).length=e.kids.length:=by simp
  rw[acP (by omega)];generalize e.kids.map (mapM aO)=Z at*;repeat' first|(refine ab (hK _ ?_);clear hK K)|(refine ae ?_;simp[ax,oB];(try(refine gen2 ?_ ?_<;>intro hq<;>try simp[ax,oB]at hq)))|(refine T.ret (az.val (Or.inr rfl) ?_)<;>simp[aE,Tryz.results43,oB,h5]<;>omega)|refine T.r0 fun K hK=>?_|refine T.cf rfl ?_|refine T.seq ?_|refine T.exit ?_
theorem Ds (e:ak) (dn:¬e.kind=13) (fX:¬e.kind=14) (h5:¬e.kind=5) (hn:fa e<=1073741824)
  (ih:∀u∈e.kids,ah acN 43 [cE u] [] (cE (mapM aO u)) [] []):ah acN 43 [cE e] [] (cE (.mk e.kind e.name e.num aX aX 0 (e.kids.map (mapM aO)))) [] []:=by
 have RP:e.kids.length<=1073741824:=by have:=jK e.kids;rw[fS]at hn;omega
 have Fg:=wC;refine ah.ob Tryz.func43 Tryz.ntmps43 rfl ?_;repeat' first|(refine ab (hK _ ?_);clear hK K)|(refine ae ?_;simp[dn,fX,h5];(try(refine gen2 ?_ ?_<;>intro hq<;>try simp[dn,fX,h5]at hq)))|refine T.r0 fun K hK=>?_|refine T.cf rfl ?_|refine T.seq ?_|refine T.block ?_|refine T.skip ?_
 refine T.dK 2 8 9 28 (row:=[.d (.i e.kind),.d (.str e.name),.d (.i e.num),.d (.i 0),.nil,.d (.i 0),.nil,.d (.i 0),.nil]) (by simp) (by simp) ?_;refine T.dr (α:=Nat) [1,2,3] (fun x=>[(4,.i x)]) (fun x=>[(2,[.d (.i e.kind),.d (.str e.name),.d (.i e.num),.d (.i 0),.nil,.d (.i 0),.nil,.d (.i 0),.own 0 x])]) (fun x=>[]) (fun p _=>[{sz:=9,dE:=28,rows:=((e.kids.map (mapM aO)).take p).map eK,wr:=true}]) (fun x=>e.kids.length+1-x) (fun x=>x<=e.kids.length) (by simp;rfl) (fun p hp=>?_) 0 (by simp) (by simp) (by simp) (by simp);dsimp only at hp⊢;simp only[gI,acR,acS,acY,acT,acZ];by_cases ax:p<e.kids.length
 ·obtain⟨u,ht⟩:=bz ax;have eJ:u∈e.kids:=acU ht;have bg:e.kids[p]=u:=by rw[acW ax]at ht;exact Option.some.inj ht
  have iY:e.kids.drop p=u::e.kids.drop (p+1):=by rw[acX ax,bg]
  have hu:=ih u eJ;have qA:(e.kids.map (mapM aO)).take (p+1)=(e.kids.map (mapM aO)).take p++[mapM aO u]:=by rw[acQ,acV,ht];rfl
  have oB:min p (e.kids.map (mapM aO)).length=p:=by simp;omega
  generalize e.kids.map (mapM aO)=Z at*;generalize mapM aO u=su at*;repeat' first|((first|refine ab (hK _ ?_)|refine aB (hK _ ?_));clear hK K)|((first|refine ae ?_|refine aG ?_|refine aa rfl (hu) ?_);simp[ax,bg,oB];(try simp(disch:=omega)only[wrap64]);(try(refine gen2 ?_ ?_<;>intro hq<;>try simp[ax,bg,oB]at hq)))|(refine⟨by omega,by omega,?_⟩)|(refine⟨p+1,by dsimp only;omega,by dsimp only;omega,?_,?_,?_⟩<;>simp(disch:=omega) [gI,wrap64,qA,au,oB])|refine T.AS (id:=9) mixed (fun _=>false) [9,11] (by kernel_rfl) fun K hK=>?_|refine T.r0 fun K hK=>?_|refine T.r1 fun K hK=>?_|refine T.ct rfl ?_|refine T.seq ?_|refine T.block ?_|refine T.skip ?_
 ·have eb:p=e.kids.length:=by omega
  subst eb;have oB:(e.kids.map (mapM aO)).length=e.kids.length:=by simp
  rw[acP (by omega)];generalize e.kids.map (mapM aO)=Z at*;repeat' first|(refine ab (hK _ ?_);clear hK K)|(refine ae ?_;simp[ax,oB];(try(refine gen2 ?_ ?_<;>intro hq<;>try simp[ax,oB]at hq)))|(refine T.ret (az.val (Or.inr rfl) ?_)<;>simp[aE,Tryz.results43,oB,h5]<;>omega)|refine T.r0 fun K hK=>?_|refine T.cf rfl ?_|refine T.seq ?_|refine T.exit ?_
theorem FO (nt:Int):∀(e:ak) (d:Nat),jY nt d e->fa e<=1073741824->ah acN 43 [cE e] [] (cE (mapM aO e)) [] []:=by
 intro e;induction e using ak.ind with
 |h e ih=>
  intro d hv hn;obtain⟨yB,zx⟩:=hv.plain;obtain⟨d',rfl,_,_,_,hk⟩:=fD hv.shape;have ih':∀u∈e.kids,ah acN 43 [cE u] [] (cE (mapM aO u)) [] []:=fun u hu=>ih u hu d' (jY.of (hk u hu)) (by have:=mq hu;rw[fS]at hn;omega)
  by_cases hh:e.kind=13\/e.kind=14
  ·obtain⟨x,hx⟩:=yB hh;have h1:=ih' x (by simp[hx]);rw[show mapM aO e=mapM aO x by rw[r8];simp[aO,hh,hx]];generalize mapM aO x=R at*;rcases hh with hh|hh
   ·refine ah.ob Tryz.func43 Tryz.ntmps43 rfl ?_;repeat' first|(refine ab (hK _ ?_);clear hK K)|((first|refine ae ?_|(refine aa ?_ (h1) ?_;(focus(solve|simp[hh,hx,au]))));simp[hh,hx,au];(try(refine gen2 ?_ ?_<;>intro hq<;>try simp[hh,hx,au]at hq)))|(refine T.ret (az.val (Or.inr rfl) ?_)<;>simp[aE,Tryz.results43]<;>omega)|refine T.r0 fun K hK=>?_|refine T.ct rfl ?_|refine T.seq ?_
   ·refine ah.ob Tryz.func43 Tryz.ntmps43 rfl ?_;repeat' first|(refine ab (hK _ ?_);clear hK K)|((first|refine ae ?_|(refine aa ?_ (h1) ?_;(focus(solve|simp[hh,hx,au]))));simp[hh,hx,au];(try(refine gen2 ?_ ?_<;>intro hq<;>try simp[hh,hx,au]at hq)))|(refine T.ret (az.val (Or.inr rfl) ?_)<;>simp[aE,Tryz.results43]<;>omega)|refine T.r0 fun K hK=>?_|refine T.ct rfl ?_|refine T.seq ?_
  ·obtain⟨hf,hl,ht⟩:=zx hh;have dn:¬e.kind=13:=fun h=>hh (.inl h)
   have fX:¬e.kind=14:=fun h=>hh (.inr h)
   by_cases h5:e.kind=5
   ·rw[show mapM aO e=.mk e.kind e.name e.num km aX 0 (e.kids.map (mapM aO)) by rw[r8];simp[aO,h5,hf,hl]];exact Dr e dn fX h5 hn ih'
   ·rw[show mapM aO e=.mk e.kind e.name e.num aX aX 0 (e.kids.map (mapM aO)) by rw[r8];simp[aO,hh,h5,hf,hl,ht h5]];exact Ds e dn fX h5 hn ih'
end Go.Proofs.YtloolmchekcmeaaGreat
