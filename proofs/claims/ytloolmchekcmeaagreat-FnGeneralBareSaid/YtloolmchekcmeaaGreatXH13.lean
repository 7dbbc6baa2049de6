/- A part. -/
import Derived.Test.YtloolmchekcmeaaGreatXH12
import Derived.Lib.Bytealg
set_option linter.unusedVariables false
set_option linter.unusedSimpArgs false
open List renaming getElem?_eq_getElem->Wq
namespace Go.Av
attribute [-simp] Go.Av.cK Go.Av.xv Go.Av.dS Go.Av.AV.dp Go.Av.CV.dp Go.Av.fS Go.Av.AV.cO Go.Av.CV.cO Go.Av.bO Go.Av.dO Go.Av.ed Go.Av.ec Go.Av.cl Go.Av.cj
open Go
mutual
def aW (c:UInt8):List UInt8->an->Bool
 |bd,.mk k s _ _ _ _ l=>(decide (k=1)&&(decide (s=[c])&& !(bd.contains c)))||cU c (if k=5 then bd++s else bd) l
def cU (c:UInt8):List UInt8->List an->Bool
 |_,[]=>false
 |bd,e::r=>aW c bd e||cU c bd r
end
theorem rE (c:UInt8) (bd:List UInt8):∀l:List an,cU c bd l=l.any (aW c bd)
 |[]=>rfl
 |e::r=>by simp[cU,rE c bd r]
theorem ll (c:UInt8) (bd:List UInt8) (e:an):aW c bd e=((decide (e.kind=1)&&(decide (e.name=[c])&& !(bd.contains c)))||e.kids.any (aW c (if e.kind=5 then bd++e.name else bd))):=by
 cases e;simp only[aW,rE];rfl
@[irreducible] def fH:List UInt8:=(List.range 26).map fun i=>UInt8.ofNat (97+i)
def lp (e:an):List UInt8:=fH.filter fun c=>aW c [] e
theorem nY:∀(s:List UInt8) (c:UInt8),(0<=Lib.indexByte s c)↔s.contains c=true
 |[],c=>by simp[Lib.indexByte]
 |b::r,c=>by
  have ih:=nY r c;have h1:=Lib.indexByte_ge r c;rw[List.contains_cons,Bool.or_eq_true,<-ih,Lib.indexByte];split
  ·rename_i h;have:(c==b)=true:=by simp at h;simp[h]
   simp[this]
  ·rename_i h;have h':¬(c==b)=true:=by intro e;simp at e;simp[e]at h
   split
   ·rename_i h2;have h2:Lib.indexByte r c=-1:=by simpa using h2
    rw[h2];simp[h']
   ·rename_i h2;have h2:¬Lib.indexByte r c=-1:=by simpa using h2
    constructor
    ·intro h3;exact .inr (by omega)
    ·rintro(h3|h3)
     ·exact absurd h3 h'
     ·omega
theorem GU {n:Nat} (h:n<=255):IntKind.u8.wrap (n:Int)=n:=by simp[IntKind.wrap,IntKind.signed,IntKind.bits];omega
theorem ni {s:List UInt8} (h:dL s=true):∃c,s=[c]/\97<=c.toNat/\c.toNat<=122:=by
 match s with
 |[]=>simp[dL]at h
 |[c]=>simp[dL]at h;exact⟨c,rfl,by omega,by omega⟩
 |_::_::_=>simp[dL]at h
theorem vQ {e:an} (h:eb e=true) (ht:cB e.kind=true):dL e.name=true:=by
 simp only[eb,Bool.and_eq_true]at h;have:=h.1.1.1;rwa[if_pos ht]at this
abbrev eg (S:List Bool):List CV:=S.map fun b=>CV.d (.bool b)
def iM (f:UInt8->Bool) (S:List Bool):List Bool:=List.zipWith (fun c b=>b||f c) fH S
theorem rF:fH.length=26:=by unfold fH;rfl
theorem ib {f:UInt8->Bool} {S:List Bool} (h:S.length=26):(iM f S).length=26:=by simp[iM,rF,h]
theorem rG {i:Nat} (h:i<26):fH[i]? =some (UInt8.ofNat (97+i)):=by unfold fH;simp[h]
theorem nj {f:UInt8->Bool} {S:List Bool} {i:Nat} {b:Bool} (h:i<26) (hs:S[i]? =some b):(iM f S)[i]? =some (b||f (UInt8.ofNat (97+i))):=by
 simp[iM,List.getElem?_zipWith,rG h,hs]
theorem wL {S T:List Bool} (hs:S.length=26) (ht:T.length=26) (h:∀(i:Nat) a b,i<26->S[i]? =some a->T[i]? =some b->a=b):S=T:=by
 apply List.ext_getElem (by omega);intro i h1 h2;exact h i _ _ (by omega) (Wq h1) (Wq h2)
@[irreducible] def HZ:List Bool:=List.replicate 26 false
theorem A1:HZ.length=26:=by unfold HZ;simp
theorem FJ {p:Nat} (h:p<26):HZ[p]? =some false:=by unfold HZ;rw[List.getElem?_replicate,if_pos h]
theorem pK {S:List Bool} (hs:S.length=26) {f:UInt8->Bool} (hf:∀c,f c=false):iM f S=S:=by
 refine wL (ib hs) hs fun i a b hi ha hb=>?_
 rw[nj hi hb]at ha;simp[hf]at ha;exact ha.symm
theorem tS {S:List Bool} (hs:S.length=26) (f g:UInt8->Bool):iM g (iM f S)=iM (fun c=>f c||g c) S:=by
 refine wL (ib (ib hs)) (ib hs) fun i a b hi ha hb=>?_
 obtain⟨x,hx⟩:∃x,S[i]? =some x:=⟨_,Wq (by omega)⟩;rw[nj hi (nj hi hx)]at ha;rw[nj hi hx]at hb;simp at ha hb;rw[<-ha,<-hb,Bool.or_assoc]
theorem gh {S:List Bool} {f g:UInt8->Bool} (h:∀c,f c=g c):iM f S=iM g S:=by rw[show f=g from funext h]
theorem FK {S:List Bool} (hs:S.length=26) {c:UInt8} (h1:97<=c.toNat) (h2:c.toNat<=122):S.set (c.toNat-97) true=iM (fun x=>decide (x=c)) S:=by
 refine wL (by simpa using hs) (ib hs) fun i a b hi ha hb=>?_
 obtain⟨x,hx⟩:∃x,S[i]? =some x:=⟨_,Wq (by omega)⟩;rw[nj hi hx,Option.some.injEq]at hb;rw[List.getElem?_set]at ha;by_cases e:c.toNat-97=i
 ·have aC:c.toNat-97<S.length:=by omega
  simp[e]at ha;have:UInt8.ofNat (97+i)=c:=by rw[<-e];rw[show 97+(c.toNat-97)=c.toNat by omega];simp
  rw[this]at hb;simp at hb;obtain⟨_,rfl⟩:=ha;rw[<-hb]
 ·have cN:¬UInt8.ofNat (97+i)=c:=by
   intro hh;have:=congrArg UInt8.toNat hh;simp at this;omega
  simp[e,hx]at ha;rw[decide_eq_false cN,Bool.or_false]at hb;rw[<-ha,<-hb]
theorem wM {e:an} (h:∀z,aW z [] e=false):lp e=[]:=by
 simp only[lp,List.filter_eq_nil_iff];intro z _;simp[h z]
def H0 (e:an) (x:List UInt8) (v:an):Option an:=
 if(aR e &&(aR v &&(dL x &&(decide (lp v=[])&& aR (wC x v e)))))=true then some (wC x v e)else none
mutual
def Cg:aH->Nat
 |.mk k l=>if k=1 then 1 else Kr l
def Kr:List aH->Nat
 |[]=>0
 |t::r=>Cg t+Kr r
end
def Nx (c:List gj):Prop:=∀b∈c,Cg b.ty=0
mutual
def zW:an->List an
 |.mk k s n t f b l=>(if k=14 then [.mk k s n t f b l]else [])++D1 l
def D1:List an->List an
 |[]=>[]
 |e::r=>zW e++D1 r
end
def LK (e:an):Bool:=aR e && !((aL e).any fun t=>decide (0<Cg t))
def bP (e:an):an:=if bt e.kind=true then .mk e.kind e.name e.num iN e.fr e.label e.kids else e
theorem Ch {d:Nat} {e:an} (h:gN 14 d e):gN 14 d (mapM bP e)/\aK (mapM bP e)=aK e/\xu ld e (mapM bP e)/\mapM aM (mapM bP e)=mapM aM e:=by
 induction h with
 | @var d s _ hs=>simp only[mapM,ch,bP,bt];exact⟨.var (by omega) hs,rfl,.var s,rfl⟩
 | @num d k _ h1 h2=>simp only[mapM,ch,bP,bt];exact⟨.num (by omega) h1 h2,rfl,.num k,rfl⟩
 |pz _=>simp only[mapM,ch,bP,bt];exact⟨.pz (by omega),rfl,.pz,rfl⟩
 |pA _=>simp only[mapM,ch,bP,bt];exact⟨.pA (by omega),rfl,.pA,rfl⟩
 | @lam d s t b _ hs _ _ ih=>
  obtain⟨i1,i2,i3,i4⟩:=ih;have e1:mapM bP (nJ s t b)=nJ s iN (mapM bP b):=by simp[mapM,ch,bP,bt]
  rw[e1];exact⟨.lam (by omega) hs vv i1,by simp[aK,a7,i2],.lam (vz t) i3,by simp[mapM,ch,aM,i4]⟩
 | @n2 d k a b _ hk _ _ iha ihb=>
  obtain⟨i1,i2,i3,i4⟩:=iha;obtain⟨j1,j2,j3,j4⟩:=ihb;have EN:bt k=false:=by rcases hk with rfl|rfl|rfl|rfl<;>rfl
  have e1:mapM bP (xt k a b)=xt k (mapM bP a) (mapM bP b):=by simp[mapM,ch,bP,EN]
  rw[e1];exact⟨.n2 (by omega) hk i1 j1,by simp[aK,a7,i2,j2],.n2 i3 j3,by simp[mapM,ch,i4,j4]⟩
 | @ite d p a b _ _ _ _ ihp iha ihb=>
  obtain⟨o1,o2,o3,o4⟩:=ihp;obtain⟨i1,i2,i3,i4⟩:=iha;obtain⟨j1,j2,j3,j4⟩:=ihb;have e1:mapM bP (BP p a b)=BP (mapM bP p) (mapM bP a) (mapM bP b):=by simp[mapM,ch,bP,bt]
  rw[e1];exact⟨.ite (by omega) o1 i1 j1,by simp[aK,a7,o2,i2,j2],.ite o3 i3 j3,by simp[mapM,ch,o4,i4,j4]⟩
 | @n1 d k a _ hk _ ih=>
  obtain⟨i1,i2,i3,i4⟩:=ih;have EN:bt k=false:=by rcases hk with rfl|rfl<;>rfl
  have e1:mapM bP (AO k a)=AO k (mapM bP a):=by simp[mapM,ch,bP,EN]
  rw[e1];exact⟨.n1 (by omega) hk i1,by simp[aK,a7,i2],.n1 i3,by simp[mapM,ch,i4]⟩
 | @asc d t a _ _ _ ih=>
  obtain⟨i1,i2,i3,i4⟩:=ih;have e1:mapM bP (Gz a t)=Gz (mapM bP a) iN:=by simp[mapM,ch,bP,bt]
  rw[e1];exact⟨.asc (by omega) vv i1,by simp[aK,a7,i2],.asc (vz t) i3,by simp[mapM,ch,aM,i4]⟩
 |cast h=>exact absurd rfl h
abbrev D2 (e:an):an:=Gz e iN
def Ny (e:an):an:=
 if e.kind=13 then match e.kids with
  |x::_=>x
  |[]=>e
 else if e.kind=1\/e.kind=6\/e.kind=9\/e.kind=11\/e.kind=12 then e
 else if e.kind=5 then D2 (.mk 5 e.name e.num iN e.fr e.label e.kids)else D2 e
def QK (e:an):an:=mapM Ny e
def Nz (c:List gj):Prop:=∀b∈c,b.ty=iN/\∃z,b.name=[z]
def QL (c:List gj):List UInt8:=c.flatMap (·.name)
def Ks (e:an):an:=
 if e.kind=14 then match e.kids with
  |a::_=>if fQ e.fr e.ty=true then a else if e.fr.kind=1/\a.kind=14/\a.ty.kind=1/\fQ e.ty a.fr=true then(match a.kids with
    |x::_=>x
    |[]=>e)else e
  |[]=>e
 else e
def GW (e:an):an:=mapM Ks e
abbrev QM (e:an):aH×aH×Int:=(e.fr,e.ty,e.label)
abbrev Kt:aH:=.mk 4 [iN,iN]
abbrev GX:aH:=.mk 5 [iN,iN]
def D3 {α:Type} (f:α->List α):List α->List (List α)
 |[]=>[]
 |x::r=>(f x).map (·::r)++(D3 f r).map (x::·)
mutual
def yC:aH->List aH
 |.mk k l=>if k=1 then [dD,eT,Kt,GX]else(yD l).map (aH.mk k)
def yD:List aH->List (List aH)
 |[]=>[]
 |t::r=>(yC t).map (·::r)++(yD r).map (t::·)
end
mutual
def H2:Nat->aH->List aH
 |d,.mk k l=>if k=1 then dD::eT::(if 1<d then [Kt,GX]else [])else(D4 (d-1) l).map (aH.mk k)
def D4:Nat->List aH->List (List aH)
 |_,[]=>[]
 |d,t::r=>(H2 d t).map (·::r)++(D4 d r).map (t::·)
end
def H3 (t:aH):List aH:=if ay 4 t=true then(yC t).filter (ay 4)else []
mutual
def H4:aH->Nat
 |.mk _ l=>1+A3 l
def A3:List aH->Nat
 |[]=>0
 |t::r=>H4 t+A3 r
end
mutual
def Ku:aH->Nat
 |.mk k l=>if k=1 then 0 else 1+Kv l
def Kv:List aH->Nat
 |[]=>0
 |t::r=>Ku t+Kv r
end
def Kw (ts:List aH):List (List aH):=D3 H3 ts
def zX (e:an):Bool:=(ti [] e).isSome
def A4 (e:an):List an:=((Kw (aL e)).map (dJ e)).filter zX
def NA (e:an):Nat:=((aL e).map Ku).sum
def O8 (ts:List aH) (us:List aH):Prop:=∀(i:Nat) b,us[i]? =some b->∃a,ts[i]? =some a/\ld a b=true
def Kx:Nat->an->an
 |0,e=>e
 |n+1,e=>match A4 e with
  |[]=>e
  |x::_=>Kx n x
def FL (k:Int):aH:=if k=4\/k=5 then .mk k [iN,iN]else .mk k []
def Ci (t:aH):Bool:=decide (t.kind≠1)&& fQ t (FL t.kind)
def zY (e:an):Bool:=decide (e.kind=14)&&(decide (e.fr.kind=e.ty.kind)&&(decide (e.ty.kind=4)||decide (e.ty.kind=5)))
def NB (e:an):Bool:=decide (e.kind=14)&&(decide (e.ty.kind=1)&& Ci e.fr)
def H5 (e:an):Bool:=decide (e.kind=2)||(decide (e.kind=3)||(decide (e.kind=4)||decide (e.kind=5)))
mutual
def D5:an->Bool
 |.mk k s n t f b l=>if decide (k=10)||(zY (.mk k s n t f b [])||NB (.mk k s n t f b []))then Ky l else H5 (.mk k s n t f b [])
def Ky:List an->Bool
 |[]=>true
 |e::r=>D5 e && Ky r
end
def H6 (b:Bool):an:=if b then nT else jY
def GY (e:an):Option an:=
 if e.kind=6 then match e.kids with
  |a::b::_=>if a.kind=5 then match a.kids with
    |x::_=>some (wC a.name b x)
    |[]=>none
   else none
  |_=>none
 else if e.kind=7\/e.kind=8 then match e.kids with
  |a::b::_=>if a.kind=2/\b.kind=2 then some (if e.kind=7 then uW ((a.num+b.num).tmod 1000)else H6 (decide (a.num<b.num)))else none
  |_=>none
 else if e.kind=9 then match e.kids with
  |a::b::c::_=>if a.kind=3 then some b else if a.kind=4 then some c else none
  |_=>none
 else if e.kind=11\/e.kind=12 then match e.kids with
  |a::_=>if a.kind=10 then match a.kids with
    |x::y::_=>some (if e.kind=11 then x else y)
    |_=>none
   else none
  |_=>none
 else none
def D6 (k:Int):Int:=if k=6 then 1 else if k=7\/k=8 then 2 else if k=9 then 3 else if k=11\/k=12 then 4 else 5
def LL (e:an):Nat:=if e.kind=9 then 1 else e.kids.length
def FM:List an->Option Nat
 |[]=>none
 |e::r=>if D5 e=true then(FM r).map (·+1)else some 0
mutual
def vR:an->an×Int×Int
 |.mk k s n t f b l=>match D7 (if k=9 then 1 else l.length) l with
  |some (l',c,err)=>(.mk k s n t f b l',c,err)
  |none=>match GY (.mk k s n t f b l)with
   |some x=>(x,1,0)
   |none=>(iz,2,D6 k)
def D7:Nat->List an->Option (List an×Int×Int)
 |0,_=>none
 |_,[]=>none
 |n+1,e::r=>if D5 e=true then(D7 n r).map fun p=>(e::p.1,p.2.1,p.2.2)else
   let p:=vR e
   some (p.1::r,p.2.1,p.2.2)
end
def tT (e:an):Bool:=jj e && Gt e
def ee (e:an):an×Int×Int:=
 if tT e=true then
  if D5 e=true then(e,0,0)
  else if(vR e).2.1=1 then(if tT (vR e).1=true then((vR e).1,1,0)else(iz,4,0))else(iz,(vR e).2.1,(vR e).2.2)
 else(iz,3,0)
def wN:Nat->an->an×Int×Int×Int
 |0,e=>((ee e).1,(ee e).2.1,(ee e).2.2,0)
 |n+1,e=>if(ee e).2.1=1 then((wN n (ee e).1).1,(wN n (ee e).1).2.1,(wN n (ee e).1).2.2.1,(wN n (ee e).1).2.2.2+1)
   else((ee e).1,(ee e).2.1,(ee e).2.2,0)
def GZ (n:Int):Bool:=decide (0<=n)&& decide (n<=300)
def I4 (e:an) (fuel:Int):an×Int×Int:=
 if GZ fuel=true then(if(wN fuel.toNat e).2.1=1 then(iz,5,0)else((wN fuel.toNat e).1,(wN fuel.toNat e).2.1,(wN fuel.toNat e).2.2.1))else(iz,3,0)
def H7 (e:an) (fuel:Int):Int:=if GZ fuel=true then(wN fuel.toNat e).2.2.2 else 0
def O9 {α:Type} (f:α->List α) (l:List α) (p:Nat):List (List α):=(D3 f (l.take p)).map (·++l.drop p)
def Pa (c:List gj) (e:an) (ts:List aH):Option aH:=
 if e.kind=14 then match ts with
  |x::_=>if fQ x e.fr=true then some e.ty else none
  |[]=>none
 else match Dv c e.kind e.name e.ty ts with
  |none=>none
  |some (ws,u)=>if ay 4 u=true/\zI ws ts=true then some u else none
def I5 (e:an):Option aH:=if jj e=true then AR [] e else none
theorem gN.plain {nt:Int} {d:Nat} {e:an} (h:gN nt d e):(e.kind=13\/e.kind=14->∃x,e.kids=[x])/\(¬(e.kind=13\/e.kind=14)->e.fr=cy/\e.label=0/\(e.kind≠5->e.ty=cy)):=by
 cases h with
 |var=>simp
 |num=>simp
 |pz=>simp
 |pA=>simp
 |lam=>simp
 |n2 _ hk=>refine⟨fun h=>?_,fun _=>by simp⟩;simp at h;omega
 |ite=>simp
 |n1 _ hk=>refine⟨fun h=>?_,fun _=>by simp⟩;simp at h;omega
 |asc=>simp
 |cast=>simp
end Go.Av
