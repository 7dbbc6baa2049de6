/- A part. -/
import Derived.Test.YtloolmchekcmeaaGreatXB11
import Derived.Lib.Bytealg
set_option linter.unusedVariables false
set_option linter.unusedSimpArgs false
namespace Go.Av
attribute [-simp] Go.Av.dJ Go.Av.yH Go.Av.fb Go.Av.AV.eH Go.Av.CV.eH Go.Av.iX Go.Av.AV.dO Go.Av.CV.dO Go.Av.cj Go.Av.e0 Go.Av.fH Go.Av.fy Go.Av.cW Go.Av.cg
open Go
mutual
def xz (c:UInt8):List UInt8->al->Bool
 |bd,.mk k s _ _ _ _ l=>(decide (k=1)&&(decide (s=[c])&& !(bd.contains c)))||qi c (if k=5 then bd++s else bd) l
def qi (c:UInt8):List UInt8->List al->Bool
 |_,[]=>false
 |bd,e::r=>xz c bd e||qi c bd r
end
@[irreducible] def E1:List UInt8:=(List.range 26).map fun i=>UInt8.ofNat (97+i)
def Ia (e:al):List UInt8:=E1.filter fun c=>xz c [] e
theorem qj {s:List UInt8} (h:dT s=true):∃c,s=[c]/\97<=c.toNat/\c.toNat<=122:=by
 match s with
 |[]=>simp[dT]at h
 |[c]=>simp[dT]at h;exact⟨c,rfl,by omega,by omega⟩
 |_::_::_=>simp[dT]at h
abbrev RE (S:List Bool):List CV:=S.map fun b=>CV.d (.bool b)
def V4 (f:UInt8->Bool) (S:List Bool):List Bool:=List.zipWith (fun c b=>b||f c) E1 S
@[irreducible] def U7:List Bool:=List.replicate 26 false
def L8 (e:al) (x:List UInt8) (v:al):Option al:=
 if(aS e &&(aS v &&(dT x &&(decide (Ia v=[])&& aS (Am x v e)))))=true then some (Am x v e)else none
mutual
def eN:aG->Nat
 |.mk k l=>if k=1 then 1 else Ib l
def Ib:List aG->Nat
 |[]=>0
 |t::r=>eN t+Ib r
end
theorem Ct:∀l:List aG,Ib l=(l.map eN).sum
 |[]=>rfl
 |t::r=>by simp[Ib,Ct r]
theorem Cu (t:aG):eN t=if t.kind=1 then 1 else(t.kids.map eN).sum:=by cases t;simp only[eN,Ct];rfl
theorem JW:∀(t:aG),eN t<=fE t+1:=by
 intro t;induction t using aG.ind with
 |h t ih=>
  rw[Cu,eK];split
  ·omega
  ·have:∀l:List aG,(∀u∈l,eN u<=fE u+1)->(l.map eN).sum<=cS l:=by
    intro l;induction l with
    |nil=>intro _;simp
    |cons u r ihr=>intro h;have h1:=h u (by simp);have h2:=ihr fun v hv=>h v (by simp[hv]);simp only[List.map_cons,List.sum_cons,cS];omega
   have:=this t.kids ih;omega
theorem mu {k:Int} (hk:k≠1) (a b:aG):eN (.mk k [a,b])=eN a+eN b:=by simp[eN,Ib,hk]
theorem fO:∀{d:Nat} {a:aG},jq d a->∀{n:Nat} {b:aG},jq n b->eN a=0->eN b=0->aE a b=true->a=b:=by
 intro d a ha;induction ha with
 |any d=>intro n b hb h;simp[eN]at h
 |int d=>intro n b hb h h2 hc;cases hb<;>simp[aE,gz,eN]at hc h2⊢
 |bool d=>intro n b hb h h2 hc;cases hb<;>simp[aE,gz,eN]at hc h2⊢
 | @fn d x y _ _ ih1 ih2=>
  intro n b hb h h2 hc;cases hb with
  |any=>simp[eN]at h2
  |int=>simp[aE,gz]at hc
  |bool=>simp[aE,gz]at hc
  |fn g1 g2=>
   rw[mu (by omega)]at h h2;rw[sF (by omega)]at hc;simp at hc;rw[ih1 g1 (by omega) (by omega) hc.1,ih2 g2 (by omega) (by omega) hc.2]
  |pair=>simp[aE,gz]at hc
 | @pair d x y _ _ ih1 ih2=>
  intro n b hb h h2 hc;cases hb with
  |any=>simp[eN]at h2
  |int=>simp[aE,gz]at hc
  |bool=>simp[aE,gz]at hc
  |fn=>simp[aE,gz]at hc
  |pair g1 g2=>
   rw[mu (by omega)]at h h2;rw[sF (by omega)]at hc;simp at hc;rw[ih1 g1 (by omega) (by omega) hc.1,ih2 g2 (by omega) (by omega) hc.2]
theorem om {k:Int} (hk:k=4\/k=5) {a x y:aG} (h:ch k a=some (x,y)) (ha:ak 4 a=true) (hs:eN a=0):a=.mk k [x,y]/\eN x=0/\eN y=0:=by
 have jl:k≠1:=by omega
 cases jq.of ha with
 |any d=>simp[eN]at hs
 |int d=>exfalso;rcases hk with rfl|rfl<;>simp[ch]at h
 |bool d=>exfalso;rcases hk with rfl|rfl<;>simp[ch]at h
 | @fn d p q _ _=>
  rcases hk with rfl|rfl
  ·simp[ch]at h;obtain⟨rfl,rfl⟩:=h;rw[mu (by omega)]at hs;exact⟨rfl,by omega,by omega⟩
  ·simp[ch]at h
 | @pair d p q _ _=>
  rcases hk with rfl|rfl
  ·simp[ch]at h
  ·simp[ch]at h;obtain⟨rfl,rfl⟩:=h;rw[mu (by omega)]at hs;exact⟨rfl,by omega,by omega⟩
def RF (c:List dt):Prop:=∀b∈c,eN b.ty=0
mutual
def D2:al->List al
 |.mk k s n t f b l=>(if k=14 then [.mk k s n t f b l]else [])++Ic l
def Ic:List al->List al
 |[]=>[]
 |e::r=>D2 e++Ic r
end
def qk (e:al):Bool:=aS e && !((aF e).any fun t=>decide (0<eN t))
theorem Cv {e:al}:qk e=true↔aS e=true/\∀u∈aF e,eN u=0:=by
 simp only[qk,Bool.and_eq_true,Bool.not_eq_true',List.any_eq_false,decide_eq_true_eq];exact⟨fun h=>⟨h.1,fun u hu=>by have:=h.2 u hu;omega⟩,fun h=>⟨h.1,fun u hu=>by have:=h.2 u hu;omega⟩⟩
def D3 (e:al):al:=if br e.kind=true then .mk e.kind e.name e.num kM e.fr e.label e.kids else e
abbrev Ie (e:al):al:=KQ e kM
def RG (e:al):al:=
 if e.kind=13 then match e.kids with
  |x::_=>x
  |[]=>e
 else if e.kind=1\/e.kind=6\/e.kind=9\/e.kind=11\/e.kind=12 then e
 else if e.kind=5 then Ie (.mk 5 e.name e.num kM e.fr e.label e.kids)else Ie e
def U8 (e:al):al:=mapM RG e
def RH (c:List dt):Prop:=∀b∈c,b.ty=kM/\∃z,b.name=[z]
def U9 (c:List dt):List UInt8:=c.flatMap (·.name)
def OJ (e:al):al:=
 if e.kind=14 then match e.kids with
  |a::_=>if eL e.fr e.ty=true then a else if e.fr.kind=1/\a.kind=14/\a.ty.kind=1/\eL e.ty a.fr=true then(match a.kids with
    |x::_=>x
    |[]=>e)else e
  |[]=>e
 else e
def K3 (e:al):al:=mapM OJ e
abbrev Va (e:al):aG×aG×Int:=(e.fr,e.ty,e.label)
abbrev OK:aG:=.mk 4 [kM,kM]
abbrev K4:aG:=.mk 5 [kM,kM]
def Ig {α:Type} (f:α->List α):List α->List (List α)
 |[]=>[]
 |x::r=>(f x).map (·::r)++(Ig f r).map (x::·)
mutual
def Cw:aG->List aG
 |.mk k l=>if k=1 then [bt,cm,OK,K4]else(Cx l).map (aG.mk k)
def Cx:List aG->List (List aG)
 |[]=>[]
 |t::r=>(Cw t).map (·::r)++(Cx r).map (t::·)
end
mutual
def L9:Nat->aG->List aG
 |d,.mk k l=>if k=1 then bt::cm::(if 1<d then [OK,K4]else [])else(Ih (d-1) l).map (aG.mk k)
def Ih:Nat->List aG->List (List aG)
 |_,[]=>[]
 |d,t::r=>(L9 d t).map (·::r)++(Ih d r).map (t::·)
end
def Ma (t:aG):List aG:=if ak 4 t=true then(Cw t).filter (ak 4)else []
mutual
def Mb:aG->Nat
 |.mk _ l=>1+E2 l
def E2:List aG->Nat
 |[]=>0
 |t::r=>Mb t+E2 r
end
mutual
def OL:aG->Nat
 |.mk k l=>if k=1 then 0 else 1+OM l
def OM:List aG->Nat
 |[]=>0
 |t::r=>OL t+OM r
end
def ON (ts:List aG):List (List aG):=Ig Ma ts
def D4 (e:al):Bool:=(bO [] e).isSome
def E3 (e:al):List al:=((ON (aF e)).map (bx e)).filter D4
def RJ (e:al):Nat:=((aF e).map OL).sum
def Tt (ts:List aG) (us:List aG):Prop:=∀(i:Nat) b,us[i]? =some b->∃a,ts[i]? =some a/\DD a b=true
def OO:Nat->al->al
 |0,e=>e
 |n+1,e=>match E3 e with
  |[]=>e
  |x::_=>OO n x
def JX (k:Int):aG:=if k=4\/k=5 then .mk k [kM,kM]else .mk k []
def Ga (t:aG):Bool:=decide (t.kind≠1)&& eL t (JX t.kind)
def D5 (e:al):Bool:=decide (e.kind=14)&&(decide (e.fr.kind=e.ty.kind)&&(decide (e.ty.kind=4)||decide (e.ty.kind=5)))
def RK (e:al):Bool:=decide (e.kind=14)&&(decide (e.ty.kind=1)&& Ga e.fr)
def Mc (e:al):Bool:=decide (e.kind=2)||(decide (e.kind=3)||(decide (e.kind=4)||decide (e.kind=5)))
mutual
def Ii:al->Bool
 |.mk k s n t f b l=>if decide (k=10)||(D5 (.mk k s n t f b [])||RK (.mk k s n t f b []))then OP l else Mc (.mk k s n t f b [])
def OP:List al->Bool
 |[]=>true
 |e::r=>Ii e && OP r
end
def Md (b:Bool):al:=if b then lH else iO
def K5 (e:al):Option al:=
 if e.kind=6 then match e.kids with
  |a::b::_=>if a.kind=5 then match a.kids with
    |x::_=>some (Am a.name b x)
    |[]=>none
   else none
  |_=>none
 else if e.kind=7\/e.kind=8 then match e.kids with
  |a::b::_=>if a.kind=2/\b.kind=2 then some (if e.kind=7 then rm ((a.num+b.num).tmod 1000)else Md (decide (a.num<b.num)))else none
  |_=>none
 else if e.kind=9 then match e.kids with
  |a::b::c::_=>if a.kind=3 then some b else if a.kind=4 then some c else none
  |_=>none
 else if e.kind=11\/e.kind=12 then match e.kids with
  |a::_=>if a.kind=10 then match a.kids with
    |x::y::_=>some (if e.kind=11 then x else y)
    |_=>none
   else none
  |_=>none
 else none
def Ij (k:Int):Int:=if k=6 then 1 else if k=7\/k=8 then 2 else if k=9 then 3 else if k=11\/k=12 then 4 else 5
def P2 (e:al):Nat:=if e.kind=9 then 1 else e.kids.length
def JY:List al->Option Nat
 |[]=>none
 |e::r=>if Ii e=true then(JY r).map (·+1)else some 0
mutual
def zH:al->al×Int×Int
 |.mk k s n t f b l=>match Ik (if k=9 then 1 else l.length) l with
  |some (l',c,err)=>(.mk k s n t f b l',c,err)
  |none=>match K5 (.mk k s n t f b l)with
   |some x=>(x,1,0)
   |none=>(ee,2,Ij k)
def Ik:Nat->List al->Option (List al×Int×Int)
 |0,_=>none
 |_,[]=>none
 |n+1,e::r=>if Ii e=true then(Ik n r).map fun p=>(e::p.1,p.2.1,p.2.2)else
   let p:=zH e
   some (p.1::r,p.2.1,p.2.2)
end
def xA (e:al):Bool:=lF e && KL e
def fI (e:al):al×Int×Int:=
 if xA e=true then
  if Ii e=true then(e,0,0)
  else if(zH e).2.1=1 then(if xA (zH e).1=true then((zH e).1,1,0)else(ee,4,0))else(ee,(zH e).2.1,(zH e).2.2)
 else(ee,3,0)
def Ay:Nat->al->al×Int×Int×Int
 |0,e=>((fI e).1,(fI e).2.1,(fI e).2.2,0)
 |n+1,e=>if(fI e).2.1=1 then((Ay n (fI e).1).1,(Ay n (fI e).1).2.1,(Ay n (fI e).1).2.2.1,(Ay n (fI e).1).2.2.2+1)
   else((fI e).1,(fI e).2.1,(fI e).2.2,0)
def K6 (n:Int):Bool:=decide (0<=n)&& decide (n<=300)
def Na (e:al) (fuel:Int):al×Int×Int:=
 if K6 fuel=true then(if(Ay fuel.toNat e).2.1=1 then(ee,5,0)else((Ay fuel.toNat e).1,(Ay fuel.toNat e).2.1,(Ay fuel.toNat e).2.2.1))else(ee,3,0)
def Me (e:al) (fuel:Int):Int:=if K6 fuel=true then(Ay fuel.toNat e).2.2.2 else 0
end Go.Av
