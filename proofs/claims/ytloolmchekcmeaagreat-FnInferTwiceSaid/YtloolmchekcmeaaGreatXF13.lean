/- A part. -/
import Derived.Test.YtloolmchekcmeaaGreatXF12
import Derived.Lib.Bytealg
set_option linter.unusedVariables false
set_option linter.unusedSimpArgs false
open List renaming drop_take->abt,take_take->abu,length_append->abv,nil_append->abw
open Nat renaming add_comm->abx
namespace Go.Av
attribute [-simp] Go.Av.dt Go.Av.xQ Go.Av.fb Go.Av.AV.eF Go.Av.CV.eF Go.Av.iW Go.Av.AV.dN Go.Av.CV.dN Go.Av.ch Go.Av.eY Go.Av.fw Go.Av.fi Go.Av.cY Go.Av.cb
open Go
mutual
def xe (c:UInt8):List UInt8->ao->Bool
 |bd,.mk k s _ _ _ _ l=>(decide (k=1)&&(decide (s=[c])&& !(bd.contains c)))||qk c (if k=5 then bd++s else bd) l
def qk (c:UInt8):List UInt8->List ao->Bool
 |_,[]=>false
 |bd,e::r=>xe c bd e||qk c bd r
end
@[irreducible] def Es:List UInt8:=(List.range 26).map fun i=>UInt8.ofNat (97+i)
def HZ (e:ao):List UInt8:=Es.filter fun c=>xe c [] e
theorem y9 {s:List UInt8} (h:dX s=true):∃c,s=[c]/\97<=c.toNat/\c.toNat<=122:=by
 match s with
 |[]=>simp[dX]at h
 |[c]=>simp[dX]at h;exact⟨c,rfl,by omega,by omega⟩
 |_::_::_=>simp[dX]at h
abbrev RG (S:List Bool):List CV:=S.map fun b=>CV.d (.bool b)
def VU (f:UInt8->Bool) (S:List Bool):List Bool:=List.zipWith (fun c b=>b||f c) Es S
@[irreducible] def U1:List Bool:=List.replicate 26 false
def Ma (e:ao) (x:List UInt8) (v:ao):Option ao:=
 if(aQ e &&(aQ v &&(dX x &&(decide (HZ v=[])&& aQ (zN x v e)))))=true then some (zN x v e)else none
mutual
def iy:aI->Nat
 |.mk k l=>if k=1 then 1 else H0 l
def H0:List aI->Nat
 |[]=>0
 |t::r=>iy t+H0 r
end
theorem BV:∀l:List aI,H0 l=(l.map iy).sum
 |[]=>rfl
 |t::r=>by simp[H0,BV r]
theorem BW (t:aI):iy t=if t.kind=1 then 1 else(t.kids.map iy).sum:=by cases t;simp only[iy,BV];rfl
theorem J7:∀(t:aI),iy t<=fA t+1:=by
 intro t;induction t using aI.ind with
 |h t ih=>
  rw[BW,eI];split
  ·omega
  ·have:∀l:List aI,(∀u∈l,iy u<=fA u+1)->(l.map iy).sum<=cP l:=by
    intro l;induction l with
    |nil=>intro _;simp
    |cons u r ihr=>intro h;have h1:=h u (by simp);have h2:=ihr fun v hv=>h v (by simp[hv]);simp only[List.map_cons,List.sum_cons,cP];omega
   have:=this t.kids ih;omega
theorem Et {k:Int} (hk:k≠1) (a b:aI):iy (.mk k [a,b])=iy a+iy b:=by simp[iy,H0,hk]
def RH (c:List dF):Prop:=∀b∈c,iy b.ty=0
mutual
def Dq:ao->List ao
 |.mk k s n t f b l=>(if k=14 then [.mk k s n t f b l]else [])++H2 l
def H2:List ao->List ao
 |[]=>[]
 |e::r=>Dq e++H2 r
end
def sL (e:ao):Bool:=aQ e && !((aF e).any fun t=>decide (0<iy t))
theorem BX {e:ao}:sL e=true↔aQ e=true/\∀u∈aF e,iy u=0:=by
 simp only[sL,Bool.and_eq_true,Bool.not_eq_true',List.any_eq_false,decide_eq_true_eq];exact⟨fun h=>⟨h.1,fun u hu=>by have:=h.2 u hu;omega⟩,fun h=>⟨h.1,fun u hu=>by have:=h.2 u hu;omega⟩⟩
def Dr (e:ao):ao:=if bx e.kind=true then .mk e.kind e.name e.num lg e.fr e.label e.kids else e
abbrev H3 (e:ao):ao:=MZ e lg
def RJ (e:ao):ao:=
 if e.kind=13 then match e.kids with
  |x::_=>x
  |[]=>e
 else if e.kind=1\/e.kind=6\/e.kind=9\/e.kind=11\/e.kind=12 then e
 else if e.kind=5 then H3 (.mk 5 e.name e.num lg e.fr e.label e.kids)else H3 e
def U2 (e:ao):ao:=mapM RJ e
def RK (c:List dF):Prop:=∀b∈c,b.ty=lg/\∃z,b.name=[z]
def U3 (c:List dF):List UInt8:=c.flatMap (·.name)
def OJ (e:ao):ao:=
 if e.kind=14 then match e.kids with
  |a::_=>if dS e.fr e.ty=true then a else if e.fr.kind=1/\a.kind=14/\a.ty.kind=1/\dS e.ty a.fr=true then(match a.kids with
    |x::_=>x
    |[]=>e)else e
  |[]=>e
 else e
def K3 (e:ao):ao:=mapM OJ e
abbrev U4 (e:ao):aI×aI×Int:=(e.fr,e.ty,e.label)
abbrev OK:aI:=.mk 4 [lg,lg]
abbrev K4:aI:=.mk 5 [lg,lg]
def H4 {α:Type} (f:α->List α):List α->List (List α)
 |[]=>[]
 |x::r=>(f x).map (·::r)++(H4 f r).map (x::·)
mutual
def BY:aI->List aI
 |.mk k l=>if k=1 then [bw,cF,OK,K4]else(BZ l).map (aI.mk k)
def BZ:List aI->List (List aI)
 |[]=>[]
 |t::r=>(BY t).map (·::r)++(BZ r).map (t::·)
end
mutual
def Mb:Nat->aI->List aI
 |d,.mk k l=>if k=1 then bw::cF::(if 1<d then [OK,K4]else [])else(H5 (d-1) l).map (aI.mk k)
def H5:Nat->List aI->List (List aI)
 |_,[]=>[]
 |d,t::r=>(Mb d t).map (·::r)++(H5 d r).map (t::·)
end
def Mc (t:aI):List aI:=if ak 4 t=true then(BY t).filter (ak 4)else []
mutual
def Md:aI->Nat
 |.mk _ l=>1+Eu l
def Eu:List aI->Nat
 |[]=>0
 |t::r=>Md t+Eu r
end
mutual
def OL:aI->Nat
 |.mk k l=>if k=1 then 0 else 1+OM l
def OM:List aI->Nat
 |[]=>0
 |t::r=>OL t+OM r
end
def ON (ts:List aI):List (List aI):=H4 Mc ts
def Ds (e:ao):Bool:=(eM [] e).isSome
def Ev (e:ao):List ao:=((ON (aF e)).map (bG e)).filter Ds
def RL (e:ao):Nat:=((aF e).map OL).sum
theorem Dt:∀(e:ao) (ts:List aI),ts.length=(aF e).length->aF (bG e ts)=ts:=by
 intro e;induction e using ao.ind with
 |h e ih=>
  have hS:∀(l:List ao),(∀u∈l,∀ts,ts.length=(aF u).length->aF (bG u ts)=ts)->∀ts,ts.length=(az l).length->az (cX l ts)=ts:=by
   intro l;induction l with
   |nil=>intro _ ts h;simp[az]at h;subst h;rfl
   |cons u r ihr=>
    intro h ts hl;simp only[az,abv]at hl;simp only[cX,az];have h1:=h u (by simp) (ts.take (aF u).length) (by simp;omega);have h2:bG u ts=bG u (ts.take (aF u).length):=by
     clear h1 ihr h;have key:∀(u:ao) (ts us:List aI),ts.take (aF u).length=us.take (aF u).length->bG u ts=bG u us:=by
      intro u;induction u using ao.ind with
      |h u ihu=>
       intro ts us Ew;have Tn:∀(l:List ao),(∀v∈l,∀ts us:List aI,ts.take (aF v).length=us.take (aF v).length->bG v ts=bG v us)->∀ts us:List aI,ts.take (az l).length=us.take (az l).length->cX l ts=cX l us:=by
        intro l;induction l with
        |nil=>intro _ _ _ _;rfl
        |cons v r ihr=>
         intro h ts us he;simp only[az,abv]at he;simp only[cX];have e1:ts.take (aF v).length=us.take (aF v).length:=by
          have:=congrArg (List.take (aF v).length) he;rwa[abu,abu,Nat.min_eq_left (Nat.le_add_right _ _)]at this
         have e2:(ts.drop (aF v).length).take (az r).length=(us.drop (aF v).length).take (az r).length:=by
          have:=congrArg (List.drop (aF v).length) he;rw[abt,abt,Nat.add_sub_cancel_left]at this;exact this
         rw[h v (by simp) ts us e1,ihr (fun w hw=>h w (by simp[hw])) _ _ e2]
       rw[ni,ni u us];rw[fh]at Ew;by_cases hh:bx u.kind=true
       ·rw[if_pos hh]at Ew;simp only[if_pos hh];simp only[abv,List.length_singleton]at Ew;have e1:ts.headD u.ty=us.headD u.ty:=by
         cases ts with
         |nil=>cases us with
          |nil=>rfl
          |cons b us=>rw[abx]at Ew;simp at Ew
         |cons a ts=>cases us with
          |nil=>rw[abx]at Ew;simp at Ew
          |cons b us=>rw[abx]at Ew;simp at Ew;simp[Ew.1]
        have e2:(ts.drop 1).take (az u.kids).length=(us.drop 1).take (az u.kids).length:=by
         have:=congrArg (List.drop 1) Ew;rw[abt,abt]at this;simpa using this
        rw[e1,Tn u.kids ihu _ _ e2]
       ·rw[if_neg hh]at Ew;simp only[if_neg hh];rw[abw]at Ew;rw[Tn u.kids ihu _ _ Ew]
     exact key u ts _ (by rw[abu,Nat.min_self])
    rw[h2,h1,ihr (fun v hv=>h v (by simp[hv])) (ts.drop (aF u).length) (by simp;omega),List.take_append_drop]
  intro ts hl;rw[ni,fh];rw[fh]at hl;by_cases hh:bx e.kind=true
  ·simp only[ao.bX,ao.oH,ao.bQ,if_pos hh]at hl⊢;cases ts with
   |nil=>simp at hl
   |cons t r=>
    simp at hl;rw[List.headD_cons,List.drop_one,List.tail_cons,hS e.kids ih r (by omega)]
    rfl
  ·simp only[ao.bX,ao.oH,ao.bQ,if_neg hh]at hl⊢;rw[abw]at hl⊢;exact hS e.kids ih ts hl
def To (ts:List aI) (us:List aI):Prop:=∀(i:Nat) b,us[i]? =some b->∃a,ts[i]? =some a/\CX a b=true
def OO:Nat->ao->ao
 |0,e=>e
 |n+1,e=>match Ev e with
  |[]=>e
  |x::_=>OO n x
def J8 (k:Int):aI:=if k=4\/k=5 then .mk k [lg,lg]else .mk k []
def FO (t:aI):Bool:=decide (t.kind≠1)&& dS t (J8 t.kind)
def Du (e:ao):Bool:=decide (e.kind=14)&&(decide (e.fr.kind=e.ty.kind)&&(decide (e.ty.kind=4)||decide (e.ty.kind=5)))
def RM (e:ao):Bool:=decide (e.kind=14)&&(decide (e.ty.kind=1)&& FO e.fr)
def Me (e:ao):Bool:=decide (e.kind=2)||(decide (e.kind=3)||(decide (e.kind=4)||decide (e.kind=5)))
mutual
def H6:ao->Bool
 |.mk k s n t f b l=>if decide (k=10)||(Du (.mk k s n t f b [])||RM (.mk k s n t f b []))then OP l else Me (.mk k s n t f b [])
def OP:List ao->Bool
 |[]=>true
 |e::r=>H6 e && OP r
end
def Mf (b:Bool):ao:=if b then qL else my
def K5 (e:ao):Option ao:=
 if e.kind=6 then match e.kids with
  |a::b::_=>if a.kind=5 then match a.kids with
    |x::_=>some (zN a.name b x)
    |[]=>none
   else none
  |_=>none
 else if e.kind=7\/e.kind=8 then match e.kids with
  |a::b::_=>if a.kind=2/\b.kind=2 then some (if e.kind=7 then yf ((a.num+b.num).tmod 1000)else Mf (decide (a.num<b.num)))else none
  |_=>none
 else if e.kind=9 then match e.kids with
  |a::b::c::_=>if a.kind=3 then some b else if a.kind=4 then some c else none
  |_=>none
 else if e.kind=11\/e.kind=12 then match e.kids with
  |a::_=>if a.kind=10 then match a.kids with
    |x::y::_=>some (if e.kind=11 then x else y)
    |_=>none
   else none
  |_=>none
 else none
def H7 (k:Int):Int:=if k=6 then 1 else if k=7\/k=8 then 2 else if k=9 then 3 else if k=11\/k=12 then 4 else 5
def P4 (e:ao):Nat:=if e.kind=9 then 1 else e.kids.length
def J9:List ao->Option Nat
 |[]=>none
 |e::r=>if H6 e=true then(J9 r).map (·+1)else some 0
mutual
def zc:ao->ao×Int×Int
 |.mk k s n t f b l=>match H8 (if k=9 then 1 else l.length) l with
  |some (l',c,err)=>(.mk k s n t f b l',c,err)
  |none=>match K5 (.mk k s n t f b l)with
   |some x=>(x,1,0)
   |none=>(ee,2,H7 k)
def H8:Nat->List ao->Option (List ao×Int×Int)
 |0,_=>none
 |_,[]=>none
 |n+1,e::r=>if H6 e=true then(H8 n r).map fun p=>(e::p.1,p.2.1,p.2.2)else
   let p:=zc e
   some (p.1::r,p.2.1,p.2.2)
end
def xf (e:ao):Bool:=eS e && KM e
def fG (e:ao):ao×Int×Int:=
 if xf e=true then
  if H6 e=true then(e,0,0)
  else if(zc e).2.1=1 then(if xf (zc e).1=true then((zc e).1,1,0)else(ee,4,0))else(ee,(zc e).2.1,(zc e).2.2)
 else(ee,3,0)
def Ab:Nat->ao->ao×Int×Int×Int
 |0,e=>((fG e).1,(fG e).2.1,(fG e).2.2,0)
 |n+1,e=>if(fG e).2.1=1 then((Ab n (fG e).1).1,(Ab n (fG e).1).2.1,(Ab n (fG e).1).2.2.1,(Ab n (fG e).1).2.2.2+1)
   else((fG e).1,(fG e).2.1,(fG e).2.2,0)
def K6 (n:Int):Bool:=decide (0<=n)&& decide (n<=300)
def M9 (e:ao) (fuel:Int):ao×Int×Int:=
 if K6 fuel=true then(if(Ab fuel.toNat e).2.1=1 then(ee,5,0)else((Ab fuel.toNat e).1,(Ab fuel.toNat e).2.1,(Ab fuel.toNat e).2.2.1))else(ee,3,0)
def Mg (e:ao) (fuel:Int):Int:=if K6 fuel=true then(Ab fuel.toNat e).2.2.2 else 0
def Tp {α:Type} (f:α->List α) (l:List α) (p:Nat):List (List α):=(H4 f (l.take p)).map (·++l.drop p)
def Tq (c:List dF) (e:ao) (ts:List aI):Option aI:=
 if e.kind=14 then match ts with
  |x::_=>if dS x e.fr=true then some e.ty else none
  |[]=>none
 else match cJ c e.kind e.name e.ty ts with
  |none=>none
  |some (ws,u)=>if ak 4 u=true/\Da ws ts=true then some u else none
def Na (e:ao):Option aI:=if eS e=true then Ej [] e else none
theorem kG.plain {nt:Int} {d:Nat} {e:ao} (h:kG nt d e):(e.kind=13\/e.kind=14->∃x,e.kids=[x])/\(¬(e.kind=13\/e.kind=14)->e.fr=bk/\e.label=0/\(e.kind≠5->e.ty=bk)):=by
 cases h with
 |var=>simp
 |num=>simp
 |uK=>simp
 |uL=>simp
 |lam=>simp
 |n2 _ hk=>refine⟨fun h=>?_,fun _=>by simp⟩;simp at h;omega
 |ite=>simp
 |n1 _ hk=>refine⟨fun h=>?_,fun _=>by simp⟩;simp at h;omega
 |asc=>simp
 |cast=>simp
end Go.Av
