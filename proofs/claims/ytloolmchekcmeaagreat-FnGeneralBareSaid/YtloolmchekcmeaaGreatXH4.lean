/- A part. -/
import Derived.Test.YtloolmchekcmeaaGreatXH3
import Derived.Laws.Cover3
set_option linter.unusedVariables false
set_option linter.unusedSimpArgs false
open List renaming range->UP,nodup_nil->UQ
open Bool renaming and_eq_true->UR
namespace Go.Av
open Go
section
variable {P:Program} {n:Nat} {ι:Type} {Q:Exit->St->Prop} {QX:ι->Exit->St->Prop} {s s':St} {y:Code}
end
section
variable {P:Program} {s:St} {f:FuncId} {xs as:List AV} {K:AV->List (List CV)->List bp->Prop}
theorem mu (ids:List Nat) {Vc Vc':List (List CV)} {r:AV} {Ac':List bp} (hn:ids.Nodup) (cr:fA s.A ids xs=some as) (hV:fb s.A s.V ids ids=some Vc) (hc:ah P f as Vc r Vc' Ac')
  (hK:K (r.ej ids s.V.length s.A.length) (bQ s.A.length s.V.length ids s.V ids Vc') (bC s.A (bq xs++bw s.V ids)++Ac')):fM P s f xs K:=
 .inl ⟨ids,as,Vc,r,Vc',Ac',hn,cr,hV,hc,hK⟩
theorem aG.g {fn:Func} {e:Exit} {m:Nat} {r:AV} {V':List (List CV)} (he:e=.normal\/e=.ret) {ys:List AV} (hr:(eD P s fn.results.toList).bind (aI s.A (UP m) [])=some ys) (h1:one ys=r)
  (hV:ev s.A s.V (UP m) [] (UP m)=some V'):aG P fn m r V' [] e s:=by
 cases hx:eD P s fn.results.toList with
 |none=>rw[hx]at hr;simp at hr
 |some xs=>rw[hx]at hr;exact⟨he,[],[],xs,ys,hx,UQ,UQ,by simp,by simpa using hr,h1.symm,by simpa using hV,rfl⟩
end
attribute [simp] fb bQ bw back ev one
end Go.Av
namespace Go.Av
open Go
abbrev RF (b:gj):AV:=.agg [.d (.str b.name),.d (.i b.ty.kind),.d (.sl (b.ty.kids.map cD))]
abbrev iz:an:=.mk 0 [] 0 cy cy 0 []
abbrev OK:Option (an×aH)->List AV
 |some (e,t)=>[cw e,ep t,.b true]
 |none=>[cw iz,ep cy,.b false]
mutual
def tC:an->an->Bool
 |.mk k s n t f b l,.mk k' s' n' t' f' b' l'=>decide (k=k')&&(decide (s=s')&&(decide (n=n')&&(fQ t t' &&(fQ f f' &&(decide (b=b')&& jK l l')))))
def jK:List an->List an->Bool
 |[],[]=>true
 |x::xs,y::ys=>tC x y && jK xs ys
 |_,_=>false
end
mutual
theorem BQ:∀(a b:an),tC a b=true->a=b
 |.mk k s n t f b l,.mk k' s' n' t' f' b' l',h=>by
  simp only[tC,UR,decide_eq_true_eq]at h;obtain⟨rfl,rfl,rfl,h1,h2,rfl,h3⟩:=h;rw[qv t t' h1,qv f f' h2,tD l l' h3]
theorem tD:∀(l m:List an),jK l m=true->l=m
 |[],[],_=>rfl
 |x::xs,y::ys,h=>by
  simp only[jK,UR]at h;rw[BQ x y h.1,tD xs ys h.2]
 |[],_::_,h=>by simp[jK]at h
 |_::_,[],h=>by simp[jK]at h
end
mutual
theorem yh:∀(a:an),tC a a=true
 |.mk k s n t f b l=>by simp[tC,rj,pC l]
theorem pC:∀(l:List an),jK l l=true
 |[]=>rfl
 |x::xs=>by simp[jK,yh x,pC xs]
end
mutual
def mapM (g:an->an):an->an
 |.mk k s n t f b l=>g (.mk k s n t f b (ch g l))
def ch (g:an->an):List an->List an
 |[]=>[]
 |e::r=>mapM g e::ch g r
end
theorem yi (g:an->an):∀(l:List an),ch g l=l.map (mapM g)
 |[]=>rfl
 |e::r=>by simp[ch,yi g r]
theorem mw (g:an->an) (e:an):mapM g e=g (.mk e.kind e.name e.num e.ty e.fr e.label (e.kids.map (mapM g))):=by
 cases e;simp only[mapM,yi];rfl
end Go.Av
