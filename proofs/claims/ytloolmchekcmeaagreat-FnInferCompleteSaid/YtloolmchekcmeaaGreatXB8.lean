/- A part. -/
import Derived.Test.YtloolmchekcmeaaGreatXB7
set_option linter.unusedVariables false
set_option linter.unusedSimpArgs false
open List renaming range->Zz
namespace Go.Av
open Go
theorem dn.elim {P:Program} {f:FuncId} {as_:List AV} {α:Type} {enc:α->AV} {arr:α->List bu} {good:α->Prop} (h:dn P f as_ (RV enc arr good)):∃x,good x/\ah P f as_ [] (enc x) [] (arr x):=by
 obtain⟨v,V,A,⟨rfl,x,⟨rfl,rfl⟩,hg⟩,hc⟩:=h;exact⟨x,hg,hc⟩
section
variable {P:Program} {s:St} {f:FuncId} {xs as_:List AV} {K:AV->List (List CV)->List bu->Prop} {r:AV}
theorem kC (h:Nat) {a a':bu} (hc:e7 P f as_ [] [a] r [] [a']) (ha:s.A[h]? =some a) (hw:a.wr=true) (hz:a'.sz=a.sz) (b8:fb [h] xs=some as_)
  (hK:K (r.dO [h] s.A.length) s.V (s.A.set h a')):gJ P s f xs K:=by
 refine .inr ⟨[h],as_,r,[a'],by simp,fun i h' hi=>?_,b8,?_,?_⟩
 ·match i with
  |0=>simp at hi;subst hi;exact⟨a,a',ha,hw,rfl,hz⟩
  |i+1=>simp at hi
 ·simpa[ha]using hc
 ·simpa[qE]using hK
theorem qM.g {fn:Func} {e:Exit} {m a:Nat} {V':List (List CV)} {A':List bu} {ys:List AV} (he:e=.normal\/e=.ret) (hr:(fu P s fn.results.toList).bind (ay s.A (Zz m) (Zz a))=some ys) (h1:one ys=r)
  (hV:fD s.A s.V (Zz m) (Zz a) (Zz m)=some V') (hA:dS s.A (Zz a)=some A'):qM P fn m a r V' A' e s:=by
 obtain⟨xs,NC,mJ⟩:=Option.bind_eq_some_iff.1 hr;exact⟨he,[],Zz a,xs,ys,⟨[],by simp⟩,NC,List.nodup_range,by simp,by simp,by simpa using mJ,h1.symm,by simpa using hV,hA⟩
theorem qM.one {fn:Func} {e:Exit} {A':bu} (he:e=.normal\/e=.ret) (hr:(fu P s fn.results.toList).bind (ay s.A [] [0])=some [r]) (hA:s.A[0]? =some A'):qM P fn 0 1 r [] [A'] e s:=
 qM.g he hr rfl rfl (by simp[dS,hA,List.range_succ])
end
attribute [simp] fb AV.eH CV.eH iX AV.dO CV.dO
end Go.Av
