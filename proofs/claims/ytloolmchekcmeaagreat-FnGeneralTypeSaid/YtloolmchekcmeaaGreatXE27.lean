/- A part. -/
import Derived.Test.YtloolmchekcmeaaGreatXE26
import Derived.Test.YtloolmchekcmeaaGreatRows
import Derived.Test.YtloolmchekcmeaaGreatChecked
set_option linter.unusedVariables false
set_option linter.unusedSimpArgs false
namespace Go.Proofs.YtloolmchekcmeaaGreat
attribute [-simp] Go.Av.dw Go.Av.rN Go.Av.gv Go.Av.gi Go.Av.cP Go.Av.gJ Go.Av.cc Go.Av.bK Go.Av.back Go.Av.fg Go.Av.one Go.Av.di Go.Av.yl Go.Av.eS Go.Av.AV.ew Go.Av.CV.ew Go.Av.iG Go.Av.AV.dF Go.Av.CV.dF Go.Av.cb Go.Av.eL Go.Av.fj Go.Av.fa Go.Av.cT Go.Av.b9 Go.Av.IT.og Go.Av.IT.gU Go.Av.IT.gV Go.Av.IT.mA Go.Av.IT.oh Go.Av.IT.om Go.Av.IT.oo Go.Av.IT.ot Go.Av.IT.jF Go.Av.kY
open Go Go.Av
theorem Cy {α:Type} {f:α->List DV} {w:α->Prop}:∀{rows:List (List DV)},(∀r∈rows,∃a,r=f a/\w a)->∃l:List α,rows=l.map f/\∀a∈l,w a
 |[],_=>⟨[],rfl,by simp⟩
 |r::rs,h=>by
  obtain⟨a,ha,hw⟩:=h r (by simp);obtain⟨l,hl,uX⟩:=Cy (rows:=rs) (fun x hx=>h x (by simp[hx]));exact⟨a::l,by simp[ha,hl],by simpa using⟨hw,uX⟩⟩
theorem own:ownKnob Tryz.prog.godebug=none:=by kernel_rfl
theorem laidOut:laidOutB Tryz.prog=true:=by kernel_rfl
end Go.Proofs.YtloolmchekcmeaaGreat
namespace Go.Proofs.YtloolmchekcmeaaGreat
attribute [-simp] Go.Av.gv Go.Av.gi Go.Av.cP Go.Av.gJ Go.Av.cc Go.Av.bK Go.Av.back Go.Av.fg Go.Av.one Go.Av.di Go.Av.yl Go.Av.eS Go.Av.AV.ew Go.Av.CV.ew Go.Av.iG Go.Av.AV.dF Go.Av.CV.dF Go.Av.cb Go.Av.eL Go.Av.fj Go.Av.fa Go.Av.cT Go.Av.b9 Go.Av.IT.og Go.Av.IT.gU Go.Av.IT.gV Go.Av.IT.mA Go.Av.IT.oh Go.Av.IT.om Go.Av.IT.oo Go.Av.IT.ot Go.Av.IT.jF Go.Av.kY
open Go Go.Av
theorem O8 {x:DV} (h:CR Tryz.prog 5 x):∃n,x=.int .u8 n/\0<=n/\n<=255:=by
 have hu:=Tryz.underlying5;cases x with
 |int k n=>
  simp only[CR]at h;rw[hu]at h;obtain⟨e,hw⟩:=h;simp at e;subst e;refine⟨n,rfl,?_⟩;simpa[Lit.wf,IntKind.min,IntKind.max,IntKind.signed,IntKind.bits]using hw
 |bool b=>simp[CR,hu]at h
 |str s=>simp[CR,hu]at h
 |sl rows=>simp[CR,hu]at h
 |raw v=>simp[CR]at h
theorem Kk {x:AV} (h:Ov Tryz.prog 22 x):∃b:List Int,x=.l (rB b)/\∀n∈b,0<=n/\n<=255:=by
 have hu:=Tryz.underlying22;cases x with
 |c c=>
  cases c with
  |d d=>
   obtain⟨_,h⟩:=h;cases d with
   |sl rows=>
    simp only[CR]at h;obtain⟨e,ls,h1,h2,h3,h4⟩:=h;rw[hu]at h1;simp at h1;subst h1;have hl:zy Tryz.prog 5=some [5]:=by kernel_rfl
    rw[hl]at h2;simp at h2;subst h2;have hr:∀r∈rows,∃n:Int,r=(fun n=>[DV.int .u8 n]) n/\(0<=n/\n<=255):=fun r hr=>by
     have ht:=h4.at_ r hr
     match r,ht,ht.len with
     |[a],ht,_=>
      obtain⟨n,rfl,hn⟩:=O8 ht.1;exact⟨n,rfl,hn⟩
    obtain⟨l,rfl,hw⟩:=Cy hr;exact⟨l,rfl,hw⟩
   |int k n=>simp[CR,hu]at h
   |bool b=>simp[CR,hu]at h
   |str s=>simp[CR,hu]at h
   |raw v=>simp[CR]at h
  |_=>exact h.elim
 |agg xs=>simp[Ov,hu,Ej]at h
 |bq xs=>exact h.elim
end Go.Proofs.YtloolmchekcmeaaGreat
