/- A part. -/
import Derived.Test.YtloolmchekcmeaaGreatXB29
import Derived.Test.YtloolmchekcmeaaGreatRows
import Derived.Test.YtloolmchekcmeaaGreatChecked
set_option linter.unusedVariables false
set_option linter.unusedSimpArgs false
namespace Go.Proofs.YtloolmchekcmeaaGreat
attribute [-simp] Go.Av.dI Go.Av.rS Go.Av.iE Go.Av.iy Go.Av.cU Go.Av.ic Go.Av.ck Go.Av.bK Go.Av.back Go.Av.fD Go.Av.one Go.Av.dJ Go.Av.yH Go.Av.fb Go.Av.AV.eH Go.Av.CV.eH Go.Av.iX Go.Av.AV.dO Go.Av.CV.dO Go.Av.cj Go.Av.e0 Go.Av.fH Go.Av.fy Go.Av.cW Go.Av.cg Go.Av.IT.jQ Go.Av.IT.fJ Go.Av.IT.fi Go.Av.IT.jv Go.Av.IT.jR Go.Av.IT.jS Go.Av.IT.jT Go.Av.IT.jU Go.Av.IT.gv Go.Av.hM
open Go Go.Av
theorem CU {α:Type} {f:α->List DV} {w:α->Prop}:∀{rows:List (List DV)},(∀r∈rows,∃a,r=f a/\w a)->∃l:List α,rows=l.map f/\∀a∈l,w a
 |[],_=>⟨[],rfl,by simp⟩
 |r::rs,h=>by
  obtain⟨a,ha,hw⟩:=h r (by simp);obtain⟨l,hl,uT⟩:=CU (rows:=rs) (fun x hx=>h x (by simp[hx]));exact⟨a::l,by simp[ha,hl],by simpa using⟨hw,uT⟩⟩
theorem own:ownKnob Tryz.prog.godebug=none:=by kernel_rfl
theorem laidOut:laidOutB Tryz.prog=true:=by kernel_rfl
end Go.Proofs.YtloolmchekcmeaaGreat
namespace Go.Proofs.YtloolmchekcmeaaGreat
attribute [-simp] Go.Av.iE Go.Av.iy Go.Av.cU Go.Av.ic Go.Av.ck Go.Av.bK Go.Av.back Go.Av.fD Go.Av.one Go.Av.dJ Go.Av.yH Go.Av.fb Go.Av.AV.eH Go.Av.CV.eH Go.Av.iX Go.Av.AV.dO Go.Av.CV.dO Go.Av.cj Go.Av.e0 Go.Av.fH Go.Av.fy Go.Av.cW Go.Av.cg Go.Av.IT.jQ Go.Av.IT.fJ Go.Av.IT.fi Go.Av.IT.jv Go.Av.IT.jR Go.Av.IT.jS Go.Av.IT.jT Go.Av.IT.jU Go.Av.IT.gv Go.Av.hM
open Go Go.Av
theorem Pm {x:DV} (h:C8 Tryz.prog 5 x):∃n,x=.int .u8 n/\0<=n/\n<=255:=by
 have hu:=Tryz.underlying5;cases x with
 |int k n=>
  simp only[C8]at h;rw[hu]at h;obtain⟨e,hw⟩:=h;simp at e;subst e;refine⟨n,rfl,?_⟩;simpa[Lit.wf,IntKind.min,IntKind.max,IntKind.signed,IntKind.bits]using hw
 |bool b=>simp[C8,hu]at h
 |str s=>simp[C8,hu]at h
 |sl rows=>simp[C8,hu]at h
 |raw v=>simp[C8]at h
theorem Ko {x:AV} (h:OH Tryz.prog 22 x):∃b:List Int,x=.l (rB b)/\∀n∈b,0<=n/\n<=255:=by
 have hu:=Tryz.underlying22;cases x with
 |c c=>
  cases c with
  |d d=>
   obtain⟨_,h⟩:=h;cases d with
   |sl rows=>
    simp only[C8]at h;obtain⟨e,ls,h1,h2,h3,h4⟩:=h;rw[hu]at h1;simp at h1;subst h1;have hl:zF Tryz.prog 5=some [5]:=by kernel_rfl
    rw[hl]at h2;simp at h2;subst h2;have hr:∀r∈rows,∃n:Int,r=(fun n=>[DV.int .u8 n]) n/\(0<=n/\n<=255):=fun r hr=>by
     have ht:=h4.at_ r hr
     match r,ht,ht.len with
     |[a],ht,_=>
      obtain⟨n,rfl,hn⟩:=Pm ht.1;exact⟨n,rfl,hn⟩
    obtain⟨l,rfl,hw⟩:=CU hr;exact⟨l,rfl,hw⟩
   |int k n=>simp[C8,hu]at h
   |bool b=>simp[C8,hu]at h
   |str s=>simp[C8,hu]at h
   |raw v=>simp[C8]at h
  |_=>exact h.elim
 |agg xs=>simp[OH,hu,Ez]at h
 |a8 xs=>exact h.elim
end Go.Proofs.YtloolmchekcmeaaGreat
