/- A part. -/
import Derived.Test.YtloolmchekcmeaaGreatXF27
import Derived.Test.YtloolmchekcmeaaGreatRows
import Derived.Test.YtloolmchekcmeaaGreatChecked
set_option linter.unusedVariables false
set_option linter.unusedSimpArgs false
namespace Go.Proofs.YtloolmchekcmeaaGreat
attribute [-simp] Go.Av.dI Go.Av.rJ Go.Av.gJ Go.Av.gy Go.Av.cW Go.Av.ij Go.Av.cl Go.Av.bO Go.Av.back Go.Av.fD Go.Av.one Go.Av.dt Go.Av.xQ Go.Av.fb Go.Av.AV.eF Go.Av.CV.eF Go.Av.iW Go.Av.AV.dN Go.Av.CV.dN Go.Av.ch Go.Av.eY Go.Av.fw Go.Av.fi Go.Av.cY Go.Av.cb Go.Av.IT.mE Go.Av.IT.gO Go.Av.IT.gl Go.Av.IT.lM Go.Av.IT.mF Go.Av.IT.mG Go.Av.IT.mH Go.Av.IT.mI Go.Av.IT.iS Go.Av.j6
open Go Go.Av
theorem Ci {α:Type} {f:α->List DV} {w:α->Prop}:∀{rows:List (List DV)},(∀r∈rows,∃a,r=f a/\w a)->∃l:List α,rows=l.map f/\∀a∈l,w a
 |[],_=>⟨[],rfl,by simp⟩
 |r::rs,h=>by
  obtain⟨a,ha,hw⟩:=h r (by simp);obtain⟨l,hl,uE⟩:=Ci (rows:=rs) (fun x hx=>h x (by simp[hx]));exact⟨a::l,by simp[ha,hl],by simpa using⟨hw,uE⟩⟩
theorem own:ownKnob Tryz.prog.godebug=none:=by kernel_rfl
theorem laidOut:laidOutB Tryz.prog=true:=by kernel_rfl
end Go.Proofs.YtloolmchekcmeaaGreat
namespace Go.Proofs.YtloolmchekcmeaaGreat
attribute [-simp] Go.Av.gJ Go.Av.gy Go.Av.cW Go.Av.ij Go.Av.cl Go.Av.bO Go.Av.back Go.Av.fD Go.Av.one Go.Av.dt Go.Av.xQ Go.Av.fb Go.Av.AV.eF Go.Av.CV.eF Go.Av.iW Go.Av.AV.dN Go.Av.CV.dN Go.Av.ch Go.Av.eY Go.Av.fw Go.Av.fi Go.Av.cY Go.Av.cb Go.Av.IT.mE Go.Av.IT.gO Go.Av.IT.gl Go.Av.IT.lM Go.Av.IT.mF Go.Av.IT.mG Go.Av.IT.mH Go.Av.IT.mI Go.Av.IT.iS Go.Av.j6
open Go Go.Av
theorem Ph {x:DV} (h:Cw Tryz.prog 5 x):∃n,x=.int .u8 n/\0<=n/\n<=255:=by
 have hu:=Tryz.underlying5;cases x with
 |int k n=>
  simp only[Cw]at h;rw[hu]at h;obtain⟨e,hw⟩:=h;simp at e;subst e;refine⟨n,rfl,?_⟩;simpa[Lit.wf,IntKind.min,IntKind.max,IntKind.signed,IntKind.bits]using hw
 |bool b=>simp[Cw,hu]at h
 |str s=>simp[Cw,hu]at h
 |sl rows=>simp[Cw,hu]at h
 |raw v=>simp[Cw]at h
theorem Kn {x:AV} (h:OE Tryz.prog 22 x):∃b:List Int,x=.l (rB b)/\∀n∈b,0<=n/\n<=255:=by
 have hu:=Tryz.underlying22;cases x with
 |c c=>
  cases c with
  |d d=>
   obtain⟨_,h⟩:=h;cases d with
   |sl rows=>
    simp only[Cw]at h;obtain⟨e,ls,h1,h2,h3,h4⟩:=h;rw[hu]at h1;simp at h1;subst h1;have hl:y4 Tryz.prog 5=some [5]:=by kernel_rfl
    rw[hl]at h2;simp at h2;subst h2;have hr:∀r∈rows,∃n:Int,r=(fun n=>[DV.int .u8 n]) n/\(0<=n/\n<=255):=fun r hr=>by
     have ht:=h4.at_ r hr
     match r,ht,ht.len with
     |[a],ht,_=>
      obtain⟨n,rfl,hn⟩:=Ph ht.1;exact⟨n,rfl,hn⟩
    obtain⟨l,rfl,hw⟩:=Ci hr;exact⟨l,rfl,hw⟩
   |int k n=>simp[Cw,hu]at h
   |bool b=>simp[Cw,hu]at h
   |str s=>simp[Cw,hu]at h
   |raw v=>simp[Cw]at h
  |_=>exact h.elim
 |agg xs=>simp[OE,hu,D0]at h
 |a8 xs=>exact h.elim
end Go.Proofs.YtloolmchekcmeaaGreat
