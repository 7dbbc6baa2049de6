/- A part. -/
import Derived.Test.YtloolmchekcmeaaGreatXH26
import Derived.Test.YtloolmchekcmeaaGreatRows
import Derived.Test.YtloolmchekcmeaaGreatChecked
set_option linter.unusedVariables false
set_option linter.unusedSimpArgs false
namespace Go.Proofs.YtloolmchekcmeaaGreat
attribute [-simp] Go.Av.cW Go.Av.rh Go.Av.eU Go.Av.fP Go.Av.b7 Go.Av.fb Go.Av.bQ Go.Av.bw Go.Av.back Go.Av.ev Go.Av.one Go.Av.cK Go.Av.xv Go.Av.dS Go.Av.AV.dp Go.Av.CV.dp Go.Av.fS Go.Av.AV.cO Go.Av.CV.cO Go.Av.bO Go.Av.dO Go.Av.ed Go.Av.ec Go.Av.cl Go.Av.cj Go.Av.IT.ly Go.Av.IT.fq Go.Av.IT.ft Go.Av.IT.j5 Go.Av.IT.lz Go.Av.IT.lA Go.Av.IT.lB Go.Av.IT.lC Go.Av.IT.gU Go.Av.iS
open Go Go.Av
theorem yQ {α:Type} {f:α->List DV} {w:α->Prop}:∀{rows:List (List DV)},(∀r∈rows,∃a,r=f a/\w a)->∃l:List α,rows=l.map f/\∀a∈l,w a
 |[],_=>⟨[],rfl,by simp⟩
 |r::rs,h=>by
  obtain⟨a,ha,hw⟩:=h r (by simp);obtain⟨l,hl,y3⟩:=yQ (rows:=rs) (fun x hx=>h x (by simp[hx]));exact⟨a::l,by simp[ha,hl],by simpa using⟨hw,y3⟩⟩
theorem own:ownKnob Tryz.prog.godebug=none:=by kernel_rfl
theorem laidOut:laidOutB Tryz.prog=true:=by kernel_rfl
end Go.Proofs.YtloolmchekcmeaaGreat
namespace Go.Proofs.YtloolmchekcmeaaGreat
attribute [-simp] Go.Av.eU Go.Av.fP Go.Av.b7 Go.Av.fb Go.Av.bQ Go.Av.bw Go.Av.back Go.Av.ev Go.Av.one Go.Av.cK Go.Av.xv Go.Av.dS Go.Av.AV.dp Go.Av.CV.dp Go.Av.fS Go.Av.AV.cO Go.Av.CV.cO Go.Av.bO Go.Av.dO Go.Av.ed Go.Av.ec Go.Av.cl Go.Av.cj Go.Av.IT.ly Go.Av.IT.fq Go.Av.IT.ft Go.Av.IT.j5 Go.Av.IT.lz Go.Av.IT.lA Go.Av.IT.lB Go.Av.IT.lC Go.Av.IT.gU Go.Av.iS
open Go Go.Av
theorem KT {x:DV} (h:y9 Tryz.prog 5 x):∃n,x=.int .u8 n/\0<=n/\n<=255:=by
 have hu:=Tryz.underlying5;cases x with
 |int k n=>
  simp only[y9]at h;rw[hu]at h;obtain⟨e,hw⟩:=h;simp at e;subst e;refine⟨n,rfl,?_⟩;simpa[Lit.wf,IntKind.min,IntKind.max,IntKind.signed,IntKind.bits]using hw
 |bool b=>simp[y9,hu]at h
 |str s=>simp[y9,hu]at h
 |sl rows=>simp[y9,hu]at h
 |raw v=>simp[y9]at h
theorem FX {x:AV} (h:Ko Tryz.prog 22 x):∃b:List Int,x=.l (rB b)/\∀n∈b,0<=n/\n<=255:=by
 have hu:=Tryz.underlying22;cases x with
 |c c=>
  cases c with
  |d d=>
   obtain⟨_,h⟩:=h;cases d with
   |sl rows=>
    simp only[y9]at h;obtain⟨e,ls,h1,h2,h3,h4⟩:=h;rw[hu]at h1;simp at h1;subst h1;have hl:vM Tryz.prog 5=some [5]:=by kernel_rfl
    rw[hl]at h2;simp at h2;subst h2;have hr:∀r∈rows,∃n:Int,r=(fun n=>[DV.int .u8 n]) n/\(0<=n/\n<=255):=fun r hr=>by
     have ht:=h4.at_ r hr
     match r,ht,ht.len with
     |[a],ht,_=>
      obtain⟨n,rfl,hn⟩:=KT ht.1;exact⟨n,rfl,hn⟩
    obtain⟨l,rfl,hw⟩:=yQ hr;exact⟨l,rfl,hw⟩
   |int k n=>simp[y9,hu]at h
   |bool b=>simp[y9,hu]at h
   |str s=>simp[y9,hu]at h
   |raw v=>simp[y9]at h
  |_=>exact h.elim
 |agg xs=>simp[Ko,hu,AA]at h
 |bu xs=>exact h.elim
end Go.Proofs.YtloolmchekcmeaaGreat
