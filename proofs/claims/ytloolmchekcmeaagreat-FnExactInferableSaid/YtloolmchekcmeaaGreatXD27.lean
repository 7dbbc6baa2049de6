/- A part. -/
import Derived.Test.YtloolmchekcmeaaGreatXD26
import Derived.Test.YtloolmchekcmeaaGreatRows
import Derived.Test.YtloolmchekcmeaaGreatChecked
set_option linter.unusedVariables false
set_option linter.unusedSimpArgs false
open Go.Proofs.Tryz renaming prog->adx
open List renaming sizeOf_lt_of_mem->ady
namespace Go.Proofs.YtloolmchekcmeaaGreat
attribute [-simp] Go.Av.c8 Go.Av.qW Go.Av.iw Go.Av.gI Go.Av.cZ Go.Av.j5 Go.Av.df Go.Av.bX Go.Av.back Go.Av.gW Go.Av.one Go.Av.c9 Go.Av.xO Go.Av.ef Go.Av.AV.dw Go.Av.CV.dw Go.Av.fR Go.Av.AV.cJ Go.Av.CV.cJ Go.Av.bP Go.Av.eu Go.Av.eN Go.Av.eG Go.Av.b8 Go.Av.bN Go.Av.IT.gK Go.Av.IT.eH Go.Av.IT.ey Go.Av.IT.gj Go.Av.IT.gL Go.Av.IT.gM Go.Av.IT.gN Go.Av.IT.gO Go.Av.IT.e8 Go.Av.fh
open Go Go.Av
theorem lj {x:DV} (h:sL adx 3 x):∃n,x=.i n/\-9223372036854775808<=n/\n<=9223372036854775807:=by
 have hu:=Tryz.underlying3;cases x with
 |int k n=>
  simp only[sL]at h;rw[hu]at h;obtain⟨e,hw⟩:=h;simp at e;subst e;refine⟨n,rfl,?_⟩;simpa[Lit.wf,IntKind.min,IntKind.max,IntKind.signed,IntKind.bits]using hw
 |bool b=>simp[sL,hu]at h
 |str s=>simp[sL,hu]at h
 |sl rows=>simp[sL,hu]at h
 |raw v=>simp[sL]at h
theorem Ih {x:DV} (h:sL adx 9 x):∃s,x=.str s/\s.length<=9223372036854775807:=by
 have hu:=Tryz.underlying9;cases x with
 |int k n=>simp[sL,hu]at h
 |bool b=>simp[sL,hu]at h
 |str s=>exact⟨s,rfl,by have:=h.2;simp[Go.maxLen]at this;omega⟩
 |sl rows=>simp[sL,hu]at h
 |raw v=>simp[sL]at h
theorem xy {α:Type} {f:α->List DV} {w:α->Prop}:∀{rows:List (List DV)},(∀r∈rows,∃a,r=f a/\w a)->∃l:List α,rows=l.map f/\∀a∈l,w a
 |[],_=>⟨[],rfl,by simp⟩
 |r::rs,h=>by
  obtain⟨a,ha,hw⟩:=h r (by simp);obtain⟨l,hl,ui⟩:=xy (rows:=rs) (fun x hx=>h x (by simp[hx]));exact⟨a::l,by simp[ha,hl],by simpa using⟨hw,ui⟩⟩
theorem Ex:∀{l:List aF},(∀t∈l,GY t)->CG l
 |[],_=>trivial
 |t::r,h=>⟨h t (by simp),Ex fun x hx=>h x (by simp[hx])⟩
theorem Ey:∀{l:List ak},(∀t∈l,GZ t)->CH l
 |[],_=>trivial
 |t::r,h=>⟨h t (by simp),Ey fun x hx=>h x (by simp[hx])⟩
theorem xz:(x:DV)->sL adx 36 x->∃l:List aF,x=.sl (l.map b5)/\l.length<=9223372036854775807/\CG l
 |.int k n,h=>by simp[sL,Tryz.underlying36]at h
 |.bool b,h=>by simp[sL,Tryz.underlying36]at h
 |.str s,h=>by simp[sL,Tryz.underlying36]at h
 |.raw v,h=>by simp[sL]at h
 |.sl rows,h=>by
  simp only[sL]at h;obtain⟨e,ls,h1,h2,h3,h4⟩:=h;rw[Tryz.underlying36]at h1;simp at h1;subst h1;have hl:uC adx 38=some [3,36]:=by kernel_rfl
  rw[hl]at h2;simp at h2;subst h2;have hr:∀r∈rows,∃t,r=b5 t/\GY t:=fun r hr=>by
   have ht:=h4.at_ r hr
   match r,ht,ht.len with
   |[a,b],ht,_=>
    obtain⟨n,rfl,_⟩:=lj ht.1;obtain⟨l,rfl,hl,hw⟩:=xz b ht.2.1;exact⟨.mk n l,by rw[aN];rfl,by rw[pL];exact⟨hl,hw⟩⟩
  obtain⟨l,rfl,hw⟩:=xy hr;exact⟨l,rfl,by simpa[Go.maxLen]using h3,Ex hw⟩
termination_by x=>SizeOf.sizeOf x
decreasing_by have h1:=ady hr;simp at h1⊢;omega
theorem Ii:(x:DV)->sL adx 39 x->∃l:List ak,x=.sl (l.map eK)/\l.length<=9223372036854775807/\CH l
 |.int k n,h=>by simp[sL,Tryz.underlying39]at h
 |.bool b,h=>by simp[sL,Tryz.underlying39]at h
 |.str s,h=>by simp[sL,Tryz.underlying39]at h
 |.raw v,h=>by simp[sL]at h
 |.sl rows,h=>by
  simp only[sL]at h;obtain⟨e,ls,h1,h2,h3,h4⟩:=h;rw[Tryz.underlying39]at h1;simp at h1;subst h1;have hl:uC adx 41=some [3,9,3,3,36,3,36,3,39]:=by kernel_rfl
  rw[hl]at h2;simp at h2;subst h2;have hr:∀r∈rows,∃t,r=eK t/\GZ t:=fun r hr=>by
   have ht:=h4.at_ r hr
   match r,ht,ht.len with
   |[a,b,c,d,e,f,g,h,i],ht,_=>
    obtain⟨ta,tb,tc,td,te,tf,tg,th,ti,_⟩:=ht;obtain⟨n1,rfl,_⟩:=lj ta;obtain⟨s,rfl,hs⟩:=Ih tb;obtain⟨n2,rfl,_⟩:=lj tc;obtain⟨n3,rfl,_⟩:=lj td;obtain⟨l1,rfl,yS,HP⟩:=xz e te;obtain⟨n4,rfl,_⟩:=lj tf;obtain⟨l2,rfl,rA,oY⟩:=xz g tg;obtain⟨n5,rfl,_⟩:=lj th;obtain⟨l,rfl,hl,hw⟩:=Ii i ti;exact⟨.mk n1 s n2 (.mk n3 l1) (.mk n4 l2) n5 l,by rw[au];rfl,by rw[vq];exact⟨hs,by rw[pL];exact⟨yS,HP⟩,by rw[pL];exact⟨rA,oY⟩,hl,hw⟩⟩
  obtain⟨l,rfl,hw⟩:=xy hr;exact⟨l,rfl,by simpa[Go.maxLen]using h3,Ey hw⟩
termination_by x=>SizeOf.sizeOf x
decreasing_by have h1:=ady hr;simp at h1⊢;omega
theorem MS {x:AV} (h:Py adx 41 x):∃t,x=cE t/\GZ t:=by
 have hu:=Tryz.underlying41;cases x with
 |c c=>
  cases c with
  |d d=>obtain⟨h,_⟩:=h;rw[hu]at h;simp[DG]at h
  |_=>exact h.elim
 |agg xs=>
  obtain⟨_,ls,ds,h2,rfl,ht⟩:=h;have hl:uC adx 41=some [3,9,3,3,36,3,36,3,39]:=by kernel_rfl
  rw[hl]at h2;simp at h2;subst h2
  match ds,ht,ht.len with
  |[a,b,c,d,e,f,g,h,i],ht,_=>
   obtain⟨ta,tb,tc,td,te,tf,tg,th,ti,_⟩:=ht;obtain⟨n1,rfl,_⟩:=lj ta;obtain⟨s,rfl,hs⟩:=Ih tb;obtain⟨n2,rfl,_⟩:=lj tc;obtain⟨n3,rfl,_⟩:=lj td;obtain⟨l1,rfl,yS,HP⟩:=xz e te;obtain⟨n4,rfl,_⟩:=lj tf;obtain⟨l2,rfl,rA,oY⟩:=xz g tg;obtain⟨n5,rfl,_⟩:=lj th;obtain⟨l,rfl,hl,hw⟩:=Ii i ti;exact⟨.mk n1 s n2 (.mk n3 l1) (.mk n4 l2) n5 l,rfl,by rw[vq];exact⟨hs,by rw[pL];exact⟨yS,HP⟩,by rw[pL];exact⟨rA,oY⟩,hl,hw⟩⟩
 |aZ xs=>exact h.elim
theorem own:ownKnob Tryz.prog.godebug=none:=by kernel_rfl
theorem laidOut:laidOutB adx=true:=by kernel_rfl
end Go.Proofs.YtloolmchekcmeaaGreat
