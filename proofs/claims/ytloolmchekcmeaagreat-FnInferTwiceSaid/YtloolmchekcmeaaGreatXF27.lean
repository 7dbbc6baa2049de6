/- A part. -/
import Derived.Test.YtloolmchekcmeaaGreatXF26
set_option linter.unusedVariables false
set_option linter.unusedSimpArgs false
namespace Go.Av
attribute [-simp] Go.Av.ch Go.Av.eY Go.Av.fw Go.Av.fi Go.Av.cY Go.Av.cb Go.Av.IT.mE Go.Av.IT.gO Go.Av.IT.gl Go.Av.IT.lM Go.Av.IT.mF Go.Av.IT.mG Go.Av.IT.mH Go.Av.IT.mI Go.Av.IT.iS Go.Av.j6
open Go
theorem F6 {nt:Int} {d:Nat} {e:ao} (h:kG nt d e):mapM aM (mapM aM e)=mapM aM e:=by
 induction h with
 |var _ _=>simp[mapM,dn,aM]
 |num _ _ _=>simp[mapM,dn,aM]
 |uK _=>simp[mapM,dn,aM]
 |uL _=>simp[mapM,dn,aM]
 | @lam d s t b _ hs _ _ ih=>simp[mapM,dn,aM,ih]
 | @n2 d k a b _ hk _ _ iha ihb=>
  have h1:¬(k=13\/k=14):=by omega
  have h2:¬k=5:=by omega
  simp[mapM,dn,aM,h1,h2,iha,ihb]
 | @ite d p a b _ _ _ _ ihp iha ihb=>simp[mapM,dn,aM,ihp,iha,ihb]
 | @n1 d k a _ hk _ ih=>
  have h1:¬(k=13\/k=14):=by omega
  have h2:¬k=5:=by omega
  simp[mapM,dn,aM,h1,h2,ih]
 | @asc d t a _ _ _ ih=>simpa[mapM,dn,aM]using ih
 | @cast d f t l a _ _ _ _ _ _ ih=>simpa[mapM,dn,aM]using ih
theorem F7 {e:ao} (h:Ba e):∀ts,mapM aM (bG e ts)=mapM aM e:=by
 induction h with
 |var c=>intro ts;simp[bG,cX,bx,mapM,dn,aM]
 |num n=>intro ts;simp[bG,cX,bx,mapM,dn,aM]
 |uK=>intro ts;simp[bG,cX,bx,mapM,dn,aM]
 |uL=>intro ts;simp[bG,cX,bx,mapM,dn,aM]
 |lam hb ih=>intro ts;simp[bG,cX,bx,mapM,dn,aM,ih]
 | @n2 k a b hk ha hb iha ihb=>
  intro ts;rw[Il hk];have h1:¬(k=13\/k=14):=by omega
  have h2:¬k=5:=by omega
  simp[mapM,dn,aM,h1,h2,iha,ihb]
 |ite _ _ _ iha ihb ihc=>intro ts;rw[Im];simp[mapM,dn,aM,iha,ihb,ihc]
 | @n1 k a hk ha ih=>
  intro ts;rw[Ik hk];have h1:¬(k=13\/k=14):=by omega
  have h2:¬k=5:=by omega
  simp[mapM,dn,aM,h1,h2,ih]
end Go.Av
