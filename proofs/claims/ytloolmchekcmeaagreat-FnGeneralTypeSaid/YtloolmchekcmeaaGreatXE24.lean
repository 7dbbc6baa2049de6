/- A part. -/
import Derived.Test.YtloolmchekcmeaaGreatXE23
set_option linter.unusedVariables false
set_option linter.unusedSimpArgs false
open Nat renaming pow_succ->acK,one_le_two_pow->acL
namespace Go.Av
attribute [-simp] Go.Av.cb Go.Av.eL Go.Av.fj Go.Av.fa Go.Av.cT Go.Av.b9 Go.Av.IT.og Go.Av.IT.gU Go.Av.IT.gV Go.Av.IT.mA Go.Av.IT.oh Go.Av.IT.om Go.Av.IT.oo Go.Av.IT.ot Go.Av.IT.jF Go.Av.kY
open Go
def M8 (e:ao):List UInt8:=if a6 e=true then gh 12 e else []
def M9 (e:ao):List UInt8:=if lr e=true then gh 40 e else []
def O7:List UInt8:=[112,97,105,114]
def RS:List UInt8:=[102,117,110,99,116,105,111,110]
def Ct:Nat->ao->List UInt8
 |0,_=>[]
 |d+1,.mk k s n t f l kids=>
  if decide (k=10)||(DM (.mk k s n t f l [])&& decide (t.kind=5))then O7
  else if decide (k=5)||DM (.mk k s n t f l [])then RS
  else match kids with
   |[a]=>Ct d a
   |_=>if k=2 then Lib.itoa n else if k=3 then [84]else [70]
section
variable (d:Nat)
end
def Mq (e:ao):List UInt8:=if(lr e && Il e)=true then Ct 40 e else []
theorem fC {α:Type} {n m:Nat} [inst:Decidable (n<=m)] {a b:α} (h:n<=m):(if n<=m then a else b)=a:=if_pos h
theorem Cu {d:Nat} {t:aE} (h:mu d t):(ei d t).length+3<=4*2 ^ d:=by
 induction h with
 |any d=>simp[vq,acK];have:=acL (n:=d);omega
 |int d=>simp[pP,acK];have:=acL (n:=d);omega
 |bool d=>simp[sK,acK];have:=acL (n:=d);omega
 |fn ha hb iha ihb=>simp[xH,acK];omega
 |pair ha hb iha ihb=>simp[sL,acK];omega
theorem ou {d:Nat} {t:aE} (h:mu d t) (hd:d<=40):(ei d t).length<=8796093022208:=by
 have h1:=Cu h;have h2:2 ^ d<=2 ^ 40:=Nat.pow_le_pow_right (by omega) hd;have h3:(2:Nat)^ 40=1099511627776:=by decide
 omega
end Go.Av
namespace Go.Av
attribute [-simp] Go.Av.cb Go.Av.eL Go.Av.fj Go.Av.fa Go.Av.cT Go.Av.b9
open Go
theorem IG {B:List IT} {K K':Nat} (hK:Fuel B K) (zd:Fuel B K') {t:IT} (ht:sc B.length t=true):hd B K t=hd B K' t:=by
 cases t with
 |v n=>
  have hn:n<B.length:=by simpa[sc]using ht
  rw[<-gI (hK n hn) (Nat.le_max_left K K'),<-gI (zd n hn) (Nat.le_max_right K K')]
 |b c=>cases K<;>cases K'<;>rfl
 |p c x y=>cases K<;>cases K'<;>rfl
theorem uC {B:List IT} {K K':Nat} (hS:ry B) (hK:Fuel B K) (zd:Fuel B K'):∀(d:Nat) {t:IT},sc B.length t=true->kf B K d t=kf B K' d t
 |0,t,_=>rfl
 |d+1,t,ht=>by
  have hs:=lA hS (k:=K') ht;simp only[kf,IG hK zd ht];cases hh:hd B K' t with
  |v n=>rfl
  |b c=>rfl
  |p c x y=>
   rw[hh]at hs;have h2:sc B.length x=true/\sc B.length y=true:=by simpa[sc]using hs
   simp only[uC hS hK zd d h2.1,uC hS hK zd d h2.2]
theorem zN {B:List IT} {K K':Nat} (hS:ry B) (hK:Fuel B K) (zd:Fuel B K'):∀{l:List IT},(∀t∈l,sc B.length t=true)->oW B K l=oW B K' l
 |[],_=>rfl
 |t::r,h=>by
  have ih:=zN hS hK zd (l:=r) fun u hu=>h u (List.mem_cons_of_mem _ hu)
  simp only[oW,uC hS hK zd 4 (h t (by simp)),ih]
open Classical in
noncomputable def xZ (e:ao):Option (List aE):=if h:∃x:Nat×List IT×List IT×IT×Nat,Whole e x.1 x.2.1 x.2.2.1 x.2.2.2.1/\Fuel x.2.1 x.2.2.2.2
 then oW h.choose.2.1 h.choose.2.2.2.2 h.choose.2.2.1 else none
theorem vB {e:ao} {k K:Nat} {B ls:List IT} {t:IT} (h:Whole e k B ls t) (hK:Fuel B K):xZ e=oW B K ls:=by
 have hex:∃x:Nat×List IT×List IT×IT×Nat,Whole e x.1 x.2.1 x.2.2.1 x.2.2.2.1/\Fuel x.2.1 x.2.2.2.2:=⟨(k,B,ls,t,K),h,hK⟩;rw[xZ,dif_pos hex];obtain⟨h1,h2⟩:=hex.choose_spec;obtain⟨e1,e2,e3⟩:=h.uniq h1;obtain⟨hi,_,_,_,_,vO,_⟩:=h.ok;rw[<-e1]at h2⊢;rw[<-e2];exact zN hi.ok.sc h2 hK vO
theorem vC {e:ao} {k:Nat} (h:inf k e [] [] [] []=some none):xZ e=none:=by
 rw[xZ,dif_neg];rintro⟨x,h1,_⟩;exact h1.not h
noncomputable def qE (e:ao):Option (ao×aE):=if a6 e=true then(xZ (mapM aS e)).bind fun Ts=>(if a6 (bF (mapM aS e) Ts)=true then cO [] (bF (mapM aS e) Ts)else none).map fun T=>(bF (mapM aS e) Ts,T)else none
end Go.Av
