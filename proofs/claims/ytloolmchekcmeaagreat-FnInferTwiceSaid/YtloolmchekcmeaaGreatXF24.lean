/- A part. -/
import Derived.Test.YtloolmchekcmeaaGreatXF23
set_option linter.unusedVariables false
set_option linter.unusedSimpArgs false
namespace Go.Av
attribute [-simp] Go.Av.ch Go.Av.eY Go.Av.fw Go.Av.fi Go.Av.cY Go.Av.cb Go.Av.IT.mE Go.Av.IT.gO Go.Av.IT.gl Go.Av.IT.lM Go.Av.IT.mF Go.Av.IT.mG Go.Av.IT.mH Go.Av.IT.mI Go.Av.IT.iS Go.Av.j6
open Go
def Nb (e:ao):List UInt8:=if aQ e=true then gx 12 e else []
def Nc (e:ao):List UInt8:=if eS e=true then gx 40 e else []
def Pg:List UInt8:=[112,97,105,114]
def Sa:List UInt8:=[102,117,110,99,116,105,111,110]
def Ce:Nat->ao->List UInt8
 |0,_=>[]
 |d+1,.mk k s n t f l kids=>
  if decide (k=10)||(Du (.mk k s n t f l [])&& decide (t.kind=5))then Pg
  else if decide (k=5)||Du (.mk k s n t f l [])then Sa
  else match kids with
   |[a]=>Ce d a
   |_=>if k=2 then Lib.itoa n else if k=3 then [84]else [70]
section
variable (d:Nat)
end
def Mu (e:ao):List UInt8:=if(eS e && H6 e)=true then Ce 40 e else []
theorem jz {α:Type} {n m:Nat} [inst:Decidable (n<=m)] {a b:α} (h:n<=m):(if n<=m then a else b)=a:=if_pos h
end Go.Av
namespace Go.Av
attribute [-simp] Go.Av.ch Go.Av.eY Go.Av.fw Go.Av.fi Go.Av.cY Go.Av.cb
open Go
theorem Iy {B:List IT} {K K':Nat} (hK:Fuel B K) (yG:Fuel B K') {t:IT} (ht:sc B.length t=true):hd B K t=hd B K' t:=by
 cases t with
 |v n=>
  have hn:n<B.length:=by simpa[sc]using ht
  rw[<-ic (hK n hn) (Nat.le_max_left K K'),<-ic (yG n hn) (Nat.le_max_right K K')]
 |b c=>cases K<;>cases K'<;>rfl
 |p c x y=>cases K<;>cases K'<;>rfl
theorem ug {B:List IT} {K K':Nat} (hS:s8 B) (hK:Fuel B K) (yG:Fuel B K'):∀(d:Nat) {t:IT},sc B.length t=true->eZ B K d t=eZ B K' d t
 |0,t,_=>rfl
 |d+1,t,ht=>by
  have hs:=oO hS (k:=K') ht;simp only[eZ,Iy hK yG ht];cases hh:hd B K' t with
  |v n=>rfl
  |b c=>rfl
  |p c x y=>
   rw[hh]at hs;have h2:sc B.length x=true/\sc B.length y=true:=by simpa[sc]using hs
   simp only[ug hS hK yG d h2.1,ug hS hK yG d h2.2]
theorem zo {B:List IT} {K K':Nat} (hS:s8 B) (hK:Fuel B K) (yG:Fuel B K'):∀{l:List IT},(∀t∈l,sc B.length t=true)->mC B K l=mC B K' l
 |[],_=>rfl
 |t::r,h=>by
  have ih:=zo hS hK yG (l:=r) fun u hu=>h u (List.mem_cons_of_mem _ hu)
  simp only[mC,ug hS hK yG 4 (h t (by simp)),ih]
open Classical in
noncomputable def xz (e:ao):Option (List aI):=if h:∃x:Nat×List IT×List IT×IT×Nat,Whole e x.1 x.2.1 x.2.2.1 x.2.2.2.1/\Fuel x.2.1 x.2.2.2.2
 then mC h.choose.2.1 h.choose.2.2.2.2 h.choose.2.2.1 else none
theorem pW {e:ao} {k K:Nat} {B ls:List IT} {t:IT} (h:Whole e k B ls t) (hK:Fuel B K):xz e=mC B K ls:=by
 have hex:∃x:Nat×List IT×List IT×IT×Nat,Whole e x.1 x.2.1 x.2.2.1 x.2.2.2.1/\Fuel x.2.1 x.2.2.2.2:=⟨(k,B,ls,t,K),h,hK⟩;rw[xz,dif_pos hex];obtain⟨h1,h2⟩:=hex.choose_spec;obtain⟨e1,e2,e3⟩:=h.uniq h1;obtain⟨hi,_,_,_,_,sr,_⟩:=h.ok;rw[<-e1]at h2⊢;rw[<-e2];exact zo hi.ok.sc h2 hK sr
theorem pX {e:ao} {k:Nat} (h:inf k e [] [] [] []=some none):xz e=none:=by
 rw[xz,dif_neg];rintro⟨x,h1,_⟩;exact h1.not h
noncomputable def kR (e:ao):Option (ao×aI):=if aQ e=true then(xz (mapM aM e)).bind fun Ts=>(if aQ (bG (mapM aM e) Ts)=true then eM [] (bG (mapM aM e) Ts)else none).map fun T=>(bG (mapM aM e) Ts,T)else none
end Go.Av
