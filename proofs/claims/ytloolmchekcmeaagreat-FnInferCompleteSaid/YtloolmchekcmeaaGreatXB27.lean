/- A part. -/
import Derived.Test.YtloolmchekcmeaaGreatXB26
set_option linter.unusedVariables false
set_option linter.unusedSimpArgs false
namespace Go.Av
attribute [-simp] Go.Av.cj Go.Av.e0 Go.Av.fH Go.Av.fy Go.Av.cW Go.Av.cg
open Go
theorem IP {B:List IT} {K K':Nat} (hK:Fuel B K) (y8:Fuel B K') {t:IT} (ht:sc B.length t=true):hd B K t=hd B K' t:=by
 cases t with
 |v n=>
  have hn:n<B.length:=by simpa[sc]using ht
  rw[<-gZ (hK n hn) (Nat.le_max_left K K'),<-gZ (y8 n hn) (Nat.le_max_right K K')]
 |b c=>cases K<;>cases K'<;>rfl
 |p c x y=>cases K<;>cases K'<;>rfl
theorem uz {B:List IT} {K K':Nat} (hS:qU B) (hK:Fuel B K) (y8:Fuel B K'):∀(d:Nat) {t:IT},sc B.length t=true->eU B K d t=eU B K' d t
 |0,t,_=>rfl
 |d+1,t,ht=>by
  have hs:=lM hS (k:=K') ht;simp only[eU,IP hK y8 ht];cases hh:hd B K' t with
  |v n=>rfl
  |b c=>rfl
  |p c x y=>
   rw[hh]at hs;have h2:sc B.length x=true/\sc B.length y=true:=by simpa[sc]using hs
   simp only[uz hS hK y8 d h2.1,uz hS hK y8 d h2.2]
theorem zS {B:List IT} {K K':Nat} (hS:qU B) (hK:Fuel B K) (y8:Fuel B K'):∀{l:List IT},(∀t∈l,sc B.length t=true)->l4 B K l=l4 B K' l
 |[],_=>rfl
 |t::r,h=>by
  have ih:=zS hS hK y8 (l:=r) fun u hu=>h u (List.mem_cons_of_mem _ hu)
  simp only[l4,uz hS hK y8 4 (h t (by simp)),ih]
open Classical in
noncomputable def xX (e:al):Option (List aG):=if h:∃x:Nat×List IT×List IT×IT×Nat,Whole e x.1 x.2.1 x.2.2.1 x.2.2.2.1/\Fuel x.2.1 x.2.2.2.2
 then l4 h.choose.2.1 h.choose.2.2.2.2 h.choose.2.2.1 else none
theorem pZ {e:al} {k K:Nat} {B ls:List IT} {t:IT} (h:Whole e k B ls t) (hK:Fuel B K):xX e=l4 B K ls:=by
 have hex:∃x:Nat×List IT×List IT×IT×Nat,Whole e x.1 x.2.1 x.2.2.1 x.2.2.2.1/\Fuel x.2.1 x.2.2.2.2:=⟨(k,B,ls,t,K),h,hK⟩;rw[xX,dif_pos hex];obtain⟨h1,h2⟩:=hex.choose_spec;obtain⟨e1,e2,e3⟩:=h.uniq h1;obtain⟨hi,_,_,_,_,vK,_⟩:=h.ok;rw[<-e1]at h2⊢;rw[<-e2];exact zS hi.ok.sc h2 hK vK
theorem vu {e:al} {k:Nat} (h:inf k e [] [] [] []=some none):xX e=none:=by
 rw[xX,dif_neg];rintro⟨x,h1,_⟩;exact h1.not h
noncomputable def jD (e:al):Option (al×aG):=if aS e=true then(xX (mapM aK e)).bind fun Ts=>(if aS (bx (mapM aK e) Ts)=true then bO [] (bx (mapM aK e) Ts)else none).map fun T=>(bx (mapM aK e) Ts,T)else none
end Go.Av
