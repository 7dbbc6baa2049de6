/- A part. -/
import Derived.Test.YtloolmchekcmeaaGreatXD23
set_option linter.unusedVariables false
set_option linter.unusedSimpArgs false
namespace Go.Av
attribute [-simp] Go.Av.bP Go.Av.eu Go.Av.eN Go.Av.eG Go.Av.b8 Go.Av.bN
open Go
theorem Ic {B:List IT} {K K':Nat} (hK:Fuel B K) (KO:Fuel B K') {t:IT} (ht:sc B.length t=true):hd B K t=hd B K' t:=by
 cases t with
 |v n=>
  have hn:n<B.length:=by simpa[sc]using ht
  rw[<-gB (hK n hn) (Nat.le_max_left K K'),<-gB (KO n hn) (Nat.le_max_right K K')]
 |b c=>cases K<;>cases K'<;>rfl
 |p c x y=>cases K<;>cases K'<;>rfl
theorem tR {B:List IT} {K K':Nat} (hS:sM B) (hK:Fuel B K) (KO:Fuel B K'):∀(d:Nat) {t:IT},sc B.length t=true->eO B K d t=eO B K' d t
 |0,t,_=>rfl
 |d+1,t,ht=>by
  have hs:=nX hS (k:=K') ht;simp only[eO,Ic hK KO ht];cases hh:hd B K' t with
  |v n=>rfl
  |b c=>rfl
  |p c x y=>
   rw[hh]at hs;have h2:sc B.length x=true/\sc B.length y=true:=by simpa[sc]using hs
   simp only[tR hS hK KO d h2.1,tR hS hK KO d h2.2]
theorem zc {B:List IT} {K K':Nat} (hS:sM B) (hK:Fuel B K) (KO:Fuel B K'):∀{l:List IT},(∀t∈l,sc B.length t=true)->l3 B K l=l3 B K' l
 |[],_=>rfl
 |t::r,h=>by
  have ih:=zc hS hK KO (l:=r) fun u hu=>h u (List.mem_cons_of_mem _ hu)
  simp only[l3,tR hS hK KO 4 (h t (by simp)),ih]
open Classical in
noncomputable def xw (e:ak):Option (List aF):=if h:∃x:Nat×List IT×List IT×IT×Nat,Whole e x.1 x.2.1 x.2.2.1 x.2.2.2.1/\Fuel x.2.1 x.2.2.2.2
 then l3 h.choose.2.1 h.choose.2.2.2.2 h.choose.2.2.1 else none
theorem py {e:ak} {k K:Nat} {B ls:List IT} {t:IT} (h:Whole e k B ls t) (hK:Fuel B K):xw e=l3 B K ls:=by
 have hex:∃x:Nat×List IT×List IT×IT×Nat,Whole e x.1 x.2.1 x.2.2.1 x.2.2.2.1/\Fuel x.2.1 x.2.2.2.2:=⟨(k,B,ls,t,K),h,hK⟩;rw[xw,dif_pos hex];obtain⟨h1,h2⟩:=hex.choose_spec;obtain⟨e1,e2,e3⟩:=h.uniq h1;obtain⟨hi,_,_,_,_,wx,_⟩:=h.ok;rw[<-e1]at h2⊢;rw[<-e2];exact zc hi.ok.sc h2 hK wx
theorem pz {e:ak} {k:Nat} (h:inf k e [] [] [] []=some none):xw e=none:=by
 rw[xw,dif_neg];rintro⟨x,h1,_⟩;exact h1.not h
noncomputable def iK (e:ak):Option (ak×aF):=if aV e=true then(xw (mapM aO e)).bind fun Ts=>(if aV (cq (mapM aO e) Ts)=true then eQ [] (cq (mapM aO e) Ts)else none).map fun T=>(cq (mapM aO e) Ts,T)else none
end Go.Av
