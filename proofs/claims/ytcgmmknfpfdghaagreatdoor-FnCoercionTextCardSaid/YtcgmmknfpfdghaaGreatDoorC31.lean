/- A part of the library of this seat. -/
import Derived.Test.YtcgmmknfpfdghaaGreatDoorC30
import Derived.Stop.LaidErr
set_option linter.unusedVariables false
set_option linter.unusedSimpArgs false
namespace Go.Av
attribute [-simp] Go.Av.MCo.kind_mk Go.Av.MCo.tag_mk Go.Av.MCo.label_mk Go.Av.MCo.kids_mk Go.Av.astepJ Go.Av.relC Go.Av.relL Go.Av.relV Go.Av.relVs Go.Av.callJ Go.Av.IT.kind_v Go.Av.IT.kind_b Go.Av.IT.kind_p Go.Av.IT.name_v Go.Av.IT.name_b Go.Av.IT.name_p Go.Av.IT.kids_v Go.Av.IT.kids_b Go.Av.IT.kids_p Go.Av.eIT_len Go.Av.gT_cons Go.Av.sT_cons
open Go
theorem err_laid {P : Program} {W : World} {nm : String} {k : Nat} {l : List (String × DataW Unit)} {text : List UInt8} {ti tp te ts : TypeId} {ms : Array (String × TypeId)} {f : Field}
  (hlf : (l.filter fun x => x.1 == nm) = [(nm, .iface "*errors.errorString" (.ptr (.agg [.lit (.string text)])))]) (hg : P.globalNamed nm = some k) (ht : (P.globals[k]?).map (·.type) = some ti) (hi : P.underlying ti = some (.interface ms)) (hrow : ∀ u, P.typeName? 3 u = some "*errors.errorString" -> u = tp)
  (hp : P.underlying tp = some (.pointer te)) (he : P.underlying te = some (.struct #[f])) (hft : f.type = ts) (hfo : f.offset = 0) (hs : P.underlying ts = some .string) (hc : P.cellsOf te = 1) (hcs : P.cellsOf ts = 1)
  (h : laidMetH P l W) : k < W.heap.size /\ ∃ cs ty mk te pe, W.heap[k]? = some (.cells cs ty mk) /\ cs[0]? = some (.iface te pe) := by
 have h1 := h.filter (fun x => x.1 == nm)
 rw [hlf, MakeChecks.laidMetH_plain _ _ _ (by rfl)] at h1
 obtain ⟨a, s, hv, _⟩ := laid_sentinel h1 hg ht hi hrow hp he hft hfo hs hc hcs
 rw [World.var?, hg] at hv
 simp only [Option.bind_some] at hv
 cases hh : W.heap[k]? with
 | none => rw [hh] at hv; cases hv
 | some o =>
  rw [hh] at hv
  cases o with
  | cells cs ty mk =>
   simp only [Option.some.injEq] at hv
   subst hv
   exact ⟨(Array.getElem?_eq_some_iff.1 hh).1, _, _, _, _, _, rfl, rfl⟩
  | _ => cases hv
end Go.Av
