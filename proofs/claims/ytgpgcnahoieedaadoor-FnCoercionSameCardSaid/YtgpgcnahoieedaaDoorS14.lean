/- A part of the library of this seat: a value-semantic program logic over the model, plain models, and walks of functions. -/
import Derived.Test.YtgpgcnahoieedaaDoorS13
import Derived.Lib.LaidTab
import Derived.LaidSub
import Derived.LaidMore
import Derived.OpenShut
import Derived.Stop.Joined
set_option linter.unusedVariables false
set_option linter.unusedSimpArgs false
namespace Go.Av
attribute [-simp] Go.Av.MCo.kind_mk Go.Av.MCo.tag_mk Go.Av.MCo.label_mk Go.Av.MCo.kids_mk
open Go
theorem tab_of_tabIs {P : Program} {W : World} {k : Nat} (hk : tabAt = some k) (hg : P.globalNamed "internal/strconv.uint64pow10" = some k) (h : Lib.TabIs P W "internal/strconv.uint64pow10" .u64 Lib.pow10Tab) : Tab W (roGh W) := by
  intro b hb
  rw [hk] at hb
  cases hb
  rw [Lib.TabIs, World.var?, hg, ← tabCells_eq] at h
  simp only [Option.bind_some] at h
  cases hh : W.heap[k]? with
  | none => rw [hh] at h; cases h
  | some o =>
    rw [hh] at h
    cases o with
    | cells cs ty mk =>
      simp only [Option.some.injEq] at h
      subst h
      exact ⟨(Array.getElem?_eq_some_iff.1 hh).1, by simp [roGh], by simp [Gh.arb, roGh], ty, mk, rfl⟩
    | _ => cases h
theorem tab_of_laid {P : Program} {W : World} {k : Nat} {l : List (String × DataW Unit)} (hk : tabAt = some k) (hg : P.globalNamed "internal/strconv.uint64pow10" = some k) {t e : TypeId}
    (hf : (l.filter fun x => x.1 == "internal/strconv.uint64pow10") = [("internal/strconv.uint64pow10", Lib.tabData .u64 Lib.pow10Tab)])
    (hty : (P.globals[k]?).map (·.type) = some t) (ht : P.underlying t = some (.array 20 e)) (he : P.underlying e = some (.int .u64)) (hce : P.cellsOf e = 1) (hct : P.cellsOf t = 20)
    (h : laidMetH P l W) : Tab W (roGh W) := by
  have h1 := h.filter (fun x => x.1 == "internal/strconv.uint64pow10")
  rw [hf, MakeChecks.laidMetH_plain _ _ _ (by rfl)] at h1
  exact tab_of_tabIs hk hg (Lib.tabIs_of_head hg hty ht he hce hct h1)
end Go.Av
