/- A part of the library of this seat. -/
import Derived.Test.YtcgmmknfpfdghaaGreatDoorC28
import Derived.Lib.LaidTab
import Derived.LaidSub
import Derived.LaidMore
import Derived.OpenShut
import Derived.Stop.Joined
set_option linter.unusedVariables false
set_option linter.unusedSimpArgs false
namespace Go.Av
attribute [-simp] Go.Av.MCo.kind_mk Go.Av.MCo.tag_mk Go.Av.MCo.label_mk Go.Av.MCo.kids_mk Go.Av.astepJ Go.Av.relC Go.Av.relL Go.Av.relV Go.Av.relVs Go.Av.callJ Go.Av.IT.kind_v Go.Av.IT.kind_b Go.Av.IT.kind_p Go.Av.IT.name_v Go.Av.IT.name_b Go.Av.IT.name_p Go.Av.IT.kids_v Go.Av.IT.kids_b Go.Av.IT.kids_p Go.Av.eIT_len Go.Av.gT_cons Go.Av.sT_cons
open Go
theorem tab_of_tabIs {P : Program} {W : World} {k : Nat} (hk : tab0 = some k) (hE : ∀ b ∈ tabE, b < W.heap.size /\ b ≠ k /\ ∃ cs ty mk te pe, W.heap[b]? = some (.cells cs ty mk) /\ cs[0]? = some (.iface te pe)) (hg : P.globalNamed "internal/strconv.uint64pow10" = some k) (h : Lib.TabIs P W "internal/strconv.uint64pow10" .u64 Lib.pow10Tab) : Tab W (roGh W) := by
 intro b hb
 by_cases hkb : k = b
 rotate_left
 ·have hb' : b ∈ tabE := by
   rcases hb with hb | hb
   ·rw [hk] at hb; exact absurd (Option.some.inj hb) hkb
   ·exact hb
  obtain ⟨h1, h2, h3⟩ := hE b hb'
  exact ⟨h1, by simp [roGh], by simp [Gh.arb, roGh], fun hq => by rw [hk] at hq; exact absurd (Option.some.inj hq) hkb, fun _ => h3⟩
 subst hkb
 rw [Lib.TabIs, World.var?, hg, <- tabCells_eq] at h
 simp only [Option.bind_some] at h
 cases hh : W.heap[k]? with
 | none => rw [hh] at h; cases h
 | some o =>
  rw [hh] at h
  cases o with
  | cells cs ty mk =>
   simp only [Option.some.injEq] at h
   subst h
   exact ⟨(Array.getElem?_eq_some_iff.1 hh).1, by simp [roGh], by simp [Gh.arb, roGh], fun _ => ⟨ty, mk, rfl⟩, fun hq => absurd rfl (hE k hq).2.1⟩
  | _ => cases h
theorem tab_of_laid {P : Program} {W : World} {k : Nat} {l : List (String × DataW Unit)} (hk : tab0 = some k) (hg : P.globalNamed "internal/strconv.uint64pow10" = some k) {t e : TypeId}
  (hf : (l.filter fun x => x.1 == "internal/strconv.uint64pow10") = [("internal/strconv.uint64pow10", Lib.tabData .u64 Lib.pow10Tab)])
  (hty : (P.globals[k]?).map (·.type) = some t) (ht : P.underlying t = some (.array 20 e)) (he : P.underlying e = some (.int .u64)) (hce : P.cellsOf e = 1) (hct : P.cellsOf t = 20)
  (h : laidMetH P l W) (hE : ∀ b ∈ tabE, b < W.heap.size /\ b ≠ k /\ ∃ cs ty mk te pe, W.heap[b]? = some (.cells cs ty mk) /\ cs[0]? = some (.iface te pe) := by intro b hb; cases hb) : Tab W (roGh W) := by
 have h1 := h.filter (fun x => x.1 == "internal/strconv.uint64pow10")
 rw [hf, MakeChecks.laidMetH_plain _ _ _ (by rfl)] at h1
 exact tab_of_tabIs hk hE hg (Lib.tabIs_of_head hg hty ht he hce hct h1)
end Go.Av
