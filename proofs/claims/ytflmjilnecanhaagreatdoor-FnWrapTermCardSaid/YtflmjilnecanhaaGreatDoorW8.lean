/- A part of the library of this seat. -/
import Derived.Test.YtflmjilnecanhaaGreatDoorW7
import Derived.Shelf.Strconv.Itoa3
set_option linter.unusedVariables false
set_option linter.unusedSimpArgs false
namespace Go.Av
open Go
section
variable {P : Program}
theorem tabCells_eq : tabCells = (Lib.pow10Tab.map fun z => Value.int .u64 z).toArray := by kernel_rfl

theorem grown_end {g : Gh} {w : World} (hg : g.ar = []) (hI : Inv g w [] []) (hT : Tab w g) (k : Nat) (os : Array Obj) : Inv g (Go.Sort.grow (w.drewN k) os) [] [] /\ Fr w g (Go.Sort.grow (w.drewN k) os) g := by
 have hob : g.ob = [] := List.eq_nil_of_length_eq_zero hI.obl
 have hsz : w.heap.size <= (Go.Sort.grow (w.drewN k) os).heap.size := by simp [Go.Sort.grow]
 refine ⟨⟨hI.obl, hI.arl, fun l row b h => by simp at h, fun k r v h => by simp at h, hI.obob, hI.arar, hI.obar, fun b hb => hI.fresh b (Nat.le_trans hsz hb)⟩, ?_⟩
 exact ⟨rfl, rfl, rfl, hsz, fun b hb _ _ => Go.Sort.heap_grow_old _ _ hb, fun _ _ _ => rfl, ⟨[], by simp, by simp⟩, fun k v b h1 h2 => .inr (Gh.arb_mem h1 h2), fun k v h => ⟨v, h, Nat.le_refl _, fun _ => rfl⟩, hT⟩

theorem itoa_contract {ρ : Go.Shelf.Ren} (L : Go.Proofs.LaysM.n171 P ρ) (hent : ∀ args w, (callFunc (ρ.f 171) args).run P w = .ok (.enter (ρ.f 171) args) w) {k : Nat} (hk : tab0 = some k) (hgl : P.globalNamed "internal/strconv.uint64pow10" = some k) (n : Int) (h0 : -9223372036854775808 <= n) (h1 : n <= 9223372036854775807) :
  ACalls P (ρ.f 171) [.i n] [] (.s (Lib.itoa n)) [] [] := by
 refine ⟨hent, Nat.le_refl _, fun g w vs hg hI hT hvl hvr => ?_⟩
 obtain ⟨v, rfl⟩ : ∃ v, vs = #[v] := by
  have : vs.size = 1 := hvl
  exact ⟨vs[0], by apply Array.ext; · simpa using this
                   ·intro i h1 h2; simp at h2; subst h2; rfl⟩
 have hv := hvr 0 _ v rfl rfl
 simp only [RepV, RepE, RepC, RepD] at hv
 subst hv
 obtain ⟨_, _, _, hc, _⟩ := hT k (.inl hk)
 obtain ⟨ty, mk, hb⟩ := hc hk
 have htab : Lib.TabIs P w "internal/strconv.uint64pow10" .u64 Lib.pow10Tab := by
  rw [Lib.TabIs, World.var?, hgl, <- tabCells_eq]
  simp [hb]
 refine (Go.Proofs.Any.strconv_Itoa L n h0 h1 w htab).mono ?_
 rintro e w' ⟨rfl, k, os, rfl⟩
 obtain ⟨q1, q2⟩ := grown_end hg hI hT k os
 exact ⟨_, g, rfl, by simp [RepV, RepE, RepC, RepD, bs], q1, q2⟩
end
end Go.Av
