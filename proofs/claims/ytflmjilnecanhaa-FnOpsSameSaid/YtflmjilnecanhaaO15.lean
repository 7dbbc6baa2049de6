/- A part of the library of this seat. -/
import Derived.Test.YtflmjilnecanhaaO14
import Derived.Shelf.Spec.SlicesGrow
set_option linter.unusedVariables false
set_option linter.unusedSimpArgs false
namespace Go.Av
open Go Go.Lib
section
variable {P : Program} {ρ : Go.Shelf.Ren}
theorem grow_contract (L : Go.Proofs.Lays8.n4 P ρ) (hent : ∀ args w, (callFunc (ρ.f 4) args).run P w = .ok (.enter (ρ.f 4) args) w) (i0 : TypeInfo) (z : Value) (hi0 : P.info? (ρ.t 25) = some i0) (hz0 : i0.zero = some z) (hzs : z.cells.size = i0.size) (hs0 : 0 < i0.size)
  (n : Nat) (hbig : n * i0.bytes <= 140737488355328) (h63 : n <= 4611686018427387904) :
  FCalls P (ρ.f 4) [.c .nil, .i n] [] fun r L' => ∃ v, r = .c (.d (.raw v)) /\ L' = [(.t (ρ.t 25) i0.size 0 [], v)] := by
 refine ⟨hent, fun g w vs S h1 h2 hI hT hl hr hS hnd hz => ?_⟩
 simp only [Trs] at hS
 subst hS
 obtain ⟨v1, v2, rfl⟩ : ∃ v1 v2, vs = #[v1, v2] := by
  have : vs.size = 2 := hl
  exact ⟨vs[0], vs[1], by apply Array.ext; · simpa using this
                          ·intro i h1 h2
                           simp at h2
                           match i, h2 with
                           | 0, _ => rfl
                           | 1, _ => rfl⟩
 have hv1 := hr 0 _ v1 rfl rfl
 have hv2 := hr 1 _ v2 rfl rfl
 simp only [RepV, RepE, RepC, RepD] at hv1 hv2
 subst hv1
 subst hv2
 by_cases hn : n = 0
 ·subst hn
  refine (Go.Proofs.Any8.slices_Grow_room L none 0 0 0 w (by omega) (by omega) (by omega) (by omega)).mono ?_
  rintro e w' ⟨rfl, rfl⟩
  exact ⟨_, .c (.d (.raw (.slice none 0 0))), _, [], rfl, ⟨_, rfl, rfl⟩, fun _ _ _ => ⟨rfl, rfl⟩, ⟨[], [], rfl, ⟨[], [], World.ownsRow_nil _ 0 _ _, by simp [TrL], rfl⟩, rfl⟩, List.nodup_nil, by simp, rfl, rfl, rfl, Nat.le_refl _, fun _ _ _ => rfl⟩
 ·refine (Go.Proofs.Any8.slices_Grow_grow L i0 z hi0 hz0 hs0 none 0 0 n [] w (by omega) (by omega) (by simpa using hbig) (by omega) (by simp) (fun _ => rfl) (fun a h => by cases h)).mono ?_
  rintro e w' ⟨rfl, rfl⟩
  have hge : n <= grownCap w n 0 (ρ.t 25) := grownCap_ge w n 0 (ρ.t 25)
  have hcm : grownCap w (0 + n) 0 (ρ.t 25) <= maxLen := grownCap_le_maxLen w (0 + n) 0 (ρ.t 25) (by unfold maxLen; omega)
  refine ⟨_, .c (.d (.raw _)), _, [w.heap.size], rfl, ⟨_, rfl, rfl⟩, fun _ _ _ => ⟨rfl, rfl⟩, ⟨[w.heap.size], [], rfl, ⟨[], [], World.ownsRow_made (w := w.drew) (base := 0) (size := i0.size) _ _ (Nat.zero_le _) hcm ?_, by simp [TrL], rfl⟩, rfl⟩, by simp, by simp, rfl, rfl, rfl, ?_, fun b hb _ => ?_⟩
  ·simp [Builtin.zeroCells, hzs]
   rw [<- Nat.add_mul]
   congr 1
   omega
  ·show w.heap.size <= (w.heap.push _).size
   rw [Array.size_push]; omega
  ·first | exact heap_alloc_old w.drew _ hb | exact Go.heap_alloc_old w.drew _ b hb
end
end Go.Av
