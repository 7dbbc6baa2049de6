/- A part of the library of this seat. -/
import Derived.Test.YtcmdpggdaiinpaaGreatDoorQ7
set_option linter.unusedVariables false
set_option linter.unusedSimpArgs false
namespace Go.Av
attribute [-simp] Go.Av.MCo.kind_mk Go.Av.MCo.tag_mk Go.Av.MCo.label_mk Go.Av.MCo.kids_mk
open Go
section
variable {P : Program} {f : FuncId} {as_ : List AV}
theorem ACalls.of_tree2 {q : Bool} {ety : TypeId} {sz n : Nat} {cs : List GC} {rows : List (List DV)} (h : FCalls P f as_ [] fun r L' => ∃ v, r = .tup [.c (.d (.raw v)), .b q] /\ L' = [(.t ety sz n cs, v)]) (hsc : ∀ x, GC.d x ∈ cs -> x.scal = true)
  (hmk : ∀ ds Lc, Mk cs ds Lc -> chunks sz n ds = rows /\ Lc = []) : ACalls P f as_ [] (.tup [.c (.own 0 n), .b q]) [] [⟨sz, ety, rows, true⟩] := by
 refine ⟨h.1, Nat.le_refl _, fun g w vs h2 hI hT hl hr => ?_⟩
 have h1 : g.ob = [] := List.length_eq_zero_iff.1 (by simpa using hI.obl)
 refine (h.2 g w vs [] h1 h2 hI hT hl hr rfl List.nodup_nil (by simp)).mono ?_
 rintro e w' ⟨v, r', L', S', rfl, ⟨u, rfl, rfl⟩, h3, h4, h5, h6, o1, o2, o3, o4, o5⟩
 obtain ⟨vl, rfl, hvl, hvc⟩ := h3 g w' []
 have hv2 : ∃ x, vl = [x, .bool q] /\ x = u := by
  match vl, hvl with
  | [x, y], _ =>
   have h1 := hvc 0 _ x rfl rfl
   have h2 := hvc 1 _ y rfl rfl
   simp only [RepE, RepC, RepD] at h1 h2
   exact ⟨x, by rw [h2], h1.1⟩
 obtain ⟨v, rfl, rfl⟩ := hv2
 obtain ⟨St, S2, rfl, htr, hT2⟩ := h4
 simp only [Tr] at htr
 obtain ⟨cells, Sc, hown, htl, rfl⟩ := htr
 obtain ⟨ds, Lc, hmk', hTc, hcells⟩ := TrL.mk hsc htl
 have hdl : ds.length = n * sz := by rw [<- hmk'.len, htl.len, hown.1]
 obtain ⟨rfl, rfl⟩ := hmk ds Lc hmk'
 have hnew : ∀ b ∈ v.ownBlock.toList ++ Sc ++ S2, w.heap.size <= b := fun b hb => by rcases h6 b hb with q | q; simp at q; exact q
 have hvb : ∀ b, v.ownBlock = some b -> w.heap.size <= b := fun b hb => hnew b (by simp [hb])
 have hI' : Inv g w' [] [] := ⟨hI.obl, hI.arl, fun l row b h => by simp at h, fun k r v h => by simp at h, hI.obob, hI.arar, hI.obar, fun b hb => hI.fresh b (by omega)⟩
 obtain ⟨hI2, hx⟩ := hI'.ownArr ⟨sz, ety, chunks sz n ds, true⟩ v cells (chunks_row hdl) (by simpa [chunks_len] using hown) (fun j x u h3 h4 => by
  rw [flat_chunks hdl] at h3
  exact hcells g.im j x u h3 h4) (fun b hb => ⟨hI.fresh b (hvb b hb), fun l hl => by rw [h1] at hl; simp at hl, fun k v' hk => by rw [h2] at hk; simp at hk⟩)
 have hsl : ∃ a cap, v = .slice a n cap := by
  rcases hown.2 with ⟨rfl, rfl⟩ | ⟨b, cap, cur, rfl, _⟩
  ·exact ⟨_, _, rfl⟩
  ·exact ⟨_, _, rfl⟩
 obtain ⟨a', cap, hva⟩ := hsl
 refine ⟨_, { g with ar := g.ar ++ [v] }, rfl, ⟨[v, .bool q], rfl, rfl, fun i x u h7 h8 => ?_⟩, hI2,
  ⟨o1, o2, o3, o4, fun b hb _ _ => o5 b hb (by simp), fun _ _ _ => rfl, ⟨[], by simp, by simp⟩, fun k v' b q1 q2 => ?_, fun k v h => by rw [h2] at h; simp at h, hT⟩⟩
 ·match i with
  | 0 => simp at h7 h8; subst h7; subst h8; exact ⟨a', cap, hva, ⟨sz, ety, chunks sz n ds, true⟩, by simp, by simp [chunks_len], fun _ => by simp [h2]⟩
  | 1 => simp at h7 h8; subst h7; subst h8; rfl
  | i + 2 => simp at h7
 ·rw [h2, List.nil_append] at q1
  have : v' = v := by
   cases k with
   | zero => simpa using q1.symm
   | succ k => simp at q1
  subst this
  exact .inl (hvb b q2)
end
end Go.Av
