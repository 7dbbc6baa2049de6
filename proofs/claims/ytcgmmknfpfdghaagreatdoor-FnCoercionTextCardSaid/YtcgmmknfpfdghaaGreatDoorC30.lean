/- A part of the library of this seat. -/
import Derived.Test.YtcgmmknfpfdghaaGreatDoorC29
import Derived.Shelf.Strconv.AtoiAll
set_option linter.unusedVariables false
set_option linter.unusedSimpArgs false
namespace Go.Av
attribute [-simp] Go.Av.astepJ Go.Av.relC Go.Av.relL Go.Av.relV Go.Av.relVs Go.Av.callJ Go.Av.IT.kind_v Go.Av.IT.kind_b Go.Av.IT.kind_p Go.Av.IT.name_v Go.Av.IT.name_b Go.Av.IT.name_p Go.Av.IT.kids_v Go.Av.IT.kids_b Go.Av.IT.kids_p Go.Av.eIT_len Go.Av.gT_cons Go.Av.sT_cons
open Go Go.Shelf Go.Proofs Go.RowKit
section
variable {P : Program} {ρ : Ren}
def RAtoi (s : List UInt8) (r : AV) (L' : Ts) : Prop := ∃ v, r = .tup [.i (atoiV s), .c (.d (.raw v))] /\ L' = [] /\ ((atoiOk s = true /\ v = .nilIface) \/ (atoiOk s = false /\ ∃ t p, v = .iface t p))
theorem raw_pair (n : Int) (v : Value) (hv : v.oneCell' = true) : RawV (.tup [.i n, .c (.d (.raw v))]) (.tuple #[.int .i64 n, v]) := fun g w A => by
 refine ⟨[.int .i64 n, v], rfl, rfl, fun i x u h6 h7 => ?_⟩
 match i with
 | 0 => simp at h6 h7; subst h6; subst h7; simp [RepE, RepC, RepD]
 | 1 => simp at h6 h7; subst h6; subst h7; exact ⟨rfl, hv⟩
 | i + 2 => simp at h6
theorem atoi_contract (L : LaysC.n172 P ρ) (hent : ∀ args w, (callFunc (ρ.f 172) args).run P w = .ok (.enter (ρ.f 172) args) w) (h15 : ρ.g 15 ∈ tabE) (h16 : ρ.g 16 ∈ tabE) (s : List UInt8) (hs : s.length <= 1099511627776) : FCalls P (ρ.f 172) [.s s] [] (RAtoi s) := by
 refine ⟨hent, fun g w vs S hob har hI hT hl hr hS hnd hz => ?_⟩
 simp only [Trs] at hS
 subst hS
 have hvs : vs = #[.string (bs s)] := by
  have hl' : vs.size = 1 := by simpa using hl
  have := hr 0 _ vs[0] rfl (by simp [hl'])
  simp only [RepV, RepE, RepC, RepD] at this
  apply Array.ext
  ·simpa using hl
  ·intro i hi hi'
   match i with
   | 0 => simpa using this
   | i + 1 => exact absurd hi' (by simp)
 subst hvs
 have hsz : (bs s).size = s.length := by show s.toArray.size = _; simp
 have hdl : (bs s).data.toList = s := by simp [bs]
 have hcell : ∀ b, b ∈ tabE -> ∃ te pe, w.cell? ⟨b, 0, none⟩ = some (.iface te pe) := fun b hb => by
  obtain ⟨_, _, _, _, hc⟩ := hT b (.inr hb)
  obtain ⟨cs, ty, mk, te, pe, h1, h2⟩ := hc hb
  exact ⟨te, pe, by simp [World.cell?, h1, h2]⟩
 have fin : ∀ (e : Ending) (w' : World) (v : Value), e = .returned (.tuple #[.int .i64 (atoiV s), v]) -> Below w.heap.size w w' -> ((atoiOk s = true /\ v = .nilIface) \/ (atoiOk s = false /\ ∃ t p, v = .iface t p)) ->
   ∃ v r L' S', e = .returned v /\ RAtoi s r L' /\ RawV r v /\ Trs w' L' S' /\ S'.Nodup /\ (∀ b ∈ S', b ∈ ([] : List Nat) \/ w.heap.size <= b) /\ w'.os = w.os /\ w'.tape = w.tape /\ w'.output = w.output /\ w.heap.size <= w'.heap.size /\ ∀ b, b < w.heap.size -> b ∉ ([] : List Nat) -> w'.heap[b]? = w.heap[b]? := by
  rintro e w' v rfl hb hv
  exact ⟨_, _, [], [], rfl, ⟨v, rfl, rfl, hv⟩, raw_pair _ _ (by rcases hv with ⟨_, rfl⟩ | ⟨_, t, p, rfl⟩ <;> rfl), rfl, List.nodup_nil, by simp, hb.os, hb.tape, hb.output, hb.size, fun b h1 _ => hb.block b h1⟩
 cases h : Lib.atoiAll s with
 | ok v =>
  refine (Any.strconv_Atoi_ok L (bs s) (by omega) v (by rw [hdl]; exact h) w).mono ?_
  rintro e w' ⟨rfl, hw⟩
  refine fin _ w' .nilIface (by simp [atoiV, h]) ?_ (.inl ⟨by simp [atoiOk, h], rfl⟩)
  rcases hw with rfl | ⟨t, rfl⟩
  ·exact Below.refl _ _
  ·exact Lib.bytesWorld_below _ _ _
 | «syntax» =>
  obtain ⟨te, pe, hc⟩ := hcell _ h15
  refine (Any.strconv_Atoi_syntax L (bs s) (by omega) (by rw [hdl]; exact h) _ w hc (.inr ⟨te, pe, rfl⟩)).mono ?_
  rintro e w' ⟨N, rfl, _, _, hb⟩
  exact fin _ w' _ (by rw [show atoiV s = 0 by simp [atoiV, h]]) hb (.inr ⟨by simp [atoiOk, h], _, _, rfl⟩)
 | range =>
  obtain ⟨te, pe, hc⟩ := hcell _ h16
  refine (Any.strconv_Atoi_range L (bs s) (by omega) (by rw [hdl]; exact h) _ w hc (.inr ⟨te, pe, rfl⟩)).mono ?_
  rintro e w' ⟨N, rfl, _, _, hb⟩
  exact fin _ w' _ (by rw [hdl, show atoiV s = Lib.atoiSat s by simp [atoiV, h]]) hb (.inr ⟨by simp [atoiOk, h], _, _, rfl⟩)
end
end Go.Av
