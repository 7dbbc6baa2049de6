/- A part of the library of this seat. -/
import Derived.Test.YtflmjilnecanhaaC19
set_option linter.unusedVariables false
set_option linter.unusedSimpArgs false
namespace Go.Proofs.Ytflmjilnecanhaa
attribute [-simp] Go.Av.innAsH Go.Av.AV.innH Go.Av.CV.innH Go.Av.innHs Go.Av.AV.outnH Go.Av.CV.outnH Go.Av.astepJ Go.Av.relC Go.Av.relL Go.Av.relV Go.Av.relVs Go.Av.callJ
open Go Go.Av
attribute [local irreducible] T ACalls TX EX LX Draws Some_ ACallsX eTy eTm MTy.kind MTy.kids MTm.kind MTm.name MTm.num MTm.ty MTm.fr MTm.label MTm.kids
attribute [local simp] eTy_def eTm_def
set_option maxHeartbeats 16000000
set_option maxRecDepth 8000

abbrev goodBd (u : MBd) : Prop := u.name ∈ ([[120], [122], [121], [88], []] : List (List UInt8)) /\ nTy u.ty <= 1000

end Go.Proofs.Ytflmjilnecanhaa

namespace Go.Proofs.Ytflmjilnecanhaa
attribute [-simp] Go.Av.callJ
open Go Go.Av
attribute [local irreducible] T ACalls TX EX LX Draws Some_ ACallsX eTy eTm MTy.kind MTy.kids MTm.kind MTm.name MTm.num MTm.ty MTm.fr MTm.label MTm.kids
attribute [local simp] eTy_def eTm_def
set_option maxHeartbeats 16000000
set_option maxRecDepth 8000
attribute [local irreducible] TJ FCalls tyK tyRows

theorem toTypeS_tree_step (l : List MTy) (hl : l.length <= 1048576) (h : ∀ t ∈ l, FCalls Try.prog 28 [aTy t] [] fun r L' => ∃ v, r = .agg [.d (.i t.kind), .d (.raw v)] /\ L' = [(tyK 39 t.kids, v)]) :
  FCalls Try.prog 51 [.l (l.map eTy)] [] fun r L' => ∃ v, r = .c (.d (.raw v)) /\ L' = [(tyK 39 l, v)] := by
 refine FCalls.of_body Try.func51 (by kernel_rfl) rfl (by kernel_rfl) (by simp [Try.ntmps51]) ?_
 rw [Try.ntmps51]
 repeat' first | (refine aopsJ_end (hK _ _ ?_); clear hK K) | (refine aopsJ_go ?_; simp; (try first | (refine OpsJ.gen fun q hq => ?_; cases q <;> (try simp at hq) <;> (try (have hh : True := hq; clear hh hq))))) | refine TJ.rs (fun _ => false) fun K hK => ?_ | (refine And.intro (by omega) ?_) | refine TJ.seq ?_ | refine TJ.block ?_
 refine TJ.loopF (fun vs : List Value => ⟨[(0, .l (l.map eTy)), (3, .c (.own 0 l.length)), (4, .i vs.length)], [], [{ sz := 2, ety := 39, rows := fillV rTy [.i 0, .sl []] l vs, wr := true }]⟩) (fun vs => (l.map fun t => tyK 39 t.kids).zip vs) (fun vs => l.length + 1 - vs.length) (fun vs => vs.length <= l.length) (fun vs hi => ?_) [] (by simp) (by simp [fillV_zero]) (M := []) (by simp)
 by_cases hlt : vs.length < l.length
 ·obtain ⟨u, hu⟩ := get_lt hlt
  have hum : u ∈ l := List.mem_of_getElem? hu
  have hgt : l[vs.length] = u := by rw [List.getElem?_eq_getElem hlt] at hu; exact Option.some.inj hu
  have hc := h u hum
  repeat' first | (refine aopsJ_end (hK _ _ ?_); clear hK K) | (refine aopsJ_go ?_; simp [hlt, hgt, fillV_len hi, fillV_at hlt]; (try simp (disch := omega) only [wrap64]); (try first | (refine OpsJ.gen fun q hq => ?_; cases q <;> (try simp [hlt, hgt, fillV_len hi, fillV_at hlt] at hq) <;> (try (have hh : True := hq; clear hh hq))))) | (refine wpcallJ_new ?_ (hc) ?_; (focus (solve | (repeat' first | exact FzVs.nil | apply FzVs.cons | apply FzV.c | apply FzV.agg | exact FzL.nil | apply FzL.cons | exact FzC.d | exact FzC.nil | exact FzC.np | (refine FzC.thaw' ?_ (tyK_dp _ _); (focus (solve | simp))) | (refine FzC.thaw' ?_ (tmK_dp _ _ _); (focus (solve | simp)))))); rintro _ _ ⟨v, rfl, rfl⟩; simp [hlt, hgt, fillV_len hi, fillV_at hlt]; (try simp (disch := omega) only [wrap64]); (try first | (refine OpsJ.gen fun q hq => ?_; cases q <;> (try simp [hlt, hgt, fillV_len hi, fillV_at hlt] at hq) <;> (try (have hh : True := hq; clear hh hq))))) | refine TJ.rs (fun _ => false) fun K hK => ?_ | refine TJ.rs1 (fun _ => false) fun K hK => ?_ | refine TJ.cond rfl (fun hcnd => ?_) (fun hcnd => absurd hcnd (by decide)) | refine TJ.seq ?_ | refine TJ.block ?_ | refine TJ.skip ?_
  refine ⟨vs ++ [v], [], by simp; omega, by simp; omega, ?_, ?_⟩
  ·simp (disch := omega) [wrap64, <- fillV_set hu]
  ·dsimp only
   rw [zip_snoc hu, List.append_nil]
   exact List.perm_append_comm (l₁ := [_])
 ·have hp' : vs.length = l.length := by omega
  repeat' first | (refine aopsJ_end (hK _ _ ?_); clear hK K) | (refine aopsJ_go ?_; simp [hp']; (try first | (refine OpsJ.gen fun q hq => ?_; cases q <;> (try simp [hp'] at hq) <;> (try (have hh : True := hq; clear hh hq))))) | refine TJ.rs (fun _ => false) fun K hK => ?_ | refine TJ.cond rfl (fun hcnd => absurd hcnd (by decide)) (fun hcnd => ?_) | refine TJ.seq ?_ | refine TJ.exit ?_
  refine TJ.ret (DoneJ.own (k := 0) (n := l.length) (Or.inr rfl) (by simp [Try.results51]) rfl rfl ?_ (Lc := (l.map fun t => tyK 39 t.kids).zip vs) (cs := tyRows 39 l) ?_ (M := []) (by simp) ?_)
  ·rw [fillV_len hi]
  ·rw [fillV_full hp']; exact mk_tyRows _ hp'
  ·intro v
   refine ⟨v, rfl, ?_⟩
   rw [fillV_len hi]; simp only [tyK]

theorem toType_tree_step (t : MTy) (h : FCalls Try.prog 51 [.l (t.kids.map eTy)] [] fun r L' => ∃ v, r = .c (.d (.raw v)) /\ L' = [(tyK 39 t.kids, v)]) :
  FCalls Try.prog 28 [aTy t] [] fun r L' => ∃ v, r = .agg [.d (.i t.kind), .d (.raw v)] /\ L' = [(tyK 39 t.kids, v)] := by
 refine FCalls.of_body Try.func28 (by kernel_rfl) rfl (by kernel_rfl) (by simp [Try.ntmps28]) ?_
 rw [Try.ntmps28]
 repeat' first | (refine aopsJ_end (hK _ _ ?_); clear hK K) | (refine aopsJ_go ?_; simp; (try first | (refine OpsJ.gen fun q hq => ?_; cases q <;> (try simp at hq) <;> (try (have hh : True := hq; clear hh hq))))) | (refine wpcallJ_new ?_ (h) ?_; (focus (solve | (repeat' first | exact FzVs.nil | apply FzVs.cons | apply FzV.c | apply FzV.agg | exact FzL.nil | apply FzL.cons | exact FzC.d | exact FzC.nil | exact FzC.np | (refine FzC.thaw' ?_ (tyK_dp _ _); (focus (solve | simp))) | (refine FzC.thaw' ?_ (tmK_dp _ _ _); (focus (solve | simp)))))); rintro _ _ ⟨v, rfl, rfl⟩; simp; (try first | (refine OpsJ.gen fun q hq => ?_; cases q <;> (try simp at hq) <;> (try (have hh : True := hq; clear hh hq))))) | refine TJ.rs (fun _ => false) fun K hK => ?_
 refine TJ.ret (DoneJ.agg (Or.inr rfl) (r := .agg [.d (.i t.kind), .d (.raw v)]) (by simp [Try.results28]) (by simp [DV.scal]) (M := []) (by simp) ⟨v, rfl, rfl⟩)

theorem toType_tree : (t : MTy) -> nTy t <= 1048576 -> FCalls Try.prog 28 [aTy t] [] fun r L' => ∃ v, r = .agg [.d (.i t.kind), .d (.raw v)] /\ L' = [(tyK 39 t.kids, v)]
 | .mk k l, hn => toType_tree_step (.mk k l) (by
  rw [nTy_def] at hn
  simp only [MTy.kids_mk] at hn ⊢
  exact toTypeS_tree_step l (by have := nTyS_len l; omega) (fun t ht => toType_tree t (by have := nTyS_mem ht; omega)))
termination_by t => SizeOf.sizeOf t
decreasing_by have := List.sizeOf_lt_of_mem ht; simp; omega
end Go.Proofs.Ytflmjilnecanhaa

namespace Go.Proofs.Ytflmjilnecanhaa
attribute [-simp] Go.Av.callJ
open Go Go.Av
attribute [local irreducible] T ACalls TX EX LX Draws Some_ ACallsX eTy eTm MTy.kind MTy.kids MTm.kind MTm.name MTm.num MTm.ty MTm.fr MTm.label MTm.kids
attribute [local simp] eTy_def eTm_def
set_option maxHeartbeats 16000000
set_option maxRecDepth 8000
attribute [local irreducible] TJ FCalls tyK tyRows tmK tmRows

theorem toTermS_tree_step (l : List MTm) (hl : l.length <= 1048576) (h : ∀ t ∈ l, FCalls Try.prog 10 [aTm t] [] fun r L' => ∃ v : V3, r = .agg ((rTm t v).map CV.d) /\ L' = tTm 39 42 t v) :
  FCalls Try.prog 29 [.l (l.map eTm)] [] fun r L' => ∃ v, r = .c (.d (.raw v)) /\ L' = [(tmK 39 42 l, v)] := by
 refine FCalls.of_body Try.func29 (by kernel_rfl) rfl (by kernel_rfl) (by simp [Try.ntmps29]) ?_
 rw [Try.ntmps29]
 repeat' first | (refine aopsJ_end (hK _ _ ?_); clear hK K) | (refine aopsJ_go ?_; simp; (try first | (refine OpsJ.gen fun q hq => ?_; cases q <;> (try simp at hq) <;> (try (have hh : True := hq; clear hh hq))))) | refine TJ.rs (fun _ => false) fun K hK => ?_ | (refine And.intro (by omega) ?_) | refine TJ.seq ?_ | refine TJ.block ?_
 refine TJ.loopF (fun vs : List V3 => ⟨[(0, .l (l.map eTm)), (3, .c (.own 0 l.length)), (4, .i vs.length)], [], [{ sz := 9, ety := 42, rows := fillV rTm [.i 0, .str [], .i 0, .i 0, .sl [], .i 0, .sl [], .i 0, .sl []] l vs, wr := true }]⟩) (fun vs => tsTm 39 42 l vs) (fun vs => l.length + 1 - vs.length) (fun vs => vs.length <= l.length) (fun vs hi => ?_) [] (by simp) (by simp [fillV_zero]) (M := []) (by simp [tsTm_nil])
 by_cases hlt : vs.length < l.length
 ·obtain ⟨u, hu⟩ := get_lt hlt
  have hum : u ∈ l := List.mem_of_getElem? hu
  have hgt : l[vs.length] = u := by rw [List.getElem?_eq_getElem hlt] at hu; exact Option.some.inj hu
  have hc := h u hum
  repeat' first | (refine aopsJ_end (hK _ _ ?_); clear hK K) | (refine aopsJ_go ?_; simp [hlt, hgt, fillV_len hi, fillV_at hlt]; (try simp (disch := omega) only [wrap64]); (try first | (refine OpsJ.gen fun q hq => ?_; cases q <;> (try simp [hlt, hgt, fillV_len hi, fillV_at hlt] at hq) <;> (try (have hh : True := hq; clear hh hq))))) | (refine wpcallJ_new ?_ (hc) ?_; (focus (solve | (repeat' first | exact FzVs.nil | apply FzVs.cons | apply FzV.c | apply FzV.agg | exact FzL.nil | apply FzL.cons | exact FzC.d | exact FzC.nil | exact FzC.np | (refine FzC.thaw' ?_ (tyK_dp _ _); (focus (solve | simp))) | (refine FzC.thaw' ?_ (tmK_dp _ _ _); (focus (solve | simp)))))); rintro _ _ ⟨⟨v1, v2, v3⟩, rfl, rfl⟩; simp [hlt, hgt, fillV_len hi, fillV_at hlt]; (try simp (disch := omega) only [wrap64]); (try first | (refine OpsJ.gen fun q hq => ?_; cases q <;> (try simp [hlt, hgt, fillV_len hi, fillV_at hlt] at hq) <;> (try (have hh : True := hq; clear hh hq))))) | refine TJ.rs (fun _ => false) fun K hK => ?_ | refine TJ.rs1 (fun _ => false) fun K hK => ?_ | refine TJ.cond rfl (fun hcnd => ?_) (fun hcnd => absurd hcnd (by decide)) | refine TJ.seq ?_ | refine TJ.block ?_ | refine TJ.skip ?_
  refine ⟨vs ++ [(v1, v2, v3)], [], by simp; omega, by simp; omega, ?_, ?_⟩
  ·simp (disch := omega) [wrap64, <- fillV_set hu]
  ·dsimp only
   rw [tsTm_snoc _ _ hu, List.append_nil]
   exact List.perm_append_comm (l₁ := tTm _ _ u (v1, v2, v3))
 ·have hp' : vs.length = l.length := by omega
  repeat' first | (refine aopsJ_end (hK _ _ ?_); clear hK K) | (refine aopsJ_go ?_; simp [hp']; (try first | (refine OpsJ.gen fun q hq => ?_; cases q <;> (try simp [hp'] at hq) <;> (try (have hh : True := hq; clear hh hq))))) | refine TJ.rs (fun _ => false) fun K hK => ?_ | refine TJ.cond rfl (fun hcnd => absurd hcnd (by decide)) (fun hcnd => ?_) | refine TJ.seq ?_ | refine TJ.exit ?_
  refine TJ.ret (DoneJ.own (k := 0) (n := l.length) (Or.inr rfl) (by simp [Try.results29]) rfl rfl ?_ (Lc := tsTm 39 42 l vs) (cs := tmRows 39 42 l) ?_ (M := []) (by simp) ?_)
  ·rw [fillV_len hi]
  ·rw [fillV_full hp']; exact mk_tmRows _ _ hp'
  ·intro v
   refine ⟨v, rfl, ?_⟩
   rw [fillV_len hi]; simp only [tmK]

theorem toTerm_tree_step (e : MTm) (h1 : nTy e.ty <= 1048576) (h2 : nTy e.fr <= 1048576) (h : FCalls Try.prog 29 [.l (e.kids.map eTm)] [] fun r L' => ∃ v, r = .c (.d (.raw v)) /\ L' = [(tmK 39 42 e.kids, v)]) :
  FCalls Try.prog 10 [aTm e] [] fun r L' => ∃ v : V3, r = .agg ((rTm e v).map CV.d) /\ L' = tTm 39 42 e v := by
 have k1 := toType_tree e.ty h1
 have k2 := toType_tree e.fr h2
 refine FCalls.of_body Try.func10 (by kernel_rfl) rfl (by kernel_rfl) (by simp [Try.ntmps10]) ?_
 rw [Try.ntmps10]
 repeat' first | (refine aopsJ_end (hK _ _ ?_); clear hK K) | (refine aopsJ_go ?_; simp; (try first | (refine OpsJ.gen fun q hq => ?_; cases q <;> (try simp at hq) <;> (try (have hh : True := hq; clear hh hq))))) | (refine wpcallJ_new ?_ (k1) ?_; (focus (solve | (repeat' first | exact FzVs.nil | apply FzVs.cons | apply FzV.c | apply FzV.agg | exact FzL.nil | apply FzL.cons | exact FzC.d | exact FzC.nil | exact FzC.np | (refine FzC.thaw' ?_ (tyK_dp _ _); (focus (solve | simp))) | (refine FzC.thaw' ?_ (tmK_dp _ _ _); (focus (solve | simp)))))); rintro _ _ ⟨v1, rfl, rfl⟩; simp; (try first | (refine OpsJ.gen fun q hq => ?_; cases q <;> (try simp at hq) <;> (try (have hh : True := hq; clear hh hq))))) | (refine wpcallJ_new ?_ (k2) ?_; (focus (solve | (repeat' first | exact FzVs.nil | apply FzVs.cons | apply FzV.c | apply FzV.agg | exact FzL.nil | apply FzL.cons | exact FzC.d | exact FzC.nil | exact FzC.np | (refine FzC.thaw' ?_ (tyK_dp _ _); (focus (solve | simp))) | (refine FzC.thaw' ?_ (tmK_dp _ _ _); (focus (solve | simp)))))); rintro _ _ ⟨v2, rfl, rfl⟩; simp; (try first | (refine OpsJ.gen fun q hq => ?_; cases q <;> (try simp at hq) <;> (try (have hh : True := hq; clear hh hq))))) | (refine wpcallJ_new ?_ (h) ?_; (focus (solve | (repeat' first | exact FzVs.nil | apply FzVs.cons | apply FzV.c | apply FzV.agg | exact FzL.nil | apply FzL.cons | exact FzC.d | exact FzC.nil | exact FzC.np | (refine FzC.thaw' ?_ (tyK_dp _ _); (focus (solve | simp))) | (refine FzC.thaw' ?_ (tmK_dp _ _ _); (focus (solve | simp)))))); rintro _ _ ⟨v, rfl, rfl⟩; simp; (try first | (refine OpsJ.gen fun q hq => ?_; cases q <;> (try simp at hq) <;> (try (have hh : True := hq; clear hh hq))))) | refine TJ.rs (fun _ => false) fun K hK => ?_
 refine TJ.ret (DoneJ.agg (Or.inr rfl) (L' := tTm 39 42 e (v1, v2, v)) (r := .agg ((rTm e (v1, v2, v)).map CV.d)) (by simp [Try.results10]) (by simp [DV.scal]) (M := []) ?_ ⟨(v1, v2, v), rfl, rfl⟩)
 simp only [tTm, List.append_nil]
 exact (List.reverse_perm _).symm

theorem toTerm_tree : (e : MTm) -> nTm e <= 1048576 -> FCalls Try.prog 10 [aTm e] [] fun r L' => ∃ v : V3, r = .agg ((rTm e v).map CV.d) /\ L' = tTm 39 42 e v
 | .mk k s n t f b l, hn => by
  have hn0 := hn
  rw [nTm_def] at hn
  have hlen := nTmS_len l
  simp only [MTm.kids_mk, MTm.ty_mk, MTm.fr_mk, MTm.name_mk] at hn
  exact toTerm_tree_step _ (by simp only [MTm.ty_mk]; omega) (by simp only [MTm.fr_mk]; omega) (by simp only [MTm.kids_mk]; exact toTermS_tree_step l (by omega) (fun t ht => toTerm_tree t (by have := nTmS_mem ht; omega)))
termination_by t => SizeOf.sizeOf t
decreasing_by have := List.sizeOf_lt_of_mem ht; simp; omega
end Go.Proofs.Ytflmjilnecanhaa
