/- A part of the library of this seat. -/
import Derived.Test.YtflmjilnecanhaaC25
set_option linter.unusedVariables false
set_option linter.unusedSimpArgs false
namespace Go.Proofs.Ytflmjilnecanhaa
attribute [-simp] Go.Av.callJ
open Go Go.Av
attribute [local irreducible] T ACalls TX EX LX Draws Some_ ACallsX eTy eTm MTy.kind MTy.kids MTm.kind MTm.name MTm.num MTm.ty MTm.fr MTm.label MTm.kids
attribute [local simp] eTy_def eTm_def
set_option maxHeartbeats 16000000
set_option maxRecDepth 8000
attribute [local irreducible] TJ FCalls tyK tyRows

theorem markTypeS_tree_step (l : List MTy) (k : Nat) (hk : k + nTyS l <= 1099511627776) (h : ∀ t ∈ l, ∀ (k : Nat) v, k + nTyS t.kids <= 1099511627776 -> FCalls Try.prog 63 [.c (.d (.raw v)), .i (k : Int)] [(tyK 39 t.kids, v)] fun r L' => r = .i ((k + nTyS t.kids : Nat) : Int) /\ L' = [(tyK 39 (markS t.kids k), v)]) (v : Value) :
  FCalls Try.prog 63 [.c (.d (.raw v)), .i (k : Int)] [(tyK 39 l, v)] fun r L' => r = .i ((k + nTyS l : Nat) : Int) /\ L' = [(tyK 39 (markS l k), v)] := by
 have hlen := nTyS_len l
 rw [tyK_unf, tyK_unf, markS_len]
 refine FCalls.mono (R := fun r L' => ∃ cs', L' = [(.t 39 2 l.length cs', v)] /\ (r = .i ((k + nTyS l : Nat) : Int) /\ cs' = tyRows 39 (markS l k))) ?_ (by rintro r L' ⟨_, rfl, rfl, rfl⟩; exact ⟨rfl, rfl⟩)
 refine FCalls.of_bodyA Try.func63 (by kernel_rfl) rfl (by kernel_rfl) (by simp [Try.ntmps63]) ?_ ?_
 rotate_left
 rw [Try.ntmps63]
 rotate_left
 ·exact tyRows_scal _ l
 intro ds Lc hmk hdl
 obtain ⟨vs, hv, hch, rfl⟩ := mk_tyRows_inv _ hmk
 rw [hch]
 clear hmk hdl hch
 repeat' first | (refine aopsJ_end (hK _ _ ?_); clear hK K) | (refine aopsJ_go ?_; simp; (try first | (refine OpsJ.gen fun q hq => ?_; cases q <;> (try simp at hq) <;> (try (have hh : True := hq; clear hh hq))))) | refine TJ.rs (fun _ => false) fun K hK => ?_ | refine TJ.seq ?_ | refine TJ.block ?_
 refine TJ.loopK (α := Nat) [0, 4] (fun j => [(1, .i ((k + nTyS (l.take j) : Nat) : Int)), (5, .i j)]) (fun _ => []) (fun _ => []) (fun j _ => [{ sz := 2, ety := 39, rows := List.zipWith rTy (mT l k j) vs, wr := true }]) (fun j => ((mT l k j).map fun t => tyK 39 t.kids).zip vs) (fun j => l.length + 1 - j) (fun j => j <= l.length) (by simp; rfl) (fun j hj => ?_) 0 (by simp) (by simp) (by simp [mT_zero]) (by simp [nTyS]) (M := []) (by simp [mT_zero])
 dsimp only at hj ⊢
 simp only [ups, List.cons_append, List.nil_append]
 by_cases hlt : j < l.length
 ·obtain ⟨u, hu⟩ := get_lt hlt
  have hum : u ∈ l := List.mem_of_getElem? hu
  obtain ⟨v1, hv1⟩ := get_lt (l := vs) (i := j) (by omega)
  have hle := nTyS_take_le l (j + 1)
  have hsu := nTyS_take_succ hu
  have hrj := zipWith_at (f := rTy) (mT_at (k := k) hu) hv1
  have hrs : (List.zipWith rTy (mT l k j) vs).set j [.i ((k + nTyS (l.take j) : Nat) : Int), .raw v1] = List.zipWith rTy (mT l k (j + 1)) vs := by rw [mT_succ hu, <- zipWith_set1 hv1, markR_def]; simp only [rTy, MTy.kind_mk]
  have hrl : (List.zipWith rTy (mT l k j) vs).length = l.length := by rw [List.length_zipWith, mT_len]; omega
  have hLat : (((mT l k j).map fun t => tyK 39 t.kids).zip vs)[j]? = some (tyK 39 u.kids, v1) := zipWith_at (f := Prod.mk) (by rw [List.getElem?_map, mT_at hu]; rfl) hv1
  have hLset : (((mT l k j).map fun t => tyK 39 t.kids).zip vs).set j (tyK 39 (markS u.kids (k + nTyS (l.take j) + 1)), v1) = ((mT l k (j + 1)).map fun t => tyK 39 t.kids).zip vs := by
   rw [mT_succ hu, List.map_set, markR_def]
   simp only [MTy.kids_mk]
   exact zipWith_set1 (f := Prod.mk) hv1 _
  generalize (((mT l k j).map fun t => tyK 39 t.kids).zip vs) = Lj at *
  obtain ⟨Lj', hLj'⟩ : ∃ Lj', Lj' = (((mT l k (j + 1)).map fun t => tyK 39 t.kids).zip vs) := ⟨_, rfl⟩
  rw [<- hLj'] at hLset
  obtain ⟨R, hR⟩ : ∃ R, R = List.zipWith rTy (mT l k j) vs := ⟨_, rfl⟩
  rw [<- hR] at hrj hrs hrl ⊢
  obtain ⟨R', hR'⟩ : ∃ R', R' = List.zipWith rTy (mT l k (j + 1)) vs := ⟨_, rfl⟩
  rw [<- hR'] at hrs
  have hrl2 : R'.length = l.length := by rw [<- hrs, List.length_set, hrl]
  obtain ⟨kj, hkj⟩ : ∃ kj, kj = k + nTyS (l.take j) := ⟨_, rfl⟩
  have hkj2 : ((k + nTyS (l.take (j + 1)) : Nat) : Int) = ((kj + 1 + nTyS u.kids : Nat) : Int) := by rw [hsu, hkj]; congr 1; omega
  rw [<- hkj] at hrs hLset ⊢
  have hrj2 : ∀ h, R'[j]'h = [.i kj, .raw v1] := fun hh => by
   have h1 : R'[j]? = some [.i kj, .raw v1] := by rw [<- hrs, List.getElem?_set_self (by omega)]
   rw [List.getElem?_eq_getElem hh] at h1; exact Option.some.inj h1
  have hc := h u hum (kj + 1) v1 (by omega)
  have hjl : j < Lj.length := (List.getElem?_eq_some_iff.1 hLat).1
  have hrj' : ∀ h, R[j]'h = [.i u.kind, .raw v1] := fun hh => by rw [List.getElem?_eq_getElem hh] at hrj; exact Option.some.inj hrj
  repeat' first | (refine aopsJ_end (hK _ _ ?_); clear hK K) | (refine aopsJ_go ?_; simp [hlt, hrl, hrl2, hrj', hrj2, hrs]; (try simp (disch := omega) only [wrap64]); (try first | (refine OpsJ.gen fun q hq => ?_; cases q <;> (try simp [hlt, hrl, hrl2, hrj', hrj2, hrs] at hq) <;> (try (have hh : True := hq; clear hh hq))))) | (refine wpcallJ_mut (L2 := Lj.eraseIdx j) ?_ ?_ (hc) ?_; (focus (solve | exact perm_out hLat)); (focus (solve | (repeat' first | exact FzVs.nil | apply FzVs.cons | apply FzV.c | apply FzV.agg | exact FzL.nil | apply FzL.cons | exact FzC.d | exact FzC.nil | exact FzC.np | (refine FzC.thaw' ?_ (tyK_dp _ _); (focus (solve | simp))) | (refine FzC.thaw' ?_ (tmK_dp _ _ _); (focus (solve | simp)))))); rintro _ _ ⟨rfl, rfl⟩; simp [hlt, hrl, hrl2, hrj', hrj2, hrs]; (try simp (disch := omega) only [wrap64]); (try first | (refine OpsJ.gen fun q hq => ?_; cases q <;> (try simp [hlt, hrl, hrl2, hrj', hrj2, hrs] at hq) <;> (try (have hh : True := hq; clear hh hq))))) | refine TJ.rs (fun _ => false) fun K hK => ?_ | refine TJ.rs1 (fun _ => false) fun K hK => ?_ | refine TJ.cond rfl (fun hcnd => ?_) (fun hcnd => absurd hcnd (by decide)) | refine TJ.seq ?_ | refine TJ.block ?_ | refine TJ.skip ?_
  refine ⟨j + 1, [], by dsimp only; omega, by dsimp only; omega, ?_, ?_⟩
  ·dsimp only
   rw [<- hR', hkj2]
   simp (disch := omega) [wrap64]
  ·dsimp only
   rw [List.append_nil, <- hLj', <- hLset]
   exact perm_in _ hjl
 ·have hp' : j = l.length := by omega
  subst hp'
  rw [mT_all, List.take_length]
  repeat' first | (refine aopsJ_end (hK _ _ ?_); clear hK K) | (refine aopsJ_go ?_; simp [hlt]; (try first | (refine OpsJ.gen fun q hq => ?_; cases q <;> (try simp [hlt] at hq) <;> (try (have hh : True := hq; clear hh hq))))) | refine TJ.rs (fun _ => false) fun K hK => ?_ | refine TJ.cond rfl (fun hcnd => absurd hcnd (by decide)) (fun hcnd => ?_) | refine TJ.seq ?_ | refine TJ.exit ?_
  refine TJ.ret (DoneA.one (r := .i ((k + nTyS l : Nat) : Int)) (Or.inr rfl) (by simp [Try.results63]) (by simp [DV.scal]) rfl ?_ (mk_tyRows 39 (l := markS l k) (by rw [markS_len]; exact hv)) (M := []) (by simp) ⟨rfl, rfl⟩)
  rw [List.length_zipWith, markS_len]; omega

theorem markTypeS_tree : (l : List MTy) -> (k : Nat) -> k + nTyS l <= 1099511627776 -> (v : Value) -> FCalls Try.prog 63 [.c (.d (.raw v)), .i (k : Int)] [(tyK 39 l, v)] fun r L' => r = .i ((k + nTyS l : Nat) : Int) /\ L' = [(tyK 39 (markS l k), v)]
 | l, k, hk, v => markTypeS_tree_step l k hk (fun t ht k v hk => markTypeS_tree t.kids k hk v) v
termination_by l => SizeOf.sizeOf l
decreasing_by have := List.sizeOf_lt_of_mem ht; cases t; simp at *; omega

theorem markType_tree (t : MTy) (k : Nat) (hk : k + nTyS t.kids <= 1099511627776) (v : Value) : FCalls Try.prog 38 [.agg [.d (.i t.kind), .d (.raw v)], .i (k : Int)] [(tyK 39 t.kids, v)] fun r L' => r = .i ((k + nTyS t.kids : Nat) : Int) /\ L' = [(tyK 39 (markS t.kids k), v)] := by
 have hc := markTypeS_tree t.kids k hk v
 generalize ((k + nTyS t.kids : Nat) : Int) = K at *
 refine FCalls.of_body Try.func38 (by kernel_rfl) rfl (by kernel_rfl) (by simp [Try.ntmps38]) ?_
 rw [Try.ntmps38]
 repeat' first | (refine aopsJ_end (hK _ _ ?_); clear hK K) | (refine aopsJ_go ?_; simp; (try first | (refine OpsJ.gen fun q hq => ?_; cases q <;> (try simp at hq) <;> (try (have hh : True := hq; clear hh hq))))) | (refine wpcallJ_mut (L2 := []) ?_ ?_ (hc) ?_; (focus (solve | exact .refl _)); (focus (solve | (repeat' first | exact FzVs.nil | apply FzVs.cons | apply FzV.c | apply FzV.agg | exact FzL.nil | apply FzL.cons | exact FzC.d | exact FzC.nil | exact FzC.np | (refine FzC.thaw' ?_ (tyK_dp _ _); (focus (solve | simp))) | (refine FzC.thaw' ?_ (tmK_dp _ _ _); (focus (solve | simp)))))); rintro _ _ ⟨rfl, rfl⟩; simp; (try first | (refine OpsJ.gen fun q hq => ?_; cases q <;> (try simp at hq) <;> (try (have hh : True := hq; clear hh hq))))) | refine TJ.rs (fun _ => false) fun K hK => ?_
 refine TJ.ret (DoneJ.agg (Or.inr rfl) (r := .i K) (r' := .i K) (L' := [(tyK 39 (markS t.kids k), v)]) (M := []) (by simp [Try.results38]) (by simp [DV.scal]) (by simp) ⟨rfl, rfl⟩)

end Go.Proofs.Ytflmjilnecanhaa
