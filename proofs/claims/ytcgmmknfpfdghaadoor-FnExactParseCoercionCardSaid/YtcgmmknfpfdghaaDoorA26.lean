/- A part of the library of this seat. -/
import Derived.Test.YtcgmmknfpfdghaaDoorA25
set_option linter.unusedVariables false
set_option linter.unusedSimpArgs false
namespace Go.Proofs.YtcgmmknfpfdghaaDoor
attribute [-simp] Go.Av.callJ Go.Av.IT.kind_v Go.Av.IT.kind_b Go.Av.IT.kind_p Go.Av.IT.name_v Go.Av.IT.name_b Go.Av.IT.name_p Go.Av.IT.kids_v Go.Av.IT.kids_b Go.Av.IT.kids_p Go.Av.eIT_len Go.Av.gT_cons Go.Av.sT_cons
open Go Go.Av
attribute [local irreducible] T ACalls TX EX LX Draws Some_ ACallsX eTy eTm MTy.kind MTy.kids MTm.kind MTm.name MTm.num MTm.ty MTm.fr MTm.label MTm.kids
attribute [local simp] eTy_def eTm_def
set_option maxHeartbeats 16000000
set_option maxRecDepth 8000
attribute [local irreducible] TJ FCalls coK coRows eCo MCo.kind MCo.tag MCo.label MCo.kids
attribute [local simp] eCo_def

theorem markCoercionS_tree_step (l : List MCo) (k : Nat) (hk : k + 3 * nCoS l <= 1099511627776) (h : ∀ t ∈ l, ∀ (k : Nat) v, k + 3 * nCoS t.kids <= 1099511627776 -> FCalls Tryd.prog 22 [.c (.d (.raw v)), .i (k : Int)] [(coK 24 t.kids, v)] fun r L' => r = .i ((k + 3 * nCoS t.kids : Nat) : Int) /\ L' = [(coK 24 (markCS t.kids k), v)]) (v : Value) :
  FCalls Tryd.prog 22 [.c (.d (.raw v)), .i (k : Int)] [(coK 24 l, v)] fun r L' => r = .i ((k + 3 * nCoS l : Nat) : Int) /\ L' = [(coK 24 (markCS l k), v)] := by
 have hlen := nCoS_len l
 rw [coK_unf, coK_unf, markCS_len]
 refine FCalls.mono (R := fun r L' => ∃ cs', L' = [(.t 24 4 l.length cs', v)] /\ (r = .i ((k + 3 * nCoS l : Nat) : Int) /\ cs' = coRows 24 (markCS l k))) ?_ (by rintro r L' ⟨_, rfl, rfl, rfl⟩; exact ⟨rfl, rfl⟩)
 refine FCalls.of_bodyA Tryd.func22 (by kernel_rfl) rfl (by kernel_rfl) (by simp [Tryd.ntmps22]) ?_ ?_
 rotate_left
 rw [Tryd.ntmps22]
 rotate_left
 ·exact coRows_scal _ l
 intro ds Lc hmk hdl
 obtain ⟨vs, hv, hch, rfl⟩ := mk_coRows_inv _ hmk
 rw [hch]
 clear hmk hdl hch
 repeat' first | (refine aopsJ_end (hK _ _ ?_); clear hK K) | (refine aopsD_end (hK _ ?_); clear hK K) | (refine aopsJ_go ?_; simp; (try (refine J2 ?_ ?_ <;> intro hq <;> try simp at hq))) | (refine aopsF_end (hK _ ?_); clear hK K) | ((first | refine aopsD_go ?_ | refine aopsF_go ?_); simp; (try (refine gen2 ?_ ?_ <;> intro hq <;> try simp at hq))) | refine TJ.rs (fun _ => false) fun K hK => ?_ | refine TJ.rs1 (fun _ => false) fun K hK => ?_ | (refine And.intro (by omega) ?_) | refine TJ.cond rfl (fun hcnd => ?_) (fun hcnd => absurd hcnd (by decide)) | refine TJ.cond rfl (fun hcnd => absurd hcnd (by decide)) (fun hcnd => ?_) | refine TJ.seq ?_ | refine TJ.block ?_ | refine TJ.skip ?_ | refine TJ.exit ?_
 refine TJ.loopK (α := Nat) [0, 4] (fun j => [(1, .i ((k + 3 * nCoS (l.take j) : Nat) : Int)), (5, .i j)]) (fun _ => []) (fun _ => []) (fun j _ => [{ sz := 4, ety := 24, rows := List.zipWith rCo (mC l k j) vs, wr := true }]) (fun j => ((mC l k j).map fun t => coK 24 t.kids).zip vs) (fun j => l.length + 1 - j) (fun j => j <= l.length) (by simp; rfl) (fun j hj => ?_) 0 (by simp) (by simp) (by simp [mC_zero]) (by simp [mC_zero, nCoS]) (M := []) (by simp [mC_zero])
 dsimp only at hj ⊢
 simp only [ups, List.cons_append, List.nil_append]
 by_cases hlt : j < l.length
 ·obtain ⟨u, hu⟩ := get_lt hlt
  have hum : u ∈ l := List.mem_of_getElem? hu
  obtain ⟨v1, hv1⟩ := get_lt (l := vs) (i := j) (by omega)
  have hle := nCoS_take_le l (j + 1)
  have hsu := nCoS_take_succ hu
  have hrj := zipWith_at (f := rCo) (mC_at (k := k) hu) hv1
  have hrs : (List.zipWith rCo (mC l k j) vs).set j [.i ((k + 3 * nCoS (l.take j) : Nat) : Int), .i ((k + 3 * nCoS (l.take j) + 1 : Nat) : Int), .i ((k + 3 * nCoS (l.take j) + 2 : Nat) : Int), .raw v1] = List.zipWith rCo (mC l k (j + 1)) vs := by rw [mC_succ hu, <- zipWith_set1 hv1, markC_def]; simp only [rCo, MCo.kind_mk, MCo.tag_mk, MCo.label_mk]
  have hrl : (List.zipWith rCo (mC l k j) vs).length = l.length := by rw [List.length_zipWith, mC_len]; omega
  have hLat : (((mC l k j).map fun t => coK 24 t.kids).zip vs)[j]? = some (coK 24 u.kids, v1) := zipWith_at (f := Prod.mk) (by rw [List.getElem?_map, mC_at hu]; rfl) hv1
  have hLset : (((mC l k j).map fun t => coK 24 t.kids).zip vs).set j (coK 24 (markCS u.kids (k + 3 * nCoS (l.take j) + 3)), v1) = ((mC l k (j + 1)).map fun t => coK 24 t.kids).zip vs := by
   rw [mC_succ hu, List.map_set, markC_def]
   simp only [MCo.kids_mk]
   exact zipWith_set1 (f := Prod.mk) hv1 _
  generalize (((mC l k j).map fun t => coK 24 t.kids).zip vs) = Lj at *
  obtain ⟨Lj', hLj'⟩ : ∃ Lj', Lj' = (((mC l k (j + 1)).map fun t => coK 24 t.kids).zip vs) := ⟨_, rfl⟩
  rw [<- hLj'] at hLset
  obtain ⟨R, hR⟩ : ∃ R, R = List.zipWith rCo (mC l k j) vs := ⟨_, rfl⟩
  rw [<- hR] at hrj hrs hrl ⊢
  obtain ⟨R', hR'⟩ : ∃ R', R' = List.zipWith rCo (mC l k (j + 1)) vs := ⟨_, rfl⟩
  rw [<- hR'] at hrs
  have hrl2 : R'.length = l.length := by rw [<- hrs, List.length_set, hrl]
  obtain ⟨kj, hkj⟩ : ∃ kj, kj = k + 3 * nCoS (l.take j) := ⟨_, rfl⟩
  have hkj2 : ((k + 3 * nCoS (l.take (j + 1)) : Nat) : Int) = ((kj + 3 + 3 * nCoS u.kids : Nat) : Int) := by rw [hsu, hkj]; congr 1; omega
  have hk1 : ((kj + 1 : Nat) : Int) = (kj : Int) + 1 := by omega
  have hk2 : ((kj + 2 : Nat) : Int) = (kj : Int) + 1 + 1 := by omega
  rw [<- hkj, hk1, hk2] at hrs
  rw [<- hkj] at hLset ⊢
  have hrj2 : ∀ h, R'[j]'h = [.i kj, .i ((kj : Int) + 1), .i ((kj : Int) + 1 + 1), .raw v1] := fun hh => by
   have h1 : R'[j]? = some [.i kj, .i ((kj : Int) + 1), .i ((kj : Int) + 1 + 1), .raw v1] := by rw [<- hrs, List.getElem?_set_self (by omega)]
   rw [List.getElem?_eq_getElem hh] at h1; exact Option.some.inj h1
  have hc := h u hum (kj + 3) v1 (by omega)
  rw [show ((kj + 3 : Nat) : Int) = (kj : Int) + 1 + 1 + 1 by omega] at hc
  have hjl : j < Lj.length := (List.getElem?_eq_some_iff.1 hLat).1
  have hrj' : ∀ h, R[j]'h = [.i u.kind, .i u.tag, .i u.label, .raw v1] := fun hh => by rw [List.getElem?_eq_getElem hh] at hrj; exact Option.some.inj hrj
  clear hrj
  repeat' first | (refine aopsJ_end (hK _ _ ?_); clear hK K) | (refine aopsD_end (hK _ ?_); clear hK K) | (refine aopsJ_go ?_; simp [hlt, hrl, hrl2, hrj', hrj2, hrs]; (try simp (disch := omega) only [wrap64]); (try (refine J2 ?_ ?_ <;> intro hq <;> try simp [hlt, hrl, hrl2, hrj', hrj2, hrs] at hq))) | (refine aopsD_go ?_; simp [hlt, hrl, hrl2, hrj', hrj2, hrs]; (try simp (disch := omega) only [wrap64]); (try (refine gen2 ?_ ?_ <;> intro hq <;> try simp [hlt, hrl, hrl2, hrj', hrj2, hrs] at hq))) | (refine aopsF_end (hK _ ?_); clear hK K) | (refine aopsF_go ?_; simp [hlt, hrl, hrl2, hrj', hrj2, hrs]; (try simp (disch := omega) only [wrap64]); (try (refine gen2 ?_ ?_ <;> intro hq <;> try simp [hlt, hrl, hrl2, hrj', hrj2, hrs] at hq))) | (refine wpcallJ_mut (L2 := Lj.eraseIdx j) ?_ ?_ (hc) ?_; (focus (solve | exact perm_out hLat)); (focus (solve | repeat' constructor)); rintro _ _ ⟨rfl, rfl⟩; simp [hlt, hrl, hrl2, hrj', hrj2, hrs]; (try simp (disch := omega) only [wrap64]); (try (refine J2 ?_ ?_ <;> intro hq <;> try simp [hlt, hrl, hrl2, hrj', hrj2, hrs] at hq))) | refine TJ.rs (fun _ => false) fun K hK => ?_ | refine TJ.rs1 (fun _ => false) fun K hK => ?_ | (refine And.intro (by omega) ?_) | refine TJ.cond rfl (fun hcnd => ?_) (fun hcnd => absurd hcnd (by decide)) | refine TJ.cond rfl (fun hcnd => absurd hcnd (by decide)) (fun hcnd => ?_) | refine TJ.seq ?_ | refine TJ.block ?_ | refine TJ.skip ?_ | refine TJ.exit ?_
  refine ⟨j + 1, [], by dsimp only; omega, by dsimp only; omega, ?_, ?_⟩
  ·dsimp only
   rw [<- hR', hkj2]
   simp (disch := omega) [wrap64]
  ·dsimp only
   rw [List.append_nil, <- hLj', <- hLset]
   exact perm_in _ hjl
 ·have hp' : j = l.length := by omega
  subst hp'
  rw [mC_all, List.take_length]
  repeat' first | (refine aopsJ_end (hK _ _ ?_); clear hK K) | (refine aopsD_end (hK _ ?_); clear hK K) | (refine aopsJ_go ?_; simp [hlt]; (try (refine J2 ?_ ?_ <;> intro hq <;> try simp [hlt] at hq))) | (refine aopsF_end (hK _ ?_); clear hK K) | ((first | refine aopsD_go ?_ | refine aopsF_go ?_); simp [hlt]; (try (refine gen2 ?_ ?_ <;> intro hq <;> try simp [hlt] at hq))) | refine TJ.rs (fun _ => false) fun K hK => ?_ | refine TJ.rs1 (fun _ => false) fun K hK => ?_ | (refine And.intro (by omega) ?_) | refine TJ.cond rfl (fun hcnd => ?_) (fun hcnd => absurd hcnd (by decide)) | refine TJ.cond rfl (fun hcnd => absurd hcnd (by decide)) (fun hcnd => ?_) | refine TJ.seq ?_ | refine TJ.block ?_ | refine TJ.skip ?_ | refine TJ.exit ?_
  refine TJ.ret (DoneA.one (r := .i ((k + 3 * nCoS l : Nat) : Int)) (Or.inr rfl) (by simp [Tryd.results22]) (by simp [DV.scal]) rfl ?_ (mk_coRows 24 (l := markCS l k) (by rw [markCS_len]; exact hv)) (M := []) (by simp) ⟨rfl, rfl⟩)
  rw [List.length_zipWith, markCS_len]; omega

theorem markCoercionS_tree : (l : List MCo) -> (k : Nat) -> k + 3 * nCoS l <= 1099511627776 -> (v : Value) -> FCalls Tryd.prog 22 [.c (.d (.raw v)), .i (k : Int)] [(coK 24 l, v)] fun r L' => r = .i ((k + 3 * nCoS l : Nat) : Int) /\ L' = [(coK 24 (markCS l k), v)]
 | l, k, hk, v => markCoercionS_tree_step l k hk (fun t ht k v hk => markCoercionS_tree t.kids k hk v) v
termination_by l => SizeOf.sizeOf l
decreasing_by have := List.sizeOf_lt_of_mem ht; cases t; simp at *; omega

theorem markCoercion_tree (t : MCo) (k : Nat) (hk : k + 3 * nCoS t.kids <= 1099511627776) (v : Value) : FCalls Tryd.prog 8 [.agg [.d (.i t.kind), .d (.i t.tag), .d (.i t.label), .d (.raw v)], .i (k : Int)] [(coK 24 t.kids, v)] fun r L' => r = .i ((k + 3 * nCoS t.kids : Nat) : Int) /\ L' = [(coK 24 (markCS t.kids k), v)] := by
 have hc := markCoercionS_tree t.kids k hk v
 generalize ((k + 3 * nCoS t.kids : Nat) : Int) = K at *
 refine FCalls.of_body Tryd.func8 (by kernel_rfl) rfl (by kernel_rfl) (by simp [Tryd.ntmps8]) ?_
 rw [Tryd.ntmps8]
 repeat' first | (refine aopsJ_end (hK _ _ ?_); clear hK K) | (refine aopsD_end (hK _ ?_); clear hK K) | (refine aopsF_end (hK _ ?_); clear hK K) | ((first | refine aopsD_go ?_ | refine aopsF_go ?_); simp; (try (refine gen2 ?_ ?_ <;> intro hq <;> try simp at hq))) | ((first | refine aopsJ_go ?_ | (refine wpcallJ_mut (L2 := []) ?_ ?_ (hc) ?_; (focus (solve | exact .refl _)); (focus (solve | repeat' constructor)); rintro _ _ ⟨rfl, rfl⟩)); simp; (try (refine J2 ?_ ?_ <;> intro hq <;> try simp at hq))) | refine TJ.rs (fun _ => false) fun K hK => ?_ | refine TJ.rs1 (fun _ => false) fun K hK => ?_ | (refine And.intro (by omega) ?_) | refine TJ.cond rfl (fun hcnd => ?_) (fun hcnd => absurd hcnd (by decide)) | refine TJ.cond rfl (fun hcnd => absurd hcnd (by decide)) (fun hcnd => ?_) | refine TJ.seq ?_ | refine TJ.block ?_ | refine TJ.skip ?_ | refine TJ.exit ?_
 refine TJ.ret (DoneJ.agg (Or.inr rfl) (r := .i K) (r' := .i K) (L' := [(coK 24 (markCS t.kids k), v)]) (M := []) (by simp [Tryd.results8]) (by simp [DV.scal]) (by simp) ⟨rfl, rfl⟩)

theorem heldCoercionS_step (l : List MCo) (k : Nat) (hk : k + 3 * nCoS l <= 1099511627776) (h : ∀ t ∈ l, ∀ (k : Nat), k + 3 * nCoS t.kids <= 1099511627776 -> ACalls Tryd.prog 23 [.l ((markCS t.kids k).map eCo), .i (k : Int)] [] (.i ((k + 3 * nCoS t.kids : Nat) : Int)) [] []) :
  ACalls Tryd.prog 23 [.l ((markCS l k).map eCo), .i (k : Int)] [] (.i ((k + 3 * nCoS l : Nat) : Int)) [] [] := by
 have hlen := nCoS_len l
 obtain ⟨Z, hZ⟩ : ∃ Z, Z = markCS l k := ⟨_, rfl⟩
 have hZl : Z.length = l.length := by rw [hZ, markCS_len]
 rw [<- hZ]
 refine ACalls.of_body Tryd.func23 (by kernel_rfl) rfl (by kernel_rfl) (by simp [Tryd.ntmps23]) (by simp) ?_
 rw [Tryd.ntmps23]
 repeat' first | ((first | refine aops_end (hK _ ?_) | refine aopsD_end (hK _ ?_) | refine aopsF_end (hK _ ?_)); clear hK K) | ((first | refine aops_go ?_ | refine aopsD_go ?_ | refine aopsF_go ?_); simp; (try (refine gen2 ?_ ?_ <;> intro hq <;> try simp at hq))) | refine T.r0 fun K hK => ?_ | refine T.r1 fun K hK => ?_ | (refine ⟨by omega, ?_⟩) | refine T.ct rfl ?_ | refine T.cf rfl ?_ | refine T.seq ?_ | refine T.block ?_ | refine T.skip ?_ | refine T.exit ?_
 refine T.loopK (α := Nat) [0] (fun j => [(1, .i ((k + 3 * nCoS (l.take j) : Nat) : Int)), (5, .i j)]) (fun _ => []) (fun _ => []) (fun j _ => []) (fun j => l.length + 1 - j) (fun j => j <= l.length) (by simp; rfl) (fun j hj => ?_) 0 (by simp) (by simp) (by simp) (by simp [nCoS])
 dsimp only at hj ⊢
 simp only [ups, List.cons_append, List.nil_append]
 by_cases hlt : j < l.length
 ·obtain ⟨u, hu⟩ := get_lt hlt
  have hum : u ∈ l := List.mem_of_getElem? hu
  have hle := nCoS_take_le l (j + 1)
  have hsu := nCoS_take_succ hu
  have hZj : Z[j]? = some (markC u (k + 3 * nCoS (l.take j))) := by rw [hZ]; exact markCS_at hu
  obtain ⟨kj, hkj⟩ : ∃ kj, kj = k + 3 * nCoS (l.take j) := ⟨_, rfl⟩
  have hkj2 : ((k + 3 * nCoS (l.take (j + 1)) : Nat) : Int) = ((kj + 3 + 3 * nCoS u.kids : Nat) : Int) := by rw [hsu, hkj]; congr 1; omega
  rw [<- hkj] at hZj ⊢
  have hc := h u hum (kj + 3) (by omega)
  have hk1 : (markC u kj).kind = kj := by rw [markC_def, MCo.kind_mk]
  have hk3 : (markC u kj).tag = (kj : Int) + 1 := by rw [markC_def, MCo.tag_mk]; omega
  have hk4 : (markC u kj).label = (kj : Int) + 1 + 1 := by rw [markC_def, MCo.label_mk]; omega
  have hk2 : (markC u kj).kids = markCS u.kids (kj + 3) := by rw [markC_def, MCo.kids_mk]
  have hnn : ¬ ((kj : Int) + 3 + 3 * (nCoS u.kids : Int) < 0) := by omega
  generalize markC u kj = y at hZj hk1 hk2 hk3 hk4
  rw [<- hk2, show ((kj + 3 : Nat) : Int) = (kj : Int) + 1 + 1 + 1 by omega] at hc
  have hgt : ∀ h, Z[j]'h = y := fun hh => by rw [List.getElem?_eq_getElem hh] at hZj; exact Option.some.inj hZj
  repeat' first | ((first | refine aops_end (hK _ ?_) | refine aopsD_end (hK _ ?_) | refine aopsF_end (hK _ ?_)); clear hK K) | ((first | refine aops_go ?_ | refine aopsD_go ?_ | refine aopsF_go ?_ | refine wpcall_pure rfl (hc) ?_); simp [hlt, hZl, hgt, hk1, hk3, hk4, hnn]; (try simp (disch := omega) only [wrap64]); (try (refine gen2 ?_ ?_ <;> intro hq <;> try simp [hlt, hZl, hgt, hk1, hk3, hk4, hnn] at hq))) | (refine ⟨j + 1, by dsimp only; omega, by dsimp only; omega, ?_⟩; (dsimp only; rw [hkj2]; simp (disch := omega) [wrap64])) | refine T.r0 fun K hK => ?_ | refine T.r1 fun K hK => ?_ | (refine ⟨by omega, ?_⟩) | refine T.ct rfl ?_ | refine T.cf rfl ?_ | refine T.seq ?_ | refine T.block ?_ | refine T.skip ?_ | refine T.exit ?_
 ·have hp' : j = l.length := by omega
  subst hp'
  repeat' first | ((first | refine aops_end (hK _ ?_) | refine aopsD_end (hK _ ?_) | refine aopsF_end (hK _ ?_)); clear hK K) | ((first | refine aops_go ?_ | refine aopsD_go ?_ | refine aopsF_go ?_); simp [hlt, hZl]; (try (refine gen2 ?_ ?_ <;> intro hq <;> try simp [hlt, hZl] at hq))) | (refine T.ret (Done.data (Or.inr rfl) ?_ ?_) <;> simp [Tryd.results23] <;> omega) | refine T.r0 fun K hK => ?_ | refine T.r1 fun K hK => ?_ | (refine ⟨by omega, ?_⟩) | refine T.ct rfl ?_ | refine T.cf rfl ?_ | refine T.seq ?_ | refine T.block ?_ | refine T.skip ?_ | refine T.exit ?_

theorem heldCoercionS_ok : (l : List MCo) -> (k : Nat) -> k + 3 * nCoS l <= 1099511627776 -> ACalls Tryd.prog 23 [.l ((markCS l k).map eCo), .i (k : Int)] [] (.i ((k + 3 * nCoS l : Nat) : Int)) [] []
 | l, k, hk => heldCoercionS_step l k hk (fun t ht k hk => heldCoercionS_ok t.kids k hk)
termination_by l => SizeOf.sizeOf l
decreasing_by have := List.sizeOf_lt_of_mem ht; cases t; simp at *; omega

theorem heldCoercion_ok (c : MCo) (l : List MCo) (k : Nat) (hk : k + 3 * nCoS l <= 1099511627776) (hc : c.kids = markCS l k) : ACalls Tryd.prog 9 [aCo c, .i (k : Int)] [] (.i ((k + 3 * nCoS l : Nat) : Int)) [] [] := by
 have h1 := heldCoercionS_ok l k hk
 have hn : ¬ ((k + 3 * nCoS l : Nat) : Int) < 0 := by omega
 rw [<- hc] at h1
 generalize ((k + 3 * nCoS l : Nat) : Int) = K at *
 refine ACalls.of_body Tryd.func9 (by kernel_rfl) rfl (by kernel_rfl) (by simp [Tryd.ntmps9]) (by simp) ?_
 rw [Tryd.ntmps9]
 repeat' first | ((first | refine aops_end (hK _ ?_) | refine aopsD_end (hK _ ?_) | refine aopsF_end (hK _ ?_)); clear hK K) | ((first | refine aops_go ?_ | refine aopsD_go ?_ | refine aopsF_go ?_ | refine wpcall_pure rfl (h1) ?_); simp [hn]; (try (refine gen2 ?_ ?_ <;> intro hq <;> try simp [hn] at hq))) | (refine T.ret (Done.data (Or.inr rfl) ?_ ?_) <;> simp [Tryd.results9] <;> omega) | refine T.r0 fun K hK => ?_ | refine T.r1 fun K hK => ?_ | (refine ⟨by omega, ?_⟩) | refine T.ct rfl ?_ | refine T.cf rfl ?_ | refine T.seq ?_ | refine T.block ?_ | refine T.skip ?_ | refine T.exit ?_
end Go.Proofs.YtcgmmknfpfdghaaDoor
