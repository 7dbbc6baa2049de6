/- A part of the library of this seat. -/
import Derived.Test.YtgpgcnahoieedaaR16
set_option linter.unusedVariables false
set_option linter.unusedSimpArgs false
namespace Go.Proofs.Ytgpgcnahoieedaa
open Go Go.Av
attribute [local irreducible] T ACalls TX EX LX Draws Some_ ACallsX eTy eTm MTy.kind MTy.kids MTm.kind MTm.name MTm.num MTm.ty MTm.fr MTm.label MTm.kids
attribute [local simp] eTy_def eTm_def
set_option maxHeartbeats 16000000
set_option maxRecDepth 8000
attribute [local irreducible] TJ FCalls tyK tyRows

theorem ownType_tree_step (t : MTy) (hn : t.kids.length <= 1099511627776) (h : ∀ u ∈ t.kids, FCalls Try.prog 49 [aTy u] [] fun r L' => ∃ v, r = .agg [.d (.i u.kind), .d (.raw v)] /\ L' = [(tyK 31 u.kids, v)]) :
  FCalls Try.prog 49 [aTy t] [] fun r L' => ∃ v, r = .agg [.d (.i t.kind), .d (.raw v)] /\ L' = [(tyK 31 t.kids, v)] := by
 refine FCalls.of_body Try.func49 (by kernel_rfl) rfl (by kernel_rfl) (by simp [Try.ntmps49]) ?_
 rw [Try.ntmps49]
 repeat' first | (refine aopsJ_end (hK _ _ ?_); clear hK K) | (refine aopsJ_go ?_; simp; (try first | (refine OpsJ.gen fun q hq => ?_; cases q <;> (try simp at hq) <;> (try (have hh : True := hq; clear hh hq))))) | refine TJ.rs (fun _ => false) fun K hK => ?_ | refine TJ.seq ?_ | refine TJ.block ?_
 refine TJ.ownifyObj 2 1 2 31 (row := [.d (.i t.kind), .nil]) (by simp) (by simp) ?_
 refine TJ.loopK (α := List Value × List (List CV)) [2, 3, 10, 11] (fun x => [(12, .i x.1.length)]) (fun x => [(2, [.d (.i t.kind), .own 0 x.1.length])]) (fun x => x.2) (fun x _ => [{ sz := 2, ety := 31, rows := List.zipWith rTy t.kids x.1, wr := true }]) (fun x => (t.kids.map fun t => tyK 31 t.kids).zip x.1) (fun x => t.kids.length + 1 - x.1.length) (fun x => x.1.length <= t.kids.length) (by simp; rfl) (fun x hx => ?_) ([], []) (by simp) (by simp) (by simp) (by simp) (M := []) (by simp)
 obtain ⟨vs, G⟩ := x
 dsimp only at hx ⊢
 simp only [ups, List.set_cons_zero, List.set_cons_succ, List.cons_append, List.nil_append]
 by_cases hlt : vs.length < t.kids.length
 ·obtain ⟨u, hu⟩ := get_lt hlt
  have hum : u ∈ t.kids := List.mem_of_getElem? hu
  have hgt : t.kids[vs.length] = u := by rw [List.getElem?_eq_getElem hlt] at hu; exact Option.some.inj hu
  have hc := h u hum
  have hzl : (List.zipWith rTy t.kids vs).length = vs.length := by simp; omega
  have hmin : min t.kids.length vs.length = vs.length := by omega
  repeat' first | (refine aopsJ_end (hK _ _ ?_); clear hK K) | (refine aopsJ_go ?_; simp [hlt, hgt, hzl, hmin]; (try simp (disch := omega) only [wrap64]); (try first | (refine OpsJ.gen fun q hq => ?_; cases q <;> (try simp [hlt, hgt, hzl, hmin] at hq) <;> (try (have hh : True := hq; clear hh hq))))) | (refine aopsP_end (hK _ _ ?_); clear hK K) | (refine aopsP_go rfl ?_; simp [hlt, hgt, hzl, hmin]; (try simp (disch := omega) only [wrap64]); (try first | (refine OpsP.gen fun q hq => ?_; cases q <;> (try simp [hlt, hgt, hzl, hmin] at hq) <;> (try (have hh : True := hq; clear hh hq))))) | (refine aopsP_call rfl ?_; simp [hlt, hgt, hzl, hmin]; (try simp (disch := omega) only [wrap64]); (try first | (refine OpsP.gen fun q hq => ?_; cases q <;> (try simp [hlt, hgt, hzl, hmin] at hq) <;> (try (have hh : True := hq; clear hh hq))))) | (refine wpcallP_new ?_ (hc) ?_; (focus (solve | (repeat' first | exact FzVs.nil | apply FzVs.cons | apply FzV.c | apply FzV.agg | exact FzL.nil | apply FzL.cons | exact FzC.d | exact FzC.nil | exact FzC.np | (refine FzC.thaw' ?_ (tyK_dp _ _); (focus (solve | simp))) | (refine FzC.thaw' ?_ (tmK_dp _ _ _); (focus (solve | simp)))))); rintro _ _ ⟨v, rfl, rfl⟩; simp [hlt, hgt, hzl, hmin]; (try simp (disch := omega) only [wrap64]); (try first | (refine OpsP.gen fun q hq => ?_; cases q <;> (try simp [hlt, hgt, hzl, hmin] at hq) <;> (try (have hh : True := hq; clear hh hq))))) | (refine ⟨by omega, by omega, ?_⟩) | (refine TJ.rdP1 (id := 5) mixed [0, 1, 2, 3, 4, 5, 6, 7] (fun _ => false) [5, 7] [3] (by kernel_rfl) (by kernel_rfl) (by kernel_rfl) fun K hK => ?_; simp only [pickOps, List.map_cons, List.map_nil, List.getD_cons_zero, List.getD_cons_succ]) | refine TJ.rs (fun _ => false) fun K hK => ?_ | refine TJ.rs1 (fun _ => false) fun K hK => ?_ | refine TJ.cond rfl (fun hcnd => ?_) (fun hcnd => absurd hcnd (by decide)) | refine TJ.seq ?_ | refine TJ.block ?_ | refine TJ.skip ?_
  refine ⟨(vs ++ [v], G ++ [[.d (.i u.kind), .d (.sl (u.kids.map eTy))]]), [], by dsimp only; rw [List.length_append]; simp; omega, by dsimp only; rw [List.length_append]; simp; omega, ?_, ?_⟩
  ·simp (disch := omega) [wrap64, zipWith_snoc hu]
  ·dsimp only
   rw [zip_snoc hu, List.append_nil]
   exact List.perm_append_comm (l₁ := [_])
 ·have hp' : vs.length = t.kids.length := by omega
  repeat' first | (refine aopsJ_end (hK _ _ ?_); clear hK K) | (refine aopsJ_go ?_; simp [hlt]; (try first | (refine OpsJ.gen fun q hq => ?_; cases q <;> (try simp [hlt] at hq) <;> (try (have hh : True := hq; clear hh hq))))) | refine TJ.rs (fun _ => false) fun K hK => ?_ | refine TJ.cond rfl (fun hcnd => absurd hcnd (by decide)) (fun hcnd => ?_) | refine TJ.seq ?_ | refine TJ.exit ?_
  refine TJ.ret (DoneJ.ownR (k := 0) (n := vs.length) (rs := [.agg [.d (.i t.kind), .own 0 vs.length]]) (rs' := fun v => [.agg [.d (.i t.kind), .d (.raw v)]]) (Or.inr rfl) (by simp [Try.results49]) rfl rfl ?_ (mk_tyRows 31 hp') (L2 := []) (by simp) (fun v => by simp [DV.scal]) (fun v => ⟨[(tyK 31 t.kids, v)], [], ?_, v, rfl, rfl⟩))
  ·rw [List.length_zipWith]; omega
  ·rw [hp', tyK_unf]; exact .refl _

theorem ownType_tree : (t : MTy) -> nTy t <= 1099511627776 -> FCalls Try.prog 49 [aTy t] [] fun r L' => ∃ v, r = .agg [.d (.i t.kind), .d (.raw v)] /\ L' = [(tyK 31 t.kids, v)]
 | .mk k l, hn => ownType_tree_step (.mk k l) (by rw [nTy_def] at hn; simp only [MTy.kids_mk] at hn ⊢; have := nTyS_len l; omega) (by
  rw [nTy_def] at hn
  simp only [MTy.kids_mk] at hn ⊢
  exact fun t ht => ownType_tree t (by have := nTyS_mem ht; omega))
termination_by t => SizeOf.sizeOf t
decreasing_by have := List.sizeOf_lt_of_mem ht; simp; omega
end Go.Proofs.Ytgpgcnahoieedaa

namespace Go.Proofs.Ytgpgcnahoieedaa
open Go Go.Av
attribute [local irreducible] T ACalls TX EX LX Draws Some_ ACallsX eTy eTm MTy.kind MTy.kids MTm.kind MTm.name MTm.num MTm.ty MTm.fr MTm.label MTm.kids
attribute [local simp] eTy_def eTm_def
set_option maxHeartbeats 16000000
set_option maxRecDepth 8000
attribute [local irreducible] TJ FCalls tyK tyRows tmK tmRows

theorem own1_G (k n tk fk b : Int) (s : List UInt8) (v1 v2 : Value) (rows : List (List DV)) (m : Nat) (hm : m = rows.length) :
  ACallsG Try.prog 90 [.agg [.d (.i k), .d (.str s), .d (.i n), .d (.i tk), .d (.raw v1), .d (.i fk), .d (.raw v2), .d (.i b), .own 0 m]] [] [{ sz := 9, ety := 36, rows := rows, wr := true }] (.agg [.d (.i k), .d (.str s), .d (.i n), .d (.i tk), .d (.raw v1), .d (.i fk), .d (.raw v2), .d (.i b), .own 0 m]) [] [{ sz := 9, ety := 36, rows := rows, wr := true }] := by
 subst hm
 refine ACallsG.of_body Try.func90 (by kernel_rfl) rfl (by kernel_rfl) (by simp [Try.ntmps90]) (by simp) ?_
 rw [Try.ntmps90]
 repeat' first | (refine aops_end (hK _ ?_); clear hK K) | (refine aops_go ?_; simp) | refine T.r0 fun K hK => ?_
 all_goals (refine T.ret (DoneG.one (Or.inr rfl) ?_ ?_) <;> simp [resAs, Try.results90])

theorem mapped_own_step (e : MTm) (hn : nTm e <= 1099511627776) (h : ∀ u ∈ e.kids, FCalls Try.prog 89 [aTm u, .c (.fn 90 [])] [] fun r L' => ∃ v : V3, r = .agg ((rTm u v).map CV.d) /\ L' = tTm 31 36 u v) :
  FCalls Try.prog 89 [aTm e, .c (.fn 90 [])] [] fun r L' => ∃ v : V3, r = .agg ((rTm e v).map CV.d) /\ L' = tTm 31 36 e v := by
 obtain ⟨hnt, hnf, hnk, hnu⟩ := nTm_parts hn
 have h1 := ownType_tree e.ty hnt
 have h2 := ownType_tree e.fr hnf
 refine FCalls.of_body Try.func89 (by kernel_rfl) rfl (by kernel_rfl) (by simp [Try.ntmps89]) ?_
 rw [Try.ntmps89]
 repeat' first | (refine aopsJ_end (hK _ _ ?_); clear hK K) | (refine aopsJ_go ?_; simp; (try first | (refine OpsJ.gen fun q hq => ?_; cases q <;> (try simp at hq) <;> (try (have hh : True := hq; clear hh hq))))) | refine TJ.rs (fun _ => false) fun K hK => ?_ | refine TJ.seq ?_ | refine TJ.block ?_
 refine TJ.ownify 5 9 36 (by simp) ?_
 refine TJ.loopK (α := List V3 × List (List CV)) [1, 2, 4, 9, 10] (fun x => [(5, .c (.own 0 x.1.length)), (11, .i x.1.length)]) (fun x => []) (fun x => x.2) (fun x _ => [{ sz := 9, ety := 36, rows := List.zipWith rTm e.kids x.1, wr := true }]) (fun x => tsTm 31 36 e.kids x.1) (fun x => e.kids.length + 1 - x.1.length) (fun x => x.1.length <= e.kids.length) (by simp; rfl) (fun x hx => ?_) ([], []) (by simp) (by simp) (by simp) (by simp) (M := []) (by simp [tsTm_nil])
 obtain ⟨vs, G⟩ := x
 dsimp only at hx ⊢
 simp only [ups, List.set_cons_zero, List.set_cons_succ, List.cons_append, List.nil_append]
 by_cases hlt : vs.length < e.kids.length
 ·obtain ⟨u, hu⟩ := get_lt hlt
  have hum : u ∈ e.kids := List.mem_of_getElem? hu
  have hgt : e.kids[vs.length] = u := by rw [List.getElem?_eq_getElem hlt] at hu; exact Option.some.inj hu
  have hc := h u hum
  have hzl : (List.zipWith rTm e.kids vs).length = vs.length := by simp; omega
  have hmin : min e.kids.length vs.length = vs.length := by omega
  repeat' first | (refine aopsJ_end (hK _ _ ?_); clear hK K) | (refine aopsJ_go ?_; simp [hlt, hgt, hzl, hmin]; (try simp (disch := omega) only [wrap64]); (try first | (refine OpsJ.gen fun q hq => ?_; cases q <;> (try simp [hlt, hgt, hzl, hmin] at hq) <;> (try (have hh : True := hq; clear hh hq))))) | (refine wpcallJ_new ?_ (hc) ?_; (focus (solve | (repeat' first | exact FzVs.nil | apply FzVs.cons | apply FzV.c | apply FzV.agg | exact FzL.nil | apply FzL.cons | exact FzC.d | exact FzC.nil | exact FzC.np | exact FzC.fn | (refine FzC.thaw' ?_ (tyK_dp _ _); (focus (solve | simp))) | (refine FzC.thaw' ?_ (tmK_dp _ _ _); (focus (solve | simp)))))); rintro _ _ ⟨⟨v1, v2, v3⟩, rfl, rfl⟩; simp [hlt, hgt, hzl, hmin]; (try simp (disch := omega) only [wrap64]); (try first | (refine OpsJ.gen fun q hq => ?_; cases q <;> (try simp [hlt, hgt, hzl, hmin] at hq) <;> (try (have hh : True := hq; clear hh hq))))) | (refine ⟨by omega, by omega, ?_⟩) | refine TJ.rs (fun _ => false) fun K hK => ?_ | refine TJ.rs1 (fun _ => false) fun K hK => ?_ | refine TJ.cond rfl (fun hcnd => ?_) (fun hcnd => absurd hcnd (by decide)) | refine TJ.seq ?_ | refine TJ.block ?_ | refine TJ.skip ?_
  refine ⟨(vs ++ [(v1, v2, v3)], G ++ [[.d (.i u.kind), .d (.str u.name), .d (.i u.num), .d (.i u.ty.kind), .d (.sl (u.ty.kids.map eTy)), .d (.i u.fr.kind), .d (.sl (u.fr.kids.map eTy)), .d (.i u.label), .d (.sl (u.kids.map eTm))]]), [], by dsimp only; rw [List.length_append]; simp; omega, by dsimp only; rw [List.length_append]; simp; omega, ?_, ?_⟩
  ·simp (disch := omega) [wrap64, zipWith_snoc hu]
  ·dsimp only
   rw [tsTm_snoc _ _ hu, List.append_nil]
   exact List.perm_append_comm (l₁ := tTm _ _ u (v1, v2, v3))
 ·have hp' : vs.length = e.kids.length := by omega
  have hzl : (List.zipWith rTm e.kids vs).length = vs.length := by simp; omega
  obtain ⟨R, hR⟩ : ∃ R, R = List.zipWith rTm e.kids vs := ⟨_, rfl⟩
  have hmk := mk_tmRows 31 36 hp'
  rw [<- hR] at hzl hmk ⊢
  have hcl := own1_G e.kind e.num e.ty.kind e.fr.kind e.label e.name
  repeat' first | (refine aopsJ_end (hK _ _ ?_); clear hK K) | (refine aopsJ_go ?_; simp [hlt]; (try first | (refine OpsJ.gen fun q hq => ?_; cases q <;> (try simp [hlt] at hq) <;> (try (have hh : True := hq; clear hh hq))))) | (refine aopsP_end (hK _ _ ?_); clear hK K) | (refine aopsP_go rfl ?_; simp [hlt]; (try first | (refine OpsP.gen fun q hq => ?_; cases q <;> (try simp [hlt] at hq) <;> (try (have hh : True := hq; clear hh hq))))) | (refine aopsP_call rfl ?_; simp [hlt]; (try first | (refine OpsP.gen fun q hq => ?_; cases q <;> (try simp [hlt] at hq) <;> (try (have hh : True := hq; clear hh hq))))) | (refine wpcallP_new ?_ (h1) ?_; (focus (solve | (repeat' first | exact FzVs.nil | apply FzVs.cons | apply FzV.c | apply FzV.agg | exact FzL.nil | apply FzL.cons | exact FzC.d | exact FzC.nil | exact FzC.np | exact FzC.fn | (refine FzC.thaw' ?_ (tyK_dp _ _); (focus (solve | simp))) | (refine FzC.thaw' ?_ (tmK_dp _ _ _); (focus (solve | simp)))))); rintro _ _ ⟨v1, rfl, rfl⟩; simp [hlt]; (try first | (refine OpsP.gen fun q hq => ?_; cases q <;> (try simp [hlt] at hq) <;> (try (have hh : True := hq; clear hh hq))))) | (refine wpcallP_new ?_ (h2) ?_; (focus (solve | (repeat' first | exact FzVs.nil | apply FzVs.cons | apply FzV.c | apply FzV.agg | exact FzL.nil | apply FzL.cons | exact FzC.d | exact FzC.nil | exact FzC.np | exact FzC.fn | (refine FzC.thaw' ?_ (tyK_dp _ _); (focus (solve | simp))) | (refine FzC.thaw' ?_ (tmK_dp _ _ _); (focus (solve | simp)))))); rintro _ _ ⟨v2, rfl, rfl⟩; simp [hlt]; (try first | (refine OpsP.gen fun q hq => ?_; cases q <;> (try simp [hlt] at hq) <;> (try (have hh : True := hq; clear hh hq))))) | (refine wpcallJ_T (wpcall_hand 0 (hcl v1 v2 R vs.length hzl.symm) rfl rfl rfl rfl ?_); simp [back]) | (refine TJ.rdP (id := 7) mixed [0, 1, 3, 4, 6, 2, 7, 5, 8, 9, 10, 11, 12] (fun _ => false) [8, 10, 12] [5, 7] (by kernel_rfl) (by kernel_rfl) (by kernel_rfl) fun K hK => ?_; simp only [pickOps, List.map_cons, List.map_nil, List.getD_cons_zero, List.getD_cons_succ]) | refine TJ.rs (fun _ => false) fun K hK => ?_ | refine TJ.cond rfl (fun hcnd => absurd hcnd (by decide)) (fun hcnd => ?_) | refine TJ.seq ?_ | refine TJ.exit ?_
  refine TJ.ret (DoneJ.ownR (k := 0) (n := vs.length) (rs := [.agg [.d (.i e.kind), .d (.str e.name), .d (.i e.num), .d (.i e.ty.kind), .d (.raw v1), .d (.i e.fr.kind), .d (.raw v2), .d (.i e.label), .own 0 vs.length]]) (rs' := fun v => [.agg ((rTm e (v1, v2, v)).map CV.d)]) (Or.inr rfl) (by simp [Try.results89]) rfl rfl hzl.symm hmk (L2 := [(tyK 31 e.fr.kids, v2), (tyK 31 e.ty.kids, v1)]) (List.perm_append_comm (l₁ := [_, _])) (fun v => by simp [DV.scal]) (fun v => ⟨tTm 31 36 e (v1, v2, v), [], ?_, (v1, v2, v), rfl, rfl⟩))
  rw [hp', List.append_nil, tTm, tmK_unf]
  exact (List.reverse_perm [_, _, _]).symm

theorem mapped_own_tree : (e : MTm) -> nTm e <= 1099511627776 -> FCalls Try.prog 89 [aTm e, .c (.fn 90 [])] [] fun r L' => ∃ v : V3, r = .agg ((rTm e v).map CV.d) /\ L' = tTm 31 36 e v
 | .mk k s n t f b l, hn => mapped_own_step _ hn (by
  obtain ⟨hnt, hnf, hnk, hnu⟩ := nTm_parts hn
  simp only [MTm.kids_mk] at hnu ⊢
  exact fun t ht => mapped_own_tree t (hnu t ht))
termination_by t => SizeOf.sizeOf t
decreasing_by have := List.sizeOf_lt_of_mem ht; simp; omega

theorem own_tree (e : MTm) (hn : nTm e <= 1099511627776) : FCalls Try.prog 54 [aTm e] [] fun r L' => ∃ v : V3, r = .agg ((rTm e v).map CV.d) /\ L' = tTm 31 36 e v := by
 have h := mapped_own_tree e hn
 refine FCalls.of_body Try.func54 (by kernel_rfl) rfl (by kernel_rfl) (by simp [Try.ntmps54]) ?_
 rw [Try.ntmps54]
 repeat' first | (refine aopsJ_end (hK _ _ ?_); clear hK K) | (refine aopsJ_go ?_; simp; (try first | (refine OpsJ.gen fun q hq => ?_; cases q <;> (try simp at hq) <;> (try (have hh : True := hq; clear hh hq))))) | (refine wpcallJ_new ?_ (h) ?_; (focus (solve | (repeat' first | exact FzVs.nil | apply FzVs.cons | apply FzV.c | apply FzV.agg | exact FzL.nil | apply FzL.cons | exact FzC.d | exact FzC.nil | exact FzC.np | exact FzC.fn | (refine FzC.thaw' ?_ (tyK_dp _ _); (focus (solve | simp))) | (refine FzC.thaw' ?_ (tmK_dp _ _ _); (focus (solve | simp)))))); rintro _ _ ⟨⟨v1, v2, v3⟩, rfl, rfl⟩; simp; (try first | (refine OpsJ.gen fun q hq => ?_; cases q <;> (try simp at hq) <;> (try (have hh : True := hq; clear hh hq))))) | refine TJ.rs (fun _ => false) fun K hK => ?_
 refine TJ.ret (DoneJ.agg (Or.inr rfl) (L' := tTm 31 36 e (v1, v2, v3)) (r := .agg ((rTm e (v1, v2, v3)).map CV.d)) (by simp [Try.results54]) (by simp [DV.scal]) (M := []) (by simp) ⟨(v1, v2, v3), rfl, rfl⟩)
end Go.Proofs.Ytgpgcnahoieedaa

namespace Go.Proofs.Ytgpgcnahoieedaa
open Go Go.Av
attribute [local irreducible] T ACalls TX EX LX Draws Some_ ACallsX eTy eTm MTy.kind MTy.kids MTm.kind MTm.name MTm.num MTm.ty MTm.fr MTm.label MTm.kids
attribute [local simp] eTy_def eTm_def
set_option maxHeartbeats 16000000
set_option maxRecDepth 8000
attribute [local irreducible] TJ FCalls tyK tyRows tmK tmRows

abbrev tyT (o : Option MTy) (v : Value) : AV := .tup [.agg [.d (.i (o.getD zeroT).kind), .d (.raw v)], .b o.isSome]
end Go.Proofs.Ytgpgcnahoieedaa

namespace Go.Proofs.Ytgpgcnahoieedaa
attribute [-simp] Go.Av.callJ
open Go Go.Av
attribute [local irreducible] T ACalls TX EX LX Draws Some_ ACallsX eTy eTm MTy.kind MTy.kids MTm.kind MTm.name MTm.num MTm.ty MTm.fr MTm.label MTm.kids
attribute [local simp] eTy_def eTm_def
set_option maxHeartbeats 16000000
set_option maxRecDepth 8000
attribute [local irreducible] TJ FCalls tyK tyRows

theorem markTypeS_tree_step (l : List MTy) (k : Nat) (hk : k + nTyS l <= 1099511627776) (h : ∀ t ∈ l, ∀ (k : Nat) v, k + nTyS t.kids <= 1099511627776 -> FCalls Try.prog 38 [.c (.d (.raw v)), .i (k : Int)] [(tyK 31 t.kids, v)] fun r L' => r = .i ((k + nTyS t.kids : Nat) : Int) /\ L' = [(tyK 31 (markS t.kids k), v)]) (v : Value) :
  FCalls Try.prog 38 [.c (.d (.raw v)), .i (k : Int)] [(tyK 31 l, v)] fun r L' => r = .i ((k + nTyS l : Nat) : Int) /\ L' = [(tyK 31 (markS l k), v)] := by
 have hlen := nTyS_len l
 rw [tyK_unf, tyK_unf, markS_len]
 refine FCalls.mono (R := fun r L' => ∃ cs', L' = [(.t 31 2 l.length cs', v)] /\ (r = .i ((k + nTyS l : Nat) : Int) /\ cs' = tyRows 31 (markS l k))) ?_ (by rintro r L' ⟨_, rfl, rfl, rfl⟩; exact ⟨rfl, rfl⟩)
 refine FCalls.of_bodyA Try.func38 (by kernel_rfl) rfl (by kernel_rfl) (by simp [Try.ntmps38]) ?_ ?_
 rotate_left
 rw [Try.ntmps38]
 rotate_left
 ·exact tyRows_scal _ l
 intro ds Lc hmk hdl
 obtain ⟨vs, hv, hch, rfl⟩ := mk_tyRows_inv _ hmk
 rw [hch]
 clear hmk hdl hch
 repeat' first | (refine aopsJ_end (hK _ _ ?_); clear hK K) | (refine aopsJ_go ?_; simp; (try first | (refine OpsJ.gen fun q hq => ?_; cases q <;> (try simp at hq) <;> (try (have hh : True := hq; clear hh hq))))) | refine TJ.rs (fun _ => false) fun K hK => ?_ | refine TJ.seq ?_ | refine TJ.block ?_
 refine TJ.loopK (α := Nat) [0, 4] (fun j => [(1, .i ((k + nTyS (l.take j) : Nat) : Int)), (5, .i j)]) (fun _ => []) (fun _ => []) (fun j _ => [{ sz := 2, ety := 31, rows := List.zipWith rTy (mT l k j) vs, wr := true }]) (fun j => ((mT l k j).map fun t => tyK 31 t.kids).zip vs) (fun j => l.length + 1 - j) (fun j => j <= l.length) (by simp; rfl) (fun j hj => ?_) 0 (by simp) (by simp) (by simp [mT_zero]) (by simp [nTyS]) (M := []) (by simp [mT_zero])
 dsimp only at hj ⊢
 simp only [ups, List.cons_append, List.nil_append]
 by_cases hlt : j < l.length
 ·obtain ⟨u, hu⟩ := get_lt hlt
  have hum : u ∈ l := List.mem_of_getElem? hu
  obtain ⟨v1, hv1⟩ := get_lt (l := vs) (i := j) (by omega)
  have hle := nTyS_take_le l (j + 1)
  have hsu := nTyS_take_succ hu
  have hrj := zipWith_at (f := rTy) (mT_at (k := k) hu) hv1
  have hrs : (List.zipWith rTy (mT l k j) vs).set j [.i ((k + nTyS (l.take j) : Nat) : Int), .raw v1] = List.zipWith rTy (mT l k (j + 1)) vs := by rw [mT_succ hu, <- zipWith_set1 hv1, markR_def]; simp only [rTy, MTy.kind_mk]
  have hrl : (List.zipWith rTy (mT l k j) vs).length = l.length := by rw [List.length_zipWith, mT_len]; omega
  have hLat : (((mT l k j).map fun t => tyK 31 t.kids).zip vs)[j]? = some (tyK 31 u.kids, v1) := zipWith_at (f := Prod.mk) (by rw [List.getElem?_map, mT_at hu]; rfl) hv1
  have hLset : (((mT l k j).map fun t => tyK 31 t.kids).zip vs).set j (tyK 31 (markS u.kids (k + nTyS (l.take j) + 1)), v1) = ((mT l k (j + 1)).map fun t => tyK 31 t.kids).zip vs := by
   rw [mT_succ hu, List.map_set, markR_def]
   simp only [MTy.kids_mk]
   exact zipWith_set1 (f := Prod.mk) hv1 _
  generalize (((mT l k j).map fun t => tyK 31 t.kids).zip vs) = Lj at *
  obtain ⟨Lj', hLj'⟩ : ∃ Lj', Lj' = (((mT l k (j + 1)).map fun t => tyK 31 t.kids).zip vs) := ⟨_, rfl⟩
  rw [<- hLj'] at hLset
  obtain ⟨R, hR⟩ : ∃ R, R = List.zipWith rTy (mT l k j) vs := ⟨_, rfl⟩
  rw [<- hR] at hrj hrs hrl ⊢
  obtain ⟨R', hR'⟩ : ∃ R', R' = List.zipWith rTy (mT l k (j + 1)) vs := ⟨_, rfl⟩
  rw [<- hR'] at hrs
  have hrl2 : R'.length = l.length := by rw [<- hrs, List.length_set, hrl]
  obtain ⟨kj, hkj⟩ : ∃ kj, kj = k + nTyS (l.take j) := ⟨_, rfl⟩
  have hkj2 : ((k + nTyS (l.take (j + 1)) : Nat) : Int) = ((kj + 1 + nTyS u.kids : Nat) : Int) := by rw [hsu, hkj]; congr 1; omega
  rw [<- hkj] at hrs hLset ⊢
  have hrj2 : ∀ h, R'[j]'h = [.i kj, .raw v1] := fun hh => by
   have h1 : R'[j]? = some [.i kj, .raw v1] := by rw [<- hrs, List.getElem?_set_self (by omega)]
   rw [List.getElem?_eq_getElem hh] at h1; exact Option.some.inj h1
  have hc := h u hum (kj + 1) v1 (by omega)
  have hjl : j < Lj.length := (List.getElem?_eq_some_iff.1 hLat).1
  have hrj' : ∀ h, R[j]'h = [.i u.kind, .raw v1] := fun hh => by rw [List.getElem?_eq_getElem hh] at hrj; exact Option.some.inj hrj
  repeat' first | (refine aopsJ_end (hK _ _ ?_); clear hK K) | (refine aopsJ_go ?_; simp [hlt, hrl, hrl2, hrj', hrj2, hrs]; (try simp (disch := omega) only [wrap64]); (try first | (refine OpsJ.gen fun q hq => ?_; cases q <;> (try simp [hlt, hrl, hrl2, hrj', hrj2, hrs] at hq) <;> (try (have hh : True := hq; clear hh hq))))) | (refine wpcallJ_mut (L2 := Lj.eraseIdx j) ?_ ?_ (hc) ?_; (focus (solve | exact perm_out hLat)); (focus (solve | (repeat' first | exact FzVs.nil | apply FzVs.cons | apply FzV.c | apply FzV.agg | exact FzL.nil | apply FzL.cons | exact FzC.d | exact FzC.nil | exact FzC.np | (refine FzC.thaw' ?_ (tyK_dp _ _); (focus (solve | simp))) | (refine FzC.thaw' ?_ (tmK_dp _ _ _); (focus (solve | simp)))))); rintro _ _ ⟨rfl, rfl⟩; simp [hlt, hrl, hrl2, hrj', hrj2, hrs]; (try simp (disch := omega) only [wrap64]); (try first | (refine OpsJ.gen fun q hq => ?_; cases q <;> (try simp [hlt, hrl, hrl2, hrj', hrj2, hrs] at hq) <;> (try (have hh : True := hq; clear hh hq))))) | refine TJ.rs (fun _ => false) fun K hK => ?_ | refine TJ.rs1 (fun _ => false) fun K hK => ?_ | refine TJ.cond rfl (fun hcnd => ?_) (fun hcnd => absurd hcnd (by decide)) | refine TJ.seq ?_ | refine TJ.block ?_ | refine TJ.skip ?_
  refine ⟨j + 1, [], by dsimp only; omega, by dsimp only; omega, ?_, ?_⟩
  ·dsimp only
   rw [<- hR', hkj2]
   simp (disch := omega) [wrap64]
  ·dsimp only
   rw [List.append_nil, <- hLj', <- hLset]
   exact perm_in _ hjl
 ·have hp' : j = l.length := by omega
  subst hp'
  rw [mT_all, List.take_length]
  repeat' first | (refine aopsJ_end (hK _ _ ?_); clear hK K) | (refine aopsJ_go ?_; simp [hlt]; (try first | (refine OpsJ.gen fun q hq => ?_; cases q <;> (try simp [hlt] at hq) <;> (try (have hh : True := hq; clear hh hq))))) | refine TJ.rs (fun _ => false) fun K hK => ?_ | refine TJ.cond rfl (fun hcnd => absurd hcnd (by decide)) (fun hcnd => ?_) | refine TJ.seq ?_ | refine TJ.exit ?_
  refine TJ.ret (DoneA.one (r := .i ((k + nTyS l : Nat) : Int)) (Or.inr rfl) (by simp [Try.results38]) (by simp [DV.scal]) rfl ?_ (mk_tyRows 31 (l := markS l k) (by rw [markS_len]; exact hv)) (M := []) (by simp) ⟨rfl, rfl⟩)
  rw [List.length_zipWith, markS_len]; omega

theorem markTypeS_tree : (l : List MTy) -> (k : Nat) -> k + nTyS l <= 1099511627776 -> (v : Value) -> FCalls Try.prog 38 [.c (.d (.raw v)), .i (k : Int)] [(tyK 31 l, v)] fun r L' => r = .i ((k + nTyS l : Nat) : Int) /\ L' = [(tyK 31 (markS l k), v)]
 | l, k, hk, v => markTypeS_tree_step l k hk (fun t ht k v hk => markTypeS_tree t.kids k hk v) v
termination_by l => SizeOf.sizeOf l
decreasing_by have := List.sizeOf_lt_of_mem ht; cases t; simp at *; omega

theorem markType_tree (t : MTy) (k : Nat) (hk : k + nTyS t.kids <= 1099511627776) (v : Value) : FCalls Try.prog 15 [.agg [.d (.i t.kind), .d (.raw v)], .i (k : Int)] [(tyK 31 t.kids, v)] fun r L' => r = .i ((k + nTyS t.kids : Nat) : Int) /\ L' = [(tyK 31 (markS t.kids k), v)] := by
 have hc := markTypeS_tree t.kids k hk v
 generalize ((k + nTyS t.kids : Nat) : Int) = K at *
 refine FCalls.of_body Try.func15 (by kernel_rfl) rfl (by kernel_rfl) (by simp [Try.ntmps15]) ?_
 rw [Try.ntmps15]
 repeat' first | (refine aopsJ_end (hK _ _ ?_); clear hK K) | (refine aopsJ_go ?_; simp; (try first | (refine OpsJ.gen fun q hq => ?_; cases q <;> (try simp at hq) <;> (try (have hh : True := hq; clear hh hq))))) | (refine wpcallJ_mut (L2 := []) ?_ ?_ (hc) ?_; (focus (solve | exact .refl _)); (focus (solve | (repeat' first | exact FzVs.nil | apply FzVs.cons | apply FzV.c | apply FzV.agg | exact FzL.nil | apply FzL.cons | exact FzC.d | exact FzC.nil | exact FzC.np | (refine FzC.thaw' ?_ (tyK_dp _ _); (focus (solve | simp))) | (refine FzC.thaw' ?_ (tmK_dp _ _ _); (focus (solve | simp)))))); rintro _ _ ⟨rfl, rfl⟩; simp; (try first | (refine OpsJ.gen fun q hq => ?_; cases q <;> (try simp at hq) <;> (try (have hh : True := hq; clear hh hq))))) | refine TJ.rs (fun _ => false) fun K hK => ?_
 refine TJ.ret (DoneJ.agg (Or.inr rfl) (r := .i K) (r' := .i K) (L' := [(tyK 31 (markS t.kids k), v)]) (M := []) (by simp [Try.results15]) (by simp [DV.scal]) (by simp) ⟨rfl, rfl⟩)

theorem heldTypeS_step (l : List MTy) (k : Nat) (hk : k + nTyS l <= 1099511627776) (h : ∀ t ∈ l, ∀ (k : Nat), k + nTyS t.kids <= 1099511627776 -> ACalls Try.prog 39 [.l ((markS t.kids k).map eTy), .i (k : Int)] [] (.i ((k + nTyS t.kids : Nat) : Int)) [] []) :
  ACalls Try.prog 39 [.l ((markS l k).map eTy), .i (k : Int)] [] (.i ((k + nTyS l : Nat) : Int)) [] [] := by
 have hlen := nTyS_len l
 obtain ⟨Z, hZ⟩ : ∃ Z, Z = markS l k := ⟨_, rfl⟩
 have hZl : Z.length = l.length := by rw [hZ, markS_len]
 rw [<- hZ]
 refine ACalls.of_body Try.func39 (by kernel_rfl) rfl (by kernel_rfl) (by simp [Try.ntmps39]) (by simp) ?_
 rw [Try.ntmps39]
 repeat' first | (refine aops_end (hK _ ?_); clear hK K) | (refine aops_go ?_; simp; (try (refine gen fun q hq => ?_; cases q <;> (try simp at hq) <;> (try (have hh : True := hq; clear hh hq))))) | refine T.r0 fun K hK => ?_ | refine T.seq ?_ | refine T.block ?_
 refine T.loopK (α := Nat) [0] (fun j => [(1, .i ((k + nTyS (l.take j) : Nat) : Int)), (5, .i j)]) (fun _ => []) (fun _ => []) (fun j _ => []) (fun j => l.length + 1 - j) (fun j => j <= l.length) (by simp; rfl) (fun j hj => ?_) 0 (by simp) (by simp) (by simp) (by simp [nTyS])
 dsimp only at hj ⊢
 simp only [ups, List.cons_append, List.nil_append]
 by_cases hlt : j < l.length
 ·obtain ⟨u, hu⟩ := get_lt hlt
  have hum : u ∈ l := List.mem_of_getElem? hu
  have hle := nTyS_take_le l (j + 1)
  have hsu := nTyS_take_succ hu
  have hZj : Z[j]? = some (markR u (k + nTyS (l.take j))) := by rw [hZ]; exact markS_at hu
  obtain ⟨kj, hkj⟩ : ∃ kj, kj = k + nTyS (l.take j) := ⟨_, rfl⟩
  have hkj2 : ((k + nTyS (l.take (j + 1)) : Nat) : Int) = ((kj + 1 + nTyS u.kids : Nat) : Int) := by rw [hsu, hkj]; congr 1; omega
  rw [<- hkj] at hZj ⊢
  have hc := h u hum (kj + 1) (by omega)
  have hk1 : (markR u kj).kind = kj := by rw [markR_def, MTy.kind_mk]
  have hk2 : (markR u kj).kids = markS u.kids (kj + 1) := by rw [markR_def, MTy.kids_mk]
  have hnn : ¬ ((kj : Int) + 1 + (nTyS u.kids : Int) < 0) := by omega
  generalize markR u kj = y at hZj hk1 hk2
  rw [<- hk2] at hc
  have hgt : ∀ h, Z[j]'h = y := fun hh => by rw [List.getElem?_eq_getElem hh] at hZj; exact Option.some.inj hZj
  repeat' first | (refine aops_end (hK _ ?_); clear hK K) | (refine aops_go ?_; simp [hlt, hZl, hgt, hk1, hnn]; (try simp (disch := omega) only [wrap64]); (try (refine gen fun q hq => ?_; cases q <;> (try simp [hlt, hZl, hgt, hk1, hnn] at hq) <;> (try (have hh : True := hq; clear hh hq))))) | (refine wpcall_pure rfl (hc) ?_; simp [hlt, hZl, hgt, hk1, hnn]; (try simp (disch := omega) only [wrap64]); (try (refine gen fun q hq => ?_; cases q <;> (try simp [hlt, hZl, hgt, hk1, hnn] at hq) <;> (try (have hh : True := hq; clear hh hq))))) | (refine ⟨j + 1, by dsimp only; omega, by dsimp only; omega, ?_⟩; (dsimp only; rw [hkj2]; simp (disch := omega) [wrap64])) | refine T.r0 fun K hK => ?_ | refine T.r1 fun K hK => ?_ | refine T.ct rfl ?_ | refine T.cf rfl ?_ | refine T.seq ?_ | refine T.block ?_ | refine T.skip ?_
 ·have hp' : j = l.length := by omega
  subst hp'
  repeat' first | (refine aops_end (hK _ ?_); clear hK K) | (refine aops_go ?_; simp [hlt, hZl]; (try (refine gen fun q hq => ?_; cases q <;> (try simp [hlt, hZl] at hq) <;> (try (have hh : True := hq; clear hh hq))))) | (refine T.ret (Done.data (Or.inr rfl) ?_ ?_) <;> simp [Try.results39] <;> omega) | refine T.r0 fun K hK => ?_ | refine T.cf rfl ?_ | refine T.seq ?_ | refine T.exit ?_

theorem heldTypeS_ok : (l : List MTy) -> (k : Nat) -> k + nTyS l <= 1099511627776 -> ACalls Try.prog 39 [.l ((markS l k).map eTy), .i (k : Int)] [] (.i ((k + nTyS l : Nat) : Int)) [] []
 | l, k, hk => heldTypeS_step l k hk (fun t ht k hk => heldTypeS_ok t.kids k hk)
termination_by l => SizeOf.sizeOf l
decreasing_by have := List.sizeOf_lt_of_mem ht; cases t; simp at *; omega

end Go.Proofs.Ytgpgcnahoieedaa
