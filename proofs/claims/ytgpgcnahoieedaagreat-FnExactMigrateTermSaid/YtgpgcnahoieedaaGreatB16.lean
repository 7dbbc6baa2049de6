/- A part of the library of this seat. -/
import Derived.Test.YtgpgcnahoieedaaGreatB15
set_option linter.unusedVariables false
set_option linter.unusedSimpArgs false
namespace Go.Proofs.YtgpgcnahoieedaaGreat
open Go Go.Av
attribute [local irreducible] T ACalls TX EX LX Draws Some_ ACallsX eTy eTm MTy.kind MTy.kids MTm.kind MTm.name MTm.num MTm.ty MTm.fr MTm.label MTm.kids
attribute [local simp] eTy_def eTm_def
set_option maxHeartbeats 16000000
set_option maxRecDepth 8000
attribute [local irreducible] TJ FCalls tyK tyRows

theorem ownType_tree_step (t : MTy) (hn : t.kids.length <= 1099511627776) (h : ∀ u ∈ t.kids, FCalls Tryz.prog 72 [aTy u] [] fun r L' => ∃ v, r = .agg [.d (.i u.kind), .d (.raw v)] /\ L' = [(tyK 31 u.kids, v)]) :
  FCalls Tryz.prog 72 [aTy t] [] fun r L' => ∃ v, r = .agg [.d (.i t.kind), .d (.raw v)] /\ L' = [(tyK 31 t.kids, v)] := by
 refine FCalls.of_body Tryz.func72 (by kernel_rfl) rfl (by kernel_rfl) (by simp [Tryz.ntmps72]) ?_
 rw [Tryz.ntmps72]
 repeat' first | (refine aopsJ_end (hK _ _ ?_); clear hK K) | (refine aopsJ_go ?_; simp; (try first | (refine OpsJ.gen fun q hq => ?_; cases q <;> (try simp at hq) <;> (try (have hh : True := hq; clear hh hq))))) | refine TJ.rs (fun _ => false) fun K hK => ?_ | refine TJ.seq ?_ | refine TJ.block ?_
 refine TJ.ownifyObj 2 1 2 31 (row := [.d (.i t.kind), .nil]) (by simp) (by simp) ?_
 refine TJ.loopK (α := List Value × List (List CV)) [2, 3, 10, 11] (fun x => [(12, .i x.1.length)]) (fun x => [(2, [.d (.i t.kind), .own 0 x.1.length])]) (fun x => x.2) (fun x _ => [{ sz := 2, ety := 31, rows := List.zipWith rTy t.kids x.1, wr := true }]) (fun x => (t.kids.map fun t => tyK 31 t.kids).zip x.1) (fun x => t.kids.length + 1 - x.1.length) (fun x => x.1.length <= t.kids.length) (by simp; rfl) (fun x hx => ?_) ([], []) (by simp) (by simp) (by simp) (by simp) (M := []) (by simp)
 obtain ⟨vs, G⟩ := x
 dsimp only at hx ⊢
 simp only [ups, List.set_cons_zero, List.set_cons_succ, List.cons_append, List.nil_append]
 by_cases hlt : vs.length < t.kids.length
 ·obtain ⟨u, hu⟩ := get_lt hlt
  have hum : u ∈ t.kids := List.mem_of_getElem? hu
  have hgt : t.kids[vs.length] = u := by rw [List.getElem?_eq_getElem hlt] at hu; exact Option.some.inj hu
  have hc := h u hum
  have hzl : (List.zipWith rTy t.kids vs).length = vs.length := by simp; omega
  have hmin : min t.kids.length vs.length = vs.length := by omega
  repeat' first | (refine aopsJ_end (hK _ _ ?_); clear hK K) | (refine aopsJ_go ?_; simp [hlt, hgt, hzl, hmin]; (try simp (disch := omega) only [wrap64]); (try first | (refine OpsJ.gen fun q hq => ?_; cases q <;> (try simp [hlt, hgt, hzl, hmin] at hq) <;> (try (have hh : True := hq; clear hh hq))))) | (refine aopsP_end (hK _ _ ?_); clear hK K) | (refine aopsP_go rfl ?_; simp [hlt, hgt, hzl, hmin]; (try simp (disch := omega) only [wrap64]); (try first | (refine OpsP.gen fun q hq => ?_; cases q <;> (try simp [hlt, hgt, hzl, hmin] at hq) <;> (try (have hh : True := hq; clear hh hq))))) | (refine aopsP_call rfl ?_; simp [hlt, hgt, hzl, hmin]; (try simp (disch := omega) only [wrap64]); (try first | (refine OpsP.gen fun q hq => ?_; cases q <;> (try simp [hlt, hgt, hzl, hmin] at hq) <;> (try (have hh : True := hq; clear hh hq))))) | (refine wpcallP_new ?_ (hc) ?_; (focus (solve | (repeat' first | exact FzVs.nil | apply FzVs.cons | apply FzV.c | apply FzV.agg | exact FzL.nil | apply FzL.cons | exact FzC.d | exact FzC.nil | exact FzC.np | (refine FzC.thaw' ?_ (tyK_dp _ _); (focus (solve | simp))) | (refine FzC.thaw' ?_ (tmK_dp _ _ _); (focus (solve | simp)))))); rintro _ _ ⟨v, rfl, rfl⟩; simp [hlt, hgt, hzl, hmin]; (try simp (disch := omega) only [wrap64]); (try first | (refine OpsP.gen fun q hq => ?_; cases q <;> (try simp [hlt, hgt, hzl, hmin] at hq) <;> (try (have hh : True := hq; clear hh hq))))) | (refine ⟨by omega, by omega, ?_⟩) | (refine TJ.rdP1 (id := 5) mixed [0, 1, 2, 3, 4, 5, 6, 7] (fun _ => false) [5, 7] [3] (by kernel_rfl) (by kernel_rfl) (by kernel_rfl) fun K hK => ?_; simp only [pickOps, List.map_cons, List.map_nil, List.getD_cons_zero, List.getD_cons_succ]) | refine TJ.rs (fun _ => false) fun K hK => ?_ | refine TJ.rs1 (fun _ => false) fun K hK => ?_ | refine TJ.cond rfl (fun hcnd => ?_) (fun hcnd => absurd hcnd (by decide)) | refine TJ.seq ?_ | refine TJ.block ?_ | refine TJ.skip ?_
  refine ⟨(vs ++ [v], G ++ [[.d (.i u.kind), .d (.sl (u.kids.map eTy))]]), [], by dsimp only; rw [List.length_append]; simp; omega, by dsimp only; rw [List.length_append]; simp; omega, ?_, ?_⟩
  ·simp (disch := omega) [wrap64, zipWith_snoc hu]
  ·dsimp only
   rw [zip_snoc hu, List.append_nil]
   exact List.perm_append_comm (l₁ := [_])
 ·have hp' : vs.length = t.kids.length := by omega
  repeat' first | (refine aopsJ_end (hK _ _ ?_); clear hK K) | (refine aopsJ_go ?_; simp [hlt]; (try first | (refine OpsJ.gen fun q hq => ?_; cases q <;> (try simp [hlt] at hq) <;> (try (have hh : True := hq; clear hh hq))))) | refine TJ.rs (fun _ => false) fun K hK => ?_ | refine TJ.cond rfl (fun hcnd => absurd hcnd (by decide)) (fun hcnd => ?_) | refine TJ.seq ?_ | refine TJ.exit ?_
  refine TJ.ret (DoneJ.ownR (k := 0) (n := vs.length) (rs := [.agg [.d (.i t.kind), .own 0 vs.length]]) (rs' := fun v => [.agg [.d (.i t.kind), .d (.raw v)]]) (Or.inr rfl) (by simp [Tryz.results72]) rfl rfl ?_ (mk_tyRows 31 hp') (L2 := []) (by simp) (fun v => by simp [DV.scal]) (fun v => ⟨[(tyK 31 t.kids, v)], [], ?_, v, rfl, rfl⟩))
  ·rw [List.length_zipWith]; omega
  ·rw [hp', tyK_unf]; exact .refl _

theorem ownType_tree : (t : MTy) -> nTy t <= 1099511627776 -> FCalls Tryz.prog 72 [aTy t] [] fun r L' => ∃ v, r = .agg [.d (.i t.kind), .d (.raw v)] /\ L' = [(tyK 31 t.kids, v)]
 | .mk k l, hn => ownType_tree_step (.mk k l) (by rw [nTy_def] at hn; simp only [MTy.kids_mk] at hn ⊢; have := nTyS_len l; omega) (by
  rw [nTy_def] at hn
  simp only [MTy.kids_mk] at hn ⊢
  exact fun t ht => ownType_tree t (by have := nTyS_mem ht; omega))
termination_by t => SizeOf.sizeOf t
decreasing_by have := List.sizeOf_lt_of_mem ht; simp; omega
end Go.Proofs.YtgpgcnahoieedaaGreat

namespace Go.Proofs.YtgpgcnahoieedaaGreat
open Go Go.Av
attribute [local irreducible] T ACalls TX EX LX Draws Some_ ACallsX eTy eTm MTy.kind MTy.kids MTm.kind MTm.name MTm.num MTm.ty MTm.fr MTm.label MTm.kids
attribute [local simp] eTy_def eTm_def
set_option maxHeartbeats 16000000
set_option maxRecDepth 8000
attribute [local irreducible] TJ FCalls tyK tyRows tmK tmRows

theorem own1_G (k n tk fk b : Int) (s : List UInt8) (v1 v2 : Value) (rows : List (List DV)) (m : Nat) (hm : m = rows.length) :
  ACallsG Tryz.prog 49 [.agg [.d (.i k), .d (.str s), .d (.i n), .d (.i tk), .d (.raw v1), .d (.i fk), .d (.raw v2), .d (.i b), .own 0 m]] [] [{ sz := 9, ety := 34, rows := rows, wr := true }] (.agg [.d (.i k), .d (.str s), .d (.i n), .d (.i tk), .d (.raw v1), .d (.i fk), .d (.raw v2), .d (.i b), .own 0 m]) [] [{ sz := 9, ety := 34, rows := rows, wr := true }] := by
 subst hm
 refine ACallsG.of_body Tryz.func49 (by kernel_rfl) rfl (by kernel_rfl) (by simp [Tryz.ntmps49]) (by simp) ?_
 rw [Tryz.ntmps49]
 repeat' first | (refine aops_end (hK _ ?_); clear hK K) | (refine aops_go ?_; simp) | refine T.r0 fun K hK => ?_
 all_goals (refine T.ret (DoneG.one (Or.inr rfl) ?_ ?_) <;> simp [resAs, Tryz.results49])

theorem mapped_own_step (e : MTm) (hn : nTm e <= 1099511627776) (h : ∀ u ∈ e.kids, FCalls Tryz.prog 48 [aTm u, .c (.fn 49 [])] [] fun r L' => ∃ v : V3, r = .agg ((rTm u v).map CV.d) /\ L' = tTm 31 34 u v) :
  FCalls Tryz.prog 48 [aTm e, .c (.fn 49 [])] [] fun r L' => ∃ v : V3, r = .agg ((rTm e v).map CV.d) /\ L' = tTm 31 34 e v := by
 obtain ⟨hnt, hnf, hnk, hnu⟩ := nTm_parts hn
 have h1 := ownType_tree e.ty hnt
 have h2 := ownType_tree e.fr hnf
 refine FCalls.of_body Tryz.func48 (by kernel_rfl) rfl (by kernel_rfl) (by simp [Tryz.ntmps48]) ?_
 rw [Tryz.ntmps48]
 repeat' first | (refine aopsJ_end (hK _ _ ?_); clear hK K) | (refine aopsJ_go ?_; simp; (try first | (refine OpsJ.gen fun q hq => ?_; cases q <;> (try simp at hq) <;> (try (have hh : True := hq; clear hh hq))))) | refine TJ.rs (fun _ => false) fun K hK => ?_ | refine TJ.seq ?_ | refine TJ.block ?_
 refine TJ.ownify 5 9 34 (by simp) ?_
 refine TJ.loopK (α := List V3 × List (List CV)) [1, 2, 4, 9, 10] (fun x => [(5, .c (.own 0 x.1.length)), (11, .i x.1.length)]) (fun x => []) (fun x => x.2) (fun x _ => [{ sz := 9, ety := 34, rows := List.zipWith rTm e.kids x.1, wr := true }]) (fun x => tsTm 31 34 e.kids x.1) (fun x => e.kids.length + 1 - x.1.length) (fun x => x.1.length <= e.kids.length) (by simp; rfl) (fun x hx => ?_) ([], []) (by simp) (by simp) (by simp) (by simp) (M := []) (by simp [tsTm_nil])
 obtain ⟨vs, G⟩ := x
 dsimp only at hx ⊢
 simp only [ups, List.set_cons_zero, List.set_cons_succ, List.cons_append, List.nil_append]
 by_cases hlt : vs.length < e.kids.length
 ·obtain ⟨u, hu⟩ := get_lt hlt
  have hum : u ∈ e.kids := List.mem_of_getElem? hu
  have hgt : e.kids[vs.length] = u := by rw [List.getElem?_eq_getElem hlt] at hu; exact Option.some.inj hu
  have hc := h u hum
  have hzl : (List.zipWith rTm e.kids vs).length = vs.length := by simp; omega
  have hmin : min e.kids.length vs.length = vs.length := by omega
  repeat' first | (refine aopsJ_end (hK _ _ ?_); clear hK K) | (refine aopsJ_go ?_; simp [hlt, hgt, hzl, hmin]; (try simp (disch := omega) only [wrap64]); (try first | (refine OpsJ.gen fun q hq => ?_; cases q <;> (try simp [hlt, hgt, hzl, hmin] at hq) <;> (try (have hh : True := hq; clear hh hq))))) | (refine wpcallJ_new ?_ (hc) ?_; (focus (solve | (repeat' first | exact FzVs.nil | apply FzVs.cons | apply FzV.c | apply FzV.agg | exact FzL.nil | apply FzL.cons | exact FzC.d | exact FzC.nil | exact FzC.np | exact FzC.fn | (refine FzC.thaw' ?_ (tyK_dp _ _); (focus (solve | simp))) | (refine FzC.thaw' ?_ (tmK_dp _ _ _); (focus (solve | simp)))))); rintro _ _ ⟨⟨v1, v2, v3⟩, rfl, rfl⟩; simp [hlt, hgt, hzl, hmin]; (try simp (disch := omega) only [wrap64]); (try first | (refine OpsJ.gen fun q hq => ?_; cases q <;> (try simp [hlt, hgt, hzl, hmin] at hq) <;> (try (have hh : True := hq; clear hh hq))))) | (refine ⟨by omega, by omega, ?_⟩) | refine TJ.rs (fun _ => false) fun K hK => ?_ | refine TJ.rs1 (fun _ => false) fun K hK => ?_ | refine TJ.cond rfl (fun hcnd => ?_) (fun hcnd => absurd hcnd (by decide)) | refine TJ.seq ?_ | refine TJ.block ?_ | refine TJ.skip ?_
  refine ⟨(vs ++ [(v1, v2, v3)], G ++ [[.d (.i u.kind), .d (.str u.name), .d (.i u.num), .d (.i u.ty.kind), .d (.sl (u.ty.kids.map eTy)), .d (.i u.fr.kind), .d (.sl (u.fr.kids.map eTy)), .d (.i u.label), .d (.sl (u.kids.map eTm))]]), [], by dsimp only; rw [List.length_append]; simp; omega, by dsimp only; rw [List.length_append]; simp; omega, ?_, ?_⟩
  ·simp (disch := omega) [wrap64, zipWith_snoc hu]
  ·dsimp only
   rw [tsTm_snoc _ _ hu, List.append_nil]
   exact List.perm_append_comm (l₁ := tTm _ _ u (v1, v2, v3))
 ·have hp' : vs.length = e.kids.length := by omega
  have hzl : (List.zipWith rTm e.kids vs).length = vs.length := by simp; omega
  obtain ⟨R, hR⟩ : ∃ R, R = List.zipWith rTm e.kids vs := ⟨_, rfl⟩
  have hmk := mk_tmRows 31 34 hp'
  rw [<- hR] at hzl hmk ⊢
  have hcl := own1_G e.kind e.num e.ty.kind e.fr.kind e.label e.name
  repeat' first | (refine aopsJ_end (hK _ _ ?_); clear hK K) | (refine aopsJ_go ?_; simp [hlt]; (try first | (refine OpsJ.gen fun q hq => ?_; cases q <;> (try simp [hlt] at hq) <;> (try (have hh : True := hq; clear hh hq))))) | (refine aopsP_end (hK _ _ ?_); clear hK K) | (refine aopsP_go rfl ?_; simp [hlt]; (try first | (refine OpsP.gen fun q hq => ?_; cases q <;> (try simp [hlt] at hq) <;> (try (have hh : True := hq; clear hh hq))))) | (refine aopsP_call rfl ?_; simp [hlt]; (try first | (refine OpsP.gen fun q hq => ?_; cases q <;> (try simp [hlt] at hq) <;> (try (have hh : True := hq; clear hh hq))))) | (refine wpcallP_new ?_ (h1) ?_; (focus (solve | (repeat' first | exact FzVs.nil | apply FzVs.cons | apply FzV.c | apply FzV.agg | exact FzL.nil | apply FzL.cons | exact FzC.d | exact FzC.nil | exact FzC.np | exact FzC.fn | (refine FzC.thaw' ?_ (tyK_dp _ _); (focus (solve | simp))) | (refine FzC.thaw' ?_ (tmK_dp _ _ _); (focus (solve | simp)))))); rintro _ _ ⟨v1, rfl, rfl⟩; simp [hlt]; (try first | (refine OpsP.gen fun q hq => ?_; cases q <;> (try simp [hlt] at hq) <;> (try (have hh : True := hq; clear hh hq))))) | (refine wpcallP_new ?_ (h2) ?_; (focus (solve | (repeat' first | exact FzVs.nil | apply FzVs.cons | apply FzV.c | apply FzV.agg | exact FzL.nil | apply FzL.cons | exact FzC.d | exact FzC.nil | exact FzC.np | exact FzC.fn | (refine FzC.thaw' ?_ (tyK_dp _ _); (focus (solve | simp))) | (refine FzC.thaw' ?_ (tmK_dp _ _ _); (focus (solve | simp)))))); rintro _ _ ⟨v2, rfl, rfl⟩; simp [hlt]; (try first | (refine OpsP.gen fun q hq => ?_; cases q <;> (try simp [hlt] at hq) <;> (try (have hh : True := hq; clear hh hq))))) | (refine wpcallJ_T (wpcall_hand 0 (hcl v1 v2 R vs.length hzl.symm) rfl rfl rfl rfl ?_); simp [back]) | (refine TJ.rdP (id := 7) mixed [0, 1, 3, 4, 6, 2, 7, 5, 8, 9, 10, 11, 12] (fun _ => false) [8, 10, 12] [5, 7] (by kernel_rfl) (by kernel_rfl) (by kernel_rfl) fun K hK => ?_; simp only [pickOps, List.map_cons, List.map_nil, List.getD_cons_zero, List.getD_cons_succ]) | refine TJ.rs (fun _ => false) fun K hK => ?_ | refine TJ.cond rfl (fun hcnd => absurd hcnd (by decide)) (fun hcnd => ?_) | refine TJ.seq ?_ | refine TJ.exit ?_
  refine TJ.ret (DoneJ.ownR (k := 0) (n := vs.length) (rs := [.agg [.d (.i e.kind), .d (.str e.name), .d (.i e.num), .d (.i e.ty.kind), .d (.raw v1), .d (.i e.fr.kind), .d (.raw v2), .d (.i e.label), .own 0 vs.length]]) (rs' := fun v => [.agg ((rTm e (v1, v2, v)).map CV.d)]) (Or.inr rfl) (by simp [Tryz.results48]) rfl rfl hzl.symm hmk (L2 := [(tyK 31 e.fr.kids, v2), (tyK 31 e.ty.kids, v1)]) (List.perm_append_comm (l₁ := [_, _])) (fun v => by simp [DV.scal]) (fun v => ⟨tTm 31 34 e (v1, v2, v), [], ?_, (v1, v2, v), rfl, rfl⟩))
  rw [hp', List.append_nil, tTm, tmK_unf]
  exact (List.reverse_perm [_, _, _]).symm

theorem mapped_own_tree : (e : MTm) -> nTm e <= 1099511627776 -> FCalls Tryz.prog 48 [aTm e, .c (.fn 49 [])] [] fun r L' => ∃ v : V3, r = .agg ((rTm e v).map CV.d) /\ L' = tTm 31 34 e v
 | .mk k s n t f b l, hn => mapped_own_step _ hn (by
  obtain ⟨hnt, hnf, hnk, hnu⟩ := nTm_parts hn
  simp only [MTm.kids_mk] at hnu ⊢
  exact fun t ht => mapped_own_tree t (hnu t ht))
termination_by t => SizeOf.sizeOf t
decreasing_by have := List.sizeOf_lt_of_mem ht; simp; omega

theorem own_tree (e : MTm) (hn : nTm e <= 1099511627776) : FCalls Tryz.prog 31 [aTm e] [] fun r L' => ∃ v : V3, r = .agg ((rTm e v).map CV.d) /\ L' = tTm 31 34 e v := by
 have h := mapped_own_tree e hn
 refine FCalls.of_body Tryz.func31 (by kernel_rfl) rfl (by kernel_rfl) (by simp [Tryz.ntmps31]) ?_
 rw [Tryz.ntmps31]
 repeat' first | (refine aopsJ_end (hK _ _ ?_); clear hK K) | (refine aopsJ_go ?_; simp; (try first | (refine OpsJ.gen fun q hq => ?_; cases q <;> (try simp at hq) <;> (try (have hh : True := hq; clear hh hq))))) | (refine wpcallJ_new ?_ (h) ?_; (focus (solve | (repeat' first | exact FzVs.nil | apply FzVs.cons | apply FzV.c | apply FzV.agg | exact FzL.nil | apply FzL.cons | exact FzC.d | exact FzC.nil | exact FzC.np | exact FzC.fn | (refine FzC.thaw' ?_ (tyK_dp _ _); (focus (solve | simp))) | (refine FzC.thaw' ?_ (tmK_dp _ _ _); (focus (solve | simp)))))); rintro _ _ ⟨⟨v1, v2, v3⟩, rfl, rfl⟩; simp; (try first | (refine OpsJ.gen fun q hq => ?_; cases q <;> (try simp at hq) <;> (try (have hh : True := hq; clear hh hq))))) | refine TJ.rs (fun _ => false) fun K hK => ?_
 refine TJ.ret (DoneJ.agg (Or.inr rfl) (L' := tTm 31 34 e (v1, v2, v3)) (r := .agg ((rTm e (v1, v2, v3)).map CV.d)) (by simp [Tryz.results31]) (by simp [DV.scal]) (M := []) (by simp) ⟨(v1, v2, v3), rfl, rfl⟩)
end Go.Proofs.YtgpgcnahoieedaaGreat

namespace Go.Proofs.YtgpgcnahoieedaaGreat
open Go Go.Av
attribute [local irreducible] T ACalls TX EX LX Draws Some_ ACallsX eTy eTm MTy.kind MTy.kids MTm.kind MTm.name MTm.num MTm.ty MTm.fr MTm.label MTm.kids
attribute [local simp] eTy_def eTm_def
set_option maxHeartbeats 16000000
set_option maxRecDepth 8000
attribute [local irreducible] TJ FCalls tyK tyRows tmK tmRows

abbrev tyT (o : Option MTy) (v : Value) : AV := .tup [.agg [.d (.i (o.getD zeroT).kind), .d (.raw v)], .b o.isSome]
theorem zeroT_kids : zeroT.kids = [] := MTy.kids_mk _ _
theorem zeroT_kind : zeroT.kind = 0 := MTy.kind_mk _ _

end Go.Proofs.YtgpgcnahoieedaaGreat
