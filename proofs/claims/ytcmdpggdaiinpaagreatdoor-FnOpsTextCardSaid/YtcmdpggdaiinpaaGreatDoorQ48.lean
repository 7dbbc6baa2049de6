/- A part of the library of this seat. -/
import Derived.Test.YtcmdpggdaiinpaaGreatDoorQ47
set_option linter.unusedVariables false
set_option linter.unusedSimpArgs false
namespace Go.Proofs.YtcmdpggdaiinpaaGreatDoor
open Go Go.Av
attribute [local irreducible] T ACalls TX EX LX Draws Some_ ACallsX eTy eTm MTy.kind MTy.kids MTm.kind MTm.name MTm.num MTm.ty MTm.fr MTm.label MTm.kids
attribute [local simp] eTy_def eTm_def
set_option maxHeartbeats 16000000
set_option maxRecDepth 8000
attribute [local irreducible] TJ FCalls wordsM opWord

abbrev nul2 : Value := .slice none 0 0
theorem nilsOp : Nils [(opK 51 [], nul2)] := fun p hp => by
 simp at hp; subst hp
 exact ⟨51, 2, by rw [opK_unf]; simp [opRows]⟩
def RPO (o : Option (List MOp)) (r : AV) (L' : Ts) : Prop := ∃ v, r = .tup [.c (.d (.raw v)), .b o.isSome] /\ L' = [(opK 51 (o.getD []), v)]

theorem opRows_app : ∀ (l m : List MOp), opRows (l ++ m) = opRows l ++ opRows m
 | [], m => rfl
 | o :: r, m => by simp only [List.cons_append, opRows, opRows_app r m]

theorem ParseOps_tree (s : List UInt8) (hs : s.length <= 1000000000) : FCalls Tryz.prog 7 [.s s] [] (RPO (parseI s)) := by
 have h1 := Split2_ok s 10 (by omega)
 have hsm := cutL_small 10 s
 have hne := cutL_ne 10 s
 by_cases hl : 121 < (cutL 10 s).length
 ·rw [show parseI s = none by rw [parseI, if_pos hl]]
  generalize cutL 10 s = P at *
  have hl' : (121 : Int) < P.length := by omega
  have hml : (P.map eW).length = P.length := by simp
  refine FCalls.of_body Tryz.func7 (by kernel_rfl) rfl (by kernel_rfl) (by simp [Tryz.ntmps7]) ?_
  rw [Tryz.ntmps7]
  repeat' first | (refine aopsJ_end (hK _ _ ?_); clear hK K) | (refine aopsD_end (hK _ ?_); clear hK K) | (refine aopsF_end (hK _ ?_); clear hK K) | ((first | refine aopsJ_go ?_ | refine wpcallJ_pure rfl (h1) ?_); simp [hl', hml]; (try (refine J2 ?_ ?_ <;> intro hq <;> try simp [hl', hml] at hq))) | ((first | refine aopsD_go ?_ | refine aopsF_go ?_ | refine wpcall_pure rfl (h1) ?_); simp [hl', hml]; (try (refine gen2 ?_ ?_ <;> intro hq <;> try simp [hl', hml] at hq))) | refine TJ.rs (fun _ => false) fun K hK => ?_ | refine TJ.rs1 (fun _ => false) fun K hK => ?_ | (refine And.intro (by omega) ?_) | refine TJ.cond rfl (fun hcnd => ?_) (fun hcnd => absurd hcnd (by decide)) | refine TJ.cond rfl (fun hcnd => absurd hcnd (by decide)) (fun hcnd => ?_) | refine TJ.seq ?_ | refine TJ.block ?_ | refine TJ.skip ?_ | refine TJ.exit ?_
  refine TJ.ret ?_; (repeat first | refine ThenJ.ret ?_ | refine InBlockJ.ret ?_); refine (DoneJ.nils (rs := [.c .nil, .b false]) (rs' := [.c (.d (.raw nul2)), .b false]) (Ln := [(opK 51 [], nul2)]) (Or.inr rfl) (by simp [Tryz.results7]) (by simp [DV.scal]) nilsOp ⟨nul2, by simp [one], by simp⟩)
 ·obtain ⟨P, hP⟩ : ∃ P, cutL 10 s = P := ⟨_, rfl⟩
  obtain ⟨Q, hQ⟩ : ∃ Q, P.dropLast = Q := ⟨_, rfl⟩
  obtain ⟨out, hout⟩ : ∃ out, Q.map readOpI = out := ⟨_, rfl⟩
  have hpar : parseI s = if opsValidM out = true /\ opsTextM out = s then some out else none := by rw [parseI, if_neg hl, hP, hQ, hout]
  rw [hpar]
  clear hpar
  rw [hP] at h1 hsm hne hl
  have hp0 : 1 <= P.length := List.length_pos_iff.2 hne
  have hQl : Q.length = P.length - 1 := by rw [<- hQ]; simp
  have hQm : ∀ u ∈ Q, u.length <= s.length := fun u hu => hsm u (List.dropLast_subset _ (hQ ▸ hu))
  have hol : out.length = Q.length := by rw [<- hout]; simp
  have hl' : ¬ (121 : Int) < P.length := by omega
  have hml : (P.map eW).length = P.length := by simp
  have hto : ((P.length : Int) - 1).toNat = Q.length := by omega
  have htk : (P.map eW).take Q.length = Q.map eW := by rw [hQl, <- List.map_take, <- List.dropLast_eq_take, hQ]
  have hge : (0 : Int) <= (P.length : Int) - 1 := by omega
  have hqp : (P.length : Int) - 1 = (Q.length : Int) := by omega
  have hql : (Q.map eW).length = Q.length := by simp
  have hqle : (Q.length : Int) <= P.length := by omega
  have kw := opWords_ok
  have kv := OpsValid_ok out (by omega)
  have hwl := wordsM_len
  clear hP hQ hsm hne
  refine FCalls.of_body Tryz.func7 (by kernel_rfl) rfl (by kernel_rfl) (by simp [Tryz.ntmps7]) ?_
  rw [Tryz.ntmps7]
  repeat' first | (refine aopsJ_end (hK _ _ ?_); clear hK K) | (refine aopsD_end (hK _ ?_); clear hK K) | (refine aopsJ_go ?_; simp [hl', hml, hto, htk, hge, hqp, hql, hqle]; (try simp (disch := omega) only [wrap64]); (try (refine J2 ?_ ?_ <;> intro hq <;> try simp [hl', hml, hto, htk, hge, hqp, hql, hqle] at hq))) | (refine aopsD_go ?_; simp [hl', hml, hto, htk, hge, hqp, hql, hqle]; (try simp (disch := omega) only [wrap64]); (try (refine gen2 ?_ ?_ <;> intro hq <;> try simp [hl', hml, hto, htk, hge, hqp, hql, hqle] at hq))) | (refine aopsF_end (hK _ ?_); clear hK K) | (refine aopsF_go ?_; simp [hl', hml, hto, htk, hge, hqp, hql, hqle]; (try simp (disch := omega) only [wrap64]); (try (refine gen2 ?_ ?_ <;> intro hq <;> try simp [hl', hml, hto, htk, hge, hqp, hql, hqle] at hq))) | (refine wpcallJ_pure rfl (h1) ?_; simp [hl', hml, hto, htk, hge, hqp, hql, hqle]; (try simp (disch := omega) only [wrap64]); (try (refine J2 ?_ ?_ <;> intro hq <;> try simp [hl', hml, hto, htk, hge, hqp, hql, hqle] at hq))) | (refine wpcall_pure rfl (h1) ?_; simp [hl', hml, hto, htk, hge, hqp, hql, hqle]; (try simp (disch := omega) only [wrap64]); (try (refine gen2 ?_ ?_ <;> intro hq <;> try simp [hl', hml, hto, htk, hge, hqp, hql, hqle] at hq))) | refine TJ.rs (fun _ => false) fun K hK => ?_ | refine TJ.rs1 (fun _ => false) fun K hK => ?_ | (refine And.intro (by omega) ?_) | refine TJ.cond rfl (fun hcnd => ?_) (fun hcnd => absurd hcnd (by decide)) | refine TJ.cond rfl (fun hcnd => absurd hcnd (by decide)) (fun hcnd => ?_) | refine TJ.seq ?_ | refine TJ.block ?_ | refine TJ.skip ?_ | refine TJ.exit ?_
  refine TJ.nils (Ln := [(opK 51 [], nul2)]) nilsOp ?_
  refine TJ.less (L' := [(.t 51 2 0 (opRows []), nul2)]) (M := []) (by rw [opK_unf]; simp) ?_
  refine TJ.rawNil 5 rfl ?_
  refine TJ.loopK (α := Nat × Value × List (List CV)) [0, 2, 3, 21, 22] (fun x => [(5, .c (.d (.raw x.2.1))), (23, .i x.1)]) (fun _ => []) (fun x => x.2.2) (fun _ A => A) (fun x => [(.t 51 2 x.1 (opRows (out.take x.1)), x.2.1)]) (fun x => Q.length + 1 - x.1) (fun x => x.1 <= Q.length) (by simp; rfl) (fun x hx => ?_) (0, nul2, []) (by simp) (by simp [ups]) (by simp) (by simp) (M := []) (by simp)
  obtain ⟨j, lw, Gb⟩ := x
  dsimp only at hx ⊢
  simp only [ups, List.cons_append, List.nil_append, List.append_nil]
  by_cases hlt : j < Q.length
  ·obtain ⟨u, ht⟩ := get_lt hlt
   have htm : u ∈ Q := List.mem_of_getElem? ht
   have hgt : Q[j] = u := by rw [List.getElem?_eq_getElem hlt] at ht; exact Option.some.inj ht
   have hdr : Q.drop j = u :: Q.drop (j + 1) := by rw [List.drop_eq_getElem_cons hlt, hgt]
   have hul := hQm u htm
   have kc := Cut2_ok u 32 (by omega)
   obtain ⟨hb1, hb2⟩ := cutB_len 32 u
   have ki := IndexW_ok (cutA 32 u) wordsM (by omega)
   have ka := atoi_ok (cutB 32 u) (by omega)
   have hbd := ixW_bound (cutA 32 u) wordsM 0
   have hnx : out.take (j + 1) = out.take j ++ [⟨1 + ixW (cutA 32 u) 0 wordsM, atoiV (cutB 32 u)⟩] := take_succ_of (by rw [<- hout, List.getElem?_map, ht]; rfl)
   have hjl : j <= 200 := by omega
   generalize decide (0 <= Lib.indexByte u 32) = q1 at kc
   generalize cutB 32 u = wb at *
   generalize cutA 32 u = wa at *
   generalize ixW wa 0 wordsM = ix at *
   obtain ⟨av, hav⟩ : ∃ av, atoiV wb = av := ⟨_, rfl⟩
   rw [hav] at hnx
   repeat' first | (refine aopsJ_appendT rfl rfl td_opSx rfl td_opx rfl rfl rfl rfl rfl (by simp) (mk_op [⟨1 + ix, av⟩]) (List.Perm.refl _) (by simp; omega) (by simp; omega) (fun lw' => ?_); simp) | (refine aopsJ_end (hK _ _ ?_); clear hK K) | (refine aopsD_end (hK _ ?_); clear hK K) | (refine aopsJ_go ?_; simp [hlt, hgt, hql, hav]; (try simp (disch := omega) only [wrap64])) | (refine aopsD_go ?_; simp [hlt, hgt, hql, hav]; (try simp (disch := omega) only [wrap64])) | (refine aopsF_end (hK _ ?_); clear hK K) | (refine aopsF_go ?_; simp [hlt, hgt, hql, hav]; (try simp (disch := omega) only [wrap64])) | (refine wpcallJ_pure rfl (kc) ?_; simp [hlt, hgt, hql, hav]; (try simp (disch := omega) only [wrap64])) | (refine wpcall_pure rfl (kc) ?_; simp [hlt, hgt, hql, hav]; (try simp (disch := omega) only [wrap64])) | (refine wpcallJ_pure rfl (kw) ?_; simp [hlt, hgt, hql, hav]; (try simp (disch := omega) only [wrap64])) | (refine wpcall_pure rfl (kw) ?_; simp [hlt, hgt, hql, hav]; (try simp (disch := omega) only [wrap64])) | (refine wpcallJ_pure rfl (ki) ?_; simp [hlt, hgt, hql, hav]; (try simp (disch := omega) only [wrap64])) | (refine wpcall_pure rfl (ki) ?_; simp [hlt, hgt, hql, hav]; (try simp (disch := omega) only [wrap64])) | (refine wpcallJ_new ?_ (ka) ?_; (focus (solve | repeat' constructor)); rintro _ _ ⟨v, rfl, rfl, hv⟩; simp [hlt, hgt, hql, hav]; (try simp (disch := omega) only [wrap64])) | refine TJ.rs (fun _ => false) fun K hK => ?_ | refine TJ.rs1 (fun _ => false) fun K hK => ?_ | (refine And.intro (by omega) ?_) | refine TJ.cond rfl (fun hcnd => ?_) (fun hcnd => absurd hcnd (by decide)) | refine TJ.cond rfl (fun hcnd => absurd hcnd (by decide)) (fun hcnd => ?_) | refine TJ.seq ?_ | refine TJ.block ?_ | refine TJ.skip ?_ | refine TJ.exit ?_
   refine ⟨(j + 1, lw', _), [], by dsimp only; omega, by dsimp only; omega, ⟨rfl, ?_, ?_⟩, ?_⟩
   ·simp (disch := omega) [wrap64]
   ·simp
   ·dsimp only
    rw [List.append_nil, hnx, opRows_app]
  ·have hjl : j = Q.length := by omega
   subst hjl
   have htree : (GC.t 51 2 Q.length (opRows (out.take Q.length)), lw) = (opK 51 out, lw) := by rw [List.take_of_length_le (by omega), opK_unf, hol]
   rw [htree]
   cases hv : opsValidM out with
   | false =>
    rw [hv] at kv
    simp only [Bool.false_eq_true, false_and, if_false]
    repeat' first | (refine aopsJ_end (hK _ _ ?_); clear hK K) | (refine aopsD_end (hK _ ?_); clear hK K) | (refine aopsJ_go ?_; simp [hlt, hql]; (try simp (disch := omega) only [wrap64]); (try (refine J2 ?_ ?_ <;> intro hq <;> try simp [hlt, hql] at hq))) | (refine aopsD_go ?_; simp [hlt, hql]; (try simp (disch := omega) only [wrap64]); (try (refine gen2 ?_ ?_ <;> intro hq <;> try simp [hlt, hql] at hq))) | (refine aopsF_end (hK _ ?_); clear hK K) | (refine aopsF_go ?_; simp [hlt, hql]; (try simp (disch := omega) only [wrap64]); (try (refine gen2 ?_ ?_ <;> intro hq <;> try simp [hlt, hql] at hq))) | (refine wpcallJ_scal ?_ (kv) rfl ?_; (focus (solve | (repeat' first | exact FzVs.nil | apply FzVs.cons | apply FzV.c | apply FzV.agg | exact FzL.nil | apply FzL.cons | exact FzC.d | exact FzC.nil | exact FzC.np | exact FzC.fn | (refine FzC.thaw' ?_ (opK_dp 51 _); (focus (solve | simp)))))); simp [hlt, hql]; (try simp (disch := omega) only [wrap64]); (try (refine J2 ?_ ?_ <;> intro hq <;> try simp [hlt, hql] at hq))) | refine TJ.rs (fun _ => false) fun K hK => ?_ | refine TJ.rs1 (fun _ => false) fun K hK => ?_ | (refine And.intro (by omega) ?_) | refine TJ.cond rfl (fun hcnd => ?_) (fun hcnd => absurd hcnd (by decide)) | refine TJ.cond rfl (fun hcnd => absurd hcnd (by decide)) (fun hcnd => ?_) | refine TJ.seq ?_ | refine TJ.block ?_ | refine TJ.skip ?_ | refine TJ.exit ?_
    refine TJ.ret ?_; (repeat first | refine ThenJ.ret ?_ | refine InBlockJ.ret ?_); refine (DoneJ.nils (rs := [.c .nil, .b false]) (rs' := [.c (.d (.raw nul2)), .b false]) (Ln := [(opK 51 [], nul2)]) (Or.inr rfl) (by simp [Tryz.results7]) (by simp [DV.scal]) nilsOp ⟨nul2, by simp [one], by simp⟩)
   | true =>
    rw [hv] at kv
    obtain ⟨o1, o2, o3⟩ := opsValid_iff.1 hv
    have kt := opsText_ok out o2 o3 (opsOk_mem o1 (by omega))
    by_cases he : opsTextM out = s
    ·rw [if_pos ⟨rfl, he⟩]
     rw [he] at kt
     repeat' first | (refine aopsJ_end (hK _ _ ?_); clear hK K) | (refine aopsD_end (hK _ ?_); clear hK K) | (refine aopsJ_go ?_; simp [hlt, hql]; (try simp (disch := omega) only [wrap64]); (try (refine J2 ?_ ?_ <;> intro hq <;> try simp [hlt, hql] at hq))) | (refine aopsD_go ?_; simp [hlt, hql]; (try simp (disch := omega) only [wrap64]); (try (refine gen2 ?_ ?_ <;> intro hq <;> try simp [hlt, hql] at hq))) | (refine aopsF_end (hK _ ?_); clear hK K) | (refine aopsF_go ?_; simp [hlt, hql]; (try simp (disch := omega) only [wrap64]); (try (refine gen2 ?_ ?_ <;> intro hq <;> try simp [hlt, hql] at hq))) | (refine wpcallJ_scal ?_ (kv) rfl ?_; (focus (solve | (repeat' first | exact FzVs.nil | apply FzVs.cons | apply FzV.c | apply FzV.agg | exact FzL.nil | apply FzL.cons | exact FzC.d | exact FzC.nil | exact FzC.np | exact FzC.fn | (refine FzC.thaw' ?_ (opK_dp 51 _); (focus (solve | simp)))))); simp [hlt, hql]; (try simp (disch := omega) only [wrap64]); (try (refine J2 ?_ ?_ <;> intro hq <;> try simp [hlt, hql] at hq))) | (refine wpcallJ_scal ?_ (kt) rfl ?_; (focus (solve | (repeat' first | exact FzVs.nil | apply FzVs.cons | apply FzV.c | apply FzV.agg | exact FzL.nil | apply FzL.cons | exact FzC.d | exact FzC.nil | exact FzC.np | exact FzC.fn | (refine FzC.thaw' ?_ (opK_dp 51 _); (focus (solve | simp)))))); simp [hlt, hql]; (try simp (disch := omega) only [wrap64]); (try (refine J2 ?_ ?_ <;> intro hq <;> try simp [hlt, hql] at hq))) | (refine TJ.ret ?_; (repeat' first | refine inBlockJ_ret ?_ | refine thenJ_ret ?_ | refine roundJ_ret ?_); refine DoneJ.tup (L' := [(opK 51 out, lw)]) (M := []) (Or.inr rfl) (by simp [Tryz.results7]; rfl) rfl (by simp) (⟨lw, by simp, by simp⟩)) | refine TJ.rs (fun _ => false) fun K hK => ?_ | refine TJ.rs1 (fun _ => false) fun K hK => ?_ | (refine And.intro (by omega) ?_) | refine TJ.cond rfl (fun hcnd => ?_) (fun hcnd => absurd hcnd (by decide)) | refine TJ.cond rfl (fun hcnd => absurd hcnd (by decide)) (fun hcnd => ?_) | refine TJ.seq ?_ | refine TJ.block ?_ | refine TJ.skip ?_ | refine TJ.exit ?_
    ·rw [if_neg (fun h => he h.2)]
     generalize opsTextM out = tx at *
     repeat' first | (refine aopsJ_end (hK _ _ ?_); clear hK K) | (refine aopsD_end (hK _ ?_); clear hK K) | (refine aopsJ_go ?_; simp [hlt, hql, he]; (try simp (disch := omega) only [wrap64]); (try (refine J2 ?_ ?_ <;> intro hq <;> try simp [hlt, hql, he] at hq))) | (refine aopsD_go ?_; simp [hlt, hql, he]; (try simp (disch := omega) only [wrap64]); (try (refine gen2 ?_ ?_ <;> intro hq <;> try simp [hlt, hql, he] at hq))) | (refine aopsF_end (hK _ ?_); clear hK K) | (refine aopsF_go ?_; simp [hlt, hql, he]; (try simp (disch := omega) only [wrap64]); (try (refine gen2 ?_ ?_ <;> intro hq <;> try simp [hlt, hql, he] at hq))) | (refine wpcallJ_scal ?_ (kv) rfl ?_; (focus (solve | (repeat' first | exact FzVs.nil | apply FzVs.cons | apply FzV.c | apply FzV.agg | exact FzL.nil | apply FzL.cons | exact FzC.d | exact FzC.nil | exact FzC.np | exact FzC.fn | (refine FzC.thaw' ?_ (opK_dp 51 _); (focus (solve | simp)))))); simp [hlt, hql, he]; (try simp (disch := omega) only [wrap64]); (try (refine J2 ?_ ?_ <;> intro hq <;> try simp [hlt, hql, he] at hq))) | (refine wpcallJ_scal ?_ (kt) rfl ?_; (focus (solve | (repeat' first | exact FzVs.nil | apply FzVs.cons | apply FzV.c | apply FzV.agg | exact FzL.nil | apply FzL.cons | exact FzC.d | exact FzC.nil | exact FzC.np | exact FzC.fn | (refine FzC.thaw' ?_ (opK_dp 51 _); (focus (solve | simp)))))); simp [hlt, hql, he]; (try simp (disch := omega) only [wrap64]); (try (refine J2 ?_ ?_ <;> intro hq <;> try simp [hlt, hql, he] at hq))) | refine TJ.rs (fun _ => false) fun K hK => ?_ | refine TJ.rs1 (fun _ => false) fun K hK => ?_ | (refine And.intro (by omega) ?_) | refine TJ.cond rfl (fun hcnd => ?_) (fun hcnd => absurd hcnd (by decide)) | refine TJ.cond rfl (fun hcnd => absurd hcnd (by decide)) (fun hcnd => ?_) | refine TJ.seq ?_ | refine TJ.block ?_ | refine TJ.skip ?_ | refine TJ.exit ?_
     refine TJ.ret ?_; (repeat first | refine ThenJ.ret ?_ | refine InBlockJ.ret ?_); refine (DoneJ.nils (rs := [.c .nil, .b false]) (rs' := [.c (.d (.raw nul2)), .b false]) (Ln := [(opK 51 [], nul2)]) (Or.inr rfl) (by simp [Tryz.results7]) (by simp [DV.scal]) nilsOp ⟨nul2, by simp [one], by simp⟩)
end Go.Proofs.YtcmdpggdaiinpaaGreatDoor
