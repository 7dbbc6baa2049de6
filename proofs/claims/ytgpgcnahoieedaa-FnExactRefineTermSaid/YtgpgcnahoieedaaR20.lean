/- A part of the library of this seat. -/
import Derived.Test.YtgpgcnahoieedaaR19
set_option linter.unusedVariables false
set_option linter.unusedSimpArgs false
namespace Go.Proofs.Ytgpgcnahoieedaa
open Go Go.Av
attribute [local irreducible] T ACalls TX EX LX Draws Some_ ACallsX eTy eTm MTy.kind MTy.kids MTm.kind MTm.name MTm.num MTm.ty MTm.fr MTm.label MTm.kids
attribute [local simp] eTy_def eTm_def
set_option maxHeartbeats 16000000
set_option maxRecDepth 8000
attribute [local irreducible] TJ FCalls tyK tyRows tmK tmRows

abbrev nul : Value := .slice none 0 0

abbrev stT (p : MTm × Int × Int) (v : V3) : AV := .tup [.agg ((rTm p.1 v).map CV.d), .i p.2.1, .i p.2.2]
end Go.Proofs.Ytgpgcnahoieedaa

namespace Go.Proofs.Ytgpgcnahoieedaa
open Go Go.Av
attribute [local irreducible] T ACalls TX EX LX Draws Some_ ACallsX eTy eTm MTy.kind MTy.kids MTm.kind MTm.name MTm.num MTm.ty MTm.fr MTm.label MTm.kids
attribute [local simp] eTy_def eTm_def
set_option maxHeartbeats 16000000
set_option maxRecDepth 8000
attribute [local irreducible] TJ FCalls tyK tyRows tmK tmRows

theorem tsTm_both (et em : TypeId) {l : List MTm} {vs : List V3} (h : l.length = vs.length) (x : MTm) (v : V3) : tsTm et em (l ++ [x]) (vs ++ [v]) = tsTm et em l vs ++ tTm et em x v := by
 rw [tsTm, tsTm, List.zipWith_append h]
 simp
theorem zipWith_both {l : List MTm} {vs : List V3} (h : l.length = vs.length) (x : MTm) (v : V3) : List.zipWith rTm (l ++ [x]) (vs ++ [v]) = List.zipWith rTm l vs ++ [rTm x v] := by
 rw [List.zipWith_append h]; simp

theorem refinements_tree (e : MTm) (hv : termValidM e = true) (m : Nat) (hm : m <= 1048576) : FCalls Try.prog 66 [aTm e, .i m] [] fun r L' => ∃ v, r = .c (.d (.raw v)) /\ L' = [(tmK 31 36 ((refineM e).take m), v)] := by
 have hsz := valid_small hv
 have h1 := (types_own e (by omega)).sealed (by simp)
 dsimp only at h1
 obtain ⟨hvt, hvn⟩ := termValidM_iff.1 hv
 obtain ⟨hsh, hln⟩ := hvt.types
 obtain ⟨ts, hts⟩ : ∃ ts, typesM e = ts := ⟨_, rfl⟩
 have hcv := fun i t y => cand_valid (i := i) (t := t) (y := y) hv
 rw [<- keep_refine, candM]
 rw [hts] at h1 hsh hln hcv ⊢
 have hl30 : ts.length <= 30 := by omega
 have hcl := cloneTy_own ts (by omega)
 rw [<- subsP_all]
 refine FCalls.of_body Try.func66 (by kernel_rfl) rfl (by kernel_rfl) (by simp [Try.ntmps66]) ?_
 rw [Try.ntmps66]
 repeat' first | (refine aopsJ_end (hK _ _ ?_); clear hK K) | (refine aopsJ_go ?_; simp; (try first | (refine OpsJ.gen fun q hq => ?_; cases q <;> (try simp at hq) <;> (try (have hh : True := hq; clear hh hq))))) | (refine wpcallJ_pure rfl (h1) ?_; simp; (try first | (refine OpsJ.gen fun q hq => ?_; cases q <;> (try simp at hq) <;> (try (have hh : True := hq; clear hh hq))))) | refine TJ.rs (fun _ => false) fun K hK => ?_ | refine TJ.seq ?_ | refine TJ.block ?_
 refine TJ.ownify 5 9 36 (by simp) ?_
 refine TJ.loopK (α := Nat × List (List CV) × List Arr × List V3) [1, 2, 4, 6, 18, 19] (fun x => [(5, .c (.own 0 (keepM e m (subsP refTyM ts x.1)).length)), (20, .i x.1)]) (fun x => []) (fun x => x.2.1) (fun x _ => { sz := 9, ety := 36, rows := List.zipWith rTm (keepM e m (subsP refTyM ts x.1)) x.2.2.2, wr := true } :: x.2.2.1) (fun x => tsTm 31 36 (keepM e m (subsP refTyM ts x.1)) x.2.2.2) (fun x => ts.length + 1 - x.1) (fun x => x.1 <= ts.length /\ x.2.2.2.length = (keepM e m (subsP refTyM ts x.1)).length) (by simp; rfl) (fun x hx => ?_) (0, [], [], []) (by simp [subsP_zero, keep_nil]) (by simp) (by simp [subsP_zero, keep_nil]) (by simp [subsP_zero, keep_nil]) (M := []) (by simp [subsP_zero, keep_nil, tsTm])
 obtain ⟨p, G, GA, vs0⟩ := x
 obtain ⟨hx, hvs0⟩ := hx
 dsimp only at hx hvs0 ⊢
 simp only [ups, List.set_cons_zero, List.set_cons_succ, List.cons_append, List.nil_append, List.append_nil]
 by_cases hlt : p < ts.length
 ·obtain ⟨u, ht⟩ := get_lt hlt
  have htm : u ∈ ts := List.mem_of_getElem? ht
  have hgt : ts[p] = u := by rw [List.getElem?_eq_getElem hlt] at ht; exact Option.some.inj ht
  have hdr : ts.drop p = u :: ts.drop (p + 1) := by rw [List.drop_eq_getElem_cons hlt, hgt]
  have hun := shape4 (hsh u htm)
  have hu := RefineType_ok u (by omega)
  have hul := refTy_small u
  have hsu := subsP_succ refTyM ht
  generalize subsP refTyM ts p = Z at *
  obtain ⟨ru, hru⟩ : ∃ ru, refTyM u = ru := ⟨_, rfl⟩
  rw [hru] at hu hul hsu
  repeat' first | (refine aopsJ_end (hK _ _ ?_); clear hK K) | (refine aopsJ_go ?_; simp [hlt, hgt]; (try simp (disch := omega) only [wrap64]); (try first | (refine OpsJ.gen fun q hq => ?_; cases q <;> (try simp [hlt, hgt] at hq) <;> (try (have hh : True := hq; clear hh hq))))) | (refine wpcallJ_pure rfl (hu) ?_; simp [hlt, hgt]; (try simp (disch := omega) only [wrap64]); (try first | (refine OpsJ.gen fun q hq => ?_; cases q <;> (try simp [hlt, hgt] at hq) <;> (try (have hh : True := hq; clear hh hq))))) | refine TJ.rs (fun _ => false) fun K hK => ?_ | refine TJ.cond rfl (fun hcnd => ?_) (fun hcnd => absurd hcnd (by decide)) | refine TJ.seq ?_ | refine TJ.block ?_ | refine TJ.skip ?_
  refine TJ.loopK (α := Nat × List (List CV) × List Arr × List V3) [1, 2, 4, 6, 7, 8, 18, 19, 20, 21, 22, 23, 24, 25, 26, 27, 62] (fun y => [(5, .c (.own 0 (keepM e m (Z ++ (ru.take y.1).map (fun v => ts.set p v))).length)), (28, .i y.1)]) (fun y => []) (fun y => y.2.1) (fun y _ => { sz := 9, ety := 36, rows := List.zipWith rTm (keepM e m (Z ++ (ru.take y.1).map (fun v => ts.set p v))) y.2.2.2, wr := true } :: (GA ++ y.2.2.1)) (fun y => tsTm 31 36 (keepM e m (Z ++ (ru.take y.1).map (fun v => ts.set p v))) y.2.2.2) (fun y => ru.length + 1 - y.1) (fun y => y.1 <= ru.length /\ y.2.2.2.length = (keepM e m (Z ++ (ru.take y.1).map (fun v => ts.set p v))).length) (by simp; rfl) (fun y hy => ?_) (0, [], [], vs0) (by simpa using hvs0) (by simp) (by simp) (by simp) (M := []) (by simp)
  obtain ⟨q, G2, GA2, vs⟩ := y
  obtain ⟨hy, hvs⟩ := hy
  dsimp only at hy hvs ⊢
  simp only [ups, List.set_cons_zero, List.set_cons_succ, List.cons_append, List.nil_append, List.append_nil]
  by_cases hlq : q < ru.length
  ·obtain ⟨v, hv2⟩ := get_lt hlq
   have hgv : ru[q] = v := by rw [List.getElem?_eq_getElem hlq] at hv2; exact Option.some.inj hv2
   have htv : Z ++ (ru.take (q + 1)).map (fun v => ts.set p v) = (Z ++ (ru.take q).map (fun v => ts.set p v)) ++ [ts.set p v] := by rw [List.take_add_one, hv2]; simp
   obtain ⟨hxv, hcs⟩ := hcv p u v ht (by rw [hru]; exact List.mem_of_getElem? hv2)
   have hky := fun h hl => keep_yes (e := e) (m := m) (L := Z ++ (ru.take q).map (fun v => ts.set p v)) (c := ts.set p v) h hl
   have hkn := fun h => keep_no (e := e) (m := m) (L := Z ++ (ru.take q).map (fun v => ts.set p v)) (c := ts.set p v) h
   have hkf := fun h => keep_full (e := e) (m := m) (L := Z ++ (ru.take q).map (fun v => ts.set p v)) (c := ts.set p v) h
   have hkl := keep_len e m (Z ++ (ru.take q).map (fun v => ts.set p v))
   rw [<- htv] at hky hkn hkf
   have hrt := retyped_ok e (by omega) (ts.set p v) (fun t h => by have := shape4 (hcs t h); omega) (by rw [hts]; simp) (by simp; omega)
   rw [hts, List.drop_of_length_le (by simp)] at hrt
   have hxn := valid_small hxv
   have hti := term0_ok [] (withM e (ts.set p v)) 12 (by simp only [termValidM, Bool.and_eq_true] at hxv; exact hxv.1) (by simp) (by intro b hb; simp at hb) (by omega)
   have how := own_tree (withM e (ts.set p v)) (by omega)
   have hset : (ts.set p v).map eTy = (ts.map eTy).set p (eTy v) := List.map_set
   simp only [typedB] at hky hkn
   generalize keepM e m (Z ++ (ru.take q).map (fun v => ts.set p v)) = K1 at *
   generalize withM e (ts.set p v) = X at *
   have hzl : (List.zipWith rTm K1 vs).length = K1.length := by simp; omega
   cases hty : typeM [] X with
   | none =>
    rw [hty] at hti hkn
    simp only [tyRes] at hti
    have hk2 := hkn rfl
    repeat' first | (refine aopsJ_end (hK _ _ ?_); clear hK K) | (refine aopsJ_go ?_; simp [hlq, hgv, hlt, hzl, <- hset]; (try simp (disch := omega) only [wrap64]); (try first | (refine OpsJ.gen fun q hq => ?_; cases q <;> (try simp [hlq, hgv, hlt, hzl, <- hset] at hq) <;> (try (have hh : True := hq; clear hh hq))))) | (refine wpcallJ_pure ?_ (hrt) ?_; (focus (solve | simp [hlq, hgv, hlt, hzl, <- hset])); simp [hlq, hgv, hlt, hzl, <- hset]; (try simp (disch := omega) only [wrap64]); (try first | (refine OpsJ.gen fun q hq => ?_; cases q <;> (try simp [hlq, hgv, hlt, hzl, <- hset] at hq) <;> (try (have hh : True := hq; clear hh hq))))) | (refine wpcallJ_pure ?_ (hti) ?_; (focus (solve | simp [hlq, hgv, hlt, hzl, <- hset])); simp [hlq, hgv, hlt, hzl, <- hset]; (try simp (disch := omega) only [wrap64]); (try first | (refine OpsJ.gen fun q hq => ?_; cases q <;> (try simp [hlq, hgv, hlt, hzl, <- hset] at hq) <;> (try (have hh : True := hq; clear hh hq))))) | (refine wpcallJ_T (wpcall_own rfl (hcl) ?_); simp [hlq, hgv, hlt, hzl, <- hset]; (try simp (disch := omega) only [wrap64]); (try first | (refine OpsJ.gen fun q hq => ?_; cases q <;> (try simp [hlq, hgv, hlt, hzl, <- hset] at hq) <;> (try (have hh : True := hq; clear hh hq))))) | refine TJ.rs (fun _ => false) fun K hK => ?_ | refine TJ.rs1 (fun _ => false) fun K hK => ?_ | refine TJ.cond rfl (fun hcnd => ?_) (fun hcnd => absurd hcnd (by decide)) | refine TJ.cond rfl (fun hcnd => absurd hcnd (by decide)) (fun hcnd => ?_) | refine TJ.seq ?_ | refine TJ.block ?_ | refine TJ.skip ?_
    refine ⟨(q + 1, _, GA2 ++ [{ sz := 2, ety := 31, rows := (ts.map eTy).set p (eTy v), wr := false }], vs), [], by dsimp only; omega, ⟨by dsimp only; omega, by dsimp only; rw [hk2]; exact hvs⟩, ⟨(by simp only [ups, List.set_cons_zero, List.cons_append, List.append_assoc, List.nil_append]; rfl), ?_, ?_⟩, ?_⟩
    ·simp [hk2, -List.map_take]
    ·simp (disch := omega) [wrap64, hk2, -List.map_take]
    ·dsimp only
     rw [hk2]; simp
   | some t =>
    rw [hty] at hti hky
    simp only [tyRes] at hti
    by_cases hf : K1.length < m
    ·have hk2 := hky rfl hf
     have hf2 : (K1.length : Int) < m := by omega
     repeat' first | (refine aopsJ_end (hK _ _ ?_); clear hK K) | (refine aopsJ_go ?_; simp [hlq, hgv, hlt, hf, hf2, hzl, <- hset]; (try simp (disch := omega) only [wrap64]); (try first | (refine OpsJ.gen fun q hq => ?_; cases q <;> (try simp [hlq, hgv, hlt, hf, hf2, hzl, <- hset] at hq) <;> (try (have hh : True := hq; clear hh hq))))) | (refine wpcallJ_pure ?_ (hrt) ?_; (focus (solve | simp [hlq, hgv, hlt, hf, hf2, hzl, <- hset])); simp [hlq, hgv, hlt, hf, hf2, hzl, <- hset]; (try simp (disch := omega) only [wrap64]); (try first | (refine OpsJ.gen fun q hq => ?_; cases q <;> (try simp [hlq, hgv, hlt, hf, hf2, hzl, <- hset] at hq) <;> (try (have hh : True := hq; clear hh hq))))) | (refine wpcallJ_pure ?_ (hti) ?_; (focus (solve | simp [hlq, hgv, hlt, hf, hf2, hzl, <- hset])); simp [hlq, hgv, hlt, hf, hf2, hzl, <- hset]; (try simp (disch := omega) only [wrap64]); (try first | (refine OpsJ.gen fun q hq => ?_; cases q <;> (try simp [hlq, hgv, hlt, hf, hf2, hzl, <- hset] at hq) <;> (try (have hh : True := hq; clear hh hq))))) | (refine wpcallJ_T (wpcall_own rfl (hcl) ?_); simp [hlq, hgv, hlt, hf, hf2, hzl, <- hset]; (try simp (disch := omega) only [wrap64]); (try first | (refine OpsJ.gen fun q hq => ?_; cases q <;> (try simp [hlq, hgv, hlt, hf, hf2, hzl, <- hset] at hq) <;> (try (have hh : True := hq; clear hh hq))))) | (refine wpcallJ_new ?_ (how) ?_; (focus (solve | (repeat' first | exact FzVs.nil | apply FzVs.cons | apply FzV.c | apply FzV.agg | exact FzL.nil | apply FzL.cons | exact FzC.d | exact FzC.nil | exact FzC.np | exact FzC.fn | (refine FzC.thaw' ?_ (tyK_dp 31 _); (focus (solve | simp [tTm]))) | (refine FzC.thaw' ?_ (tmK_dp 31 36 _); (focus (solve | simp [tTm])))))); rintro _ _ ⟨⟨v1, v2, v3⟩, rfl, rfl⟩; simp [hlq, hgv, hlt, hf, hf2, hzl, <- hset]; (try simp (disch := omega) only [wrap64]); (try first | (refine OpsJ.gen fun q hq => ?_; cases q <;> (try simp [hlq, hgv, hlt, hf, hf2, hzl, <- hset] at hq) <;> (try (have hh : True := hq; clear hh hq))))) | (refine ⟨by omega, by omega, ?_⟩) | refine TJ.rs (fun _ => false) fun K hK => ?_ | refine TJ.rs1 (fun _ => false) fun K hK => ?_ | refine TJ.cond rfl (fun hcnd => ?_) (fun hcnd => absurd hcnd (by decide)) | refine TJ.seq ?_ | refine TJ.block ?_ | refine TJ.skip ?_
     refine ⟨(q + 1, _, GA2 ++ [{ sz := 2, ety := 31, rows := (ts.map eTy).set p (eTy v), wr := false }], (vs ++ [(v1, v2, v3)])), [], by dsimp only; omega, ⟨by dsimp only; omega, by dsimp only; rw [hk2]; simp [hvs]⟩, ⟨(by simp only [ups, List.set_cons_zero, List.cons_append, List.append_assoc, List.nil_append]; rfl), ?_, ?_⟩, ?_⟩
     ·simp [hk2, zipWith_both hvs.symm, -List.map_take]
     ·simp (disch := omega) [wrap64, hk2, -List.map_take]
     ·dsimp only
      rw [hk2, tsTm_both _ _ hvs.symm, List.append_nil]
      exact List.perm_append_comm (l₁ := tTm _ _ X (v1, v2, v3))
    ·have hk2 := hkf hf
     have hf2 : ¬ (K1.length : Int) < m := by omega
     repeat' first | (refine aopsJ_end (hK _ _ ?_); clear hK K) | (refine aopsJ_go ?_; simp [hlq, hgv, hlt, hf, hf2, hzl, <- hset]; (try simp (disch := omega) only [wrap64]); (try first | (refine OpsJ.gen fun q hq => ?_; cases q <;> (try simp [hlq, hgv, hlt, hf, hf2, hzl, <- hset] at hq) <;> (try (have hh : True := hq; clear hh hq))))) | (refine wpcallJ_pure ?_ (hrt) ?_; (focus (solve | simp [hlq, hgv, hlt, hf, hf2, hzl, <- hset])); simp [hlq, hgv, hlt, hf, hf2, hzl, <- hset]; (try simp (disch := omega) only [wrap64]); (try first | (refine OpsJ.gen fun q hq => ?_; cases q <;> (try simp [hlq, hgv, hlt, hf, hf2, hzl, <- hset] at hq) <;> (try (have hh : True := hq; clear hh hq))))) | (refine wpcallJ_pure ?_ (hti) ?_; (focus (solve | simp [hlq, hgv, hlt, hf, hf2, hzl, <- hset])); simp [hlq, hgv, hlt, hf, hf2, hzl, <- hset]; (try simp (disch := omega) only [wrap64]); (try first | (refine OpsJ.gen fun q hq => ?_; cases q <;> (try simp [hlq, hgv, hlt, hf, hf2, hzl, <- hset] at hq) <;> (try (have hh : True := hq; clear hh hq))))) | (refine wpcallJ_T (wpcall_own rfl (hcl) ?_); simp [hlq, hgv, hlt, hf, hf2, hzl, <- hset]; (try simp (disch := omega) only [wrap64]); (try first | (refine OpsJ.gen fun q hq => ?_; cases q <;> (try simp [hlq, hgv, hlt, hf, hf2, hzl, <- hset] at hq) <;> (try (have hh : True := hq; clear hh hq))))) | refine TJ.rs (fun _ => false) fun K hK => ?_ | refine TJ.rs1 (fun _ => false) fun K hK => ?_ | refine TJ.cond rfl (fun hcnd => ?_) (fun hcnd => absurd hcnd (by decide)) | refine TJ.cond rfl (fun hcnd => absurd hcnd (by decide)) (fun hcnd => ?_) | refine TJ.seq ?_ | refine TJ.block ?_ | refine TJ.skip ?_
     refine ⟨(q + 1, _, GA2 ++ [{ sz := 2, ety := 31, rows := (ts.map eTy).set p (eTy v), wr := false }], vs), [], by dsimp only; omega, ⟨by dsimp only; omega, by dsimp only; rw [hk2]; exact hvs⟩, ⟨(by simp only [ups, List.set_cons_zero, List.cons_append, List.append_assoc, List.nil_append]; rfl), ?_, ?_⟩, ?_⟩
     ·simp [hk2, -List.map_take]
     ·simp (disch := omega) [wrap64, hk2, -List.map_take]
     ·dsimp only
      rw [hk2]; simp
  ·have hq' : q = ru.length := by omega
   subst hq'
   rw [List.take_length, <- hsu] at hvs ⊢
   repeat' first | (refine aopsJ_end (hK _ _ ?_); clear hK K) | (refine aopsJ_go ?_; simp [hlq]; (try simp (disch := omega) only [wrap64]); (try first | (refine OpsJ.gen fun q hq => ?_; cases q <;> (try simp [hlq] at hq) <;> (try (have hh : True := hq; clear hh hq))))) | refine TJ.rs (fun _ => false) fun K hK => ?_ | refine TJ.rs1 (fun _ => false) fun K hK => ?_ | refine TJ.cond rfl (fun hcnd => absurd hcnd (by decide)) (fun hcnd => ?_) | refine TJ.seq ?_ | refine TJ.exit ?_
   refine ⟨(p + 1, _, GA ++ GA2, vs), [], by dsimp only; omega, ⟨by dsimp only; omega, by dsimp only; exact hvs⟩, ⟨(by simp only [ups, List.set_cons_zero, List.cons_append, List.append_assoc, List.nil_append]; rfl), ?_, ?_⟩, ?_⟩
   ·simp
   ·simp (disch := omega) [wrap64]
   ·simp
 ·have hp' : p = ts.length := by omega
  subst hp'
  repeat' first | (refine aopsJ_end (hK _ _ ?_); clear hK K) | (refine aopsJ_go ?_; simp [hlt]; (try first | (refine OpsJ.gen fun q hq => ?_; cases q <;> (try simp [hlt] at hq) <;> (try (have hh : True := hq; clear hh hq))))) | refine TJ.rs (fun _ => false) fun K hK => ?_ | refine TJ.cond rfl (fun hcnd => absurd hcnd (by decide)) (fun hcnd => ?_) | refine TJ.seq ?_ | refine TJ.exit ?_
  refine TJ.ret (DoneJ.own (k := 0) (n := (keepM e m (subsP refTyM ts ts.length)).length) (Or.inr rfl) (by simp [Try.results66]) rfl rfl ?_ (Lc := tsTm 31 36 (keepM e m (subsP refTyM ts ts.length)) vs0) (cs := tmRows 31 36 (keepM e m (subsP refTyM ts ts.length))) ?_ (M := []) (by simp) ?_)
  ·rw [List.length_zipWith]; omega
  ·exact mk_tmRows _ _ hvs0
  ·intro v
   refine ⟨v, rfl, ?_⟩
   rw [List.length_zipWith, hvs0, Nat.min_self, tmK_unf]
end Go.Proofs.Ytgpgcnahoieedaa

namespace Go.Proofs.Ytgpgcnahoieedaa
attribute [-simp] Go.Av.callJ
open Go Go.Av
attribute [local irreducible] T ACalls TX EX LX Draws Some_ ACallsX eTy eTm MTy.kind MTy.kids MTm.kind MTm.name MTm.num MTm.ty MTm.fr MTm.label MTm.kids
attribute [local simp] eTy_def eTm_def
set_option maxHeartbeats 16000000
set_option maxRecDepth 8000
attribute [local irreducible] TJ FCalls tyK tyRows tmK tmRows

@[simp] theorem td_u8k : td Try.prog 5 = some { ag := false, sz := 1, by_ := 1, zero := some [.d (.int .u8 0)], el := none, ar := none, fl := [], ik := some .u8, isS := false, isB := false } := keep (by kernel_rfl)
@[simp] theorem td_u8Sk : td Try.prog 102 = some { ag := false, sz := 1, by_ := 24, zero := some [.nil], el := some 5, ar := none, fl := [], ik := none, isS := false, isB := false } := keep (by kernel_rfl)

def decD (n : Nat) : List UInt8 := if n = 0 then [] else Lib.decDigits n
theorem decD_step {n : Nat} (h : 0 < n) (out : List UInt8) : decD n ++ out = decD (n / 10) ++ (UInt8.ofNat (48 + n % 10) :: out) := by
 rw [decD, if_neg (by omega)]
 conv => lhs; rw [Lib.decDigits]
 split
 ·rename_i h1
  have e1 : n / 10 = 0 := by omega
  have e2 : n % 10 = n := by omega
  rw [e1, e2]; simp [decD]
 ·rename_i h1
  rw [decD, if_neg (by omega)]; simp

theorem dec_len_k (n : Nat) : (Lib.decDigits n).length <= n + 1 := by
 induction n using Nat.strongRecOn with
 | _ n ih =>
  rw [Lib.decDigits]
  split
  ·simp
  ·have := ih (n / 10) (by omega)
   simp; omega

theorem markText_ok (k : Nat) (h0 : 1 <= k) (hk : k <= 2199023255552) : ACalls Try.prog 51 [.i (k : Int)] [] (.c (.d (.str (mText k)))) [] [] := by
 have hk0 : ¬ (k : Int) <= 0 := by omega
 have hk1 : ¬ k = 0 := by omega
 refine ACalls.of_body Try.func51 (by kernel_rfl) rfl (by kernel_rfl) (by simp [Try.ntmps51]) (by simp) ?_
 rw [Try.ntmps51]
 repeat' first | (refine aops_end (hK _ ?_); clear hK K) | (refine aops_go ?_; simp [hk0, hk1]; (try (refine gen fun q hq => ?_; cases q <;> (try simp [hk0, hk1] at hq) <;> (try (have hh : True := hq; clear hh hq))))) | refine T.r0 fun K hK => ?_ | refine T.cf rfl ?_ | refine T.seq ?_ | refine T.block ?_ | refine T.skip ?_
 refine T.loopK (α := Nat × List UInt8) [2] (fun x => [(0, .i (x.1 : Int)), (3, .c (.d (.str x.2)))]) (fun _ => []) (fun _ => []) (fun _ _ => []) (fun x => x.1 + 1) (fun x => x.1 <= k /\ decD x.1 ++ x.2 = decD k) (by simp; rfl) (fun x hx => ?_) (k, []) (by simp) (by simp) (by simp) (by simp)
 obtain ⟨n, out⟩ := x
 obtain ⟨hn, ho⟩ := hx
 dsimp only at hn ho ⊢
 simp only [ups, List.cons_append, List.nil_append]
 have hol : out.length <= k + 1 := by
  have h1 : (decD n ++ out).length = (decD k).length := by rw [ho]
  have h2 := dec_len_k k
  rw [decD, decD, if_neg hk1] at h1
  simp at h1; omega
 have key : ∀ k : Nat, k <= 9 -> ∃ z : Int, IntKind.i64.wrap (48 + (k : Int)) = z /\ IntKind.u8.wrap z = z /\ 0 <= z /\ z < 256 /\ UInt8.ofNat z.toNat = UInt8.ofNat (48 + k) := fun k hk => by
  refine ⟨((48 + k : Nat) : Int), ?_, wrap8 (by omega), by omega, by omega, by rw [Int.toNat_natCast]⟩
  rw [wrap64 (by omega) (by omega)]; omega
 have hl1 : 1 + out.length <= 4611686018427387904 := by omega
 by_cases hlt : 0 < n
 ·have hlt' : (0 : Int) < (n : Int) := by omega
  rw [decD_step hlt] at ho
  obtain ⟨q, hq⟩ : ∃ q, n / 10 = q := ⟨_, rfl⟩
  obtain ⟨r, hr⟩ : ∃ r, n % 10 = r := ⟨_, rfl⟩
  obtain ⟨z, z1, z2, z3, z4, z5⟩ := key r (by omega)
  have e1 : (n : Int).tmod 10 = (r : Int) := by rw [Int.tmod_eq_emod_of_nonneg (by omega)]; omega
  have e2 : (n : Int).tdiv 10 = (q : Int) := by rw [Int.tdiv_eq_ediv_of_nonneg (by omega)]; omega
  rw [hq, hr] at ho
  obtain ⟨c, hc⟩ : ∃ c, UInt8.ofNat (48 + r) = c := ⟨_, rfl⟩
  rw [hc] at ho z5
  have hqn : q < n := by omega
  repeat' first | (refine aops_end (hK _ ?_); clear hK K) | (refine aops_go ?_; simp [hlt, hlt', hl1, e1, e2, z1, z2, z3, z4, z5, bytesOf, byteOfRow]; (try simp (disch := omega) only [wrap64, catLe]); (try (refine gen fun q hq => ?_; cases q <;> (try simp [hlt, hlt', hl1, e1, e2, z1, z2, z3, z4, z5, bytesOf, byteOfRow] at hq) <;> (try (have hh : True := hq; clear hh hq))))) | refine T.r0 fun K hK => ?_ | refine T.r1 fun K hK => ?_ | refine T.ct rfl ?_ | refine T.seq ?_ | refine T.block ?_ | refine T.skip ?_
  refine ⟨(q, c :: out), by dsimp only; omega, ⟨by dsimp only; omega, ho⟩, rfl, ?_, ?_⟩ <;> simp (disch := omega) [e2, hlt', wrap64]
 ·have hlt' : ¬ (0 : Int) < (n : Int) := by omega
  obtain rfl : n = 0 := by omega
  simp [decD, hk1] at ho
  repeat' first | (refine aops_end (hK _ ?_); clear hK K) | (refine aops_go ?_; simp [hlt', hl1]; (try (refine gen fun q hq => ?_; cases q <;> (try simp [hlt', hl1] at hq) <;> (try (have hh : True := hq; clear hh hq))))) | (refine T.ret (Done.data (Or.inr rfl) ?_ ?_) <;> simp [Try.results51, mText, ho] <;> omega) | refine T.r0 fun K hK => ?_ | refine T.cf rfl ?_ | refine T.seq ?_ | refine T.exit ?_

theorem markTermS_tree_step (l : List MTm) (k : Nat) (hk : k + cTmS l <= 1099511627776) (hlen : l.length <= 1099511627776) (h : ∀ t ∈ l, ∀ (k : Nat) v, k + cTmS t.kids <= 1099511627776 -> FCalls Try.prog 31 [.c (.d (.raw v)), .i (k : Int)] [(tmK 31 36 t.kids, v)] fun r L' => r = .i ((k + cTmS t.kids : Nat) : Int) /\ L' = [(tmK 31 36 (markSm t.kids k), v)]) (v : Value) :
  FCalls Try.prog 31 [.c (.d (.raw v)), .i (k : Int)] [(tmK 31 36 l, v)] fun r L' => r = .i ((k + cTmS l : Nat) : Int) /\ L' = [(tmK 31 36 (markSm l k), v)] := by
 rw [tmK_unf, tmK_unf, markSm_len]
 refine FCalls.mono (R := fun r L' => ∃ cs', L' = [(.t 36 9 l.length cs', v)] /\ (r = .i ((k + cTmS l : Nat) : Int) /\ cs' = tmRows 31 36 (markSm l k))) ?_ (by rintro r L' ⟨_, rfl, rfl, rfl⟩; exact ⟨rfl, rfl⟩)
 refine FCalls.of_bodyA Try.func31 (by kernel_rfl) rfl (by kernel_rfl) (by simp [Try.ntmps31]) ?_ ?_
 rotate_left
 rw [Try.ntmps31]
 rotate_left
 ·exact tmRows_scal _ _ l
 intro ds Lc hmk hdl
 obtain ⟨vs, hv, hch, rfl⟩ := mk_tmRows_inv _ _ hmk
 rw [hch]
 clear hmk hdl hch
 repeat' first | (refine aopsJ_end (hK _ _ ?_); clear hK K) | (refine aopsJ_go ?_; simp; (try first | (refine OpsJ.gen fun q hq => ?_; cases q <;> (try simp at hq) <;> (try (have hh : True := hq; clear hh hq))))) | refine TJ.rs (fun _ => false) fun K hK => ?_ | refine TJ.seq ?_ | refine TJ.block ?_
 refine TJ.loopK (α := Nat) [0, 4] (fun j => [(1, .i ((k + cTmS (l.take j) : Nat) : Int)), (5, .i j)]) (fun _ => []) (fun _ => []) (fun j _ => [{ sz := 9, ety := 36, rows := List.zipWith rTm (mM l k j) vs, wr := true }]) (fun j => tsTm 31 36 (mM l k j) vs) (fun j => l.length + 1 - j) (fun j => j <= l.length) (by simp; rfl) (fun j hj => ?_) 0 (by simp) (by simp) (by simp [mM_zero]) (by simp [cTmS]) (M := []) (by simp [mM_zero])
 dsimp only at hj ⊢
 simp only [ups, List.cons_append, List.nil_append]
 by_cases hlt : j < l.length
 ·obtain ⟨u, hu⟩ := get_lt hlt
  have hum : u ∈ l := List.mem_of_getElem? hu
  obtain ⟨⟨v1, v2, v3⟩, hv1⟩ := get_lt (l := vs) (i := j) (by omega)
  have hle := cTmS_take_le l (j + 1)
  have hsu := cTmS_take_succ hu
  rw [cTm_def] at hsu
  have hrj := zipWith_at (f := rTm) (mM_at (k := k) hu) hv1
  obtain ⟨kj, hkj⟩ : ∃ kj, kj = k + cTmS (l.take j) := ⟨_, rfl⟩
  have hms := mM_succ (k := k) hu
  rw [<- hkj, markRm_def] at hms
  have hLat : (List.zipWith (tTm 31 36) (mM l k j) vs)[j]? = some (tTm 31 36 u (v1, v2, v3)) := zipWith_at (mM_at hu) hv1
  have hLl : j < (List.zipWith (tTm 31 36) (mM l k j) vs).length := (List.getElem?_eq_some_iff.1 hLat).1
  have hLset : (List.zipWith (tTm 31 36) (mM l k j) vs).set j [(tyK 31 (markS u.ty.kids (kj + 4)), v1), (tyK 31 (markS u.fr.kids (kj + 5 + nTyS u.ty.kids)), v2), (tmK 31 36 (markSm u.kids (kj + 6 + nTyS u.ty.kids + nTyS u.fr.kids)), v3)] = List.zipWith (tTm 31 36) (mM l k (j + 1)) vs := by
   rw [hms, <- zipWith_set1 hv1]
   simp only [tTm, MTm.ty_mk, MTm.fr_mk, MTm.kids_mk, MTy.kids_mk]
  have hrs : (List.zipWith rTm (mM l k j) vs).set j [.i kj, .str (mText (kj + 1)), .i ((kj + 2 : Nat) : Int), .i ((kj + 3 : Nat) : Int), .raw v1, .i ((kj + 4 + nTyS u.ty.kids : Nat) : Int), .raw v2, .i ((kj + 5 + nTyS u.ty.kids + nTyS u.fr.kids : Nat) : Int), .raw v3] = List.zipWith rTm (mM l k (j + 1)) vs := by
   rw [hms, <- zipWith_set1 hv1]
   simp only [rTm, MTm.kind_mk, MTm.name_mk, MTm.num_mk, MTm.ty_mk, MTm.fr_mk, MTm.label_mk, MTy.kind_mk]
  have hrl : (List.zipWith rTm (mM l k j) vs).length = l.length := by rw [List.length_zipWith, mM_len]; omega
  have hkj2 : ((k + cTmS (l.take (j + 1)) : Nat) : Int) = ((kj + 6 + nTyS u.ty.kids + nTyS u.fr.kids + cTmS u.kids : Nat) : Int) := by rw [hsu, hkj]; congr 1; omega
  have hct := markText_ok (kj + 1) (by omega) (by omega)
  have hc1 := markTypeS_tree u.ty.kids (kj + 4) (by omega) v1
  have hc2 := markTypeS_tree u.fr.kids (kj + 5 + nTyS u.ty.kids) (by omega) v2
  have hc3 := h u hum (kj + 6 + nTyS u.ty.kids + nTyS u.fr.kids) v3 (by omega)
  have hpm : (tsTm 31 36 (mM l k j) vs).Perm (((tyK 31 u.ty.kids, v1) :: (tyK 31 u.fr.kids, v2) :: (tmK 31 36 u.kids, v3) :: ((List.zipWith (tTm 31 36) (mM l k j) vs).eraseIdx j).flatten) ++ []) := by
   rw [List.append_nil]; exact flat_out hLat
  have hpi := flat_in [(tyK 31 (markS u.ty.kids (kj + 4)), v1), (tyK 31 (markS u.fr.kids (kj + 5 + nTyS u.ty.kids)), v2), (tmK 31 36 (markSm u.kids (kj + 6 + nTyS u.ty.kids + nTyS u.fr.kids)), v3)] hLl
  rw [hLset] at hpi
  refine TJ.less hpm ?_
  generalize ((List.zipWith (tTm 31 36) (mM l k j) vs).eraseIdx j).flatten = D at *
  rw [<- hkj] at *
  have hrjx := hrj
  obtain ⟨R, hR⟩ : ∃ R, R = List.zipWith rTm (mM l k j) vs := ⟨_, rfl⟩
  rw [<- hR] at hrj hrs hrl ⊢
  have hrj' : ∀ h, R[j]'h = rTm u (v1, v2, v3) := fun hh => by rw [List.getElem?_eq_getElem hh] at hrj; exact Option.some.inj hrj
  have hlt2 : j < R.length := by omega
  generalize nTyS u.ty.kids = na at *
  generalize nTyS u.fr.kids = nb at *
  generalize cTmS u.kids = nc at *
  rw [show ((kj + 5 + na : Nat) : Int) = (kj : Int) + 4 + (na : Int) + 1 by omega] at hc2
  rw [show ((kj + 6 + na + nb : Nat) : Int) = (kj : Int) + 5 + (na : Int) + (nb : Int) + 1 by omega] at hc3
  repeat' first | (refine aopsJ_end (hK _ _ ?_); clear hK K) | (refine aopsJ_go ?_; simp [hlt, hrl, hlt2, hrj']; (try simp (disch := omega) only [wrap64]); (try first | (refine OpsJ.gen fun q hq => ?_; cases q <;> (try simp [hlt, hrl, hlt2, hrj'] at hq) <;> (try (have hh : True := hq; clear hh hq))))) | (refine wpcallJ_pure rfl (hct) ?_; simp [hlt, hrl, hlt2, hrj']; (try simp (disch := omega) only [wrap64]); (try first | (refine OpsJ.gen fun q hq => ?_; cases q <;> (try simp [hlt, hrl, hlt2, hrj'] at hq) <;> (try (have hh : True := hq; clear hh hq))))) | (refine wpcallJ_mut (L2 := (tyK 31 u.fr.kids, v2) :: (tmK 31 36 u.kids, v3) :: D) ?_ ?_ (hc1) ?_; (focus (solve | exact .refl _)); (focus (solve | (repeat' first | exact FzVs.nil | apply FzVs.cons | apply FzV.c | apply FzV.agg | exact FzL.nil | apply FzL.cons | exact FzC.d | exact FzC.nil | exact FzC.np | (refine FzC.thaw' ?_ (tyK_dp _ _); (focus (solve | simp))) | (refine FzC.thaw' ?_ (tmK_dp _ _ _); (focus (solve | simp)))))); rintro _ _ ⟨rfl, rfl⟩; simp [hlt, hrl, hlt2, hrj']; (try simp (disch := omega) only [wrap64]); (try first | (refine OpsJ.gen fun q hq => ?_; cases q <;> (try simp [hlt, hrl, hlt2, hrj'] at hq) <;> (try (have hh : True := hq; clear hh hq))))) | (refine wpcallJ_mut (L2 := (tyK 31 (markS u.ty.kids (kj + 4)), v1) :: (tmK 31 36 u.kids, v3) :: D) ?_ ?_ (hc2) ?_; (focus (solve | exact List.Perm.swap _ _ _)); (focus (solve | (repeat' first | exact FzVs.nil | apply FzVs.cons | apply FzV.c | apply FzV.agg | exact FzL.nil | apply FzL.cons | exact FzC.d | exact FzC.nil | exact FzC.np | (refine FzC.thaw' ?_ (tyK_dp _ _); (focus (solve | simp))) | (refine FzC.thaw' ?_ (tmK_dp _ _ _); (focus (solve | simp)))))); rintro _ _ ⟨rfl, rfl⟩; simp [hlt, hrl, hlt2, hrj']; (try simp (disch := omega) only [wrap64]); (try first | (refine OpsJ.gen fun q hq => ?_; cases q <;> (try simp [hlt, hrl, hlt2, hrj'] at hq) <;> (try (have hh : True := hq; clear hh hq))))) | (refine wpcallJ_mut (L2 := (tyK 31 (markS u.fr.kids (kj + 5 + na)), v2) :: (tyK 31 (markS u.ty.kids (kj + 4)), v1) :: D) ?_ ?_ (hc3) ?_; (focus (solve | exact (List.Perm.cons _ (List.Perm.swap _ _ _)).trans (List.Perm.swap _ _ _))); (focus (solve | (repeat' first | exact FzVs.nil | apply FzVs.cons | apply FzV.c | apply FzV.agg | exact FzL.nil | apply FzL.cons | exact FzC.d | exact FzC.nil | exact FzC.np | (refine FzC.thaw' ?_ (tyK_dp _ _); (focus (solve | simp))) | (refine FzC.thaw' ?_ (tmK_dp _ _ _); (focus (solve | simp)))))); rintro _ _ ⟨rfl, rfl⟩; simp [hlt, hrl, hlt2, hrj']; (try simp (disch := omega) only [wrap64]); (try first | (refine OpsJ.gen fun q hq => ?_; cases q <;> (try simp [hlt, hrl, hlt2, hrj'] at hq) <;> (try (have hh : True := hq; clear hh hq))))) | refine TJ.rs (fun _ => false) fun K hK => ?_ | refine TJ.rs1 (fun _ => false) fun K hK => ?_ | refine TJ.cond rfl (fun hcnd => ?_) (fun hcnd => absurd hcnd (by decide)) | refine TJ.seq ?_ | refine TJ.block ?_ | refine TJ.skip ?_
  refine ⟨j + 1, [], by dsimp only; omega, by dsimp only; omega, ?_, ?_⟩
  ·dsimp only
   rw [<- hrs, hkj2]
   simp (disch := omega) [wrap64]
   simp [Int.add_assoc]
  ·dsimp only
   rw [List.append_nil]
   refine List.Perm.trans ?_ hpi
   exact (List.reverse_perm [(tyK 31 (markS u.ty.kids (kj + 4)), v1), (tyK 31 (markS u.fr.kids (kj + 5 + na)), v2), (tmK 31 36 (markSm u.kids (kj + 6 + na + nb)), v3)]).append_right D
 ·have hp' : j = l.length := by omega
  subst hp'
  rw [mM_all, List.take_length]
  repeat' first | (refine aopsJ_end (hK _ _ ?_); clear hK K) | (refine aopsJ_go ?_; simp [hlt]; (try first | (refine OpsJ.gen fun q hq => ?_; cases q <;> (try simp [hlt] at hq) <;> (try (have hh : True := hq; clear hh hq))))) | refine TJ.rs (fun _ => false) fun K hK => ?_ | refine TJ.cond rfl (fun hcnd => absurd hcnd (by decide)) (fun hcnd => ?_) | refine TJ.seq ?_ | refine TJ.exit ?_
  refine TJ.ret (DoneA.one (r := .i ((k + cTmS l : Nat) : Int)) (Or.inr rfl) (by simp [Try.results31]) (by simp [DV.scal]) rfl ?_ (mk_tmRows 31 36 (l := markSm l k) (by rw [markSm_len]; exact hv)) (M := []) (by simp [tsTm]) ⟨rfl, rfl⟩)
  rw [List.length_zipWith, markSm_len]; omega

theorem markTermS_tree : (l : List MTm) -> (k : Nat) -> k + cTmS l <= 1099511627776 -> (v : Value) -> FCalls Try.prog 31 [.c (.d (.raw v)), .i (k : Int)] [(tmK 31 36 l, v)] fun r L' => r = .i ((k + cTmS l : Nat) : Int) /\ L' = [(tmK 31 36 (markSm l k), v)]
 | l, k, hk, v => markTermS_tree_step l k hk (by have := cTmS_len l; omega) (fun t ht k v hk => markTermS_tree t.kids k hk v) v
termination_by l => SizeOf.sizeOf l
decreasing_by have := List.sizeOf_lt_of_mem ht; cases t; simp at *; omega

theorem markTerm_tree (e : MTm) (k : Nat) (hk : k + cTm e <= 1099511627776) (v : V3) : FCalls Try.prog 14 [.agg ((rTm e v).map CV.d), .i (k : Int)] (tTm 31 36 e v) fun r L' => r = .i ((k + nTyS e.ty.kids + nTyS e.fr.kids + cTmS e.kids : Nat) : Int) /\
  L' = tTm 31 36 (.mk e.kind e.name e.num (.mk e.ty.kind (markS e.ty.kids k)) (.mk e.fr.kind (markS e.fr.kids (k + nTyS e.ty.kids))) e.label (markSm e.kids (k + nTyS e.ty.kids + nTyS e.fr.kids))) v := by
 obtain ⟨v1, v2, v3⟩ := v
 rw [cTm_def] at hk
 have hc1 := markType_tree e.ty k (by omega) v1
 have hc2 := markType_tree e.fr (k + nTyS e.ty.kids) (by omega) v2
 have hc3 := markTermS_tree e.kids (k + nTyS e.ty.kids + nTyS e.fr.kids) (by omega) v3
 simp only [tTm, MTm.ty_mk, MTm.fr_mk, MTm.kids_mk, MTy.kids_mk]
 generalize k + nTyS e.ty.kids + nTyS e.fr.kids = k3 at *
 generalize k + nTyS e.ty.kids = k2 at *
 generalize k3 + cTmS e.kids = k4 at *
 refine FCalls.of_body Try.func14 (by kernel_rfl) rfl (by kernel_rfl) (by simp [Try.ntmps14]) ?_
 rw [Try.ntmps14]
 repeat' first | (refine aopsJ_end (hK _ _ ?_); clear hK K) | (refine aopsJ_go ?_; simp; (try first | (refine OpsJ.gen fun q hq => ?_; cases q <;> (try simp at hq) <;> (try (have hh : True := hq; clear hh hq))))) | (refine wpcallJ_mut (L2 := (tyK 31 e.fr.kids, v2) :: (tmK 31 36 e.kids, v3) :: []) ?_ ?_ (hc1) ?_; (focus (solve | exact .refl _)); (focus (solve | (repeat' first | exact FzVs.nil | apply FzVs.cons | apply FzV.c | apply FzV.agg | exact FzL.nil | apply FzL.cons | exact FzC.d | exact FzC.nil | exact FzC.np | (refine FzC.thaw' ?_ (tyK_dp _ _); (focus (solve | simp))) | (refine FzC.thaw' ?_ (tmK_dp _ _ _); (focus (solve | simp)))))); rintro _ _ ⟨rfl, rfl⟩; simp; (try first | (refine OpsJ.gen fun q hq => ?_; cases q <;> (try simp at hq) <;> (try (have hh : True := hq; clear hh hq))))) | (refine wpcallJ_mut (L2 := (tyK 31 (markS e.ty.kids k), v1) :: (tmK 31 36 e.kids, v3) :: []) ?_ ?_ (hc2) ?_; (focus (solve | exact List.Perm.swap _ _ _)); (focus (solve | (repeat' first | exact FzVs.nil | apply FzVs.cons | apply FzV.c | apply FzV.agg | exact FzL.nil | apply FzL.cons | exact FzC.d | exact FzC.nil | exact FzC.np | (refine FzC.thaw' ?_ (tyK_dp _ _); (focus (solve | simp))) | (refine FzC.thaw' ?_ (tmK_dp _ _ _); (focus (solve | simp)))))); rintro _ _ ⟨rfl, rfl⟩; simp; (try first | (refine OpsJ.gen fun q hq => ?_; cases q <;> (try simp at hq) <;> (try (have hh : True := hq; clear hh hq))))) | (refine wpcallJ_mut (L2 := (tyK 31 (markS e.fr.kids k2), v2) :: (tyK 31 (markS e.ty.kids k), v1) :: []) ?_ ?_ (hc3) ?_; (focus (solve | exact (List.Perm.cons _ (List.Perm.swap _ _ _)).trans (List.Perm.swap _ _ _))); (focus (solve | (repeat' first | exact FzVs.nil | apply FzVs.cons | apply FzV.c | apply FzV.agg | exact FzL.nil | apply FzL.cons | exact FzC.d | exact FzC.nil | exact FzC.np | (refine FzC.thaw' ?_ (tyK_dp _ _); (focus (solve | simp))) | (refine FzC.thaw' ?_ (tmK_dp _ _ _); (focus (solve | simp)))))); rintro _ _ ⟨rfl, rfl⟩; simp; (try first | (refine OpsJ.gen fun q hq => ?_; cases q <;> (try simp at hq) <;> (try (have hh : True := hq; clear hh hq))))) | refine TJ.rs (fun _ => false) fun K hK => ?_
 refine TJ.ret (DoneJ.agg (Or.inr rfl) (r := .i k4) (r' := .i k4) (L' := [(tyK 31 (markS e.ty.kids k), v1), (tyK 31 (markS e.fr.kids k2), v2), (tmK 31 36 (markSm e.kids k3), v3)]) (M := []) (by simp [Try.results14]) (by simp [DV.scal]) ?_ ⟨rfl, rfl⟩)
 rw [List.append_nil]
 exact (List.reverse_perm _).symm
end Go.Proofs.Ytgpgcnahoieedaa

namespace Go.Proofs.Ytgpgcnahoieedaa
attribute [-simp] Go.Av.callJ
open Go Go.Av
attribute [local irreducible] T ACalls TX EX LX Draws Some_ ACallsX eTy eTm MTy.kind MTy.kids MTm.kind MTm.name MTm.num MTm.ty MTm.fr MTm.label MTm.kids
attribute [local simp] eTy_def eTm_def
set_option maxHeartbeats 16000000
set_option maxRecDepth 8000

theorem heldTermS_step (l : List MTm) (k : Nat) (hk : k + cTmS l <= 1099511627776) (h : ∀ t ∈ l, ∀ (k : Nat), k + cTmS t.kids <= 1099511627776 -> ACalls Try.prog 32 [.l ((markSm t.kids k).map eTm), .i (k : Int)] [] (.i ((k + cTmS t.kids : Nat) : Int)) [] []) :
  ACalls Try.prog 32 [.l ((markSm l k).map eTm), .i (k : Int)] [] (.i ((k + cTmS l : Nat) : Int)) [] [] := by
 have hlen := cTmS_len l
 obtain ⟨Z, hZ⟩ : ∃ Z, Z = markSm l k := ⟨_, rfl⟩
 have hZl : Z.length = l.length := by rw [hZ, markSm_len]
 rw [<- hZ]
 refine ACalls.of_body Try.func32 (by kernel_rfl) rfl (by kernel_rfl) (by simp [Try.ntmps32]) (by simp) ?_
 rw [Try.ntmps32]
 repeat' first | (refine aops_end (hK _ ?_); clear hK K) | (refine aops_go ?_; simp; (try (refine gen fun q hq => ?_; cases q <;> (try simp at hq) <;> (try (have hh : True := hq; clear hh hq))))) | refine T.r0 fun K hK => ?_ | refine T.seq ?_ | refine T.block ?_
 refine T.loopK (α := Nat) [0] (fun j => [(1, .i ((k + cTmS (l.take j) : Nat) : Int)), (5, .i j)]) (fun _ => []) (fun _ => []) (fun j _ => []) (fun j => l.length + 1 - j) (fun j => j <= l.length) (by simp; rfl) (fun j hj => ?_) 0 (by simp) (by simp) (by simp) (by simp [cTmS])
 dsimp only at hj ⊢
 simp only [ups, List.cons_append, List.nil_append]
 by_cases hlt : j < l.length
 ·obtain ⟨u, hu⟩ := get_lt hlt
  have hum : u ∈ l := List.mem_of_getElem? hu
  have hle := cTmS_take_le l (j + 1)
  have hsu := cTmS_take_succ hu
  rw [cTm_def] at hsu
  have hZj : Z[j]? = some (markRm u (k + cTmS (l.take j))) := by rw [hZ]; exact markSm_at hu
  obtain ⟨kj, hkj⟩ : ∃ kj, kj = k + cTmS (l.take j) := ⟨_, rfl⟩
  have hkj2 : ((k + cTmS (l.take (j + 1)) : Nat) : Int) = ((kj + 6 + nTyS u.ty.kids + nTyS u.fr.kids + cTmS u.kids : Nat) : Int) := by rw [hsu, hkj]; congr 1; omega
  rw [<- hkj] at hZj ⊢
  have hct := markText_ok (kj + 1) (by omega) (by omega)
  have hc1 := heldTypeS_ok u.ty.kids (kj + 4) (by omega)
  have hc2 := heldTypeS_ok u.fr.kids (kj + 5 + nTyS u.ty.kids) (by omega)
  have hc3 := h u hum (kj + 6 + nTyS u.ty.kids + nTyS u.fr.kids) (by omega)
  have hgt : ∀ h, Z[j]'h = markRm u kj := fun hh => by rw [List.getElem?_eq_getElem hh] at hZj; exact Option.some.inj hZj
  rw [markRm_def] at hgt
  generalize markS u.ty.kids (kj + 4) = q1 at *
  generalize markS u.fr.kids (kj + 5 + nTyS u.ty.kids) = q2 at *
  generalize markSm u.kids (kj + 6 + nTyS u.ty.kids + nTyS u.fr.kids) = q3 at *
  generalize nTyS u.ty.kids = na at *
  generalize nTyS u.fr.kids = nb at *
  generalize cTmS u.kids = nc at *
  rw [show ((kj + 5 + na : Nat) : Int) = (kj : Int) + 4 + (na : Int) + 1 by omega] at hc2
  rw [show ((kj + 6 + na + nb : Nat) : Int) = (kj : Int) + 5 + (na : Int) + (nb : Int) + 1 by omega] at hc3
  have f1 : ¬ ((kj : Int) + 4 + na < 0) := by omega
  have f2 : ¬ ((kj : Int) + 5 + na + nb < 0) := by omega
  have f3 : ¬ ((kj : Int) + 6 + na + nb + nc < 0) := by omega
  have f4 : ((kj : Int) + 2 = kj + 1 + 1) := by omega
  have f5 : ((kj : Int) + 3 = kj + 1 + 1 + 1) := by omega
  repeat' first | ((first | refine aops_end (hK _ ?_) | refine aopsD_end (hK _ ?_)); clear hK K) | ((first | refine aops_go ?_ | refine aopsD_go ?_); simp [hlt, hZl, hgt, f1, f2, f3, f4, f5]; (try simp (disch := omega) only [wrap64]); (try (refine gen fun q hq => ?_; cases q <;> (try simp [hlt, hZl, hgt, f1, f2, f3, f4, f5] at hq) <;> (try (have hh : True := hq; clear hh hq))))) | (refine wpcall_pure rfl (hct) ?_; simp [hlt, hZl, hgt, f1, f2, f3, f4, f5]; (try simp (disch := omega) only [wrap64]); (try (refine gen fun q hq => ?_; cases q <;> (try simp [hlt, hZl, hgt, f1, f2, f3, f4, f5] at hq) <;> (try (have hh : True := hq; clear hh hq))))) | (refine wpcall_pure rfl (hc1) ?_; simp [hlt, hZl, hgt, f1, f2, f3, f4, f5]; (try simp (disch := omega) only [wrap64]); (try (refine gen fun q hq => ?_; cases q <;> (try simp [hlt, hZl, hgt, f1, f2, f3, f4, f5] at hq) <;> (try (have hh : True := hq; clear hh hq))))) | (refine wpcall_pure rfl (hc2) ?_; simp [hlt, hZl, hgt, f1, f2, f3, f4, f5]; (try simp (disch := omega) only [wrap64]); (try (refine gen fun q hq => ?_; cases q <;> (try simp [hlt, hZl, hgt, f1, f2, f3, f4, f5] at hq) <;> (try (have hh : True := hq; clear hh hq))))) | (refine wpcall_pure rfl (hc3) ?_; simp [hlt, hZl, hgt, f1, f2, f3, f4, f5]; (try simp (disch := omega) only [wrap64]); (try (refine gen fun q hq => ?_; cases q <;> (try simp [hlt, hZl, hgt, f1, f2, f3, f4, f5] at hq) <;> (try (have hh : True := hq; clear hh hq))))) | (refine ⟨j + 1, by dsimp only; omega, by dsimp only; omega, ?_⟩; (dsimp only; rw [hkj2]; simp (disch := omega) [wrap64])) | refine T.rd (id := 7) mixed (fun _ => false) [] (by kernel_rfl) fun K hK => ?_ | refine T.r0 fun K hK => ?_ | refine T.r1 fun K hK => ?_ | refine T.ct rfl ?_ | refine T.cf rfl ?_ | refine T.seq ?_ | refine T.block ?_ | refine T.skip ?_
 ·have hp' : j = l.length := by omega
  subst hp'
  repeat' first | (refine aops_end (hK _ ?_); clear hK K) | (refine aops_go ?_; simp [hlt, hZl]; (try (refine gen fun q hq => ?_; cases q <;> (try simp [hlt, hZl] at hq) <;> (try (have hh : True := hq; clear hh hq))))) | (refine T.ret (Done.data (Or.inr rfl) ?_ ?_) <;> simp [Try.results32] <;> omega) | refine T.r0 fun K hK => ?_ | refine T.cf rfl ?_ | refine T.seq ?_ | refine T.exit ?_

theorem heldTermS_ok : (l : List MTm) -> (k : Nat) -> k + cTmS l <= 1099511627776 -> ACalls Try.prog 32 [.l ((markSm l k).map eTm), .i (k : Int)] [] (.i ((k + cTmS l : Nat) : Int)) [] []
 | l, k, hk => heldTermS_step l k hk (fun t ht k hk => heldTermS_ok t.kids k hk)
termination_by l => SizeOf.sizeOf l
decreasing_by have := List.sizeOf_lt_of_mem ht; cases t; simp at *; omega

def markE (e : MTm) (k : Nat) : MTm := .mk e.kind e.name e.num (.mk e.ty.kind (markS e.ty.kids k)) (.mk e.fr.kind (markS e.fr.kids (k + nTyS e.ty.kids))) e.label (markSm e.kids (k + nTyS e.ty.kids + nTyS e.fr.kids))
end Go.Proofs.Ytgpgcnahoieedaa

namespace Go.Proofs.Ytgpgcnahoieedaa
open Go Go.Av
attribute [local irreducible] T ACalls TX EX LX Draws Some_ ACallsX eTy eTm MTy.kind MTy.kids MTm.kind MTm.name MTm.num MTm.ty MTm.fr MTm.label MTm.kids
attribute [local simp] eTy_def eTm_def
set_option maxHeartbeats 16000000
set_option maxRecDepth 8000
attribute [local irreducible] TJ FCalls tyK tyRows tmK tmRows

theorem nTmS_bound (B : Nat) : ∀ (l : List MTm), (∀ t ∈ l, nTm t <= B) -> nTmS l <= l.length * (B + 1)
 | [], _ => by simp [nTmS]
 | t :: r, h => by
  have h1 := h t (by simp)
  have h2 := nTmS_bound B r fun u hu => h u (by simp [hu])
  rw [nTmS, List.length_cons, Nat.add_mul, Nat.one_mul]; omega

theorem RefineTerm_tree (e : MTm) (hn : nTm e <= 1099511627776) : FCalls Try.prog 29 [aTm e] [] fun r L' => ∃ v, r = .c (.d (.raw v)) /\ L' = [(tmK 31 36 (refineTm e), v)] := by
 have h1 := TermValid_ok e hn
 simp only [refineTm]
 cases hv : termValidM e with
 | false =>
  rw [hv] at h1
  simp only [Bool.false_eq_true, if_false]
  refine FCalls.of_body Try.func29 (by kernel_rfl) rfl (by kernel_rfl) (by simp [Try.ntmps29]) ?_
  rw [Try.ntmps29]
  repeat' first | (refine aopsJ_end (hK _ _ ?_); clear hK K) | (refine aopsJ_go ?_; simp; (try first | (refine OpsJ.gen fun q hq => ?_; cases q <;> (try simp at hq) <;> (try (have hh : True := hq; clear hh hq))))) | (refine wpcallJ_pure rfl (h1) ?_; simp; (try first | (refine OpsJ.gen fun q hq => ?_; cases q <;> (try simp at hq) <;> (try (have hh : True := hq; clear hh hq))))) | refine TJ.rs (fun _ => false) fun K hK => ?_ | refine TJ.cond rfl (fun hcnd => ?_) (fun hcnd => absurd hcnd (by decide)) | refine TJ.seq ?_
  refine TJ.ret ?_; (repeat first | refine ThenJ.ret ?_ | refine InBlockJ.ret ?_); refine (DoneJ.nils (rs := [.c .nil]) (rs' := [.c (.d (.raw nul))]) (Ln := [(tmK 31 36 [], nul)]) (Or.inr rfl) (by simp [Try.results29]) (by simp) (fun p hp => by simp at hp; subst hp; exact ⟨36, 9, by rw [tmK_unf]; simp [tmRows]⟩) ⟨nul, rfl, rfl⟩)
 | true =>
  rw [hv] at h1
  have h2 := refinements_tree e hv 1048576 (by omega)
  rw [List.take_of_length_le (by have := (refine_small hv).1; omega)] at h2
  simp only [if_true]
  generalize refineM e = R at *
  refine FCalls.of_body Try.func29 (by kernel_rfl) rfl (by kernel_rfl) (by simp [Try.ntmps29]) ?_
  rw [Try.ntmps29]
  repeat' first | (refine aopsJ_end (hK _ _ ?_); clear hK K) | (refine aopsJ_go ?_; simp; (try first | (refine OpsJ.gen fun q hq => ?_; cases q <;> (try simp at hq) <;> (try (have hh : True := hq; clear hh hq))))) | (refine wpcallJ_pure rfl (h1) ?_; simp; (try first | (refine OpsJ.gen fun q hq => ?_; cases q <;> (try simp at hq) <;> (try (have hh : True := hq; clear hh hq))))) | (refine wpcallJ_new ?_ (h2) ?_; (focus (solve | (repeat' first | exact FzVs.nil | apply FzVs.cons | apply FzV.c | apply FzV.agg | exact FzL.nil | apply FzL.cons | exact FzC.d | exact FzC.nil | exact FzC.np | exact FzC.fn | (refine FzC.thaw' ?_ (tyK_dp 31 _); (focus (solve | simp [tTm]))) | (refine FzC.thaw' ?_ (tmK_dp 31 36 _); (focus (solve | simp [tTm])))))); rintro _ _ ⟨v, rfl, rfl⟩; simp; (try first | (refine OpsJ.gen fun q hq => ?_; cases q <;> (try simp at hq) <;> (try (have hh : True := hq; clear hh hq))))) | refine TJ.rs (fun _ => false) fun K hK => ?_ | refine TJ.cond rfl (fun hcnd => absurd hcnd (by decide)) (fun hcnd => ?_) | refine TJ.seq ?_ | refine TJ.skip ?_
  refine TJ.ret (DoneJ.tup (rs := [.c (.d (.raw v))]) (rs' := [.c (.d (.raw v))]) (L' := [(tmK 31 36 R, v)]) (M := []) (Or.inr rfl) (by simp [Try.results29]) (by simp [DV.scal]) (by simp) ⟨v, rfl, rfl⟩)

theorem lawExactRefineTerm_ok (e : MTm) (hw : wTm e) : ACalls Try.prog 7 [aTm e] [] (.b true) [] [] := by
 have hsz := szTerm_ok e hw 1048576 (by omega) (by omega)
 by_cases hn : nTm e <= 1048576
 rotate_left
 ·rw [show szM (nTm e) 1048576 = -1 by simp only [szM]; rw [if_neg (by omega)]] at hsz
  refine ACalls.of_body Try.func7 (by kernel_rfl) rfl (by kernel_rfl) (by simp [Try.ntmps7]) (by simp) ?_
  rw [Try.ntmps7]
  repeat' first | (refine aops_end (hK _ ?_); clear hK K) | (refine aops_go ?_; simp; (try (refine gen fun q hq => ?_; cases q <;> (try simp at hq) <;> (try (have hh : True := hq; clear hh hq))))) | (refine wpcall_pure rfl (hsz) ?_; simp; (try (refine gen fun q hq => ?_; cases q <;> (try simp at hq) <;> (try (have hh : True := hq; clear hh hq))))) | (refine T.ret (Done.data (Or.inr rfl) ?_ ?_) <;> simp [Try.results7] <;> omega) | refine T.r0 fun K hK => ?_ | refine T.ct rfl ?_ | refine T.seq ?_
 have hpos : ¬ szM (nTm e) 1048576 < 0 := by simp only [szM]; rw [if_pos (by omega)]; omega
 have hce := cTm_le e
 have hto := toTerm_ok e hn
 have htr := toTerm_tree e hn
 have heq := eqTerm_ok e hn
 have h1 := RefineTermS_ok e (by omega)
 have h2 := RefineTerm_tree e (by omega)
 have hm1 := fun v => markTerm_tree e 1 (by omega) v
 obtain ⟨hRl, hRn⟩ : (refineTm e).length <= 1800 /\ ∀ t ∈ refineTm e, nTm t <= 9000 := by
  simp only [refineTm]
  cases hv : termValidM e with
  | false => simp
  | true =>
   simp only [if_true]
   exact ⟨(refine_small hv).1, fun t ht => valid_small (refine_law hv ht).1⟩
 generalize refineTm e = R at *
 have hRs := nTmS_bound 9000 R hRn
 have hRc := cTmS_le R
 have heX := eqTermS_step R (by omega) (fun t ht => eqTerm_ok t (by have := hRn t ht; omega))
 have hm2 := fun v => markTermS_tree R 1 (by omega) v
 have hh2 := heldTermS_ok R 1 (by omega)
 generalize 1 + cTmS R = n2 at hm2 hh2
 have f2 : ¬ ((n2 : Int) < 0) := by omega
 generalize (1 + nTyS e.ty.kids + nTyS e.fr.kids + cTmS e.kids) = n1 at hm1
 have f1 : ¬ ((n1 : Int) < 0) := by omega
 generalize szM (nTm e) 1048576 = z at hsz hpos
 refine FCalls.plain ?_
 refine FCalls.of_body Try.func7 (by kernel_rfl) rfl (by kernel_rfl) (by simp [Try.ntmps7]) ?_
 rw [Try.ntmps7]
 repeat' first | (refine aopsJ_end (hK _ _ ?_); clear hK K) | (refine aopsJ_go ?_; simp [hpos]) | (refine wpcallJ_pure rfl (hsz) ?_; simp [hpos]) | (refine wpcallJ_pure rfl (hto) ?_; simp [hpos]) | (refine wpcallJ_pure rfl (h1) ?_; simp [hpos]) | refine TJ.rs (id := 0) (fun _ => false) fun K hK => ?_ | refine TJ.rs (id := 1) (fun _ => false) fun K hK => ?_ | refine TJ.rs (id := 2) (fun _ => false) fun K hK => ?_ | refine TJ.rs (id := 3) (fun _ => false) fun K hK => ?_ | refine TJ.rs (id := 5) (fun _ => false) fun K hK => ?_ | refine TJ.cond rfl (fun hcnd => absurd hcnd (by decide)) (fun hcnd => ?_) | refine TJ.seq ?_ | refine TJ.skip ?_
 repeat' first | (refine aopsJ_end (hK _ _ ?_); clear hK K) | (refine aopsJ_go ?_; simp [hpos]) | (refine wpcallJ_new ?_ (htr) ?_; (focus (solve | (repeat' first | exact FzVs.nil | apply FzVs.cons | apply FzV.c | apply FzV.agg | exact FzL.nil | apply FzL.cons | exact FzC.d | exact FzC.nil | exact FzC.np | exact FzC.fn | (refine FzC.thaw' ?_ (tyK_dp 31 _); (focus (solve | simp [tTm]))) | (refine FzC.thaw' ?_ (tmK_dp 31 36 _); (focus (solve | simp [tTm])))))); rintro _ _ ⟨⟨v1, v2, v3⟩, rfl, rfl⟩; simp [hpos]) | refine TJ.rs1 (id := 6) (fun _ => false) fun K hK => ?_ | refine TJ.seq ?_
 have hmx := hm1 (v1, v2, v3)
 repeat' first | (refine aopsJ_end (hK _ _ ?_); clear hK K) | (refine aopsJ_go ?_; simp [hpos]) | (refine wpcallJ_new ?_ (h2) ?_; (focus (solve | (repeat' first | exact FzVs.nil | apply FzVs.cons | apply FzV.c | apply FzV.agg | exact FzL.nil | apply FzL.cons | exact FzC.d | exact FzC.nil | exact FzC.np | exact FzC.fn | (refine FzC.thaw' ?_ (tyK_dp 31 _); (focus (solve | simp [tTm]))) | (refine FzC.thaw' ?_ (tmK_dp 31 36 _); (focus (solve | simp [tTm])))))); rintro _ _ ⟨w, rfl, rfl⟩; simp [hpos]) | refine TJ.rs1 (id := 7) (fun _ => false) fun K hK => ?_ | refine TJ.seq ?_
 have hmy := hm2 w
 repeat' first | (refine aopsJ_end (hK _ _ ?_); clear hK K) | (refine aopsJ_go ?_; simp [hpos]) | (refine aopsP_end (hK _ _ ?_); clear hK K) | (refine aopsP_go rfl ?_; simp [hpos]) | (refine aopsP_call rfl ?_; simp [hpos]) | (refine wpcallP_scal ?_ (heq) rfl ?_; (focus (solve | (repeat' first | exact FzVs.nil | apply FzVs.cons | apply FzV.c | apply FzV.agg | exact FzL.nil | apply FzL.cons | exact FzC.d | exact FzC.nil | exact FzC.np | exact FzC.fn | (refine FzC.thaw' ?_ (tyK_dp 31 _); (focus (solve | simp [tTm]))) | (refine FzC.thaw' ?_ (tmK_dp 31 36 _); (focus (solve | simp [tTm])))))); (try (simp [hpos]))) | (refine wpcall_pure rfl (hto) ?_; simp [hpos]) | (refine wpcallJ_scal ?_ (heX) rfl ?_; (focus (solve | (repeat' first | exact FzVs.nil | apply FzVs.cons | apply FzV.c | apply FzV.agg | exact FzL.nil | apply FzL.cons | exact FzC.d | exact FzC.nil | exact FzC.np | exact FzC.fn | (refine FzC.thaw' ?_ (tyK_dp 31 _); (focus (solve | simp [tTm]))) | (refine FzC.thaw' ?_ (tmK_dp 31 36 _); (focus (solve | simp [tTm])))))); simp [hpos]) | (refine TJ.rdP (id := 10) mixed [0, 1, 2, 3, 4] (fun _ => false) [] [3] (by kernel_rfl) (by kernel_rfl) (by kernel_rfl) fun K hK => ?_; simp only [pickOps, List.map_cons, List.map_nil, List.getD_cons_zero, List.getD_cons_succ]) | refine TJ.rs1 (id := 8) (fun _ => false) fun K hK => ?_ | refine TJ.rs (id := 12) (fun _ => false) fun K hK => ?_ | refine TJ.cond rfl (fun hcnd => absurd hcnd (by decide)) (fun hcnd => ?_) | refine TJ.seq ?_ | refine TJ.skip ?_
 repeat' first | (refine aopsJ_end (hK _ _ ?_); clear hK K) | (refine aopsJ_go ?_; simp [hpos]) | (refine wpcallJ_mut (L2 := [(tmK 31 36 R, w)]) ?_ ?_ (hmx) ?_; (focus (solve | exact List.perm_append_comm (l₁ := [_]))); (focus (solve | (repeat' first | exact FzVs.nil | apply FzVs.cons | apply FzV.c | apply FzV.agg | exact FzL.nil | apply FzL.cons | exact FzC.d | exact FzC.nil | exact FzC.np | exact FzC.fn | (refine FzC.thaw' ?_ (tyK_dp 31 _); (focus (solve | simp [tTm]))) | (refine FzC.thaw' ?_ (tmK_dp 31 36 _); (focus (solve | simp [tTm])))))); rintro _ _ ⟨rfl, rfl⟩; simp [hpos]) | refine TJ.rs1 (id := 13) (fun _ => false) fun K hK => ?_ | refine TJ.seq ?_
 repeat' first | (refine aopsJ_end (hK _ _ ?_); clear hK K) | (refine aopsJ_go ?_; simp [hpos, f1, f2]) | (refine wpcallJ_scal ?_ (heX) rfl ?_; (focus (solve | (repeat' first | exact FzVs.nil | apply FzVs.cons | apply FzV.c | apply FzV.agg | exact FzL.nil | apply FzL.cons | exact FzC.d | exact FzC.nil | exact FzC.np | exact FzC.fn | (refine FzC.thaw' ?_ (tyK_dp 31 _); (focus (solve | simp [tTm]))) | (refine FzC.thaw' ?_ (tmK_dp 31 36 _); (focus (solve | simp [tTm])))))); simp [hpos, f1, f2]) | refine TJ.rs1 (id := 14) (fun _ => false) fun K hK => ?_ | refine TJ.rs (id := 16) (fun _ => false) fun K hK => ?_ | refine TJ.cond rfl (fun hcnd => absurd hcnd (by decide)) (fun hcnd => ?_) | refine TJ.seq ?_ | refine TJ.skip ?_
 repeat' first | (refine aopsJ_end (hK _ _ ?_); clear hK K) | (refine aopsJ_go ?_; simp [hpos, f1, f2]) | (refine wpcallJ_mut (L2 := [(tyK 31 (markS e.ty.kids 1), v1), (tyK 31 (markS e.fr.kids (1 + nTyS e.ty.kids)), v2), (tmK 31 36 (markSm e.kids (1 + nTyS e.ty.kids + nTyS e.fr.kids)), v3)]) ?_ ?_ (hmy) ?_; (focus (solve | exact List.perm_append_comm (l₁ := [_, _, _]))); (focus (solve | (repeat' first | exact FzVs.nil | apply FzVs.cons | apply FzV.c | apply FzV.agg | exact FzL.nil | apply FzL.cons | exact FzC.d | exact FzC.nil | exact FzC.np | exact FzC.fn | (refine FzC.thaw' ?_ (tyK_dp 31 _); (focus (solve | simp [tTm]))) | (refine FzC.thaw' ?_ (tmK_dp 31 36 _); (focus (solve | simp [tTm])))))); rintro _ _ ⟨rfl, rfl⟩; simp [hpos, f1, f2]) | refine TJ.rs1 (id := 17) (fun _ => false) fun K hK => ?_ | refine TJ.seq ?_
 repeat' first | (refine aopsJ_end (hK _ _ ?_); clear hK K) | (refine aopsJ_go ?_; simp [hpos, f1, f2]) | (refine wpcallJ_pure rfl (hto) ?_; simp [hpos, f1, f2]) | (refine wpcallJ_scal ?_ (hh2) rfl ?_; (focus (solve | (repeat' first | exact FzVs.nil | apply FzVs.cons | apply FzV.c | apply FzV.agg | exact FzL.nil | apply FzL.cons | exact FzC.d | exact FzC.nil | exact FzC.np | exact FzC.fn | (refine FzC.thaw' ?_ (tyK_dp 31 _); (focus (solve | simp [tTm]))) | (refine FzC.thaw' ?_ (tmK_dp 31 36 _); (focus (solve | simp [tTm])))))); simp [hpos, f1, f2]) | (refine wpcallJ_scal ?_ (heX) rfl ?_; (focus (solve | (repeat' first | exact FzVs.nil | apply FzVs.cons | apply FzV.c | apply FzV.agg | exact FzL.nil | apply FzL.cons | exact FzC.d | exact FzC.nil | exact FzC.np | exact FzC.fn | (refine FzC.thaw' ?_ (tyK_dp 31 _); (focus (solve | simp [tTm]))) | (refine FzC.thaw' ?_ (tmK_dp 31 36 _); (focus (solve | simp [tTm])))))); simp [hpos, f1, f2]) | (refine wpcallJ_new ?_ (h2) ?_; (focus (solve | (repeat' first | exact FzVs.nil | apply FzVs.cons | apply FzV.c | apply FzV.agg | exact FzL.nil | apply FzL.cons | exact FzC.d | exact FzC.nil | exact FzC.np | exact FzC.fn | (refine FzC.thaw' ?_ (tyK_dp 31 _); (focus (solve | simp [tTm]))) | (refine FzC.thaw' ?_ (tmK_dp 31 36 _); (focus (solve | simp [tTm])))))); rintro _ _ ⟨u, rfl, rfl⟩; simp [hpos, f1, f2]) | (refine TJ.ret (DoneJ.eq (Or.inr rfl) ?_ ?_) <;> simp [Try.results7, DV.scal]) | refine TJ.rs (fun _ => false) fun K hK => ?_ | refine TJ.rs1 (fun _ => false) fun K hK => ?_ | refine TJ.cond rfl (fun hcnd => absurd hcnd (by decide)) (fun hcnd => ?_) | refine TJ.seq ?_ | refine TJ.skip ?_
end Go.Proofs.Ytgpgcnahoieedaa
