/- A part of the library of this seat: a value-semantic program logic over the model, plain models, and walks of functions. -/
import Derived.Test.YtbakdfnmippcoaaF16
set_option linter.unusedVariables false
set_option linter.unusedSimpArgs false
namespace Go.Proofs.Ytbakdfnmippcoaa
open Go Go.Av
attribute [local irreducible] T ACalls TX EX LX Draws Some_ ACallsX eTy eTm MTy.kind MTy.kids MTm.kind MTm.name MTm.num MTm.ty MTm.fr MTm.label MTm.kids
attribute [local simp] eTy_def eTm_def
set_option maxHeartbeats 16000000
set_option maxRecDepth 8000
attribute [local irreducible] TJ FCalls tyK tyRows tmK tmRows

/-- Trees of no row. -/
theorem nilsTm : Nils (tTm 31 34 zeroE (.slice none 0 0, .slice none 0 0, .slice none 0 0)) := fun p hp => by
  simp only [tTm, MTm.ty_mk, MTm.fr_mk, MTm.kids_mk, zeroT_kids, List.mem_cons, List.not_mem_nil, or_false] at hp
  rcases hp with rfl | rfl | rfl
  · exact ⟨31, 2, by rw [tyK_unf]; simp [tyRows]⟩
  · exact ⟨31, 2, by rw [tyK_unf]; simp [tyRows]⟩
  · exact ⟨34, 9, by rw [tmK_unf]; simp [tmRows]⟩
abbrev nul : Value := .slice none 0 0

end Go.Proofs.Ytbakdfnmippcoaa

namespace Go.Proofs.Ytbakdfnmippcoaa
open Go Go.Av
attribute [local irreducible] T ACalls TX EX LX Draws Some_ ACallsX eTy eTm MTy.kind MTy.kids MTm.kind MTm.name MTm.num MTm.ty MTm.fr MTm.label MTm.kids
attribute [local simp] eTy_def eTm_def
set_option maxHeartbeats 16000000
set_option maxRecDepth 8000
attribute [local irreducible] TJ FCalls tyK tyRows tmK tmRows

theorem isLabel2_ok (n : Int) : ACalls Try.prog 22 [.i n] [] (.b (labM n)) [] [] := by
  have h1 := inM_ok n 1 99
  have h2 := inM_ok n (-99) (-1)
  simp only [labM]
  cases hq : inM n 1 99 <;> rw [hq] at h1
  · cases hq2 : inM n (-99) (-1) <;> rw [hq2] at h2
    · refine ACalls.of_body Try.func22 (by kernel_rfl) rfl (by kernel_rfl) (by simp [Try.ntmps22]) (by simp) ?_
      rw [Try.ntmps22]
      repeat' first | ((first | refine aops_end (hK _ ?_) | refine aopsD_end (hK _ ?_) | refine aopsF_end (hK _ ?_)); clear hK K) | ((first | refine aops_go ?_ | refine aopsD_go ?_ | refine aopsF_go ?_); simp; (try (refine gen fun q hq => ?_; cases q <;> (try simp at hq) <;> (try (have hh : True := hq; clear hh hq))))) | (refine wpcall_pure rfl (h1) ?_; simp; (try (refine gen fun q hq => ?_; cases q <;> (try simp at hq) <;> (try (have hh : True := hq; clear hh hq))))) | (refine wpcall_pure rfl (h2) ?_; simp; (try (refine gen fun q hq => ?_; cases q <;> (try simp at hq) <;> (try (have hh : True := hq; clear hh hq))))) | (refine T.ret (Done.data (Or.inr rfl) ?_ ?_) <;> simp [Try.results22] <;> omega) | refine T.r0 fun K hK => ?_ | refine T.r1 fun K hK => ?_ | (refine ⟨by omega, ?_⟩) | refine T.ct rfl ?_ | refine T.cf rfl ?_ | refine T.seq ?_ | refine T.block ?_ | refine T.skip ?_ | refine T.exit ?_
    · refine ACalls.of_body Try.func22 (by kernel_rfl) rfl (by kernel_rfl) (by simp [Try.ntmps22]) (by simp) ?_
      rw [Try.ntmps22]
      repeat' first | ((first | refine aops_end (hK _ ?_) | refine aopsD_end (hK _ ?_) | refine aopsF_end (hK _ ?_)); clear hK K) | ((first | refine aops_go ?_ | refine aopsD_go ?_ | refine aopsF_go ?_); simp; (try (refine gen fun q hq => ?_; cases q <;> (try simp at hq) <;> (try (have hh : True := hq; clear hh hq))))) | (refine wpcall_pure rfl (h1) ?_; simp; (try (refine gen fun q hq => ?_; cases q <;> (try simp at hq) <;> (try (have hh : True := hq; clear hh hq))))) | (refine wpcall_pure rfl (h2) ?_; simp; (try (refine gen fun q hq => ?_; cases q <;> (try simp at hq) <;> (try (have hh : True := hq; clear hh hq))))) | (refine T.ret (Done.data (Or.inr rfl) ?_ ?_) <;> simp [Try.results22] <;> omega) | refine T.r0 fun K hK => ?_ | refine T.r1 fun K hK => ?_ | (refine ⟨by omega, ?_⟩) | refine T.ct rfl ?_ | refine T.cf rfl ?_ | refine T.seq ?_ | refine T.block ?_ | refine T.skip ?_ | refine T.exit ?_
  · refine ACalls.of_body Try.func22 (by kernel_rfl) rfl (by kernel_rfl) (by simp [Try.ntmps22]) (by simp) ?_
    rw [Try.ntmps22]
    repeat' first | ((first | refine aops_end (hK _ ?_) | refine aopsD_end (hK _ ?_) | refine aopsF_end (hK _ ?_)); clear hK K) | ((first | refine aops_go ?_ | refine aopsD_go ?_ | refine aopsF_go ?_); simp; (try (refine gen fun q hq => ?_; cases q <;> (try simp at hq) <;> (try (have hh : True := hq; clear hh hq))))) | (refine wpcall_pure rfl (h1) ?_; simp; (try (refine gen fun q hq => ?_; cases q <;> (try simp at hq) <;> (try (have hh : True := hq; clear hh hq))))) | (refine wpcall_pure rfl (h2) ?_; simp; (try (refine gen fun q hq => ?_; cases q <;> (try simp at hq) <;> (try (have hh : True := hq; clear hh hq))))) | (refine T.ret (Done.data (Or.inr rfl) ?_ ?_) <;> simp [Try.results22] <;> omega) | refine T.r0 fun K hK => ?_ | refine T.r1 fun K hK => ?_ | (refine ⟨by omega, ?_⟩) | refine T.ct rfl ?_ | refine T.cf rfl ?_ | refine T.seq ?_ | refine T.block ?_ | refine T.skip ?_ | refine T.exit ?_

theorem l6Label2_ok (n : Int) : ACalls Try.prog 14 [.i n] [] (.b (labM n)) [] [] := by
  generalize hm : (if n < -99 ∨ 99 < n then 0 else if n < 0 then -n else n) = m
  have hl : labM n = decide (1 ≤ m) := by
    simp only [labM, inM, ← Bool.decide_and, ← Bool.decide_or]
    refine decide_eq_decide.2 ?_
    rw [← hm]
    split <;> (try split) <;> omega
  have habs := l1Abs_ok n
  rw [hm] at habs
  rw [hl]
  refine ACalls.of_body Try.func14 (by kernel_rfl) rfl (by kernel_rfl) (by simp [Try.ntmps14]) (by simp) ?_
  rw [Try.ntmps14]
  repeat' first | ((first | refine aops_end (hK _ ?_) | refine aopsD_end (hK _ ?_) | refine aopsF_end (hK _ ?_)); clear hK K) | ((first | refine aops_go ?_ | refine aopsD_go ?_ | refine aopsF_go ?_); simp; (try (refine gen fun q hq => ?_; cases q <;> (try simp at hq) <;> (try (have hh : True := hq; clear hh hq))))) | (refine wpcall_pure rfl (habs) ?_; simp; (try (refine gen fun q hq => ?_; cases q <;> (try simp at hq) <;> (try (have hh : True := hq; clear hh hq))))) | (refine T.ret (Done.data (Or.inr rfl) ?_ ?_) <;> simp [Try.results14, *] <;> omega) | refine T.r0 fun K hK => ?_ | refine T.r1 fun K hK => ?_ | (refine ⟨by omega, ?_⟩) | refine T.ct rfl ?_ | refine T.cf rfl ?_ | refine T.seq ?_ | refine T.block ?_ | refine T.skip ?_ | refine T.exit ?_

theorem casted2_ok (e : MTm) (f t : MTy) (l : Int) : ACalls Try.prog 44 [aTm e, aTy f, aTy t, .i l] [] (aTm (tCast e f t l)) [] [] := by
  refine ACalls.of_body Try.func44 (by kernel_rfl) rfl (by kernel_rfl) (by simp [Try.ntmps44]) (by simp) ?_
  rw [Try.ntmps44]
  repeat' first | ((first | refine aops_end (hK _ ?_) | refine aopsD_end (hK _ ?_) | refine aopsF_end (hK _ ?_)); clear hK K) | ((first | refine aops_go ?_ | refine aopsD_go ?_ | refine aopsF_go ?_); simp; (try (refine gen fun q hq => ?_; cases q <;> (try simp at hq) <;> (try (have hh : True := hq; clear hh hq))))) | (refine T.ret (Done.val (Or.inr rfl) ?_) <;> simp [resAs, Try.results44, eTm_def] <;> omega) | refine T.r0 fun K hK => ?_ | refine T.r1 fun K hK => ?_ | (refine ⟨by omega, ?_⟩) | refine T.ct rfl ?_ | refine T.cf rfl ?_ | refine T.seq ?_ | refine T.block ?_ | refine T.skip ?_ | refine T.exit ?_

def thruM (e : MTm) (f t : MTy) (l : Int) : MTm := tCast (tCast e f anyT l) anyT t l
theorem through_ok (e : MTm) (f t : MTy) (l : Int) : ACalls Try.prog 24 [aTm e, aTy f, aTy t, .i l] [] (aTm (thruM e f t l)) [] [] := by
  have hb := base_ok 1
  have h1 := casted2_ok e f anyT l
  have h2 := casted2_ok (tCast e f anyT l) anyT t l
  rw [thruM]
  generalize tCast (tCast e f anyT l) anyT t l = Z at *
  generalize tCast e f anyT l = Y at *
  refine ACalls.of_body Try.func24 (by kernel_rfl) rfl (by kernel_rfl) (by simp [Try.ntmps24]) (by simp) ?_
  rw [Try.ntmps24]
  repeat' first | ((first | refine aops_end (hK _ ?_) | refine aopsD_end (hK _ ?_) | refine aopsF_end (hK _ ?_)); clear hK K) | ((first | refine aops_go ?_ | refine aopsD_go ?_ | refine aopsF_go ?_); simp; (try (refine gen fun q hq => ?_; cases q <;> (try simp at hq) <;> (try (have hh : True := hq; clear hh hq))))) | (refine wpcall_pure ?_ (hb) ?_; (focus (solve | simp)); simp; (try (refine gen fun q hq => ?_; cases q <;> (try simp at hq) <;> (try (have hh : True := hq; clear hh hq))))) | (refine wpcall_pure ?_ (h1) ?_; (focus (solve | simp)); simp; (try (refine gen fun q hq => ?_; cases q <;> (try simp at hq) <;> (try (have hh : True := hq; clear hh hq))))) | (refine wpcall_pure ?_ (h2) ?_; (focus (solve | simp)); simp; (try (refine gen fun q hq => ?_; cases q <;> (try simp at hq) <;> (try (have hh : True := hq; clear hh hq))))) | (refine T.ret (Done.val (Or.inr rfl) ?_) <;> simp [resAs, Try.results24] <;> omega) | refine T.rd (id := 1) mixed (fun _ => false) [9] (by kernel_rfl) fun K hK => ?_ | refine T.rd1 (id := 1) mixed (fun _ => false) [9] (by kernel_rfl) fun K hK => ?_ | refine T.r0 fun K hK => ?_ | refine T.r1 fun K hK => ?_ | (refine ⟨by omega, ?_⟩) | refine T.ct rfl ?_ | refine T.cf rfl ?_ | refine T.seq ?_ | refine T.block ?_ | refine T.skip ?_ | refine T.exit ?_

/-- A term cast to any type and back. -/
def forgetM (e : MTm) (l : Int) : Option MTm := match castTypeM e with
  | none => none
  | some t => if labM l = true ∧ castValidM (thruM e t t l) = true then some (thruM e t t l) else none
theorem thru_size (e : MTm) (t : MTy) (l : Int) (h : nTy t ≤ 100) : nTm (thruM e t t l) ≤ nTm e + 1000 := by
  simp only [thruM, tCast, nTm_mk, nTmS, nTy_mk, nTyS]
  simp
  omega
theorem forget_size (e : MTm) (l : Int) : nTm (tm0 (forgetM e l)) ≤ 60000 := by
  simp only [forgetM]
  cases hr : castTypeM e with
  | none => simp [tm0, nTm_def, nTy_mk, nTyS, nTmS]
  | some t =>
    simp only
    split
    · rename_i h
      simp only [tm0, Option.getD_some]
      exact (castValid_small h.2).1
    · simp [tm0, nTm_def, nTy_mk, nTyS, nTmS]

theorem ForgetCast_tree (e : MTm) (l : Int) (hn : nTm e ≤ 1073741824) : FCalls Try.prog 7 [aTm e, .i l] [] fun r L' => ∃ v : V3, r = .tup [.agg ((rTm (tm0 (forgetM e l)) v).map CV.d), .b (forgetM e l).isSome] ∧ L' = tTm 31 34 (tm0 (forgetM e l)) v := by
  have h1 := CastTypeOf_ok e (by omega)
  have h2 := isLabel2_ok l
  simp only [forgetM]
  rcases castTypeM_cases e with hr | ⟨t, hr, htn⟩
  · rw [hr] at h1
    simp only [hr, tyRes, tm0, Option.getD_none, Option.isSome_none] at h1 ⊢
    refine FCalls.of_body Try.func7 (by kernel_rfl) rfl (by kernel_rfl) (by simp [Try.ntmps7]) ?_
    rw [Try.ntmps7]
    repeat' first | (refine aopsJ_end (hK _ _ ?_); clear hK K) | (refine aopsD_end (hK _ ?_); clear hK K) | (refine aopsJ_go ?_; simp; (try first | (refine OpsJ.gen fun q hq => ?_; cases q <;> (try simp at hq) <;> (try (have hh : True := hq; clear hh hq))))) | (refine aopsD_go ?_; simp; (try first | (refine OpsD.gen fun q hq => ?_; cases q <;> (try simp at hq) <;> (try (have hh : True := hq; clear hh hq))))) | (refine aopsF_end (hK _ ?_); clear hK K) | (refine aopsF_go ?_; simp; (try first | (refine OpsF.gen fun q hq => ?_; cases q <;> (try simp at hq) <;> (try (have hh : True := hq; clear hh hq))))) | (refine wpcallJ_pure rfl (h1) ?_; simp; (try first | (refine OpsJ.gen fun q hq => ?_; cases q <;> (try simp at hq) <;> (try (have hh : True := hq; clear hh hq))))) | (refine wpcall_pure rfl (h1) ?_; simp; (try first | (refine OpsD.gen fun q hq => ?_; cases q <;> (try simp at hq) <;> (try (have hh : True := hq; clear hh hq))) | (refine OpsF.gen fun q hq => ?_; cases q <;> (try simp at hq) <;> (try (have hh : True := hq; clear hh hq))))) | (refine wpcallJ_pure rfl (h2) ?_; simp; (try first | (refine OpsJ.gen fun q hq => ?_; cases q <;> (try simp at hq) <;> (try (have hh : True := hq; clear hh hq))))) | (refine wpcall_pure rfl (h2) ?_; simp; (try first | (refine OpsD.gen fun q hq => ?_; cases q <;> (try simp at hq) <;> (try (have hh : True := hq; clear hh hq))) | (refine OpsF.gen fun q hq => ?_; cases q <;> (try simp at hq) <;> (try (have hh : True := hq; clear hh hq))))) | refine TJ.rs (fun _ => false) fun K hK => ?_ | refine TJ.rs1 (fun _ => false) fun K hK => ?_ | (refine And.intro (by omega) ?_) | refine TJ.cond rfl (fun hcnd => ?_) (fun hcnd => absurd hcnd (by decide)) | refine TJ.cond rfl (fun hcnd => absurd hcnd (by decide)) (fun hcnd => ?_) | refine TJ.seq ?_ | refine TJ.block ?_ | refine TJ.skip ?_ | refine TJ.exit ?_
    refine TJ.ret ?_; (repeat first | refine ThenJ.ret ?_ | refine InBlockJ.ret ?_); refine (DoneJ.nils (rs := [.agg [.d (.i 0), .d (.str []), .d (.i 0), .d (.i 0), .nil, .d (.i 0), .nil, .d (.i 0), .nil], .b false]) (rs' := [.agg [.d (.i 0), .d (.str []), .d (.i 0), .d (.i 0), .d (.raw nul), .d (.i 0), .d (.raw nul), .d (.i 0), .d (.raw nul)], .b false]) (Ln := tTm 31 34 zeroE (nul, nul, nul)) (Or.inr rfl) (by simp [Try.results7]) (by simp [DV.scal]) nilsTm ⟨(nul, nul, nul), by simp [one, rTm, zeroT_kind], rfl⟩)
  · rw [hr] at h1
    have h3 := through_ok e t t l
    have hsz := thru_size e t l htn
    have h4 := CastValid_ok (thruM e t t l) (by omega)
    have h5 := own_tree (thruM e t t l) (by omega)
    simp only [hr, tyRes] at h1 ⊢
    generalize thruM e t t l = Z at *
    cases hl : labM l <;> rw [hl] at h2
    · simp only [Bool.false_eq_true, false_and, if_false, tm0, Option.getD_none, Option.isSome_none]
      refine FCalls.of_body Try.func7 (by kernel_rfl) rfl (by kernel_rfl) (by simp [Try.ntmps7]) ?_
      rw [Try.ntmps7]
      repeat' first | (refine aopsJ_end (hK _ _ ?_); clear hK K) | (refine aopsD_end (hK _ ?_); clear hK K) | (refine aopsJ_go ?_; simp; (try first | (refine OpsJ.gen fun q hq => ?_; cases q <;> (try simp at hq) <;> (try (have hh : True := hq; clear hh hq))))) | (refine aopsD_go ?_; simp; (try first | (refine OpsD.gen fun q hq => ?_; cases q <;> (try simp at hq) <;> (try (have hh : True := hq; clear hh hq))))) | (refine aopsF_end (hK _ ?_); clear hK K) | (refine aopsF_go ?_; simp; (try first | (refine OpsF.gen fun q hq => ?_; cases q <;> (try simp at hq) <;> (try (have hh : True := hq; clear hh hq))))) | (refine wpcallJ_pure rfl (h1) ?_; simp; (try first | (refine OpsJ.gen fun q hq => ?_; cases q <;> (try simp at hq) <;> (try (have hh : True := hq; clear hh hq))))) | (refine wpcall_pure rfl (h1) ?_; simp; (try first | (refine OpsD.gen fun q hq => ?_; cases q <;> (try simp at hq) <;> (try (have hh : True := hq; clear hh hq))) | (refine OpsF.gen fun q hq => ?_; cases q <;> (try simp at hq) <;> (try (have hh : True := hq; clear hh hq))))) | (refine wpcallJ_pure rfl (h2) ?_; simp; (try first | (refine OpsJ.gen fun q hq => ?_; cases q <;> (try simp at hq) <;> (try (have hh : True := hq; clear hh hq))))) | (refine wpcall_pure rfl (h2) ?_; simp; (try first | (refine OpsD.gen fun q hq => ?_; cases q <;> (try simp at hq) <;> (try (have hh : True := hq; clear hh hq))) | (refine OpsF.gen fun q hq => ?_; cases q <;> (try simp at hq) <;> (try (have hh : True := hq; clear hh hq))))) | refine TJ.rs (fun _ => false) fun K hK => ?_ | refine TJ.rs1 (fun _ => false) fun K hK => ?_ | (refine And.intro (by omega) ?_) | refine TJ.cond rfl (fun hcnd => ?_) (fun hcnd => absurd hcnd (by decide)) | refine TJ.cond rfl (fun hcnd => absurd hcnd (by decide)) (fun hcnd => ?_) | refine TJ.seq ?_ | refine TJ.block ?_ | refine TJ.skip ?_ | refine TJ.exit ?_
      refine TJ.ret ?_; (repeat first | refine ThenJ.ret ?_ | refine InBlockJ.ret ?_); refine (DoneJ.nils (rs := [.agg [.d (.i 0), .d (.str []), .d (.i 0), .d (.i 0), .nil, .d (.i 0), .nil, .d (.i 0), .nil], .b false]) (rs' := [.agg [.d (.i 0), .d (.str []), .d (.i 0), .d (.i 0), .d (.raw nul), .d (.i 0), .d (.raw nul), .d (.i 0), .d (.raw nul)], .b false]) (Ln := tTm 31 34 zeroE (nul, nul, nul)) (Or.inr rfl) (by simp [Try.results7]) (by simp [DV.scal]) nilsTm ⟨(nul, nul, nul), by simp [one, rTm, zeroT_kind], rfl⟩)
    · cases hv : castValidM Z <;> rw [hv] at h4
      · simp only [Bool.false_eq_true, and_false, if_false, tm0, Option.getD_none, Option.isSome_none]
        have h6 : FCalls Try.prog 23 [aTm Z] [] fun r L' => ∃ v : V3, r = .tup [.agg ((rTm zeroE v).map CV.d), .b false] ∧ L' = tTm 31 34 zeroE v := by
          refine FCalls.of_body Try.func23 (by kernel_rfl) rfl (by kernel_rfl) (by simp [Try.ntmps23]) ?_
          rw [Try.ntmps23]
          repeat' first | (refine aopsJ_end (hK _ _ ?_); clear hK K) | (refine aopsD_end (hK _ ?_); clear hK K) | (refine aopsJ_go ?_; simp; (try first | (refine OpsJ.gen fun q hq => ?_; cases q <;> (try simp at hq) <;> (try (have hh : True := hq; clear hh hq))))) | (refine aopsD_go ?_; simp; (try first | (refine OpsD.gen fun q hq => ?_; cases q <;> (try simp at hq) <;> (try (have hh : True := hq; clear hh hq))))) | (refine aopsF_end (hK _ ?_); clear hK K) | (refine aopsF_go ?_; simp; (try first | (refine OpsF.gen fun q hq => ?_; cases q <;> (try simp at hq) <;> (try (have hh : True := hq; clear hh hq))))) | (refine wpcallJ_pure rfl (h4) ?_; simp; (try first | (refine OpsJ.gen fun q hq => ?_; cases q <;> (try simp at hq) <;> (try (have hh : True := hq; clear hh hq))))) | (refine wpcall_pure rfl (h4) ?_; simp; (try first | (refine OpsD.gen fun q hq => ?_; cases q <;> (try simp at hq) <;> (try (have hh : True := hq; clear hh hq))) | (refine OpsF.gen fun q hq => ?_; cases q <;> (try simp at hq) <;> (try (have hh : True := hq; clear hh hq))))) | refine TJ.rs (fun _ => false) fun K hK => ?_ | refine TJ.rs1 (fun _ => false) fun K hK => ?_ | (refine And.intro (by omega) ?_) | refine TJ.cond rfl (fun hcnd => ?_) (fun hcnd => absurd hcnd (by decide)) | refine TJ.cond rfl (fun hcnd => absurd hcnd (by decide)) (fun hcnd => ?_) | refine TJ.seq ?_ | refine TJ.block ?_ | refine TJ.skip ?_ | refine TJ.exit ?_
          refine TJ.ret ?_; (repeat first | refine ThenJ.ret ?_ | refine InBlockJ.ret ?_); refine (DoneJ.nils (rs := [.agg [.d (.i 0), .d (.str []), .d (.i 0), .d (.i 0), .nil, .d (.i 0), .nil, .d (.i 0), .nil], .b false]) (rs' := [.agg [.d (.i 0), .d (.str []), .d (.i 0), .d (.i 0), .d (.raw nul), .d (.i 0), .d (.raw nul), .d (.i 0), .d (.raw nul)], .b false]) (Ln := tTm 31 34 zeroE (nul, nul, nul)) (Or.inr rfl) (by simp [Try.results23]) (by simp [DV.scal]) nilsTm ⟨(nul, nul, nul), by simp [one, rTm, zeroT_kind], rfl⟩)
        refine FCalls.of_body Try.func7 (by kernel_rfl) rfl (by kernel_rfl) (by simp [Try.ntmps7]) ?_
        rw [Try.ntmps7]
        repeat' first | (refine aopsJ_end (hK _ _ ?_); clear hK K) | (refine aopsD_end (hK _ ?_); clear hK K) | (refine aopsJ_go ?_; simp; (try first | (refine OpsJ.gen fun q hq => ?_; cases q <;> (try simp at hq) <;> (try (have hh : True := hq; clear hh hq))))) | (refine aopsD_go ?_; simp; (try first | (refine OpsD.gen fun q hq => ?_; cases q <;> (try simp at hq) <;> (try (have hh : True := hq; clear hh hq))))) | (refine aopsF_end (hK _ ?_); clear hK K) | (refine aopsF_go ?_; simp; (try first | (refine OpsF.gen fun q hq => ?_; cases q <;> (try simp at hq) <;> (try (have hh : True := hq; clear hh hq))))) | (refine wpcallJ_pure rfl (h1) ?_; simp; (try first | (refine OpsJ.gen fun q hq => ?_; cases q <;> (try simp at hq) <;> (try (have hh : True := hq; clear hh hq))))) | (refine wpcall_pure rfl (h1) ?_; simp; (try first | (refine OpsD.gen fun q hq => ?_; cases q <;> (try simp at hq) <;> (try (have hh : True := hq; clear hh hq))) | (refine OpsF.gen fun q hq => ?_; cases q <;> (try simp at hq) <;> (try (have hh : True := hq; clear hh hq))))) | (refine wpcallJ_pure rfl (h2) ?_; simp; (try first | (refine OpsJ.gen fun q hq => ?_; cases q <;> (try simp at hq) <;> (try (have hh : True := hq; clear hh hq))))) | (refine wpcall_pure rfl (h2) ?_; simp; (try first | (refine OpsD.gen fun q hq => ?_; cases q <;> (try simp at hq) <;> (try (have hh : True := hq; clear hh hq))) | (refine OpsF.gen fun q hq => ?_; cases q <;> (try simp at hq) <;> (try (have hh : True := hq; clear hh hq))))) | (refine wpcallJ_pure rfl (h3) ?_; simp; (try first | (refine OpsJ.gen fun q hq => ?_; cases q <;> (try simp at hq) <;> (try (have hh : True := hq; clear hh hq))))) | (refine wpcall_pure rfl (h3) ?_; simp; (try first | (refine OpsD.gen fun q hq => ?_; cases q <;> (try simp at hq) <;> (try (have hh : True := hq; clear hh hq))) | (refine OpsF.gen fun q hq => ?_; cases q <;> (try simp at hq) <;> (try (have hh : True := hq; clear hh hq))))) | (refine wpcallJ_new ?_ (h6) ?_; (focus (solve | (repeat' first | exact FzVs.nil | apply FzVs.cons | apply FzV.c | apply FzV.agg | exact FzL.nil | apply FzL.cons | exact FzC.d | exact FzC.nil | exact FzC.np | exact FzC.fn | (refine FzC.thaw' ?_ (tyK_dp 31 _); (focus (solve | simp [tTm]))) | (refine FzC.thaw' ?_ (tmK_dp 31 34 _); (focus (solve | simp [tTm])))))); rintro _ _ ⟨⟨v1, v2, v3⟩, rfl, rfl⟩; simp; (try first | (refine OpsJ.gen fun q hq => ?_; cases q <;> (try simp at hq) <;> (try (have hh : True := hq; clear hh hq))))) | refine TJ.rs (fun _ => false) fun K hK => ?_ | refine TJ.rs1 (fun _ => false) fun K hK => ?_ | (refine And.intro (by omega) ?_) | refine TJ.cond rfl (fun hcnd => ?_) (fun hcnd => absurd hcnd (by decide)) | refine TJ.cond rfl (fun hcnd => absurd hcnd (by decide)) (fun hcnd => ?_) | refine TJ.seq ?_ | refine TJ.block ?_ | refine TJ.skip ?_ | refine TJ.exit ?_
        refine TJ.ret ?_; (repeat first | refine ThenJ.ret ?_ | refine InBlockJ.ret ?_); refine (DoneJ.tup (rs := [.agg ((rTm zeroE (v1, v2, v3)).map CV.d), .b false]) (rs' := [.agg ((rTm zeroE (v1, v2, v3)).map CV.d), .b false]) (L' := tTm 31 34 zeroE (v1, v2, v3)) (M := []) (Or.inr rfl) (by simp [Try.results7]) (by simp [DV.scal]) (by simp) ⟨(v1, v2, v3), rfl, rfl⟩)
      · simp only [true_and, if_true, tm0, Option.getD_some, Option.isSome_some]
        have h6 : FCalls Try.prog 23 [aTm Z] [] fun r L' => ∃ v : V3, r = .tup [.agg ((rTm Z v).map CV.d), .b true] ∧ L' = tTm 31 34 Z v := by
          refine FCalls.of_body Try.func23 (by kernel_rfl) rfl (by kernel_rfl) (by simp [Try.ntmps23]) ?_
          rw [Try.ntmps23]
          repeat' first | (refine aopsJ_end (hK _ _ ?_); clear hK K) | (refine aopsD_end (hK _ ?_); clear hK K) | (refine aopsJ_go ?_; simp; (try first | (refine OpsJ.gen fun q hq => ?_; cases q <;> (try simp at hq) <;> (try (have hh : True := hq; clear hh hq))))) | (refine aopsD_go ?_; simp; (try first | (refine OpsD.gen fun q hq => ?_; cases q <;> (try simp at hq) <;> (try (have hh : True := hq; clear hh hq))))) | (refine aopsF_end (hK _ ?_); clear hK K) | (refine aopsF_go ?_; simp; (try first | (refine OpsF.gen fun q hq => ?_; cases q <;> (try simp at hq) <;> (try (have hh : True := hq; clear hh hq))))) | (refine wpcallJ_pure rfl (h4) ?_; simp; (try first | (refine OpsJ.gen fun q hq => ?_; cases q <;> (try simp at hq) <;> (try (have hh : True := hq; clear hh hq))))) | (refine wpcall_pure rfl (h4) ?_; simp; (try first | (refine OpsD.gen fun q hq => ?_; cases q <;> (try simp at hq) <;> (try (have hh : True := hq; clear hh hq))) | (refine OpsF.gen fun q hq => ?_; cases q <;> (try simp at hq) <;> (try (have hh : True := hq; clear hh hq))))) | (refine wpcallJ_new ?_ (h5) ?_; (focus (solve | (repeat' first | exact FzVs.nil | apply FzVs.cons | apply FzV.c | apply FzV.agg | exact FzL.nil | apply FzL.cons | exact FzC.d | exact FzC.nil | exact FzC.np | exact FzC.fn | (refine FzC.thaw' ?_ (tyK_dp 31 _); (focus (solve | simp [tTm]))) | (refine FzC.thaw' ?_ (tmK_dp 31 34 _); (focus (solve | simp [tTm])))))); rintro _ _ ⟨⟨v1, v2, v3⟩, rfl, rfl⟩; simp; (try first | (refine OpsJ.gen fun q hq => ?_; cases q <;> (try simp at hq) <;> (try (have hh : True := hq; clear hh hq))))) | refine TJ.rs (fun _ => false) fun K hK => ?_ | refine TJ.rs1 (fun _ => false) fun K hK => ?_ | (refine And.intro (by omega) ?_) | refine TJ.cond rfl (fun hcnd => ?_) (fun hcnd => absurd hcnd (by decide)) | refine TJ.cond rfl (fun hcnd => absurd hcnd (by decide)) (fun hcnd => ?_) | refine TJ.seq ?_ | refine TJ.block ?_ | refine TJ.skip ?_ | refine TJ.exit ?_
          refine TJ.ret ?_; (repeat first | refine ThenJ.ret ?_ | refine InBlockJ.ret ?_); refine (DoneJ.tup (rs := [.agg ((rTm Z (v1, v2, v3)).map CV.d), .b true]) (rs' := [.agg ((rTm Z (v1, v2, v3)).map CV.d), .b true]) (L' := tTm 31 34 Z (v1, v2, v3)) (M := []) (Or.inr rfl) (by simp [Try.results23]) (by simp [DV.scal]) (by simp) ⟨(v1, v2, v3), rfl, rfl⟩)
        refine FCalls.of_body Try.func7 (by kernel_rfl) rfl (by kernel_rfl) (by simp [Try.ntmps7]) ?_
        rw [Try.ntmps7]
        repeat' first | (refine aopsJ_end (hK _ _ ?_); clear hK K) | (refine aopsD_end (hK _ ?_); clear hK K) | (refine aopsJ_go ?_; simp; (try first | (refine OpsJ.gen fun q hq => ?_; cases q <;> (try simp at hq) <;> (try (have hh : True := hq; clear hh hq))))) | (refine aopsD_go ?_; simp; (try first | (refine OpsD.gen fun q hq => ?_; cases q <;> (try simp at hq) <;> (try (have hh : True := hq; clear hh hq))))) | (refine aopsF_end (hK _ ?_); clear hK K) | (refine aopsF_go ?_; simp; (try first | (refine OpsF.gen fun q hq => ?_; cases q <;> (try simp at hq) <;> (try (have hh : True := hq; clear hh hq))))) | (refine wpcallJ_pure rfl (h1) ?_; simp; (try first | (refine OpsJ.gen fun q hq => ?_; cases q <;> (try simp at hq) <;> (try (have hh : True := hq; clear hh hq))))) | (refine wpcall_pure rfl (h1) ?_; simp; (try first | (refine OpsD.gen fun q hq => ?_; cases q <;> (try simp at hq) <;> (try (have hh : True := hq; clear hh hq))) | (refine OpsF.gen fun q hq => ?_; cases q <;> (try simp at hq) <;> (try (have hh : True := hq; clear hh hq))))) | (refine wpcallJ_pure rfl (h2) ?_; simp; (try first | (refine OpsJ.gen fun q hq => ?_; cases q <;> (try simp at hq) <;> (try (have hh : True := hq; clear hh hq))))) | (refine wpcall_pure rfl (h2) ?_; simp; (try first | (refine OpsD.gen fun q hq => ?_; cases q <;> (try simp at hq) <;> (try (have hh : True := hq; clear hh hq))) | (refine OpsF.gen fun q hq => ?_; cases q <;> (try simp at hq) <;> (try (have hh : True := hq; clear hh hq))))) | (refine wpcallJ_pure rfl (h3) ?_; simp; (try first | (refine OpsJ.gen fun q hq => ?_; cases q <;> (try simp at hq) <;> (try (have hh : True := hq; clear hh hq))))) | (refine wpcall_pure rfl (h3) ?_; simp; (try first | (refine OpsD.gen fun q hq => ?_; cases q <;> (try simp at hq) <;> (try (have hh : True := hq; clear hh hq))) | (refine OpsF.gen fun q hq => ?_; cases q <;> (try simp at hq) <;> (try (have hh : True := hq; clear hh hq))))) | (refine wpcallJ_new ?_ (h6) ?_; (focus (solve | (repeat' first | exact FzVs.nil | apply FzVs.cons | apply FzV.c | apply FzV.agg | exact FzL.nil | apply FzL.cons | exact FzC.d | exact FzC.nil | exact FzC.np | exact FzC.fn | (refine FzC.thaw' ?_ (tyK_dp 31 _); (focus (solve | simp [tTm]))) | (refine FzC.thaw' ?_ (tmK_dp 31 34 _); (focus (solve | simp [tTm])))))); rintro _ _ ⟨⟨v1, v2, v3⟩, rfl, rfl⟩; simp; (try first | (refine OpsJ.gen fun q hq => ?_; cases q <;> (try simp at hq) <;> (try (have hh : True := hq; clear hh hq))))) | refine TJ.rs (fun _ => false) fun K hK => ?_ | refine TJ.rs1 (fun _ => false) fun K hK => ?_ | (refine And.intro (by omega) ?_) | refine TJ.cond rfl (fun hcnd => ?_) (fun hcnd => absurd hcnd (by decide)) | refine TJ.cond rfl (fun hcnd => absurd hcnd (by decide)) (fun hcnd => ?_) | refine TJ.seq ?_ | refine TJ.block ?_ | refine TJ.skip ?_ | refine TJ.exit ?_
        refine TJ.ret ?_; (repeat first | refine ThenJ.ret ?_ | refine InBlockJ.ret ?_); refine (DoneJ.tup (rs := [.agg ((rTm Z (v1, v2, v3)).map CV.d), .b true]) (rs' := [.agg ((rTm Z (v1, v2, v3)).map CV.d), .b true]) (L' := tTm 31 34 Z (v1, v2, v3)) (M := []) (Or.inr rfl) (by simp [Try.results7]) (by simp [DV.scal]) (by simp) ⟨(v1, v2, v3), rfl, rfl⟩)

theorem ForgetCastS_ok (e : MTm) (l : Int) (hn : nTm e ≤ 1073741824) : ACalls Try.prog 5 [aTm e, .i l] [] (.tup (tmRes (forgetM e l))) [] [] := by
  have h1 := CastTypeOfS_ok e (by omega)
  have h2 := l6Label2_ok l
  simp only [forgetM]
  rcases castTypeM_cases e with hr | ⟨t, hr, htn⟩
  · rw [hr] at h1
    simp only [hr, tyRes, tmRes] at h1 ⊢
    refine ACalls.of_body Try.func5 (by kernel_rfl) rfl (by kernel_rfl) (by simp [Try.ntmps5]) (by simp) ?_
    rw [Try.ntmps5]
    repeat' first | ((first | refine aops_end (hK _ ?_) | refine aopsD_end (hK _ ?_) | refine aopsF_end (hK _ ?_)); clear hK K) | ((first | refine aops_go ?_ | refine aopsD_go ?_ | refine aopsF_go ?_); simp; (try (refine gen fun q hq => ?_; cases q <;> (try simp at hq) <;> (try (have hh : True := hq; clear hh hq))))) | (refine wpcall_pure rfl (h1) ?_; simp; (try (refine gen fun q hq => ?_; cases q <;> (try simp at hq) <;> (try (have hh : True := hq; clear hh hq))))) | (refine wpcall_pure rfl (h2) ?_; simp; (try (refine gen fun q hq => ?_; cases q <;> (try simp at hq) <;> (try (have hh : True := hq; clear hh hq))))) | (refine T.ret (Done.tup (Or.inr rfl) ?_) <;> simp [resAs, Try.results5] <;> omega) | refine T.rdF (id := 4) mixed (fun _ => false) [10, 11] [0, 1, 2, 3, 5, 6, 7, 9] 11 [] (by kernel_rfl) fun K hK => ?_ | refine T.rdF1 (id := 4) mixed (fun _ => false) [10, 11] [0, 1, 2, 3, 5, 6, 7, 9] 11 [] (by kernel_rfl) fun K hK => ?_ | (refine ⟨?_, ?_⟩; (focus (intros; refine wpcall_pure rfl (h1) ?_; simp; done))) | (refine ⟨?_, ?_⟩; (focus (intros; refine wpcall_pure rfl (h2) ?_; simp; done))) | refine T.r0 fun K hK => ?_ | refine T.r1 fun K hK => ?_ | (refine ⟨by omega, ?_⟩) | refine T.ct rfl ?_ | refine T.cf rfl ?_ | refine T.seq ?_ | refine T.block ?_ | refine T.skip ?_ | refine T.exit ?_
  · rw [hr] at h1
    have h0 := l2Copy_ok e (by omega)
    have ha := l1Any_ok
    have h3 := l5Cast_ok e t anyT l (by omega) (by simp [nTy_mk, nTyS])
    have h3b := l5Cast_ok (tCast e t anyT l) anyT t l (by simp [nTy_mk, nTyS]) (by omega)
    have hsz := thru_size e t l htn
    have h4 := CastValidS_ok (thruM e t t l) (by omega)
    simp only [hr, tyRes] at h1 ⊢
    rw [thruM] at h4 ⊢
    generalize tCast (tCast e t anyT l) anyT t l = Z at *
    generalize tCast e t anyT l = Y at *
    cases hl : labM l <;> rw [hl] at h2
    · simp only [Bool.false_eq_true, false_and, if_false, tmRes]
      refine ACalls.of_body Try.func5 (by kernel_rfl) rfl (by kernel_rfl) (by simp [Try.ntmps5]) (by simp) ?_
      rw [Try.ntmps5]
      repeat' first | ((first | refine aops_end (hK _ ?_) | refine aopsD_end (hK _ ?_) | refine aopsF_end (hK _ ?_)); clear hK K) | ((first | refine aops_go ?_ | refine aopsD_go ?_ | refine aopsF_go ?_); simp; (try (refine gen fun q hq => ?_; cases q <;> (try simp at hq) <;> (try (have hh : True := hq; clear hh hq))))) | (refine wpcall_pure rfl (h1) ?_; simp; (try (refine gen fun q hq => ?_; cases q <;> (try simp at hq) <;> (try (have hh : True := hq; clear hh hq))))) | (refine wpcall_pure rfl (h2) ?_; simp; (try (refine gen fun q hq => ?_; cases q <;> (try simp at hq) <;> (try (have hh : True := hq; clear hh hq))))) | (refine T.ret (Done.tup (Or.inr rfl) ?_) <;> simp [resAs, Try.results5] <;> omega) | refine T.rdF (id := 4) mixed (fun _ => false) [10, 11] [0, 1, 2, 3, 5, 6, 7, 9] 11 [] (by kernel_rfl) fun K hK => ?_ | refine T.rdF1 (id := 4) mixed (fun _ => false) [10, 11] [0, 1, 2, 3, 5, 6, 7, 9] 11 [] (by kernel_rfl) fun K hK => ?_ | (refine ⟨?_, ?_⟩; (focus (intros; refine wpcall_pure rfl (h1) ?_; simp; done))) | (refine ⟨?_, ?_⟩; (focus (intros; refine wpcall_pure rfl (h2) ?_; simp; done))) | refine T.r0 fun K hK => ?_ | refine T.r1 fun K hK => ?_ | (refine ⟨by omega, ?_⟩) | refine T.ct rfl ?_ | refine T.cf rfl ?_ | refine T.seq ?_ | refine T.block ?_ | refine T.skip ?_ | refine T.exit ?_
    · cases hv : castValidM Z <;> rw [hv] at h4
      · simp only [Bool.false_eq_true, and_false, if_false, tmRes]
        refine ACalls.of_body Try.func5 (by kernel_rfl) rfl (by kernel_rfl) (by simp [Try.ntmps5]) (by simp) ?_
        rw [Try.ntmps5]
        repeat' first | ((first | refine aops_end (hK _ ?_) | refine aopsD_end (hK _ ?_) | refine aopsF_end (hK _ ?_)); clear hK K) | ((first | refine aops_go ?_ | refine aopsD_go ?_ | refine aopsF_go ?_); simp; (try (refine gen fun q hq => ?_; cases q <;> (try simp at hq) <;> (try (have hh : True := hq; clear hh hq))))) | (refine wpcall_pure rfl (h1) ?_; simp; (try (refine gen fun q hq => ?_; cases q <;> (try simp at hq) <;> (try (have hh : True := hq; clear hh hq))))) | (refine wpcall_pure rfl (h2) ?_; simp; (try (refine gen fun q hq => ?_; cases q <;> (try simp at hq) <;> (try (have hh : True := hq; clear hh hq))))) | (refine wpcall_pure rfl (h0) ?_; simp; (try (refine gen fun q hq => ?_; cases q <;> (try simp at hq) <;> (try (have hh : True := hq; clear hh hq))))) | (refine wpcall_pure ?_ (ha) ?_; (focus (solve | simp)); simp; (try (refine gen fun q hq => ?_; cases q <;> (try simp at hq) <;> (try (have hh : True := hq; clear hh hq))))) | (refine wpcall_pure ?_ (h3) ?_; (focus (solve | simp)); simp; (try (refine gen fun q hq => ?_; cases q <;> (try simp at hq) <;> (try (have hh : True := hq; clear hh hq))))) | (refine wpcall_pure ?_ (h3b) ?_; (focus (solve | simp)); simp; (try (refine gen fun q hq => ?_; cases q <;> (try simp at hq) <;> (try (have hh : True := hq; clear hh hq))))) | (refine wpcall_pure rfl (h4) ?_; simp; (try (refine gen fun q hq => ?_; cases q <;> (try simp at hq) <;> (try (have hh : True := hq; clear hh hq))))) | (refine T.ret (Done.tup (Or.inr rfl) ?_) <;> simp [resAs, Try.results5] <;> omega) | refine T.rdF (id := 4) mixed (fun _ => false) [10, 11] [0, 1, 2, 3, 5, 6, 7, 9] 11 [] (by kernel_rfl) fun K hK => ?_ | refine T.rdF1 (id := 4) mixed (fun _ => false) [10, 11] [0, 1, 2, 3, 5, 6, 7, 9] 11 [] (by kernel_rfl) fun K hK => ?_ | (refine ⟨?_, ?_⟩; (focus (intros; refine wpcall_pure rfl (h1) ?_; simp; done))) | (refine ⟨?_, ?_⟩; (focus (intros; refine wpcall_pure rfl (h2) ?_; simp; done))) | (refine ⟨?_, ?_⟩; (focus (intros; refine wpcall_pure rfl (h0) ?_; simp; done))) | (refine ⟨?_, ?_⟩; (focus (intros; refine wpcall_pure ?_ (ha) ?_; (focus (solve | simp)); simp; done))) | (refine ⟨?_, ?_⟩; (focus (intros; refine wpcall_pure ?_ (h3) ?_; (focus (solve | simp)); simp; done))) | (refine ⟨?_, ?_⟩; (focus (intros; refine wpcall_pure ?_ (h3b) ?_; (focus (solve | simp)); simp; done))) | (refine ⟨?_, ?_⟩; (focus (intros; refine wpcall_pure rfl (h4) ?_; simp; done))) | refine T.r0 fun K hK => ?_ | refine T.r1 fun K hK => ?_ | (refine ⟨by omega, ?_⟩) | refine T.ct rfl ?_ | refine T.cf rfl ?_ | refine T.seq ?_ | refine T.block ?_ | refine T.skip ?_ | refine T.exit ?_
      · simp only [true_and, if_true, tmRes]
        refine ACalls.of_body Try.func5 (by kernel_rfl) rfl (by kernel_rfl) (by simp [Try.ntmps5]) (by simp) ?_
        rw [Try.ntmps5]
        repeat' first | ((first | refine aops_end (hK _ ?_) | refine aopsD_end (hK _ ?_) | refine aopsF_end (hK _ ?_)); clear hK K) | ((first | refine aops_go ?_ | refine aopsD_go ?_ | refine aopsF_go ?_); simp; (try (refine gen fun q hq => ?_; cases q <;> (try simp at hq) <;> (try (have hh : True := hq; clear hh hq))))) | (refine wpcall_pure rfl (h1) ?_; simp; (try (refine gen fun q hq => ?_; cases q <;> (try simp at hq) <;> (try (have hh : True := hq; clear hh hq))))) | (refine wpcall_pure rfl (h2) ?_; simp; (try (refine gen fun q hq => ?_; cases q <;> (try simp at hq) <;> (try (have hh : True := hq; clear hh hq))))) | (refine wpcall_pure rfl (h0) ?_; simp; (try (refine gen fun q hq => ?_; cases q <;> (try simp at hq) <;> (try (have hh : True := hq; clear hh hq))))) | (refine wpcall_pure ?_ (ha) ?_; (focus (solve | simp)); simp; (try (refine gen fun q hq => ?_; cases q <;> (try simp at hq) <;> (try (have hh : True := hq; clear hh hq))))) | (refine wpcall_pure ?_ (h3) ?_; (focus (solve | simp)); simp; (try (refine gen fun q hq => ?_; cases q <;> (try simp at hq) <;> (try (have hh : True := hq; clear hh hq))))) | (refine wpcall_pure ?_ (h3b) ?_; (focus (solve | simp)); simp; (try (refine gen fun q hq => ?_; cases q <;> (try simp at hq) <;> (try (have hh : True := hq; clear hh hq))))) | (refine wpcall_pure rfl (h4) ?_; simp; (try (refine gen fun q hq => ?_; cases q <;> (try simp at hq) <;> (try (have hh : True := hq; clear hh hq))))) | (refine T.ret (Done.tup (Or.inr rfl) ?_) <;> simp [resAs, Try.results5] <;> omega) | refine T.rdF (id := 4) mixed (fun _ => false) [10, 11] [0, 1, 2, 3, 5, 6, 7, 9] 11 [] (by kernel_rfl) fun K hK => ?_ | refine T.rdF1 (id := 4) mixed (fun _ => false) [10, 11] [0, 1, 2, 3, 5, 6, 7, 9] 11 [] (by kernel_rfl) fun K hK => ?_ | (refine ⟨?_, ?_⟩; (focus (intros; refine wpcall_pure rfl (h1) ?_; simp; done))) | (refine ⟨?_, ?_⟩; (focus (intros; refine wpcall_pure rfl (h2) ?_; simp; done))) | (refine ⟨?_, ?_⟩; (focus (intros; refine wpcall_pure rfl (h0) ?_; simp; done))) | (refine ⟨?_, ?_⟩; (focus (intros; refine wpcall_pure ?_ (ha) ?_; (focus (solve | simp)); simp; done))) | (refine ⟨?_, ?_⟩; (focus (intros; refine wpcall_pure ?_ (h3) ?_; (focus (solve | simp)); simp; done))) | (refine ⟨?_, ?_⟩; (focus (intros; refine wpcall_pure ?_ (h3b) ?_; (focus (solve | simp)); simp; done))) | (refine ⟨?_, ?_⟩; (focus (intros; refine wpcall_pure rfl (h4) ?_; simp; done))) | refine T.r0 fun K hK => ?_ | refine T.r1 fun K hK => ?_ | (refine ⟨by omega, ?_⟩) | refine T.ct rfl ?_ | refine T.cf rfl ?_ | refine T.seq ?_ | refine T.block ?_ | refine T.skip ?_ | refine T.exit ?_
end Go.Proofs.Ytbakdfnmippcoaa

namespace Go.Proofs.Ytbakdfnmippcoaa
attribute [-simp] Go.Av.callJ
open Go Go.Av
attribute [local irreducible] T ACalls TX EX LX Draws Some_ ACallsX eTy eTm MTy.kind MTy.kids MTm.kind MTm.name MTm.num MTm.ty MTm.fr MTm.label MTm.kids
attribute [local simp] eTy_def eTm_def
set_option maxHeartbeats 16000000
set_option maxRecDepth 8000
attribute [local irreducible] TJ FCalls tyK tyRows tmK tmRows

@[simp] theorem td_u8k : td Try.prog 5 = some { ag := false, sz := 1, by_ := 1, zero := some [.d (.int .u8 0)], el := none, ar := none, fl := [], ik := some .u8, isS := false, isB := false } := keep (by kernel_rfl)
@[simp] theorem td_u8Sk : td Try.prog 82 = some { ag := false, sz := 1, by_ := 24, zero := some [.nil], el := some 5, ar := none, fl := [], ik := none, isS := false, isB := false } := keep (by kernel_rfl)

def decD (n : Nat) : List UInt8 := if n = 0 then [] else Lib.decDigits n
theorem decD_step {n : Nat} (h : 0 < n) (out : List UInt8) : decD n ++ out = decD (n / 10) ++ (UInt8.ofNat (48 + n % 10) :: out) := by
  rw [decD, if_neg (by omega)]
  conv => lhs; rw [Lib.decDigits]
  split
  · rename_i h1
    have e1 : n / 10 = 0 := by omega
    have e2 : n % 10 = n := by omega
    rw [e1, e2]; simp [decD]
  · rename_i h1
    rw [decD, if_neg (by omega)]; simp

theorem dec_len_k (n : Nat) : (Lib.decDigits n).length ≤ n + 1 := by
  induction n using Nat.strongRecOn with
  | _ n ih =>
    rw [Lib.decDigits]
    split
    · simp
    · have := ih (n / 10) (by omega)
      simp; omega

theorem markText_ok (k : Nat) (h0 : 1 ≤ k) (hk : k ≤ 2199023255552) : ACalls Try.prog 48 [.i (k : Int)] [] (.c (.d (.str (mText k)))) [] [] := by
  have hk0 : ¬ (k : Int) ≤ 0 := by omega
  have hk1 : ¬ k = 0 := by omega
  refine ACalls.of_body Try.func48 (by kernel_rfl) rfl (by kernel_rfl) (by simp [Try.ntmps48]) (by simp) ?_
  rw [Try.ntmps48]
  repeat' first | ((first | refine aops_end (hK _ ?_) | refine aopsD_end (hK _ ?_) | refine aopsF_end (hK _ ?_)); clear hK K) | ((first | refine aops_go ?_ | refine aopsD_go ?_ | refine aopsF_go ?_); simp [hk0, hk1]; (try (refine gen fun q hq => ?_; cases q <;> (try simp [hk0, hk1] at hq) <;> (try (have hh : True := hq; clear hh hq))))) | refine T.r0 fun K hK => ?_ | refine T.r1 fun K hK => ?_ | (refine ⟨by omega, ?_⟩) | refine T.ct rfl ?_ | refine T.cf rfl ?_ | refine T.seq ?_ | refine T.block ?_ | refine T.skip ?_ | refine T.exit ?_
  refine T.loopK (α := Nat × List UInt8) [2] (fun x => [(0, .i (x.1 : Int)), (3, .c (.d (.str x.2)))]) (fun _ => []) (fun _ => []) (fun _ _ => []) (fun x => x.1 + 1) (fun x => x.1 ≤ k ∧ decD x.1 ++ x.2 = decD k) (by simp; rfl) (fun x hx => ?_) (k, []) (by simp) (by simp) (by simp) (by simp)
  obtain ⟨n, out⟩ := x
  obtain ⟨hn, ho⟩ := hx
  dsimp only at hn ho ⊢
  simp only [ups, List.cons_append, List.nil_append]
  have hol : out.length ≤ k + 1 := by
    have h1 : (decD n ++ out).length = (decD k).length := by rw [ho]
    have h2 := dec_len_k k
    rw [decD, decD, if_neg hk1] at h1
    simp at h1; omega
  have key : ∀ k : Nat, k ≤ 9 → ∃ z : Int, IntKind.i64.wrap (48 + (k : Int)) = z ∧ IntKind.u8.wrap z = z ∧ 0 ≤ z ∧ z < 256 ∧ UInt8.ofNat z.toNat = UInt8.ofNat (48 + k) := fun k hk => by
    refine ⟨((48 + k : Nat) : Int), ?_, wrap8 (by omega), by omega, by omega, by rw [Int.toNat_natCast]⟩
    rw [wrap64 (by omega) (by omega)]; omega
  have hl1 : 1 + out.length ≤ 4611686018427387904 := by omega
  by_cases hlt : 0 < n
  · have hlt' : (0 : Int) < (n : Int) := by omega
    rw [decD_step hlt] at ho
    obtain ⟨q, hq⟩ : ∃ q, n / 10 = q := ⟨_, rfl⟩
    obtain ⟨r, hr⟩ : ∃ r, n % 10 = r := ⟨_, rfl⟩
    obtain ⟨z, z1, z2, z3, z4, z5⟩ := key r (by omega)
    have e1 : (n : Int).tmod 10 = (r : Int) := by rw [Int.tmod_eq_emod_of_nonneg (by omega)]; omega
    have e2 : (n : Int).tdiv 10 = (q : Int) := by rw [Int.tdiv_eq_ediv_of_nonneg (by omega)]; omega
    rw [hq, hr] at ho
    obtain ⟨c, hc⟩ : ∃ c, UInt8.ofNat (48 + r) = c := ⟨_, rfl⟩
    rw [hc] at ho z5
    have hqn : q < n := by omega
    repeat' first | ((first | refine aops_end (hK _ ?_) | refine aopsD_end (hK _ ?_) | refine aopsF_end (hK _ ?_)); clear hK K) | ((first | refine aops_go ?_ | refine aopsD_go ?_ | refine aopsF_go ?_); simp [hlt, hlt', hl1, e1, e2, z1, z2, z3, z4, z5, bytesOf, byteOfRow]; (try simp (disch := omega) only [wrap64, catLe]); (try (refine gen fun q hq => ?_; cases q <;> (try simp [hlt, hlt', hl1, e1, e2, z1, z2, z3, z4, z5, bytesOf, byteOfRow] at hq) <;> (try (have hh : True := hq; clear hh hq))))) | refine T.r0 fun K hK => ?_ | refine T.r1 fun K hK => ?_ | (refine ⟨by omega, ?_⟩) | refine T.ct rfl ?_ | refine T.cf rfl ?_ | refine T.seq ?_ | refine T.block ?_ | refine T.skip ?_ | refine T.exit ?_
    refine ⟨(q, c :: out), by dsimp only; omega, ⟨by dsimp only; omega, ho⟩, rfl, ?_, ?_⟩ <;> simp (disch := omega) [e2, hlt', wrap64]
  · have hlt' : ¬ (0 : Int) < (n : Int) := by omega
    obtain rfl : n = 0 := by omega
    simp [decD, hk1] at ho
    repeat' first | ((first | refine aops_end (hK _ ?_) | refine aopsD_end (hK _ ?_) | refine aopsF_end (hK _ ?_)); clear hK K) | ((first | refine aops_go ?_ | refine aopsD_go ?_ | refine aopsF_go ?_); simp [hlt', hl1]; (try (refine gen fun q hq => ?_; cases q <;> (try simp [hlt', hl1] at hq) <;> (try (have hh : True := hq; clear hh hq))))) | (refine T.ret (Done.data (Or.inr rfl) ?_ ?_) <;> simp [Try.results48, mText, ho] <;> omega) | refine T.r0 fun K hK => ?_ | refine T.r1 fun K hK => ?_ | (refine ⟨by omega, ?_⟩) | refine T.ct rfl ?_ | refine T.cf rfl ?_ | refine T.seq ?_ | refine T.block ?_ | refine T.skip ?_ | refine T.exit ?_

theorem markTermS_tree_step (l : List MTm) (k : Nat) (hk : k + cTmS l ≤ 1099511627776) (hlen : l.length ≤ 1099511627776) (h : ∀ t ∈ l, ∀ (k : Nat) v, k + cTmS t.kids ≤ 1099511627776 → FCalls Try.prog 28 [.c (.d (.raw v)), .i (k : Int)] [(tmK 31 34 t.kids, v)] fun r L' => r = .i ((k + cTmS t.kids : Nat) : Int) ∧ L' = [(tmK 31 34 (markSm t.kids k), v)]) (v : Value) :
    FCalls Try.prog 28 [.c (.d (.raw v)), .i (k : Int)] [(tmK 31 34 l, v)] fun r L' => r = .i ((k + cTmS l : Nat) : Int) ∧ L' = [(tmK 31 34 (markSm l k), v)] := by
  rw [tmK_unf, tmK_unf, markSm_len]
  refine FCalls.mono (R := fun r L' => ∃ cs', L' = [(.t 34 9 l.length cs', v)] ∧ (r = .i ((k + cTmS l : Nat) : Int) ∧ cs' = tmRows 31 34 (markSm l k))) ?_ (by rintro r L' ⟨_, rfl, rfl, rfl⟩; exact ⟨rfl, rfl⟩)
  refine FCalls.of_bodyA Try.func28 (by kernel_rfl) rfl (by kernel_rfl) (by simp [Try.ntmps28]) ?_ ?_
  rotate_left
  rw [Try.ntmps28]
  rotate_left
  · exact tmRows_scal _ _ l
  intro ds Lc hmk hdl
  obtain ⟨vs, hv, hch, rfl⟩ := mk_tmRows_inv _ _ hmk
  rw [hch]
  clear hmk hdl hch
  repeat' first | (refine aopsJ_end (hK _ _ ?_); clear hK K) | (refine aopsD_end (hK _ ?_); clear hK K) | (refine aopsJ_go ?_; simp; (try first | (refine OpsJ.gen fun q hq => ?_; cases q <;> (try simp at hq) <;> (try (have hh : True := hq; clear hh hq))))) | (refine aopsD_go ?_; simp; (try first | (refine OpsD.gen fun q hq => ?_; cases q <;> (try simp at hq) <;> (try (have hh : True := hq; clear hh hq))))) | (refine aopsF_end (hK _ ?_); clear hK K) | (refine aopsF_go ?_; simp; (try first | (refine OpsF.gen fun q hq => ?_; cases q <;> (try simp at hq) <;> (try (have hh : True := hq; clear hh hq))))) | refine TJ.rs (fun _ => false) fun K hK => ?_ | refine TJ.rs1 (fun _ => false) fun K hK => ?_ | (refine And.intro (by omega) ?_) | refine TJ.cond rfl (fun hcnd => ?_) (fun hcnd => absurd hcnd (by decide)) | refine TJ.cond rfl (fun hcnd => absurd hcnd (by decide)) (fun hcnd => ?_) | refine TJ.seq ?_ | refine TJ.block ?_ | refine TJ.skip ?_ | refine TJ.exit ?_
  refine TJ.loopK (α := Nat) [0, 4] (fun j => [(1, .i ((k + cTmS (l.take j) : Nat) : Int)), (5, .i j)]) (fun _ => []) (fun _ => []) (fun j _ => [{ sz := 9, ety := 34, rows := List.zipWith rTm (mM l k j) vs, wr := true }]) (fun j => tsTm 31 34 (mM l k j) vs) (fun j => l.length + 1 - j) (fun j => j ≤ l.length) (by simp; rfl) (fun j hj => ?_) 0 (by simp) (by simp) (by simp [mM_zero]) (by simp [cTmS]) (M := []) (by simp [mM_zero])
  dsimp only at hj ⊢
  simp only [ups, List.cons_append, List.nil_append]
  by_cases hlt : j < l.length
  · obtain ⟨u, hu⟩ := get_lt hlt
    have hum : u ∈ l := List.mem_of_getElem? hu
    obtain ⟨⟨v1, v2, v3⟩, hv1⟩ := get_lt (l := vs) (i := j) (by omega)
    have hle := cTmS_take_le l (j + 1)
    have hsu := cTmS_take_succ hu
    rw [cTm_def] at hsu
    have hrj := zipWith_at (f := rTm) (mM_at (k := k) hu) hv1
    obtain ⟨kj, hkj⟩ : ∃ kj, kj = k + cTmS (l.take j) := ⟨_, rfl⟩
    have hms := mM_succ (k := k) hu
    rw [← hkj, markRm_def] at hms
    have hLat : (List.zipWith (tTm 31 34) (mM l k j) vs)[j]? = some (tTm 31 34 u (v1, v2, v3)) := zipWith_at (mM_at hu) hv1
    have hLl : j < (List.zipWith (tTm 31 34) (mM l k j) vs).length := (List.getElem?_eq_some_iff.1 hLat).1
    have hLset : (List.zipWith (tTm 31 34) (mM l k j) vs).set j [(tyK 31 (markS u.ty.kids (kj + 4)), v1), (tyK 31 (markS u.fr.kids (kj + 5 + nTyS u.ty.kids)), v2), (tmK 31 34 (markSm u.kids (kj + 6 + nTyS u.ty.kids + nTyS u.fr.kids)), v3)] = List.zipWith (tTm 31 34) (mM l k (j + 1)) vs := by
      rw [hms, ← zipWith_set1 hv1]
      simp only [tTm, MTm.ty_mk, MTm.fr_mk, MTm.kids_mk, MTy.kids_mk]
    have hrs : (List.zipWith rTm (mM l k j) vs).set j [.i kj, .str (mText (kj + 1)), .i ((kj + 2 : Nat) : Int), .i ((kj + 3 : Nat) : Int), .raw v1, .i ((kj + 4 + nTyS u.ty.kids : Nat) : Int), .raw v2, .i ((kj + 5 + nTyS u.ty.kids + nTyS u.fr.kids : Nat) : Int), .raw v3] = List.zipWith rTm (mM l k (j + 1)) vs := by
      rw [hms, ← zipWith_set1 hv1]
      simp only [rTm, MTm.kind_mk, MTm.name_mk, MTm.num_mk, MTm.ty_mk, MTm.fr_mk, MTm.label_mk, MTy.kind_mk]
    have hrl : (List.zipWith rTm (mM l k j) vs).length = l.length := by rw [List.length_zipWith, mM_len]; omega
    have hkj2 : ((k + cTmS (l.take (j + 1)) : Nat) : Int) = ((kj + 6 + nTyS u.ty.kids + nTyS u.fr.kids + cTmS u.kids : Nat) : Int) := by rw [hsu, hkj]; congr 1; omega
    have hct := markText_ok (kj + 1) (by omega) (by omega)
    have hc1 := markTypeS_tree u.ty.kids (kj + 4) (by omega) v1
    have hc2 := markTypeS_tree u.fr.kids (kj + 5 + nTyS u.ty.kids) (by omega) v2
    have hc3 := h u hum (kj + 6 + nTyS u.ty.kids + nTyS u.fr.kids) v3 (by omega)
    have hpm : (tsTm 31 34 (mM l k j) vs).Perm (((tyK 31 u.ty.kids, v1) :: (tyK 31 u.fr.kids, v2) :: (tmK 31 34 u.kids, v3) :: ((List.zipWith (tTm 31 34) (mM l k j) vs).eraseIdx j).flatten) ++ []) := by
      rw [List.append_nil]; exact flat_out hLat
    have hpi := flat_in [(tyK 31 (markS u.ty.kids (kj + 4)), v1), (tyK 31 (markS u.fr.kids (kj + 5 + nTyS u.ty.kids)), v2), (tmK 31 34 (markSm u.kids (kj + 6 + nTyS u.ty.kids + nTyS u.fr.kids)), v3)] hLl
    rw [hLset] at hpi
    refine TJ.less hpm ?_
    generalize ((List.zipWith (tTm 31 34) (mM l k j) vs).eraseIdx j).flatten = D at *
    rw [← hkj] at *
    have hrjx := hrj
    obtain ⟨R, hR⟩ : ∃ R, R = List.zipWith rTm (mM l k j) vs := ⟨_, rfl⟩
    rw [← hR] at hrj hrs hrl ⊢
    have hrj' : ∀ h, R[j]'h = rTm u (v1, v2, v3) := fun hh => by rw [List.getElem?_eq_getElem hh] at hrj; exact Option.some.inj hrj
    have hlt2 : j < R.length := by omega
    generalize nTyS u.ty.kids = na at *
    generalize nTyS u.fr.kids = nb at *
    generalize cTmS u.kids = nc at *
    rw [show ((kj + 5 + na : Nat) : Int) = (kj : Int) + 4 + (na : Int) + 1 by omega] at hc2
    rw [show ((kj + 6 + na + nb : Nat) : Int) = (kj : Int) + 5 + (na : Int) + (nb : Int) + 1 by omega] at hc3
    repeat' first | (refine aopsJ_end (hK _ _ ?_); clear hK K) | (refine aopsD_end (hK _ ?_); clear hK K) | (refine aopsJ_go ?_; simp [hlt, hrl, hlt2, hrj']; (try simp (disch := omega) only [wrap64]); (try first | (refine OpsJ.gen fun q hq => ?_; cases q <;> (try simp [hlt, hrl, hlt2, hrj'] at hq) <;> (try (have hh : True := hq; clear hh hq))))) | (refine aopsD_go ?_; simp [hlt, hrl, hlt2, hrj']; (try simp (disch := omega) only [wrap64]); (try first | (refine OpsD.gen fun q hq => ?_; cases q <;> (try simp [hlt, hrl, hlt2, hrj'] at hq) <;> (try (have hh : True := hq; clear hh hq))))) | (refine aopsF_end (hK _ ?_); clear hK K) | (refine aopsF_go ?_; simp [hlt, hrl, hlt2, hrj']; (try simp (disch := omega) only [wrap64]); (try first | (refine OpsF.gen fun q hq => ?_; cases q <;> (try simp [hlt, hrl, hlt2, hrj'] at hq) <;> (try (have hh : True := hq; clear hh hq))))) | (refine wpcallJ_pure rfl (hct) ?_; simp [hlt, hrl, hlt2, hrj']; (try simp (disch := omega) only [wrap64]); (try first | (refine OpsJ.gen fun q hq => ?_; cases q <;> (try simp [hlt, hrl, hlt2, hrj'] at hq) <;> (try (have hh : True := hq; clear hh hq))))) | (refine wpcall_pure rfl (hct) ?_; simp [hlt, hrl, hlt2, hrj']; (try simp (disch := omega) only [wrap64]); (try first | (refine OpsD.gen fun q hq => ?_; cases q <;> (try simp [hlt, hrl, hlt2, hrj'] at hq) <;> (try (have hh : True := hq; clear hh hq))) | (refine OpsF.gen fun q hq => ?_; cases q <;> (try simp [hlt, hrl, hlt2, hrj'] at hq) <;> (try (have hh : True := hq; clear hh hq))))) | (refine wpcallJ_mut (L2 := (tyK 31 u.fr.kids, v2) :: (tmK 31 34 u.kids, v3) :: D) ?_ ?_ (hc1) ?_; (focus (solve | exact .refl _)); (focus (solve | (repeat' first | exact FzVs.nil | apply FzVs.cons | apply FzV.c | apply FzV.agg | exact FzL.nil | apply FzL.cons | exact FzC.d | exact FzC.nil | exact FzC.np | (refine FzC.thaw' ?_ (tyK_dp _ _); (focus (solve | simp))) | (refine FzC.thaw' ?_ (tmK_dp _ _ _); (focus (solve | simp)))))); rintro _ _ ⟨rfl, rfl⟩; simp [hlt, hrl, hlt2, hrj']; (try simp (disch := omega) only [wrap64]); (try first | (refine OpsJ.gen fun q hq => ?_; cases q <;> (try simp [hlt, hrl, hlt2, hrj'] at hq) <;> (try (have hh : True := hq; clear hh hq))))) | (refine wpcallJ_mut (L2 := (tyK 31 (markS u.ty.kids (kj + 4)), v1) :: (tmK 31 34 u.kids, v3) :: D) ?_ ?_ (hc2) ?_; (focus (solve | exact List.Perm.swap _ _ _)); (focus (solve | (repeat' first | exact FzVs.nil | apply FzVs.cons | apply FzV.c | apply FzV.agg | exact FzL.nil | apply FzL.cons | exact FzC.d | exact FzC.nil | exact FzC.np | (refine FzC.thaw' ?_ (tyK_dp _ _); (focus (solve | simp))) | (refine FzC.thaw' ?_ (tmK_dp _ _ _); (focus (solve | simp)))))); rintro _ _ ⟨rfl, rfl⟩; simp [hlt, hrl, hlt2, hrj']; (try simp (disch := omega) only [wrap64]); (try first | (refine OpsJ.gen fun q hq => ?_; cases q <;> (try simp [hlt, hrl, hlt2, hrj'] at hq) <;> (try (have hh : True := hq; clear hh hq))))) | (refine wpcallJ_mut (L2 := (tyK 31 (markS u.fr.kids (kj + 5 + na)), v2) :: (tyK 31 (markS u.ty.kids (kj + 4)), v1) :: D) ?_ ?_ (hc3) ?_; (focus (solve | exact (List.Perm.cons _ (List.Perm.swap _ _ _)).trans (List.Perm.swap _ _ _))); (focus (solve | (repeat' first | exact FzVs.nil | apply FzVs.cons | apply FzV.c | apply FzV.agg | exact FzL.nil | apply FzL.cons | exact FzC.d | exact FzC.nil | exact FzC.np | (refine FzC.thaw' ?_ (tyK_dp _ _); (focus (solve | simp))) | (refine FzC.thaw' ?_ (tmK_dp _ _ _); (focus (solve | simp)))))); rintro _ _ ⟨rfl, rfl⟩; simp [hlt, hrl, hlt2, hrj']; (try simp (disch := omega) only [wrap64]); (try first | (refine OpsJ.gen fun q hq => ?_; cases q <;> (try simp [hlt, hrl, hlt2, hrj'] at hq) <;> (try (have hh : True := hq; clear hh hq))))) | refine TJ.rs (fun _ => false) fun K hK => ?_ | refine TJ.rs1 (fun _ => false) fun K hK => ?_ | (refine And.intro (by omega) ?_) | refine TJ.cond rfl (fun hcnd => ?_) (fun hcnd => absurd hcnd (by decide)) | refine TJ.cond rfl (fun hcnd => absurd hcnd (by decide)) (fun hcnd => ?_) | refine TJ.seq ?_ | refine TJ.block ?_ | refine TJ.skip ?_ | refine TJ.exit ?_
    refine ⟨j + 1, [], by dsimp only; omega, by dsimp only; omega, ?_, ?_⟩
    · dsimp only
      rw [← hrs, hkj2]
      simp (disch := omega) [wrap64]
      simp [Int.add_assoc]
    · dsimp only
      rw [List.append_nil]
      refine List.Perm.trans ?_ hpi
      exact (List.reverse_perm [(tyK 31 (markS u.ty.kids (kj + 4)), v1), (tyK 31 (markS u.fr.kids (kj + 5 + na)), v2), (tmK 31 34 (markSm u.kids (kj + 6 + na + nb)), v3)]).append_right D
  · have hp' : j = l.length := by omega
    subst hp'
    rw [mM_all, List.take_length]
    repeat' first | (refine aopsJ_end (hK _ _ ?_); clear hK K) | (refine aopsD_end (hK _ ?_); clear hK K) | (refine aopsJ_go ?_; simp [hlt]; (try first | (refine OpsJ.gen fun q hq => ?_; cases q <;> (try simp [hlt] at hq) <;> (try (have hh : True := hq; clear hh hq))))) | (refine aopsD_go ?_; simp [hlt]; (try first | (refine OpsD.gen fun q hq => ?_; cases q <;> (try simp [hlt] at hq) <;> (try (have hh : True := hq; clear hh hq))))) | (refine aopsF_end (hK _ ?_); clear hK K) | (refine aopsF_go ?_; simp [hlt]; (try first | (refine OpsF.gen fun q hq => ?_; cases q <;> (try simp [hlt] at hq) <;> (try (have hh : True := hq; clear hh hq))))) | refine TJ.rs (fun _ => false) fun K hK => ?_ | refine TJ.rs1 (fun _ => false) fun K hK => ?_ | (refine And.intro (by omega) ?_) | refine TJ.cond rfl (fun hcnd => ?_) (fun hcnd => absurd hcnd (by decide)) | refine TJ.cond rfl (fun hcnd => absurd hcnd (by decide)) (fun hcnd => ?_) | refine TJ.seq ?_ | refine TJ.block ?_ | refine TJ.skip ?_ | refine TJ.exit ?_
    refine TJ.ret (DoneA.one (r := .i ((k + cTmS l : Nat) : Int)) (Or.inr rfl) (by simp [Try.results28]) (by simp [DV.scal]) rfl ?_ (mk_tmRows 31 34 (l := markSm l k) (by rw [markSm_len]; exact hv)) (M := []) (by simp [tsTm]) ⟨rfl, rfl⟩)
    rw [List.length_zipWith, markSm_len]; omega

theorem markTermS_tree : (l : List MTm) → (k : Nat) → k + cTmS l ≤ 1099511627776 → (v : Value) → FCalls Try.prog 28 [.c (.d (.raw v)), .i (k : Int)] [(tmK 31 34 l, v)] fun r L' => r = .i ((k + cTmS l : Nat) : Int) ∧ L' = [(tmK 31 34 (markSm l k), v)]
  | l, k, hk, v => markTermS_tree_step l k hk (by have := cTmS_len l; omega) (fun t ht k v hk => markTermS_tree t.kids k hk v) v
termination_by l => SizeOf.sizeOf l
decreasing_by have := List.sizeOf_lt_of_mem ht; cases t; simp at *; omega

theorem markTerm_tree (e : MTm) (k : Nat) (hk : k + cTm e ≤ 1099511627776) (v : V3) : FCalls Try.prog 9 [.agg ((rTm e v).map CV.d), .i (k : Int)] (tTm 31 34 e v) fun r L' => r = .i ((k + nTyS e.ty.kids + nTyS e.fr.kids + cTmS e.kids : Nat) : Int) ∧
    L' = tTm 31 34 (.mk e.kind e.name e.num (.mk e.ty.kind (markS e.ty.kids k)) (.mk e.fr.kind (markS e.fr.kids (k + nTyS e.ty.kids))) e.label (markSm e.kids (k + nTyS e.ty.kids + nTyS e.fr.kids))) v := by
  obtain ⟨v1, v2, v3⟩ := v
  rw [cTm_def] at hk
  have hc1 := markType_tree e.ty k (by omega) v1
  have hc2 := markType_tree e.fr (k + nTyS e.ty.kids) (by omega) v2
  have hc3 := markTermS_tree e.kids (k + nTyS e.ty.kids + nTyS e.fr.kids) (by omega) v3
  simp only [tTm, MTm.ty_mk, MTm.fr_mk, MTm.kids_mk, MTy.kids_mk]
  generalize k + nTyS e.ty.kids + nTyS e.fr.kids = k3 at *
  generalize k + nTyS e.ty.kids = k2 at *
  generalize k3 + cTmS e.kids = k4 at *
  refine FCalls.of_body Try.func9 (by kernel_rfl) rfl (by kernel_rfl) (by simp [Try.ntmps9]) ?_
  rw [Try.ntmps9]
  repeat' first | (refine aopsJ_end (hK _ _ ?_); clear hK K) | (refine aopsD_end (hK _ ?_); clear hK K) | (refine aopsJ_go ?_; simp; (try first | (refine OpsJ.gen fun q hq => ?_; cases q <;> (try simp at hq) <;> (try (have hh : True := hq; clear hh hq))))) | (refine aopsD_go ?_; simp; (try first | (refine OpsD.gen fun q hq => ?_; cases q <;> (try simp at hq) <;> (try (have hh : True := hq; clear hh hq))))) | (refine aopsF_end (hK _ ?_); clear hK K) | (refine aopsF_go ?_; simp; (try first | (refine OpsF.gen fun q hq => ?_; cases q <;> (try simp at hq) <;> (try (have hh : True := hq; clear hh hq))))) | (refine wpcallJ_mut (L2 := (tyK 31 e.fr.kids, v2) :: (tmK 31 34 e.kids, v3) :: []) ?_ ?_ (hc1) ?_; (focus (solve | exact .refl _)); (focus (solve | (repeat' first | exact FzVs.nil | apply FzVs.cons | apply FzV.c | apply FzV.agg | exact FzL.nil | apply FzL.cons | exact FzC.d | exact FzC.nil | exact FzC.np | (refine FzC.thaw' ?_ (tyK_dp _ _); (focus (solve | simp))) | (refine FzC.thaw' ?_ (tmK_dp _ _ _); (focus (solve | simp)))))); rintro _ _ ⟨rfl, rfl⟩; simp; (try first | (refine OpsJ.gen fun q hq => ?_; cases q <;> (try simp at hq) <;> (try (have hh : True := hq; clear hh hq))))) | (refine wpcallJ_mut (L2 := (tyK 31 (markS e.ty.kids k), v1) :: (tmK 31 34 e.kids, v3) :: []) ?_ ?_ (hc2) ?_; (focus (solve | exact List.Perm.swap _ _ _)); (focus (solve | (repeat' first | exact FzVs.nil | apply FzVs.cons | apply FzV.c | apply FzV.agg | exact FzL.nil | apply FzL.cons | exact FzC.d | exact FzC.nil | exact FzC.np | (refine FzC.thaw' ?_ (tyK_dp _ _); (focus (solve | simp))) | (refine FzC.thaw' ?_ (tmK_dp _ _ _); (focus (solve | simp)))))); rintro _ _ ⟨rfl, rfl⟩; simp; (try first | (refine OpsJ.gen fun q hq => ?_; cases q <;> (try simp at hq) <;> (try (have hh : True := hq; clear hh hq))))) | (refine wpcallJ_mut (L2 := (tyK 31 (markS e.fr.kids k2), v2) :: (tyK 31 (markS e.ty.kids k), v1) :: []) ?_ ?_ (hc3) ?_; (focus (solve | exact (List.Perm.cons _ (List.Perm.swap _ _ _)).trans (List.Perm.swap _ _ _))); (focus (solve | (repeat' first | exact FzVs.nil | apply FzVs.cons | apply FzV.c | apply FzV.agg | exact FzL.nil | apply FzL.cons | exact FzC.d | exact FzC.nil | exact FzC.np | (refine FzC.thaw' ?_ (tyK_dp _ _); (focus (solve | simp))) | (refine FzC.thaw' ?_ (tmK_dp _ _ _); (focus (solve | simp)))))); rintro _ _ ⟨rfl, rfl⟩; simp; (try first | (refine OpsJ.gen fun q hq => ?_; cases q <;> (try simp at hq) <;> (try (have hh : True := hq; clear hh hq))))) | refine TJ.rs (fun _ => false) fun K hK => ?_ | refine TJ.rs1 (fun _ => false) fun K hK => ?_ | (refine And.intro (by omega) ?_) | refine TJ.cond rfl (fun hcnd => ?_) (fun hcnd => absurd hcnd (by decide)) | refine TJ.cond rfl (fun hcnd => absurd hcnd (by decide)) (fun hcnd => ?_) | refine TJ.seq ?_ | refine TJ.block ?_ | refine TJ.skip ?_ | refine TJ.exit ?_
  refine TJ.ret (DoneJ.agg (Or.inr rfl) (r := .i k4) (r' := .i k4) (L' := [(tyK 31 (markS e.ty.kids k), v1), (tyK 31 (markS e.fr.kids k2), v2), (tmK 31 34 (markSm e.kids k3), v3)]) (M := []) (by simp [Try.results9]) (by simp [DV.scal]) ?_ ⟨rfl, rfl⟩)
  rw [List.append_nil]
  exact (List.reverse_perm _).symm
end Go.Proofs.Ytbakdfnmippcoaa

namespace Go.Proofs.Ytbakdfnmippcoaa
attribute [-simp] Go.Av.callJ
open Go Go.Av
attribute [local irreducible] T ACalls TX EX LX Draws Some_ ACallsX eTy eTm MTy.kind MTy.kids MTm.kind MTm.name MTm.num MTm.ty MTm.fr MTm.label MTm.kids
attribute [local simp] eTy_def eTm_def
set_option maxHeartbeats 16000000
set_option maxRecDepth 8000

theorem heldTermS_step (l : List MTm) (k : Nat) (hk : k + cTmS l ≤ 1099511627776) (h : ∀ t ∈ l, ∀ (k : Nat), k + cTmS t.kids ≤ 1099511627776 → ACalls Try.prog 30 [.l ((markSm t.kids k).map eTm), .i (k : Int)] [] (.i ((k + cTmS t.kids : Nat) : Int)) [] []) :
    ACalls Try.prog 30 [.l ((markSm l k).map eTm), .i (k : Int)] [] (.i ((k + cTmS l : Nat) : Int)) [] [] := by
  have hlen := cTmS_len l
  obtain ⟨Z, hZ⟩ : ∃ Z, Z = markSm l k := ⟨_, rfl⟩
  have hZl : Z.length = l.length := by rw [hZ, markSm_len]
  rw [← hZ]
  refine ACalls.of_body Try.func30 (by kernel_rfl) rfl (by kernel_rfl) (by simp [Try.ntmps30]) (by simp) ?_
  rw [Try.ntmps30]
  repeat' first | ((first | refine aops_end (hK _ ?_) | refine aopsD_end (hK _ ?_) | refine aopsF_end (hK _ ?_)); clear hK K) | ((first | refine aops_go ?_ | refine aopsD_go ?_ | refine aopsF_go ?_); simp; (try (refine gen fun q hq => ?_; cases q <;> (try simp at hq) <;> (try (have hh : True := hq; clear hh hq))))) | refine T.rd (id := 7) mixed (fun _ => false) [] (by kernel_rfl) fun K hK => ?_ | refine T.rd1 (id := 7) mixed (fun _ => false) [] (by kernel_rfl) fun K hK => ?_ | refine T.r0 fun K hK => ?_ | refine T.r1 fun K hK => ?_ | (refine ⟨by omega, ?_⟩) | refine T.ct rfl ?_ | refine T.cf rfl ?_ | refine T.seq ?_ | refine T.block ?_ | refine T.skip ?_ | refine T.exit ?_
  refine T.loopK (α := Nat) [0] (fun j => [(1, .i ((k + cTmS (l.take j) : Nat) : Int)), (5, .i j)]) (fun _ => []) (fun _ => []) (fun j _ => []) (fun j => l.length + 1 - j) (fun j => j ≤ l.length) (by simp; rfl) (fun j hj => ?_) 0 (by simp) (by simp) (by simp) (by simp [cTmS])
  dsimp only at hj ⊢
  simp only [ups, List.cons_append, List.nil_append]
  by_cases hlt : j < l.length
  · obtain ⟨u, hu⟩ := get_lt hlt
    have hum : u ∈ l := List.mem_of_getElem? hu
    have hle := cTmS_take_le l (j + 1)
    have hsu := cTmS_take_succ hu
    rw [cTm_def] at hsu
    have hZj : Z[j]? = some (markRm u (k + cTmS (l.take j))) := by rw [hZ]; exact markSm_at hu
    obtain ⟨kj, hkj⟩ : ∃ kj, kj = k + cTmS (l.take j) := ⟨_, rfl⟩
    have hkj2 : ((k + cTmS (l.take (j + 1)) : Nat) : Int) = ((kj + 6 + nTyS u.ty.kids + nTyS u.fr.kids + cTmS u.kids : Nat) : Int) := by rw [hsu, hkj]; congr 1; omega
    rw [← hkj] at hZj ⊢
    have hct := markText_ok (kj + 1) (by omega) (by omega)
    have hc1 := heldTypeS_ok u.ty.kids (kj + 4) (by omega)
    have hc2 := heldTypeS_ok u.fr.kids (kj + 5 + nTyS u.ty.kids) (by omega)
    have hc3 := h u hum (kj + 6 + nTyS u.ty.kids + nTyS u.fr.kids) (by omega)
    have hgt : ∀ h, Z[j]'h = markRm u kj := fun hh => by rw [List.getElem?_eq_getElem hh] at hZj; exact Option.some.inj hZj
    rw [markRm_def] at hgt
    generalize markS u.ty.kids (kj + 4) = q1 at *
    generalize markS u.fr.kids (kj + 5 + nTyS u.ty.kids) = q2 at *
    generalize markSm u.kids (kj + 6 + nTyS u.ty.kids + nTyS u.fr.kids) = q3 at *
    generalize nTyS u.ty.kids = na at *
    generalize nTyS u.fr.kids = nb at *
    generalize cTmS u.kids = nc at *
    rw [show ((kj + 5 + na : Nat) : Int) = (kj : Int) + 4 + (na : Int) + 1 by omega] at hc2
    rw [show ((kj + 6 + na + nb : Nat) : Int) = (kj : Int) + 5 + (na : Int) + (nb : Int) + 1 by omega] at hc3
    have f1 : ¬ ((kj : Int) + 4 + na < 0) := by omega
    have f2 : ¬ ((kj : Int) + 5 + na + nb < 0) := by omega
    have f3 : ¬ ((kj : Int) + 6 + na + nb + nc < 0) := by omega
    have f4 : ((kj : Int) + 2 = kj + 1 + 1) := by omega
    have f5 : ((kj : Int) + 3 = kj + 1 + 1 + 1) := by omega
    repeat' first | ((first | refine aops_end (hK _ ?_) | refine aopsD_end (hK _ ?_) | refine aopsF_end (hK _ ?_)); clear hK K) | ((first | refine aops_go ?_ | refine aopsD_go ?_ | refine aopsF_go ?_); simp [hlt, hZl, hgt, f1, f2, f3, f4, f5]; (try simp (disch := omega) only [wrap64]); (try (refine gen fun q hq => ?_; cases q <;> (try simp [hlt, hZl, hgt, f1, f2, f3, f4, f5] at hq) <;> (try (have hh : True := hq; clear hh hq))))) | (refine wpcall_pure rfl (hct) ?_; simp [hlt, hZl, hgt, f1, f2, f3, f4, f5]; (try simp (disch := omega) only [wrap64]); (try (refine gen fun q hq => ?_; cases q <;> (try simp [hlt, hZl, hgt, f1, f2, f3, f4, f5] at hq) <;> (try (have hh : True := hq; clear hh hq))))) | (refine wpcall_pure rfl (hc1) ?_; simp [hlt, hZl, hgt, f1, f2, f3, f4, f5]; (try simp (disch := omega) only [wrap64]); (try (refine gen fun q hq => ?_; cases q <;> (try simp [hlt, hZl, hgt, f1, f2, f3, f4, f5] at hq) <;> (try (have hh : True := hq; clear hh hq))))) | (refine wpcall_pure rfl (hc2) ?_; simp [hlt, hZl, hgt, f1, f2, f3, f4, f5]; (try simp (disch := omega) only [wrap64]); (try (refine gen fun q hq => ?_; cases q <;> (try simp [hlt, hZl, hgt, f1, f2, f3, f4, f5] at hq) <;> (try (have hh : True := hq; clear hh hq))))) | (refine wpcall_pure rfl (hc3) ?_; simp [hlt, hZl, hgt, f1, f2, f3, f4, f5]; (try simp (disch := omega) only [wrap64]); (try (refine gen fun q hq => ?_; cases q <;> (try simp [hlt, hZl, hgt, f1, f2, f3, f4, f5] at hq) <;> (try (have hh : True := hq; clear hh hq))))) | (refine ⟨j + 1, by dsimp only; omega, by dsimp only; omega, ?_⟩; (dsimp only; rw [hkj2]; simp (disch := omega) [wrap64])) | refine T.rd (id := 7) mixed (fun _ => false) [] (by kernel_rfl) fun K hK => ?_ | refine T.rd1 (id := 7) mixed (fun _ => false) [] (by kernel_rfl) fun K hK => ?_ | refine T.r0 fun K hK => ?_ | refine T.r1 fun K hK => ?_ | (refine ⟨by omega, ?_⟩) | refine T.ct rfl ?_ | refine T.cf rfl ?_ | refine T.seq ?_ | refine T.block ?_ | refine T.skip ?_ | refine T.exit ?_
  · have hp' : j = l.length := by omega
    subst hp'
    repeat' first | ((first | refine aops_end (hK _ ?_) | refine aopsD_end (hK _ ?_) | refine aopsF_end (hK _ ?_)); clear hK K) | ((first | refine aops_go ?_ | refine aopsD_go ?_ | refine aopsF_go ?_); simp [hlt, hZl]; (try (refine gen fun q hq => ?_; cases q <;> (try simp [hlt, hZl] at hq) <;> (try (have hh : True := hq; clear hh hq))))) | (refine T.ret (Done.data (Or.inr rfl) ?_ ?_) <;> simp [Try.results30] <;> omega) | refine T.rd (id := 7) mixed (fun _ => false) [] (by kernel_rfl) fun K hK => ?_ | refine T.rd1 (id := 7) mixed (fun _ => false) [] (by kernel_rfl) fun K hK => ?_ | refine T.r0 fun K hK => ?_ | refine T.r1 fun K hK => ?_ | (refine ⟨by omega, ?_⟩) | refine T.ct rfl ?_ | refine T.cf rfl ?_ | refine T.seq ?_ | refine T.block ?_ | refine T.skip ?_ | refine T.exit ?_

theorem heldTermS_ok : (l : List MTm) → (k : Nat) → k + cTmS l ≤ 1099511627776 → ACalls Try.prog 30 [.l ((markSm l k).map eTm), .i (k : Int)] [] (.i ((k + cTmS l : Nat) : Int)) [] []
  | l, k, hk => heldTermS_step l k hk (fun t ht k hk => heldTermS_ok t.kids k hk)
termination_by l => SizeOf.sizeOf l
decreasing_by have := List.sizeOf_lt_of_mem ht; cases t; simp at *; omega

/-- A term whose operands, and its types' operands, are marked. -/
def markE (e : MTm) (k : Nat) : MTm := .mk e.kind e.name e.num (.mk e.ty.kind (markS e.ty.kids k)) (.mk e.fr.kind (markS e.fr.kids (k + nTyS e.ty.kids))) e.label (markSm e.kids (k + nTyS e.ty.kids + nTyS e.fr.kids))
theorem heldTerm_ok (e : MTm) (k : Nat) (hk : k + cTm e ≤ 1099511627776) : ACalls Try.prog 10 [aTm (markE e k), .i (k : Int)] [] (.i ((k + nTyS e.ty.kids + nTyS e.fr.kids + cTmS e.kids : Nat) : Int)) [] [] := by
  rw [cTm_def] at hk
  have h1 := heldType_ok e.ty.kind e.ty.kids k (by omega)
  have h2 := heldType_ok e.fr.kind e.fr.kids (k + nTyS e.ty.kids) (by omega)
  have h3 := heldTermS_ok e.kids (k + nTyS e.ty.kids + nTyS e.fr.kids) (by omega)
  rw [markE]
  generalize markS e.ty.kids k = q1 at *
  generalize markS e.fr.kids (k + nTyS e.ty.kids) = q2 at *
  generalize markSm e.kids (k + nTyS e.ty.kids + nTyS e.fr.kids) = q3 at *
  have f1 : ¬ (((k + nTyS e.ty.kids : Nat) : Int) < 0) := by omega
  have f2 : ¬ (((k + nTyS e.ty.kids + nTyS e.fr.kids : Nat) : Int) < 0) := by omega
  have f3 : ¬ (((k + nTyS e.ty.kids + nTyS e.fr.kids + cTmS e.kids : Nat) : Int) < 0) := by omega
  generalize ((k + nTyS e.ty.kids + nTyS e.fr.kids + cTmS e.kids : Nat) : Int) = k3 at *
  generalize ((k + nTyS e.ty.kids + nTyS e.fr.kids : Nat) : Int) = k2 at *
  generalize ((k + nTyS e.ty.kids : Nat) : Int) = k1 at *
  refine ACalls.of_body Try.func10 (by kernel_rfl) rfl (by kernel_rfl) (by simp [Try.ntmps10]) (by simp) ?_
  rw [Try.ntmps10]
  repeat' first | ((first | refine aops_end (hK _ ?_) | refine aopsD_end (hK _ ?_) | refine aopsF_end (hK _ ?_)); clear hK K) | ((first | refine aops_go ?_ | refine aopsD_go ?_ | refine aopsF_go ?_); simp [f1, f2, f3]; (try (refine gen fun q hq => ?_; cases q <;> (try simp [f1, f2, f3] at hq) <;> (try (have hh : True := hq; clear hh hq))))) | (refine wpcall_pure ?_ (h1) ?_; (focus (solve | simp [f1, f2, f3])); simp [f1, f2, f3]; (try (refine gen fun q hq => ?_; cases q <;> (try simp [f1, f2, f3] at hq) <;> (try (have hh : True := hq; clear hh hq))))) | (refine wpcall_pure ?_ (h2) ?_; (focus (solve | simp [f1, f2, f3])); simp [f1, f2, f3]; (try (refine gen fun q hq => ?_; cases q <;> (try simp [f1, f2, f3] at hq) <;> (try (have hh : True := hq; clear hh hq))))) | (refine wpcall_pure rfl (h3) ?_; simp [f1, f2, f3]; (try (refine gen fun q hq => ?_; cases q <;> (try simp [f1, f2, f3] at hq) <;> (try (have hh : True := hq; clear hh hq))))) | (refine T.ret (Done.data (Or.inr rfl) ?_ ?_) <;> simp [Try.results10] <;> omega) | refine T.r0 fun K hK => ?_ | refine T.r1 fun K hK => ?_ | (refine ⟨by omega, ?_⟩) | refine T.ct rfl ?_ | refine T.cf rfl ?_ | refine T.seq ?_ | refine T.block ?_ | refine T.skip ?_ | refine T.exit ?_

theorem heldTerm_cells (e : MTm) (k : Nat) (hk : k + cTm e ≤ 1099511627776) : ACalls Try.prog 10 [.agg [.d (.i e.kind), .d (.str e.name), .d (.i e.num), .d (.i e.ty.kind), .d (.sl ((markS e.ty.kids k).map eTy)), .d (.i e.fr.kind), .d (.sl ((markS e.fr.kids (k + nTyS e.ty.kids)).map eTy)), .d (.i e.label), .d (.sl ((markSm e.kids (k + nTyS e.ty.kids + nTyS e.fr.kids)).map eTm))], .i (k : Int)] [] (.i ((k + nTyS e.ty.kids + nTyS e.fr.kids + cTmS e.kids : Nat) : Int)) [] [] := by
  have h := heldTerm_ok e k hk
  simp only [markE, aTm, aTy, MTy.kind_mk, MTy.kids_mk, MTm.kind_mk, MTm.name_mk, MTm.num_mk, MTm.ty_mk, MTm.fr_mk, MTm.label_mk, MTm.kids_mk] at h
  exact h
end Go.Proofs.Ytbakdfnmippcoaa

namespace Go.Proofs.Ytbakdfnmippcoaa
open Go Go.Av
attribute [local irreducible] T ACalls TX EX LX Draws Some_ ACallsX eTy eTm MTy.kind MTy.kids MTm.kind MTm.name MTm.num MTm.ty MTm.fr MTm.label MTm.kids
attribute [local simp] eTy_def eTm_def
set_option maxHeartbeats 16000000
set_option maxRecDepth 8000
attribute [local irreducible] TJ FCalls tyK tyRows tmK tmRows

theorem lawExactForgetCast_ok (e : MTm) (l : Int) (hw : wTm e) (hl1 : -9223372036854775808 ≤ l) (hl2 : l ≤ 9223372036854775807) : ACalls Try.prog 3 [aTm e, .i l] [] (.b true) [] [] := by
  have hsz := szTerm_ok e hw 1048576 (by omega) (by omega)
  by_cases hn : nTm e ≤ 1048576
  rotate_left
  · rw [show szM (nTm e) 1048576 = -1 by simp only [szM]; rw [if_neg (by omega)]] at hsz
    refine ACalls.of_body Try.func3 (by kernel_rfl) rfl (by kernel_rfl) (by simp [Try.ntmps3]) (by simp) ?_
    rw [Try.ntmps3]
    repeat' first | ((first | refine aops_end (hK _ ?_) | refine aopsD_end (hK _ ?_) | refine aopsF_end (hK _ ?_)); clear hK K) | ((first | refine aops_go ?_ | refine aopsD_go ?_ | refine aopsF_go ?_); simp; (try (refine gen fun q hq => ?_; cases q <;> (try simp at hq) <;> (try (have hh : True := hq; clear hh hq))))) | (refine wpcall_pure rfl (hsz) ?_; simp; (try (refine gen fun q hq => ?_; cases q <;> (try simp at hq) <;> (try (have hh : True := hq; clear hh hq))))) | (refine T.ret (Done.data (Or.inr rfl) ?_ ?_) <;> simp [Try.results3] <;> omega) | refine T.rd (id := 10) mixed (fun _ => false) [] (by kernel_rfl) fun K hK => ?_ | refine T.rd1 (id := 10) mixed (fun _ => false) [] (by kernel_rfl) fun K hK => ?_ | refine T.r0 fun K hK => ?_ | refine T.r1 fun K hK => ?_ | (refine ⟨by omega, ?_⟩) | refine T.ct rfl ?_ | refine T.cf rfl ?_ | refine T.seq ?_ | refine T.block ?_ | refine T.skip ?_ | refine T.exit ?_
  have hpos : ¬ szM (nTm e) 1048576 < 0 := by simp only [szM]; rw [if_pos (by omega)]; omega
  have hce := cTm_le e
  have hto := toTerm_ok e hn
  have htr := toTerm_tree e hn
  have heq := eqTerm_ok e hn
  have h1 := ForgetCastS_ok e l (by omega)
  have h2 := ForgetCast_tree e l (by omega)
  have hm1 := fun v => markTerm_tree e 1 (by omega) v
  have hxn := forget_size e l
  obtain ⟨o, ho⟩ : ∃ o, o = forgetM e l := ⟨_, rfl⟩
  rw [← ho] at h1 h2 hxn
  have h1' : ACalls Try.prog 5 [aTm e, .i l] [] (.tup [aTm (tm0 o), .b o.isSome]) [] [] := by
    cases o with
    | none => exact h1
    | some p => exact h1
  clear h1 ho
  have h1 := h1'
  clear h1'
  generalize tm0 o = x at *
  generalize o.isSome = b at *
  have hcx := cTm_le x
  have hcx2 := cTm_def x
  have heX := eqTerm_ok x (by omega)
  have hm2 := fun v => markTerm_tree x 1 (by omega) v
  have hh2 := heldTerm_cells x 1 (by omega)
  obtain ⟨n2, hn2⟩ : ∃ n2, n2 = 1 + nTyS x.ty.kids + nTyS x.fr.kids + cTmS x.kids := ⟨_, rfl⟩
  rw [← hn2] at hm2 hh2
  have f2 : ¬ ((n2 : Int) < 0) := by omega
  clear hn2
  generalize (1 + nTyS e.ty.kids + nTyS e.fr.kids + cTmS e.kids) = n1 at hm1
  have f1 : ¬ ((n1 : Int) < 0) := by omega
  generalize szM (nTm e) 1048576 = z at hsz hpos
  refine FCalls.plain ?_
  refine FCalls.of_body Try.func3 (by kernel_rfl) rfl (by kernel_rfl) (by simp [Try.ntmps3]) ?_
  rw [Try.ntmps3]
  repeat' first | (refine aopsJ_end (hK _ _ ?_); clear hK K) | (refine aopsD_end (hK _ ?_); clear hK K) | (refine aopsJ_go ?_; simp [hpos]) | (refine aopsD_go ?_; simp [hpos]) | (refine aopsF_end (hK _ ?_); clear hK K) | (refine aopsF_go ?_; simp [hpos]) | (refine wpcallJ_pure rfl (hsz) ?_; simp [hpos]) | (refine wpcall_pure rfl (hsz) ?_; simp [hpos]) | (refine wpcallJ_pure rfl (hto) ?_; simp [hpos]) | (refine wpcall_pure rfl (hto) ?_; simp [hpos]) | (refine wpcallJ_pure rfl (h1) ?_; simp [hpos]) | (refine wpcall_pure rfl (h1) ?_; simp [hpos]) | refine TJ.seqT (T.rd1 (id := 10) mixed (fun _ => false) [] (by kernel_rfl) fun K hK => ?_) | refine TJ.rs (id := 0) (fun _ => false) fun K hK => ?_ | refine TJ.rs1 (id := 0) (fun _ => false) fun K hK => ?_ | refine TJ.rs (id := 1) (fun _ => false) fun K hK => ?_ | refine TJ.rs1 (id := 1) (fun _ => false) fun K hK => ?_ | refine TJ.rs (id := 2) (fun _ => false) fun K hK => ?_ | refine TJ.rs1 (id := 2) (fun _ => false) fun K hK => ?_ | refine TJ.rs (id := 3) (fun _ => false) fun K hK => ?_ | refine TJ.rs1 (id := 3) (fun _ => false) fun K hK => ?_ | refine TJ.rs (id := 4) (fun _ => false) fun K hK => ?_ | refine TJ.rs1 (id := 4) (fun _ => false) fun K hK => ?_ | refine TJ.rs (id := 5) (fun _ => false) fun K hK => ?_ | refine TJ.rs1 (id := 5) (fun _ => false) fun K hK => ?_ | (refine And.intro (by omega) ?_) | refine TJ.cond rfl (fun hcnd => ?_) (fun hcnd => absurd hcnd (by decide)) | refine TJ.cond rfl (fun hcnd => absurd hcnd (by decide)) (fun hcnd => ?_) | refine TJ.seq ?_ | refine TJ.block ?_ | refine TJ.skip ?_ | refine TJ.exit ?_
  repeat' first | (refine aopsJ_end (hK _ _ ?_); clear hK K) | (refine aopsD_end (hK _ ?_); clear hK K) | (refine aopsJ_go ?_; simp [hpos]) | (refine aopsD_go ?_; simp [hpos]) | (refine aopsF_end (hK _ ?_); clear hK K) | (refine aopsF_go ?_; simp [hpos]) | (refine wpcallJ_new ?_ (htr) ?_; (focus (solve | (repeat' first | exact FzVs.nil | apply FzVs.cons | apply FzV.c | apply FzV.agg | exact FzL.nil | apply FzL.cons | exact FzC.d | exact FzC.nil | exact FzC.np | exact FzC.fn | (refine FzC.thaw' ?_ (tyK_dp 31 _); (focus (solve | simp [tTm]))) | (refine FzC.thaw' ?_ (tmK_dp 31 34 _); (focus (solve | simp [tTm])))))); rintro _ _ ⟨⟨v1, v2, v3⟩, rfl, rfl⟩; simp [hpos]) | refine TJ.seqT (T.rd1 (id := 10) mixed (fun _ => false) [] (by kernel_rfl) fun K hK => ?_) | refine TJ.rs (id := 0) (fun _ => false) fun K hK => ?_ | refine TJ.rs1 (id := 0) (fun _ => false) fun K hK => ?_ | refine TJ.rs (id := 1) (fun _ => false) fun K hK => ?_ | refine TJ.rs1 (id := 1) (fun _ => false) fun K hK => ?_ | refine TJ.rs (id := 2) (fun _ => false) fun K hK => ?_ | refine TJ.rs1 (id := 2) (fun _ => false) fun K hK => ?_ | refine TJ.rs (id := 3) (fun _ => false) fun K hK => ?_ | refine TJ.rs1 (id := 3) (fun _ => false) fun K hK => ?_ | refine TJ.rs (id := 4) (fun _ => false) fun K hK => ?_ | refine TJ.rs1 (id := 4) (fun _ => false) fun K hK => ?_ | refine TJ.rs (id := 5) (fun _ => false) fun K hK => ?_ | refine TJ.rs1 (id := 5) (fun _ => false) fun K hK => ?_ | refine TJ.rs (id := 6) (fun _ => false) fun K hK => ?_ | refine TJ.rs1 (id := 6) (fun _ => false) fun K hK => ?_ | (refine And.intro (by omega) ?_) | refine TJ.cond rfl (fun hcnd => ?_) (fun hcnd => absurd hcnd (by decide)) | refine TJ.cond rfl (fun hcnd => absurd hcnd (by decide)) (fun hcnd => ?_) | refine TJ.seq ?_ | refine TJ.block ?_ | refine TJ.skip ?_ | refine TJ.exit ?_
  have hmx := hm1 (v1, v2, v3)
  repeat' first | (refine aopsJ_end (hK _ _ ?_); clear hK K) | (refine aopsD_end (hK _ ?_); clear hK K) | (refine aopsJ_go ?_; simp [hpos]) | (refine aopsD_go ?_; simp [hpos]) | (refine aopsF_end (hK _ ?_); clear hK K) | (refine aopsF_go ?_; simp [hpos]) | (refine wpcallJ_new ?_ (h2) ?_; (focus (solve | (repeat' first | exact FzVs.nil | apply FzVs.cons | apply FzV.c | apply FzV.agg | exact FzL.nil | apply FzL.cons | exact FzC.d | exact FzC.nil | exact FzC.np | exact FzC.fn | (refine FzC.thaw' ?_ (tyK_dp 31 _); (focus (solve | simp [tTm]))) | (refine FzC.thaw' ?_ (tmK_dp 31 34 _); (focus (solve | simp [tTm])))))); rintro _ _ ⟨⟨w1, w2, w3⟩, rfl, rfl⟩; simp [hpos]) | refine TJ.seqT (T.rd1 (id := 10) mixed (fun _ => false) [] (by kernel_rfl) fun K hK => ?_) | refine TJ.rs (id := 0) (fun _ => false) fun K hK => ?_ | refine TJ.rs1 (id := 0) (fun _ => false) fun K hK => ?_ | refine TJ.rs (id := 1) (fun _ => false) fun K hK => ?_ | refine TJ.rs1 (id := 1) (fun _ => false) fun K hK => ?_ | refine TJ.rs (id := 2) (fun _ => false) fun K hK => ?_ | refine TJ.rs1 (id := 2) (fun _ => false) fun K hK => ?_ | refine TJ.rs (id := 3) (fun _ => false) fun K hK => ?_ | refine TJ.rs1 (id := 3) (fun _ => false) fun K hK => ?_ | refine TJ.rs (id := 4) (fun _ => false) fun K hK => ?_ | refine TJ.rs1 (id := 4) (fun _ => false) fun K hK => ?_ | refine TJ.rs (id := 5) (fun _ => false) fun K hK => ?_ | refine TJ.rs1 (id := 5) (fun _ => false) fun K hK => ?_ | refine TJ.rs (id := 6) (fun _ => false) fun K hK => ?_ | refine TJ.rs1 (id := 6) (fun _ => false) fun K hK => ?_ | refine TJ.rs (id := 7) (fun _ => false) fun K hK => ?_ | refine TJ.rs1 (id := 7) (fun _ => false) fun K hK => ?_ | (refine And.intro (by omega) ?_) | refine TJ.cond rfl (fun hcnd => ?_) (fun hcnd => absurd hcnd (by decide)) | refine TJ.cond rfl (fun hcnd => absurd hcnd (by decide)) (fun hcnd => ?_) | refine TJ.seq ?_ | refine TJ.block ?_ | refine TJ.skip ?_ | refine TJ.exit ?_
  have hmy := hm2 (w1, w2, w3)
  repeat' first | (refine aopsJ_end (hK _ _ ?_); clear hK K) | (refine aopsD_end (hK _ ?_); clear hK K) | (refine aopsJ_go ?_; simp [hpos]) | (refine aopsD_go ?_; simp [hpos]) | (refine aopsF_end (hK _ ?_); clear hK K) | (refine aopsF_go ?_; simp [hpos]) | (refine aopsP_end (hK _ _ ?_); clear hK K) | (refine aopsP_go rfl ?_; simp [hpos]) | (refine aopsP_call rfl ?_; simp [hpos]) | (refine wpcallP_scal ?_ (heX) rfl ?_; (focus (solve | (repeat' first | exact FzVs.nil | apply FzVs.cons | apply FzV.c | apply FzV.agg | exact FzL.nil | apply FzL.cons | exact FzC.d | exact FzC.nil | exact FzC.np | exact FzC.fn | (refine FzC.thaw' ?_ (tyK_dp 31 _); (focus (solve | simp [tTm]))) | (refine FzC.thaw' ?_ (tmK_dp 31 34 _); (focus (solve | simp [tTm])))))); (try (simp [hpos]))) | (refine wpcallP_scal ?_ (heq) rfl ?_; (focus (solve | (repeat' first | exact FzVs.nil | apply FzVs.cons | apply FzV.c | apply FzV.agg | exact FzL.nil | apply FzL.cons | exact FzC.d | exact FzC.nil | exact FzC.np | exact FzC.fn | (refine FzC.thaw' ?_ (tyK_dp 31 _); (focus (solve | simp [tTm]))) | (refine FzC.thaw' ?_ (tmK_dp 31 34 _); (focus (solve | simp [tTm])))))); (try (simp [hpos]))) | (refine wpcallJ_pure rfl (hto) ?_; simp [hpos]) | (refine wpcall_pure rfl (hto) ?_; simp [hpos]) | (refine wpcallJ_scal ?_ (heX) rfl ?_; (focus (solve | (repeat' first | exact FzVs.nil | apply FzVs.cons | apply FzV.c | apply FzV.agg | exact FzL.nil | apply FzL.cons | exact FzC.d | exact FzC.nil | exact FzC.np | exact FzC.fn | (refine FzC.thaw' ?_ (tyK_dp 31 _); (focus (solve | simp [tTm]))) | (refine FzC.thaw' ?_ (tmK_dp 31 34 _); (focus (solve | simp [tTm])))))); simp [hpos]) | (refine wpcallJ_scal ?_ (heq) rfl ?_; (focus (solve | (repeat' first | exact FzVs.nil | apply FzVs.cons | apply FzV.c | apply FzV.agg | exact FzL.nil | apply FzL.cons | exact FzC.d | exact FzC.nil | exact FzC.np | exact FzC.fn | (refine FzC.thaw' ?_ (tyK_dp 31 _); (focus (solve | simp [tTm]))) | (refine FzC.thaw' ?_ (tmK_dp 31 34 _); (focus (solve | simp [tTm])))))); simp [hpos]) | (refine TJ.rdP (id := 10) mixed [0, 1, 2, 3, 4] (fun _ => false) [] [3] (by kernel_rfl) (by kernel_rfl) (by kernel_rfl) fun K hK => ?_; simp only [pickOps, List.map_cons, List.map_nil, List.getD_cons_zero, List.getD_cons_succ]) | (refine TJ.rdP1 (id := 10) mixed [0, 1, 2, 3, 4] (fun _ => false) [] [3] (by kernel_rfl) (by kernel_rfl) (by kernel_rfl) fun K hK => ?_; simp only [pickOps, List.map_cons, List.map_nil, List.getD_cons_zero, List.getD_cons_succ]) | refine TJ.rs (id := 0) (fun _ => false) fun K hK => ?_ | refine TJ.rs1 (id := 0) (fun _ => false) fun K hK => ?_ | refine TJ.rs (id := 1) (fun _ => false) fun K hK => ?_ | refine TJ.rs1 (id := 1) (fun _ => false) fun K hK => ?_ | refine TJ.rs (id := 2) (fun _ => false) fun K hK => ?_ | refine TJ.rs1 (id := 2) (fun _ => false) fun K hK => ?_ | refine TJ.rs (id := 3) (fun _ => false) fun K hK => ?_ | refine TJ.rs1 (id := 3) (fun _ => false) fun K hK => ?_ | refine TJ.rs (id := 4) (fun _ => false) fun K hK => ?_ | refine TJ.rs1 (id := 4) (fun _ => false) fun K hK => ?_ | refine TJ.rs (id := 5) (fun _ => false) fun K hK => ?_ | refine TJ.rs1 (id := 5) (fun _ => false) fun K hK => ?_ | refine TJ.rs (id := 6) (fun _ => false) fun K hK => ?_ | refine TJ.rs1 (id := 6) (fun _ => false) fun K hK => ?_ | refine TJ.rs (id := 7) (fun _ => false) fun K hK => ?_ | refine TJ.rs1 (id := 7) (fun _ => false) fun K hK => ?_ | refine TJ.rs (id := 8) (fun _ => false) fun K hK => ?_ | refine TJ.rs1 (id := 8) (fun _ => false) fun K hK => ?_ | refine TJ.rs (id := 9) (fun _ => false) fun K hK => ?_ | refine TJ.rs1 (id := 9) (fun _ => false) fun K hK => ?_ | refine TJ.rs (id := 11) (fun _ => false) fun K hK => ?_ | refine TJ.rs1 (id := 11) (fun _ => false) fun K hK => ?_ | refine TJ.rs (id := 12) (fun _ => false) fun K hK => ?_ | refine TJ.rs1 (id := 12) (fun _ => false) fun K hK => ?_ | (refine And.intro (by omega) ?_) | refine TJ.cond rfl (fun hcnd => ?_) (fun hcnd => absurd hcnd (by decide)) | refine TJ.cond rfl (fun hcnd => absurd hcnd (by decide)) (fun hcnd => ?_) | refine TJ.seq ?_ | refine TJ.block ?_ | refine TJ.skip ?_ | refine TJ.exit ?_
  repeat' first | (refine aopsJ_end (hK _ _ ?_); clear hK K) | (refine aopsD_end (hK _ ?_); clear hK K) | (refine aopsJ_go ?_; simp [hpos]) | (refine aopsD_go ?_; simp [hpos]) | (refine aopsF_end (hK _ ?_); clear hK K) | (refine aopsF_go ?_; simp [hpos]) | (refine wpcallJ_mut (L2 := tTm 31 34 x (w1, w2, w3)) ?_ ?_ (hmx) ?_; (focus (solve | exact List.perm_append_comm (l₁ := [_, _, _]))); (focus (solve | (repeat' first | exact FzVs.nil | apply FzVs.cons | apply FzV.c | apply FzV.agg | exact FzL.nil | apply FzL.cons | exact FzC.d | exact FzC.nil | exact FzC.np | exact FzC.fn | (refine FzC.thaw' ?_ (tyK_dp 31 _); (focus (solve | simp [tTm]))) | (refine FzC.thaw' ?_ (tmK_dp 31 34 _); (focus (solve | simp [tTm])))))); rintro _ _ ⟨rfl, rfl⟩; simp [hpos]) | refine TJ.seqT (T.rd1 (id := 10) mixed (fun _ => false) [] (by kernel_rfl) fun K hK => ?_) | refine TJ.rs (id := 0) (fun _ => false) fun K hK => ?_ | refine TJ.rs1 (id := 0) (fun _ => false) fun K hK => ?_ | refine TJ.rs (id := 1) (fun _ => false) fun K hK => ?_ | refine TJ.rs1 (id := 1) (fun _ => false) fun K hK => ?_ | refine TJ.rs (id := 2) (fun _ => false) fun K hK => ?_ | refine TJ.rs1 (id := 2) (fun _ => false) fun K hK => ?_ | refine TJ.rs (id := 3) (fun _ => false) fun K hK => ?_ | refine TJ.rs1 (id := 3) (fun _ => false) fun K hK => ?_ | refine TJ.rs (id := 4) (fun _ => false) fun K hK => ?_ | refine TJ.rs1 (id := 4) (fun _ => false) fun K hK => ?_ | refine TJ.rs (id := 5) (fun _ => false) fun K hK => ?_ | refine TJ.rs1 (id := 5) (fun _ => false) fun K hK => ?_ | refine TJ.rs (id := 6) (fun _ => false) fun K hK => ?_ | refine TJ.rs1 (id := 6) (fun _ => false) fun K hK => ?_ | refine TJ.rs (id := 7) (fun _ => false) fun K hK => ?_ | refine TJ.rs1 (id := 7) (fun _ => false) fun K hK => ?_ | refine TJ.rs (id := 8) (fun _ => false) fun K hK => ?_ | refine TJ.rs1 (id := 8) (fun _ => false) fun K hK => ?_ | refine TJ.rs (id := 9) (fun _ => false) fun K hK => ?_ | refine TJ.rs1 (id := 9) (fun _ => false) fun K hK => ?_ | refine TJ.rs (id := 11) (fun _ => false) fun K hK => ?_ | refine TJ.rs1 (id := 11) (fun _ => false) fun K hK => ?_ | refine TJ.rs (id := 12) (fun _ => false) fun K hK => ?_ | refine TJ.rs1 (id := 12) (fun _ => false) fun K hK => ?_ | refine TJ.rs (id := 13) (fun _ => false) fun K hK => ?_ | refine TJ.rs1 (id := 13) (fun _ => false) fun K hK => ?_ | (refine And.intro (by omega) ?_) | refine TJ.cond rfl (fun hcnd => ?_) (fun hcnd => absurd hcnd (by decide)) | refine TJ.cond rfl (fun hcnd => absurd hcnd (by decide)) (fun hcnd => ?_) | refine TJ.seq ?_ | refine TJ.block ?_ | refine TJ.skip ?_ | refine TJ.exit ?_
  repeat' first | (refine aopsJ_end (hK _ _ ?_); clear hK K) | (refine aopsD_end (hK _ ?_); clear hK K) | (refine aopsJ_go ?_; simp [hpos, f1, f2]) | (refine aopsD_go ?_; simp [hpos, f1, f2]) | (refine aopsF_end (hK _ ?_); clear hK K) | (refine aopsF_go ?_; simp [hpos, f1, f2]) | (refine wpcallJ_scal ?_ (heX) rfl ?_; (focus (solve | (repeat' first | exact FzVs.nil | apply FzVs.cons | apply FzV.c | apply FzV.agg | exact FzL.nil | apply FzL.cons | exact FzC.d | exact FzC.nil | exact FzC.np | exact FzC.fn | (refine FzC.thaw' ?_ (tyK_dp 31 _); (focus (solve | simp [tTm]))) | (refine FzC.thaw' ?_ (tmK_dp 31 34 _); (focus (solve | simp [tTm])))))); simp [hpos, f1, f2]) | refine TJ.seqT (T.rd1 (id := 10) mixed (fun _ => false) [] (by kernel_rfl) fun K hK => ?_) | refine TJ.rs (id := 0) (fun _ => false) fun K hK => ?_ | refine TJ.rs1 (id := 0) (fun _ => false) fun K hK => ?_ | refine TJ.rs (id := 1) (fun _ => false) fun K hK => ?_ | refine TJ.rs1 (id := 1) (fun _ => false) fun K hK => ?_ | refine TJ.rs (id := 2) (fun _ => false) fun K hK => ?_ | refine TJ.rs1 (id := 2) (fun _ => false) fun K hK => ?_ | refine TJ.rs (id := 3) (fun _ => false) fun K hK => ?_ | refine TJ.rs1 (id := 3) (fun _ => false) fun K hK => ?_ | refine TJ.rs (id := 4) (fun _ => false) fun K hK => ?_ | refine TJ.rs1 (id := 4) (fun _ => false) fun K hK => ?_ | refine TJ.rs (id := 5) (fun _ => false) fun K hK => ?_ | refine TJ.rs1 (id := 5) (fun _ => false) fun K hK => ?_ | refine TJ.rs (id := 6) (fun _ => false) fun K hK => ?_ | refine TJ.rs1 (id := 6) (fun _ => false) fun K hK => ?_ | refine TJ.rs (id := 7) (fun _ => false) fun K hK => ?_ | refine TJ.rs1 (id := 7) (fun _ => false) fun K hK => ?_ | refine TJ.rs (id := 8) (fun _ => false) fun K hK => ?_ | refine TJ.rs1 (id := 8) (fun _ => false) fun K hK => ?_ | refine TJ.rs (id := 9) (fun _ => false) fun K hK => ?_ | refine TJ.rs1 (id := 9) (fun _ => false) fun K hK => ?_ | refine TJ.rs (id := 11) (fun _ => false) fun K hK => ?_ | refine TJ.rs1 (id := 11) (fun _ => false) fun K hK => ?_ | refine TJ.rs (id := 12) (fun _ => false) fun K hK => ?_ | refine TJ.rs1 (id := 12) (fun _ => false) fun K hK => ?_ | refine TJ.rs (id := 13) (fun _ => false) fun K hK => ?_ | refine TJ.rs1 (id := 13) (fun _ => false) fun K hK => ?_ | refine TJ.rs (id := 14) (fun _ => false) fun K hK => ?_ | refine TJ.rs1 (id := 14) (fun _ => false) fun K hK => ?_ | refine TJ.rs (id := 15) (fun _ => false) fun K hK => ?_ | refine TJ.rs1 (id := 15) (fun _ => false) fun K hK => ?_ | refine TJ.rs (id := 16) (fun _ => false) fun K hK => ?_ | refine TJ.rs1 (id := 16) (fun _ => false) fun K hK => ?_ | (refine And.intro (by omega) ?_) | refine TJ.cond rfl (fun hcnd => ?_) (fun hcnd => absurd hcnd (by decide)) | refine TJ.cond rfl (fun hcnd => absurd hcnd (by decide)) (fun hcnd => ?_) | refine TJ.seq ?_ | refine TJ.block ?_ | refine TJ.skip ?_ | refine TJ.exit ?_
  repeat' first | (refine aopsJ_end (hK _ _ ?_); clear hK K) | (refine aopsD_end (hK _ ?_); clear hK K) | (refine aopsJ_go ?_; simp [hpos, f1, f2]) | (refine aopsD_go ?_; simp [hpos, f1, f2]) | (refine aopsF_end (hK _ ?_); clear hK K) | (refine aopsF_go ?_; simp [hpos, f1, f2]) | (refine wpcallJ_mut (L2 := [(tyK 31 (markS e.ty.kids 1), v1), (tyK 31 (markS e.fr.kids (1 + nTyS e.ty.kids)), v2), (tmK 31 34 (markSm e.kids (1 + nTyS e.ty.kids + nTyS e.fr.kids)), v3)]) ?_ ?_ (hmy) ?_; (focus (solve | exact List.perm_append_comm (l₁ := [_, _, _]))); (focus (solve | (repeat' first | exact FzVs.nil | apply FzVs.cons | apply FzV.c | apply FzV.agg | exact FzL.nil | apply FzL.cons | exact FzC.d | exact FzC.nil | exact FzC.np | exact FzC.fn | (refine FzC.thaw' ?_ (tyK_dp 31 _); (focus (solve | simp [tTm]))) | (refine FzC.thaw' ?_ (tmK_dp 31 34 _); (focus (solve | simp [tTm])))))); rintro _ _ ⟨rfl, rfl⟩; simp [hpos, f1, f2]) | refine TJ.seqT (T.rd1 (id := 10) mixed (fun _ => false) [] (by kernel_rfl) fun K hK => ?_) | refine TJ.rs (id := 0) (fun _ => false) fun K hK => ?_ | refine TJ.rs1 (id := 0) (fun _ => false) fun K hK => ?_ | refine TJ.rs (id := 1) (fun _ => false) fun K hK => ?_ | refine TJ.rs1 (id := 1) (fun _ => false) fun K hK => ?_ | refine TJ.rs (id := 2) (fun _ => false) fun K hK => ?_ | refine TJ.rs1 (id := 2) (fun _ => false) fun K hK => ?_ | refine TJ.rs (id := 3) (fun _ => false) fun K hK => ?_ | refine TJ.rs1 (id := 3) (fun _ => false) fun K hK => ?_ | refine TJ.rs (id := 4) (fun _ => false) fun K hK => ?_ | refine TJ.rs1 (id := 4) (fun _ => false) fun K hK => ?_ | refine TJ.rs (id := 5) (fun _ => false) fun K hK => ?_ | refine TJ.rs1 (id := 5) (fun _ => false) fun K hK => ?_ | refine TJ.rs (id := 6) (fun _ => false) fun K hK => ?_ | refine TJ.rs1 (id := 6) (fun _ => false) fun K hK => ?_ | refine TJ.rs (id := 7) (fun _ => false) fun K hK => ?_ | refine TJ.rs1 (id := 7) (fun _ => false) fun K hK => ?_ | refine TJ.rs (id := 8) (fun _ => false) fun K hK => ?_ | refine TJ.rs1 (id := 8) (fun _ => false) fun K hK => ?_ | refine TJ.rs (id := 9) (fun _ => false) fun K hK => ?_ | refine TJ.rs1 (id := 9) (fun _ => false) fun K hK => ?_ | refine TJ.rs (id := 11) (fun _ => false) fun K hK => ?_ | refine TJ.rs1 (id := 11) (fun _ => false) fun K hK => ?_ | refine TJ.rs (id := 12) (fun _ => false) fun K hK => ?_ | refine TJ.rs1 (id := 12) (fun _ => false) fun K hK => ?_ | refine TJ.rs (id := 13) (fun _ => false) fun K hK => ?_ | refine TJ.rs1 (id := 13) (fun _ => false) fun K hK => ?_ | refine TJ.rs (id := 14) (fun _ => false) fun K hK => ?_ | refine TJ.rs1 (id := 14) (fun _ => false) fun K hK => ?_ | refine TJ.rs (id := 15) (fun _ => false) fun K hK => ?_ | refine TJ.rs1 (id := 15) (fun _ => false) fun K hK => ?_ | refine TJ.rs (id := 16) (fun _ => false) fun K hK => ?_ | refine TJ.rs1 (id := 16) (fun _ => false) fun K hK => ?_ | refine TJ.rs (id := 17) (fun _ => false) fun K hK => ?_ | refine TJ.rs1 (id := 17) (fun _ => false) fun K hK => ?_ | (refine And.intro (by omega) ?_) | refine TJ.cond rfl (fun hcnd => ?_) (fun hcnd => absurd hcnd (by decide)) | refine TJ.cond rfl (fun hcnd => absurd hcnd (by decide)) (fun hcnd => ?_) | refine TJ.seq ?_ | refine TJ.block ?_ | refine TJ.skip ?_ | refine TJ.exit ?_
  repeat' first | (refine aopsJ_end (hK _ _ ?_); clear hK K) | (refine aopsD_end (hK _ ?_); clear hK K) | (refine aopsJ_go ?_; simp [hpos, f1, f2]) | (refine aopsD_go ?_; simp [hpos, f1, f2]) | (refine aopsF_end (hK _ ?_); clear hK K) | (refine aopsF_go ?_; simp [hpos, f1, f2]) | (refine wpcallJ_pure rfl (hto) ?_; simp [hpos, f1, f2]) | (refine wpcall_pure rfl (hto) ?_; simp [hpos, f1, f2]) | (refine wpcallJ_scal ?_ (hh2) rfl ?_; (focus (solve | (repeat' first | exact FzVs.nil | apply FzVs.cons | apply FzV.c | apply FzV.agg | exact FzL.nil | apply FzL.cons | exact FzC.d | exact FzC.nil | exact FzC.np | exact FzC.fn | (refine FzC.thaw' ?_ (tyK_dp 31 _); (focus (solve | simp [tTm]))) | (refine FzC.thaw' ?_ (tmK_dp 31 34 _); (focus (solve | simp [tTm])))))); simp [hpos, f1, f2]) | (refine wpcallJ_scal ?_ (heX) rfl ?_; (focus (solve | (repeat' first | exact FzVs.nil | apply FzVs.cons | apply FzV.c | apply FzV.agg | exact FzL.nil | apply FzL.cons | exact FzC.d | exact FzC.nil | exact FzC.np | exact FzC.fn | (refine FzC.thaw' ?_ (tyK_dp 31 _); (focus (solve | simp [tTm]))) | (refine FzC.thaw' ?_ (tmK_dp 31 34 _); (focus (solve | simp [tTm])))))); simp [hpos, f1, f2]) | (refine wpcallJ_new ?_ (h2) ?_; (focus (solve | (repeat' first | exact FzVs.nil | apply FzVs.cons | apply FzV.c | apply FzV.agg | exact FzL.nil | apply FzL.cons | exact FzC.d | exact FzC.nil | exact FzC.np | exact FzC.fn | (refine FzC.thaw' ?_ (tyK_dp 31 _); (focus (solve | simp [tTm]))) | (refine FzC.thaw' ?_ (tmK_dp 31 34 _); (focus (solve | simp [tTm])))))); rintro _ _ ⟨⟨u1, u2, u3⟩, rfl, rfl⟩; simp [hpos, f1, f2]) | (refine TJ.ret (DoneJ.eq (Or.inr rfl) ?_ ?_) <;> simp [Try.results3, DV.scal]) | (refine TJ.ret (DoneJ.scal (Or.inr rfl) ?_ ?_ ?_) <;> simp [Try.results3]) | refine TJ.seqT (T.rd1 (id := 10) mixed (fun _ => false) [] (by kernel_rfl) fun K hK => ?_) | refine TJ.rs (fun _ => false) fun K hK => ?_ | refine TJ.rs1 (fun _ => false) fun K hK => ?_ | (refine And.intro (by omega) ?_) | refine TJ.cond rfl (fun hcnd => ?_) (fun hcnd => absurd hcnd (by decide)) | refine TJ.cond rfl (fun hcnd => absurd hcnd (by decide)) (fun hcnd => ?_) | refine TJ.seq ?_ | refine TJ.block ?_ | refine TJ.skip ?_ | refine TJ.exit ?_
end Go.Proofs.Ytbakdfnmippcoaa
