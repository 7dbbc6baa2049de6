/- Terms: a node by itself, in the program and in the reference. -/
import Derived.Test.YtdbffbmbbfbamaaN4
namespace Go.Proofs.Ytdbffbmbbfbamaa
open Go Go.Av
attribute [local irreducible] T ACalls eTy eTm MTy.kind MTy.kids MTm.kind MTm.name MTm.num MTm.ty MTm.fr MTm.label MTm.kids
attribute [local simp] eTy_def eTm_def
set_option linter.unusedSimpArgs false
set_option linter.unusedVariables false
set_option maxHeartbeats 4000000

theorem l1Abs_ok (k : Int) : ACalls Try.prog 65 [.i k] [] (.i (if k < -99 ∨ 99 < k then 0 else if k < 0 then -k else k)) [] [] := by
  refine ACalls.of_body Try.func65 (by kernel_rfl) rfl (by kernel_rfl) (by simp [Try.ntmps65]) (by simp) ?_
  rw [Try.ntmps65]
  repeat' first
    | (refine aops_end (hK _ ?_); clear hK K)
    | (refine aopsD_end (hK _ ?_); clear hK K)
    | (refine aops_go ?_; simp; (try simp (disch := omega) only [wrap64]); (try (refine Ops.gen fun q hq => ?_; cases q <;> (try simp at hq) <;> (try (have hh : True := hq; clear hh hq)))))
    | (refine aopsD_go ?_; simp; (try simp (disch := omega) only [wrap64]); (try (refine OpsD.gen fun q hq => ?_; cases q <;> (try simp at hq) <;> (try (have hh : True := hq; clear hh hq)))))
    | (refine T.ret (Done.data (Or.inr rfl) ?_ ?_) <;> simp [Try.results65, *] <;> omega)
    | refine T.rs (fun _ => false) fun K hK => ?_
    | refine T.rs1 (fun _ => false) fun K hK => ?_
    | refine T.rd mixed (fun _ => false) [] (by kernel_rfl) fun K hK => ?_
    | refine T.rd1 mixed (fun _ => false) [] (by kernel_rfl) fun K hK => ?_
    | refine T.cond rfl (fun hcnd => ?_) (fun hcnd => absurd hcnd (by decide))
    | refine T.cond rfl (fun hcnd => absurd hcnd (by decide)) (fun hcnd => ?_)
    | refine T.seq ?_
    | refine T.block ?_
    | refine T.skip ?_
    | refine T.exit ?_

theorem l4Own_ok (e : MTm) (hk : e.kind = 14) (ht : nTy e.ty ≤ 1099511627776) (hf : nTy e.fr ≤ 1099511627776) : ACalls Try.prog 52 [aTm e] [] (.b (ownM e)) [] [] := by
  have hr : ownM e = (decide (e.name = []) && decide (e.num = 0) && labM e.label && shapeTy 4 e.ty && shapeTy 4 e.fr && consTy e.fr e.ty) := by
    have hz : inM e.num 0 0 = decide (e.num = 0) := by simp only [inM, ← Bool.decide_and]; exact decide_eq_decide.2 (by omega)
    simp only [ownM, hk, namedM, typedM, castOwnM]
    simp [hz]
    generalize shapeTy 4 e.ty = a; generalize shapeTy 4 e.fr = b; generalize consTy e.fr e.ty = c; generalize labM e.label = d
    cases a <;> cases b <;> cases c <;> cases d <;> simp
  rw [hr]
  generalize hm : (if e.label < -99 ∨ 99 < e.label then 0 else if e.label < 0 then -e.label else e.label) = m
  have hl : labM e.label = (decide (1 ≤ m) && decide (m ≤ 99)) := by
    simp only [labM, inM, ← Bool.decide_and, ← Bool.decide_or]
    refine decide_eq_decide.2 ?_
    rw [← hm]
    split <;> (try split) <;> omega
  have habs := l1Abs_ok e.label
  rw [hm] at habs
  rw [hl]
  have hty := TypeValidS_ok e.ty ht
  have hfr := TypeValidS_ok e.fr hf
  generalize hS : shapeTy 4 e.ty = S1 at *
  generalize hS' : shapeTy 4 e.fr = S2 at *
  cases S1 with
  | false => 
    refine ACalls.of_body Try.func52 (by kernel_rfl) rfl (by kernel_rfl) (by simp [Try.ntmps52]) (by simp) ?_
    rw [Try.ntmps52]
    repeat' first
      | (refine aops_end (hK _ ?_); clear hK K)
      | (refine aopsD_end (hK _ ?_); clear hK K)
      | (refine aops_go ?_; simp; (try (refine Ops.gen fun q hq => ?_; cases q <;> (try simp at hq) <;> (try (have hh : True := hq; clear hh hq)))))
      | (refine aopsD_go ?_; simp; (try (refine OpsD.gen fun q hq => ?_; cases q <;> (try simp at hq) <;> (try (have hh : True := hq; clear hh hq)))))
      | (refine wpcall_pure rfl (habs) ?_; simp; (try first | (refine Ops.gen fun q hq => ?_; cases q <;> (try simp at hq) <;> (try (have hh : True := hq; clear hh hq))) | (refine OpsD.gen fun q hq => ?_; cases q <;> (try simp at hq) <;> (try (have hh : True := hq; clear hh hq)))))
      | (refine wpcall_pure rfl (hty) ?_; simp; (try first | (refine Ops.gen fun q hq => ?_; cases q <;> (try simp at hq) <;> (try (have hh : True := hq; clear hh hq))) | (refine OpsD.gen fun q hq => ?_; cases q <;> (try simp at hq) <;> (try (have hh : True := hq; clear hh hq)))))
      | (refine T.ret (Done.data (Or.inr rfl) ?_ ?_) <;> simp [Try.results52, *] <;> omega)
      | refine T.rs (fun _ => false) fun K hK => ?_
      | refine T.rs1 (fun _ => false) fun K hK => ?_
      | refine T.rd mixed (fun _ => false) [] (by kernel_rfl) fun K hK => ?_
      | refine T.rd1 mixed (fun _ => false) [] (by kernel_rfl) fun K hK => ?_
      | refine T.cond rfl (fun hcnd => ?_) (fun hcnd => absurd hcnd (by decide))
      | refine T.cond rfl (fun hcnd => absurd hcnd (by decide)) (fun hcnd => ?_)
      | refine T.seq ?_
      | refine T.block ?_
      | refine T.skip ?_
      | refine T.exit ?_
  | true =>
    cases S2 with
    | false =>
      refine ACalls.of_body Try.func52 (by kernel_rfl) rfl (by kernel_rfl) (by simp [Try.ntmps52]) (by simp) ?_
      rw [Try.ntmps52]
      repeat' first
        | (refine aops_end (hK _ ?_); clear hK K)
        | (refine aopsD_end (hK _ ?_); clear hK K)
        | (refine aops_go ?_; simp; (try (refine Ops.gen fun q hq => ?_; cases q <;> (try simp at hq) <;> (try (have hh : True := hq; clear hh hq)))))
        | (refine aopsD_go ?_; simp; (try (refine OpsD.gen fun q hq => ?_; cases q <;> (try simp at hq) <;> (try (have hh : True := hq; clear hh hq)))))
        | (refine wpcall_pure rfl (habs) ?_; simp; (try first | (refine Ops.gen fun q hq => ?_; cases q <;> (try simp at hq) <;> (try (have hh : True := hq; clear hh hq))) | (refine OpsD.gen fun q hq => ?_; cases q <;> (try simp at hq) <;> (try (have hh : True := hq; clear hh hq)))))
        | (refine wpcall_pure rfl (hty) ?_; simp; (try first | (refine Ops.gen fun q hq => ?_; cases q <;> (try simp at hq) <;> (try (have hh : True := hq; clear hh hq))) | (refine OpsD.gen fun q hq => ?_; cases q <;> (try simp at hq) <;> (try (have hh : True := hq; clear hh hq)))))
        | (refine wpcall_pure rfl (hfr) ?_; simp; (try first | (refine Ops.gen fun q hq => ?_; cases q <;> (try simp at hq) <;> (try (have hh : True := hq; clear hh hq))) | (refine OpsD.gen fun q hq => ?_; cases q <;> (try simp at hq) <;> (try (have hh : True := hq; clear hh hq)))))
        | (refine T.ret (Done.data (Or.inr rfl) ?_ ?_) <;> simp [Try.results52, *] <;> omega)
        | refine T.rs (fun _ => false) fun K hK => ?_
        | refine T.rs1 (fun _ => false) fun K hK => ?_
        | refine T.rd mixed (fun _ => false) [] (by kernel_rfl) fun K hK => ?_
        | refine T.rd1 mixed (fun _ => false) [] (by kernel_rfl) fun K hK => ?_
        | refine T.cond rfl (fun hcnd => ?_) (fun hcnd => absurd hcnd (by decide))
        | refine T.cond rfl (fun hcnd => absurd hcnd (by decide)) (fun hcnd => ?_)
        | refine T.seq ?_
        | refine T.block ?_
        | refine T.skip ?_
        | refine T.exit ?_
    | true =>
      have hco := l1Consistent_ok 4 e.fr e.ty (by omega) hS' hS
      refine ACalls.of_body Try.func52 (by kernel_rfl) rfl (by kernel_rfl) (by simp [Try.ntmps52]) (by simp) ?_
      rw [Try.ntmps52]
      repeat' first
        | (refine aops_end (hK _ ?_); clear hK K)
        | (refine aopsD_end (hK _ ?_); clear hK K)
        | (refine aops_go ?_; simp; (try (refine Ops.gen fun q hq => ?_; cases q <;> (try simp at hq) <;> (try (have hh : True := hq; clear hh hq)))))
        | (refine aopsD_go ?_; simp; (try (refine OpsD.gen fun q hq => ?_; cases q <;> (try simp at hq) <;> (try (have hh : True := hq; clear hh hq)))))
        | (refine wpcall_pure rfl (habs) ?_; simp; (try first | (refine Ops.gen fun q hq => ?_; cases q <;> (try simp at hq) <;> (try (have hh : True := hq; clear hh hq))) | (refine OpsD.gen fun q hq => ?_; cases q <;> (try simp at hq) <;> (try (have hh : True := hq; clear hh hq)))))
        | (refine wpcall_pure rfl (hty) ?_; simp; (try first | (refine Ops.gen fun q hq => ?_; cases q <;> (try simp at hq) <;> (try (have hh : True := hq; clear hh hq))) | (refine OpsD.gen fun q hq => ?_; cases q <;> (try simp at hq) <;> (try (have hh : True := hq; clear hh hq)))))
        | (refine wpcall_pure rfl (hfr) ?_; simp; (try first | (refine Ops.gen fun q hq => ?_; cases q <;> (try simp at hq) <;> (try (have hh : True := hq; clear hh hq))) | (refine OpsD.gen fun q hq => ?_; cases q <;> (try simp at hq) <;> (try (have hh : True := hq; clear hh hq)))))
        | (refine wpcall_pure rfl (hco) ?_; simp; (try first | (refine Ops.gen fun q hq => ?_; cases q <;> (try simp at hq) <;> (try (have hh : True := hq; clear hh hq))) | (refine OpsD.gen fun q hq => ?_; cases q <;> (try simp at hq) <;> (try (have hh : True := hq; clear hh hq)))))
        | (refine T.ret (Done.data (Or.inr rfl) ?_ ?_) <;> simp [Try.results52, *] <;> omega)
        | refine T.rs (fun _ => false) fun K hK => ?_
        | refine T.rs1 (fun _ => false) fun K hK => ?_
        | refine T.rd mixed (fun _ => false) [] (by kernel_rfl) fun K hK => ?_
        | refine T.rd1 mixed (fun _ => false) [] (by kernel_rfl) fun K hK => ?_
        | refine T.cond rfl (fun hcnd => ?_) (fun hcnd => absurd hcnd (by decide))
        | refine T.cond rfl (fun hcnd => absurd hcnd (by decide)) (fun hcnd => ?_)
        | refine T.seq ?_
        | refine T.block ?_
        | refine T.skip ?_
        | refine T.exit ?_

theorem kind_cases (k : Int) : k = 1 ∨ k = 5 ∨ k = 13 ∨ k = 14 ∨ k = 2 ∨ (¬ k = 1 ∧ ¬ k = 5 ∧ ¬ k = 13 ∧ ¬ k = 14 ∧ ¬ k = 2) := by omega

theorem in00 (n : Int) : inM n 0 0 = decide (n = 0) := by simp only [inM, ← Bool.decide_and]; exact decide_eq_decide.2 (by omega)

theorem l2Own_ok (e : MTm) (hk : e.kind ≠ 14) (ht : nTy e.ty ≤ 1099511627776) : ACalls Try.prog 53 [aTm e] [] (.b (ownM e)) [] [] := by
  have hnm := l2Name_ok e.name
  have hty := TypeValidS_ok e.ty ht
  have hnt := l2None_ok e.ty
  have hnf := l2None_ok e.fr
  rcases kind_cases e.kind with h1 | h1 | h1 | h1 | h1 | ⟨h1, h2, h3, h4, h5⟩
  · have hr : ownM e = (nameM e.name && decide (e.num = 0) && noTyM e.ty && (noTyM e.fr && decide (e.label = 0))) := by simp [ownM, h1, namedM, typedM, in00]
    rw [hr]
    refine ACalls.of_body Try.func53 (by kernel_rfl) rfl (by kernel_rfl) (by simp [Try.ntmps53]) (by simp) ?_
    rw [Try.ntmps53]
    repeat' first
      | (refine aops_end (hK _ ?_); clear hK K)
      | (refine aopsD_end (hK _ ?_); clear hK K)
      | (refine aops_go ?_; simp [h1]; (try (refine Ops.gen fun q hq => ?_; cases q <;> (try simp [h1] at hq) <;> (try (have hh : True := hq; clear hh hq)))))
      | (refine aopsD_go ?_; simp [h1]; (try (refine OpsD.gen fun q hq => ?_; cases q <;> (try simp [h1] at hq) <;> (try (have hh : True := hq; clear hh hq)))))
      | (refine wpcall_pure rfl (hnm) ?_; simp [h1]; (try first | (refine Ops.gen fun q hq => ?_; cases q <;> (try simp [h1] at hq) <;> (try (have hh : True := hq; clear hh hq))) | (refine OpsD.gen fun q hq => ?_; cases q <;> (try simp [h1] at hq) <;> (try (have hh : True := hq; clear hh hq)))))
      | (refine wpcall_pure rfl (hnt) ?_; simp [h1]; (try first | (refine Ops.gen fun q hq => ?_; cases q <;> (try simp [h1] at hq) <;> (try (have hh : True := hq; clear hh hq))) | (refine OpsD.gen fun q hq => ?_; cases q <;> (try simp [h1] at hq) <;> (try (have hh : True := hq; clear hh hq)))))
      | (refine wpcall_pure rfl (hnf) ?_; simp [h1]; (try first | (refine Ops.gen fun q hq => ?_; cases q <;> (try simp [h1] at hq) <;> (try (have hh : True := hq; clear hh hq))) | (refine OpsD.gen fun q hq => ?_; cases q <;> (try simp [h1] at hq) <;> (try (have hh : True := hq; clear hh hq)))))
      | (refine T.ret (Done.data (Or.inr rfl) ?_ ?_) <;> simp [Try.results53, *] <;> omega)
      | refine T.rs (fun _ => false) fun K hK => ?_
      | refine T.rs1 (fun _ => false) fun K hK => ?_
      | refine T.rd mixed (fun _ => false) [] (by kernel_rfl) fun K hK => ?_
      | refine T.rd1 mixed (fun _ => false) [] (by kernel_rfl) fun K hK => ?_
      | refine T.cond rfl (fun hcnd => ?_) (fun hcnd => absurd hcnd (by decide))
      | refine T.cond rfl (fun hcnd => absurd hcnd (by decide)) (fun hcnd => ?_)
      | refine T.seq ?_
      | refine T.block ?_
      | refine T.skip ?_
      | refine T.exit ?_
  · have hr : ownM e = (nameM e.name && decide (e.num = 0) && shapeTy 4 e.ty && (noTyM e.fr && decide (e.label = 0))) := by simp [ownM, h1, namedM, typedM, in00]
    rw [hr]
    refine ACalls.of_body Try.func53 (by kernel_rfl) rfl (by kernel_rfl) (by simp [Try.ntmps53]) (by simp) ?_
    rw [Try.ntmps53]
    repeat' first
      | (refine aops_end (hK _ ?_); clear hK K)
      | (refine aopsD_end (hK _ ?_); clear hK K)
      | (refine aops_go ?_; simp [h1]; (try (refine Ops.gen fun q hq => ?_; cases q <;> (try simp [h1] at hq) <;> (try (have hh : True := hq; clear hh hq)))))
      | (refine aopsD_go ?_; simp [h1]; (try (refine OpsD.gen fun q hq => ?_; cases q <;> (try simp [h1] at hq) <;> (try (have hh : True := hq; clear hh hq)))))
      | (refine wpcall_pure rfl (hnm) ?_; simp [h1]; (try first | (refine Ops.gen fun q hq => ?_; cases q <;> (try simp [h1] at hq) <;> (try (have hh : True := hq; clear hh hq))) | (refine OpsD.gen fun q hq => ?_; cases q <;> (try simp [h1] at hq) <;> (try (have hh : True := hq; clear hh hq)))))
      | (refine wpcall_pure rfl (hty) ?_; simp [h1]; (try first | (refine Ops.gen fun q hq => ?_; cases q <;> (try simp [h1] at hq) <;> (try (have hh : True := hq; clear hh hq))) | (refine OpsD.gen fun q hq => ?_; cases q <;> (try simp [h1] at hq) <;> (try (have hh : True := hq; clear hh hq)))))
      | (refine wpcall_pure rfl (hnf) ?_; simp [h1]; (try first | (refine Ops.gen fun q hq => ?_; cases q <;> (try simp [h1] at hq) <;> (try (have hh : True := hq; clear hh hq))) | (refine OpsD.gen fun q hq => ?_; cases q <;> (try simp [h1] at hq) <;> (try (have hh : True := hq; clear hh hq)))))
      | (refine T.ret (Done.data (Or.inr rfl) ?_ ?_) <;> simp [Try.results53, *] <;> omega)
      | refine T.rs (fun _ => false) fun K hK => ?_
      | refine T.rs1 (fun _ => false) fun K hK => ?_
      | refine T.rd mixed (fun _ => false) [] (by kernel_rfl) fun K hK => ?_
      | refine T.rd1 mixed (fun _ => false) [] (by kernel_rfl) fun K hK => ?_
      | refine T.cond rfl (fun hcnd => ?_) (fun hcnd => absurd hcnd (by decide))
      | refine T.cond rfl (fun hcnd => absurd hcnd (by decide)) (fun hcnd => ?_)
      | refine T.seq ?_
      | refine T.block ?_
      | refine T.skip ?_
      | refine T.exit ?_
  · have hr : ownM e = (decide (e.name = []) && decide (e.num = 0) && shapeTy 4 e.ty && (noTyM e.fr && decide (e.label = 0))) := by simp [ownM, h1, namedM, typedM, in00]
    have hn0 : e.name = [] → nameM e.name = false := fun h => by rw [h]; rfl
    rw [hr]
    by_cases hne : e.name = []
    · rw [hn0 hne, hne] at hnm
      refine ACalls.of_body Try.func53 (by kernel_rfl) rfl (by kernel_rfl) (by simp [Try.ntmps53]) (by simp) ?_
      rw [Try.ntmps53]
      repeat' first
        | (refine aops_end (hK _ ?_); clear hK K)
        | (refine aopsD_end (hK _ ?_); clear hK K)
        | (refine aops_go ?_; simp [h1, hne]; (try (refine Ops.gen fun q hq => ?_; cases q <;> (try simp [h1, hne] at hq) <;> (try (have hh : True := hq; clear hh hq)))))
        | (refine aopsD_go ?_; simp [h1, hne]; (try (refine OpsD.gen fun q hq => ?_; cases q <;> (try simp [h1, hne] at hq) <;> (try (have hh : True := hq; clear hh hq)))))
        | (refine wpcall_pure rfl (hnm) ?_; simp [h1, hne]; (try first | (refine Ops.gen fun q hq => ?_; cases q <;> (try simp [h1, hne] at hq) <;> (try (have hh : True := hq; clear hh hq))) | (refine OpsD.gen fun q hq => ?_; cases q <;> (try simp [h1, hne] at hq) <;> (try (have hh : True := hq; clear hh hq)))))
        | (refine wpcall_pure rfl (hty) ?_; simp [h1, hne]; (try first | (refine Ops.gen fun q hq => ?_; cases q <;> (try simp [h1, hne] at hq) <;> (try (have hh : True := hq; clear hh hq))) | (refine OpsD.gen fun q hq => ?_; cases q <;> (try simp [h1, hne] at hq) <;> (try (have hh : True := hq; clear hh hq)))))
        | (refine wpcall_pure rfl (hnf) ?_; simp [h1, hne]; (try first | (refine Ops.gen fun q hq => ?_; cases q <;> (try simp [h1, hne] at hq) <;> (try (have hh : True := hq; clear hh hq))) | (refine OpsD.gen fun q hq => ?_; cases q <;> (try simp [h1, hne] at hq) <;> (try (have hh : True := hq; clear hh hq)))))
        | (refine T.ret (Done.data (Or.inr rfl) ?_ ?_) <;> simp [Try.results53, *] <;> omega)
        | refine T.rs (fun _ => false) fun K hK => ?_
        | refine T.rs1 (fun _ => false) fun K hK => ?_
        | refine T.rd mixed (fun _ => false) [] (by kernel_rfl) fun K hK => ?_
        | refine T.rd1 mixed (fun _ => false) [] (by kernel_rfl) fun K hK => ?_
        | refine T.cond rfl (fun hcnd => ?_) (fun hcnd => absurd hcnd (by decide))
        | refine T.cond rfl (fun hcnd => absurd hcnd (by decide)) (fun hcnd => ?_)
        | refine T.seq ?_
        | refine T.block ?_
        | refine T.skip ?_
        | refine T.exit ?_
    · generalize nameM e.name = nb at hnm
      refine ACalls.of_body Try.func53 (by kernel_rfl) rfl (by kernel_rfl) (by simp [Try.ntmps53]) (by simp) ?_
      rw [Try.ntmps53]
      repeat' first
        | (refine aops_end (hK _ ?_); clear hK K)
        | (refine aopsD_end (hK _ ?_); clear hK K)
        | (refine aops_go ?_; simp [h1, hne]; (try (refine Ops.gen fun q hq => ?_; cases q <;> (try simp [h1, hne] at hq) <;> (try (have hh : True := hq; clear hh hq)))))
        | (refine aopsD_go ?_; simp [h1, hne]; (try (refine OpsD.gen fun q hq => ?_; cases q <;> (try simp [h1, hne] at hq) <;> (try (have hh : True := hq; clear hh hq)))))
        | (refine wpcall_pure rfl (hnm) ?_; simp [h1, hne]; (try first | (refine Ops.gen fun q hq => ?_; cases q <;> (try simp [h1, hne] at hq) <;> (try (have hh : True := hq; clear hh hq))) | (refine OpsD.gen fun q hq => ?_; cases q <;> (try simp [h1, hne] at hq) <;> (try (have hh : True := hq; clear hh hq)))))
        | (refine wpcall_pure rfl (hty) ?_; simp [h1, hne]; (try first | (refine Ops.gen fun q hq => ?_; cases q <;> (try simp [h1, hne] at hq) <;> (try (have hh : True := hq; clear hh hq))) | (refine OpsD.gen fun q hq => ?_; cases q <;> (try simp [h1, hne] at hq) <;> (try (have hh : True := hq; clear hh hq)))))
        | (refine wpcall_pure rfl (hnf) ?_; simp [h1, hne]; (try first | (refine Ops.gen fun q hq => ?_; cases q <;> (try simp [h1, hne] at hq) <;> (try (have hh : True := hq; clear hh hq))) | (refine OpsD.gen fun q hq => ?_; cases q <;> (try simp [h1, hne] at hq) <;> (try (have hh : True := hq; clear hh hq)))))
        | (refine T.ret (Done.data (Or.inr rfl) ?_ ?_) <;> simp [Try.results53, *] <;> omega)
        | refine T.rs (fun _ => false) fun K hK => ?_
        | refine T.rs1 (fun _ => false) fun K hK => ?_
        | refine T.rd mixed (fun _ => false) [] (by kernel_rfl) fun K hK => ?_
        | refine T.rd1 mixed (fun _ => false) [] (by kernel_rfl) fun K hK => ?_
        | refine T.cond rfl (fun hcnd => ?_) (fun hcnd => absurd hcnd (by decide))
        | refine T.cond rfl (fun hcnd => absurd hcnd (by decide)) (fun hcnd => ?_)
        | refine T.seq ?_
        | refine T.block ?_
        | refine T.skip ?_
        | refine T.exit ?_
  · exact absurd h1 hk
  · have hr : ownM e = (decide (e.name = []) && (decide (0 ≤ e.num) && decide (e.num ≤ 999)) && noTyM e.ty && (noTyM e.fr && decide (e.label = 0))) := by simp [ownM, h1, namedM, typedM, inM]
    have hn0 : e.name = [] → nameM e.name = false := fun h => by rw [h]; rfl
    rw [hr]
    by_cases hne : e.name = []
    · rw [hn0 hne, hne] at hnm
      refine ACalls.of_body Try.func53 (by kernel_rfl) rfl (by kernel_rfl) (by simp [Try.ntmps53]) (by simp) ?_
      rw [Try.ntmps53]
      repeat' first
        | (refine aops_end (hK _ ?_); clear hK K)
        | (refine aopsD_end (hK _ ?_); clear hK K)
        | (refine aops_go ?_; simp [h1, hne]; (try (refine Ops.gen fun q hq => ?_; cases q <;> (try simp [h1, hne] at hq) <;> (try (have hh : True := hq; clear hh hq)))))
        | (refine aopsD_go ?_; simp [h1, hne]; (try (refine OpsD.gen fun q hq => ?_; cases q <;> (try simp [h1, hne] at hq) <;> (try (have hh : True := hq; clear hh hq)))))
        | (refine wpcall_pure rfl (hnm) ?_; simp [h1, hne]; (try first | (refine Ops.gen fun q hq => ?_; cases q <;> (try simp [h1, hne] at hq) <;> (try (have hh : True := hq; clear hh hq))) | (refine OpsD.gen fun q hq => ?_; cases q <;> (try simp [h1, hne] at hq) <;> (try (have hh : True := hq; clear hh hq)))))
        | (refine wpcall_pure rfl (hnt) ?_; simp [h1, hne]; (try first | (refine Ops.gen fun q hq => ?_; cases q <;> (try simp [h1, hne] at hq) <;> (try (have hh : True := hq; clear hh hq))) | (refine OpsD.gen fun q hq => ?_; cases q <;> (try simp [h1, hne] at hq) <;> (try (have hh : True := hq; clear hh hq)))))
        | (refine wpcall_pure rfl (hnf) ?_; simp [h1, hne]; (try first | (refine Ops.gen fun q hq => ?_; cases q <;> (try simp [h1, hne] at hq) <;> (try (have hh : True := hq; clear hh hq))) | (refine OpsD.gen fun q hq => ?_; cases q <;> (try simp [h1, hne] at hq) <;> (try (have hh : True := hq; clear hh hq)))))
        | (refine T.ret (Done.data (Or.inr rfl) ?_ ?_) <;> simp [Try.results53, *] <;> omega)
        | refine T.rs (fun _ => false) fun K hK => ?_
        | refine T.rs1 (fun _ => false) fun K hK => ?_
        | refine T.rd mixed (fun _ => false) [] (by kernel_rfl) fun K hK => ?_
        | refine T.rd1 mixed (fun _ => false) [] (by kernel_rfl) fun K hK => ?_
        | refine T.cond rfl (fun hcnd => ?_) (fun hcnd => absurd hcnd (by decide))
        | refine T.cond rfl (fun hcnd => absurd hcnd (by decide)) (fun hcnd => ?_)
        | refine T.seq ?_
        | refine T.block ?_
        | refine T.skip ?_
        | refine T.exit ?_
    · generalize nameM e.name = nb at hnm
      refine ACalls.of_body Try.func53 (by kernel_rfl) rfl (by kernel_rfl) (by simp [Try.ntmps53]) (by simp) ?_
      rw [Try.ntmps53]
      repeat' first
        | (refine aops_end (hK _ ?_); clear hK K)
        | (refine aopsD_end (hK _ ?_); clear hK K)
        | (refine aops_go ?_; simp [h1, hne]; (try (refine Ops.gen fun q hq => ?_; cases q <;> (try simp [h1, hne] at hq) <;> (try (have hh : True := hq; clear hh hq)))))
        | (refine aopsD_go ?_; simp [h1, hne]; (try (refine OpsD.gen fun q hq => ?_; cases q <;> (try simp [h1, hne] at hq) <;> (try (have hh : True := hq; clear hh hq)))))
        | (refine wpcall_pure rfl (hnm) ?_; simp [h1, hne]; (try first | (refine Ops.gen fun q hq => ?_; cases q <;> (try simp [h1, hne] at hq) <;> (try (have hh : True := hq; clear hh hq))) | (refine OpsD.gen fun q hq => ?_; cases q <;> (try simp [h1, hne] at hq) <;> (try (have hh : True := hq; clear hh hq)))))
        | (refine wpcall_pure rfl (hnt) ?_; simp [h1, hne]; (try first | (refine Ops.gen fun q hq => ?_; cases q <;> (try simp [h1, hne] at hq) <;> (try (have hh : True := hq; clear hh hq))) | (refine OpsD.gen fun q hq => ?_; cases q <;> (try simp [h1, hne] at hq) <;> (try (have hh : True := hq; clear hh hq)))))
        | (refine wpcall_pure rfl (hnf) ?_; simp [h1, hne]; (try first | (refine Ops.gen fun q hq => ?_; cases q <;> (try simp [h1, hne] at hq) <;> (try (have hh : True := hq; clear hh hq))) | (refine OpsD.gen fun q hq => ?_; cases q <;> (try simp [h1, hne] at hq) <;> (try (have hh : True := hq; clear hh hq)))))
        | (refine T.ret (Done.data (Or.inr rfl) ?_ ?_) <;> simp [Try.results53, *] <;> omega)
        | refine T.rs (fun _ => false) fun K hK => ?_
        | refine T.rs1 (fun _ => false) fun K hK => ?_
        | refine T.rd mixed (fun _ => false) [] (by kernel_rfl) fun K hK => ?_
        | refine T.rd1 mixed (fun _ => false) [] (by kernel_rfl) fun K hK => ?_
        | refine T.cond rfl (fun hcnd => ?_) (fun hcnd => absurd hcnd (by decide))
        | refine T.cond rfl (fun hcnd => absurd hcnd (by decide)) (fun hcnd => ?_)
        | refine T.seq ?_
        | refine T.block ?_
        | refine T.skip ?_
        | refine T.exit ?_
  · have hr : ownM e = (decide (e.name = []) && decide (e.num = 0) && noTyM e.ty && (noTyM e.fr && decide (e.label = 0))) := by simp [ownM, h1, h2, h3, h4, h5, namedM, typedM, in00]
    have hn0 : e.name = [] → nameM e.name = false := fun h => by rw [h]; rfl
    rw [hr]
    by_cases hne : e.name = []
    · rw [hn0 hne, hne] at hnm
      refine ACalls.of_body Try.func53 (by kernel_rfl) rfl (by kernel_rfl) (by simp [Try.ntmps53]) (by simp) ?_
      rw [Try.ntmps53]
      repeat' first
        | (refine aops_end (hK _ ?_); clear hK K)
        | (refine aopsD_end (hK _ ?_); clear hK K)
        | (refine aops_go ?_; simp [h1, h2, h3, h4, h5, hne]; (try (refine Ops.gen fun q hq => ?_; cases q <;> (try simp [h1, h2, h3, h4, h5, hne] at hq) <;> (try (have hh : True := hq; clear hh hq)))))
        | (refine aopsD_go ?_; simp [h1, h2, h3, h4, h5, hne]; (try (refine OpsD.gen fun q hq => ?_; cases q <;> (try simp [h1, h2, h3, h4, h5, hne] at hq) <;> (try (have hh : True := hq; clear hh hq)))))
        | (refine wpcall_pure rfl (hnm) ?_; simp [h1, h2, h3, h4, h5, hne]; (try first | (refine Ops.gen fun q hq => ?_; cases q <;> (try simp [h1, h2, h3, h4, h5, hne] at hq) <;> (try (have hh : True := hq; clear hh hq))) | (refine OpsD.gen fun q hq => ?_; cases q <;> (try simp [h1, h2, h3, h4, h5, hne] at hq) <;> (try (have hh : True := hq; clear hh hq)))))
        | (refine wpcall_pure rfl (hnt) ?_; simp [h1, h2, h3, h4, h5, hne]; (try first | (refine Ops.gen fun q hq => ?_; cases q <;> (try simp [h1, h2, h3, h4, h5, hne] at hq) <;> (try (have hh : True := hq; clear hh hq))) | (refine OpsD.gen fun q hq => ?_; cases q <;> (try simp [h1, h2, h3, h4, h5, hne] at hq) <;> (try (have hh : True := hq; clear hh hq)))))
        | (refine wpcall_pure rfl (hnf) ?_; simp [h1, h2, h3, h4, h5, hne]; (try first | (refine Ops.gen fun q hq => ?_; cases q <;> (try simp [h1, h2, h3, h4, h5, hne] at hq) <;> (try (have hh : True := hq; clear hh hq))) | (refine OpsD.gen fun q hq => ?_; cases q <;> (try simp [h1, h2, h3, h4, h5, hne] at hq) <;> (try (have hh : True := hq; clear hh hq)))))
        | (refine T.ret (Done.data (Or.inr rfl) ?_ ?_) <;> simp [Try.results53, *] <;> omega)
        | refine T.rs (fun _ => false) fun K hK => ?_
        | refine T.rs1 (fun _ => false) fun K hK => ?_
        | refine T.rd mixed (fun _ => false) [] (by kernel_rfl) fun K hK => ?_
        | refine T.rd1 mixed (fun _ => false) [] (by kernel_rfl) fun K hK => ?_
        | refine T.cond rfl (fun hcnd => ?_) (fun hcnd => absurd hcnd (by decide))
        | refine T.cond rfl (fun hcnd => absurd hcnd (by decide)) (fun hcnd => ?_)
        | refine T.seq ?_
        | refine T.block ?_
        | refine T.skip ?_
        | refine T.exit ?_
    · generalize nameM e.name = nb at hnm
      refine ACalls.of_body Try.func53 (by kernel_rfl) rfl (by kernel_rfl) (by simp [Try.ntmps53]) (by simp) ?_
      rw [Try.ntmps53]
      repeat' first
        | (refine aops_end (hK _ ?_); clear hK K)
        | (refine aopsD_end (hK _ ?_); clear hK K)
        | (refine aops_go ?_; simp [h1, h2, h3, h4, h5, hne]; (try (refine Ops.gen fun q hq => ?_; cases q <;> (try simp [h1, h2, h3, h4, h5, hne] at hq) <;> (try (have hh : True := hq; clear hh hq)))))
        | (refine aopsD_go ?_; simp [h1, h2, h3, h4, h5, hne]; (try (refine OpsD.gen fun q hq => ?_; cases q <;> (try simp [h1, h2, h3, h4, h5, hne] at hq) <;> (try (have hh : True := hq; clear hh hq)))))
        | (refine wpcall_pure rfl (hnm) ?_; simp [h1, h2, h3, h4, h5, hne]; (try first | (refine Ops.gen fun q hq => ?_; cases q <;> (try simp [h1, h2, h3, h4, h5, hne] at hq) <;> (try (have hh : True := hq; clear hh hq))) | (refine OpsD.gen fun q hq => ?_; cases q <;> (try simp [h1, h2, h3, h4, h5, hne] at hq) <;> (try (have hh : True := hq; clear hh hq)))))
        | (refine wpcall_pure rfl (hnt) ?_; simp [h1, h2, h3, h4, h5, hne]; (try first | (refine Ops.gen fun q hq => ?_; cases q <;> (try simp [h1, h2, h3, h4, h5, hne] at hq) <;> (try (have hh : True := hq; clear hh hq))) | (refine OpsD.gen fun q hq => ?_; cases q <;> (try simp [h1, h2, h3, h4, h5, hne] at hq) <;> (try (have hh : True := hq; clear hh hq)))))
        | (refine wpcall_pure rfl (hnf) ?_; simp [h1, h2, h3, h4, h5, hne]; (try first | (refine Ops.gen fun q hq => ?_; cases q <;> (try simp [h1, h2, h3, h4, h5, hne] at hq) <;> (try (have hh : True := hq; clear hh hq))) | (refine OpsD.gen fun q hq => ?_; cases q <;> (try simp [h1, h2, h3, h4, h5, hne] at hq) <;> (try (have hh : True := hq; clear hh hq)))))
        | (refine T.ret (Done.data (Or.inr rfl) ?_ ?_) <;> simp [Try.results53, *] <;> omega)
        | refine T.rs (fun _ => false) fun K hK => ?_
        | refine T.rs1 (fun _ => false) fun K hK => ?_
        | refine T.rd mixed (fun _ => false) [] (by kernel_rfl) fun K hK => ?_
        | refine T.rd1 mixed (fun _ => false) [] (by kernel_rfl) fun K hK => ?_
        | refine T.cond rfl (fun hcnd => ?_) (fun hcnd => absurd hcnd (by decide))
        | refine T.cond rfl (fun hcnd => absurd hcnd (by decide)) (fun hcnd => ?_)
        | refine T.seq ?_
        | refine T.block ?_
        | refine T.skip ?_
        | refine T.exit ?_

theorem nodeOk_ok (e : MTm) (hl : e.kids.length ≤ 1099511627776) (ht : nTy e.ty ≤ 1099511627776) (hf : nTy e.fr ≤ 1099511627776) : ACalls Try.prog 54 [aTm e] [] (.b (nodeM e)) [] [] := by
  have hop := operands_ok e.kind
  have hnm := isName_ok e.name
  have hty := TypeValid_ok e.ty ht
  have hnt := isNoType_ok e.ty
  have hnf := isNoType_ok e.fr
  have hcon := Consistent_ok e.fr e.ty hf ht
  have hlab := isLabel_ok e.label
  have hin0 := inM_ok e.num 0 0
  have hin9 := inM_ok e.num 0 999
  by_cases hkid : kidsM e.kind = e.kids.length
  rotate_left
  · rw [show nodeM e = false by simp [nodeM, hkid]]
    refine ACalls.of_body Try.func54 (by kernel_rfl) rfl (by kernel_rfl) (by simp [Try.ntmps54]) (by simp) ?_
    rw [Try.ntmps54]
    repeat' first
      | (refine aops_end (hK _ ?_); clear hK K)
      | (refine aopsD_end (hK _ ?_); clear hK K)
      | (refine aops_go ?_; simp [hkid]; (try (refine Ops.gen fun q hq => ?_; cases q <;> (try simp [hkid] at hq) <;> (try (have hh : True := hq; clear hh hq)))))
      | (refine aopsD_go ?_; simp [hkid]; (try (refine OpsD.gen fun q hq => ?_; cases q <;> (try simp [hkid] at hq) <;> (try (have hh : True := hq; clear hh hq)))))
      | (refine wpcall_pure rfl (hop) ?_; simp [hkid]; (try first | (refine Ops.gen fun q hq => ?_; cases q <;> (try simp [hkid] at hq) <;> (try (have hh : True := hq; clear hh hq))) | (refine OpsD.gen fun q hq => ?_; cases q <;> (try simp [hkid] at hq) <;> (try (have hh : True := hq; clear hh hq)))))
      | (refine T.ret (Done.data (Or.inr rfl) ?_ ?_) <;> simp [Try.results54] <;> omega)
      | refine T.rs (fun _ => false) fun K hK => ?_
      | refine T.rs1 (fun _ => false) fun K hK => ?_
      | refine T.rd mixed (fun _ => false) [] (by kernel_rfl) fun K hK => ?_
      | refine T.rd1 mixed (fun _ => false) [] (by kernel_rfl) fun K hK => ?_
      | refine T.cond rfl (fun hcnd => ?_) (fun hcnd => absurd hcnd (by decide))
      | refine T.cond rfl (fun hcnd => absurd hcnd (by decide)) (fun hcnd => ?_)
      | refine T.seq ?_
      | refine T.block ?_
      | refine T.skip ?_
      | refine T.exit ?_
  rw [show nodeM e = ownM e by simp [nodeM, hkid]]
  rw [hkid] at hop
  rcases kind_cases e.kind with h1 | h1 | h1 | h1 | h1 | ⟨h1, h2, h3, h4, h5⟩
  · have hr : ownM e = (nameM e.name && inM e.num 0 0 && noTyM e.ty && (noTyM e.fr && decide (e.label = 0))) := by simp [ownM, h1, namedM, typedM]
    rw [hr]
    rw [h1] at hop
    generalize inM e.num 0 0 = i0 at hin0
    refine ACalls.of_body Try.func54 (by kernel_rfl) rfl (by kernel_rfl) (by simp [Try.ntmps54]) (by simp) ?_
    rw [Try.ntmps54]
    repeat' first
      | (refine aops_end (hK _ ?_); clear hK K)
      | (refine aopsD_end (hK _ ?_); clear hK K)
      | (refine aops_go ?_; simp [h1]; (try (refine Ops.gen fun q hq => ?_; cases q <;> (try simp [h1] at hq) <;> (try (have hh : True := hq; clear hh hq)))))
      | (refine aopsD_go ?_; simp [h1]; (try (refine OpsD.gen fun q hq => ?_; cases q <;> (try simp [h1] at hq) <;> (try (have hh : True := hq; clear hh hq)))))
      | (refine wpcall_pure rfl (hop) ?_; simp [h1]; (try first | (refine Ops.gen fun q hq => ?_; cases q <;> (try simp [h1] at hq) <;> (try (have hh : True := hq; clear hh hq))) | (refine OpsD.gen fun q hq => ?_; cases q <;> (try simp [h1] at hq) <;> (try (have hh : True := hq; clear hh hq)))))
      | (refine wpcall_pure rfl (hnm) ?_; simp [h1]; (try first | (refine Ops.gen fun q hq => ?_; cases q <;> (try simp [h1] at hq) <;> (try (have hh : True := hq; clear hh hq))) | (refine OpsD.gen fun q hq => ?_; cases q <;> (try simp [h1] at hq) <;> (try (have hh : True := hq; clear hh hq)))))
      | (refine wpcall_pure rfl (hin0) ?_; simp [h1]; (try first | (refine Ops.gen fun q hq => ?_; cases q <;> (try simp [h1] at hq) <;> (try (have hh : True := hq; clear hh hq))) | (refine OpsD.gen fun q hq => ?_; cases q <;> (try simp [h1] at hq) <;> (try (have hh : True := hq; clear hh hq)))))
      | (refine wpcall_pure rfl (hnt) ?_; simp [h1]; (try first | (refine Ops.gen fun q hq => ?_; cases q <;> (try simp [h1] at hq) <;> (try (have hh : True := hq; clear hh hq))) | (refine OpsD.gen fun q hq => ?_; cases q <;> (try simp [h1] at hq) <;> (try (have hh : True := hq; clear hh hq)))))
      | (refine wpcall_pure rfl (hnf) ?_; simp [h1]; (try first | (refine Ops.gen fun q hq => ?_; cases q <;> (try simp [h1] at hq) <;> (try (have hh : True := hq; clear hh hq))) | (refine OpsD.gen fun q hq => ?_; cases q <;> (try simp [h1] at hq) <;> (try (have hh : True := hq; clear hh hq)))))
      | (refine T.ret (Done.data (Or.inr rfl) ?_ ?_) <;> simp [Try.results54, *] <;> omega)
      | refine T.rs (fun _ => false) fun K hK => ?_
      | refine T.rs1 (fun _ => false) fun K hK => ?_
      | refine T.rd mixed (fun _ => false) [] (by kernel_rfl) fun K hK => ?_
      | refine T.rd1 mixed (fun _ => false) [] (by kernel_rfl) fun K hK => ?_
      | refine T.cond rfl (fun hcnd => ?_) (fun hcnd => absurd hcnd (by decide))
      | refine T.cond rfl (fun hcnd => absurd hcnd (by decide)) (fun hcnd => ?_)
      | refine T.seq ?_
      | refine T.block ?_
      | refine T.skip ?_
      | refine T.exit ?_
  · have hr : ownM e = (nameM e.name && inM e.num 0 0 && shapeTy 4 e.ty && (noTyM e.fr && decide (e.label = 0))) := by simp [ownM, h1, namedM, typedM]
    rw [hr]
    rw [h1] at hop
    generalize inM e.num 0 0 = i0 at hin0
    refine ACalls.of_body Try.func54 (by kernel_rfl) rfl (by kernel_rfl) (by simp [Try.ntmps54]) (by simp) ?_
    rw [Try.ntmps54]
    repeat' first
      | (refine aops_end (hK _ ?_); clear hK K)
      | (refine aopsD_end (hK _ ?_); clear hK K)
      | (refine aops_go ?_; simp [h1]; (try (refine Ops.gen fun q hq => ?_; cases q <;> (try simp [h1] at hq) <;> (try (have hh : True := hq; clear hh hq)))))
      | (refine aopsD_go ?_; simp [h1]; (try (refine OpsD.gen fun q hq => ?_; cases q <;> (try simp [h1] at hq) <;> (try (have hh : True := hq; clear hh hq)))))
      | (refine wpcall_pure rfl (hop) ?_; simp [h1]; (try first | (refine Ops.gen fun q hq => ?_; cases q <;> (try simp [h1] at hq) <;> (try (have hh : True := hq; clear hh hq))) | (refine OpsD.gen fun q hq => ?_; cases q <;> (try simp [h1] at hq) <;> (try (have hh : True := hq; clear hh hq)))))
      | (refine wpcall_pure rfl (hnm) ?_; simp [h1]; (try first | (refine Ops.gen fun q hq => ?_; cases q <;> (try simp [h1] at hq) <;> (try (have hh : True := hq; clear hh hq))) | (refine OpsD.gen fun q hq => ?_; cases q <;> (try simp [h1] at hq) <;> (try (have hh : True := hq; clear hh hq)))))
      | (refine wpcall_pure rfl (hin0) ?_; simp [h1]; (try first | (refine Ops.gen fun q hq => ?_; cases q <;> (try simp [h1] at hq) <;> (try (have hh : True := hq; clear hh hq))) | (refine OpsD.gen fun q hq => ?_; cases q <;> (try simp [h1] at hq) <;> (try (have hh : True := hq; clear hh hq)))))
      | (refine wpcall_pure rfl (hty) ?_; simp [h1]; (try first | (refine Ops.gen fun q hq => ?_; cases q <;> (try simp [h1] at hq) <;> (try (have hh : True := hq; clear hh hq))) | (refine OpsD.gen fun q hq => ?_; cases q <;> (try simp [h1] at hq) <;> (try (have hh : True := hq; clear hh hq)))))
      | (refine wpcall_pure rfl (hnf) ?_; simp [h1]; (try first | (refine Ops.gen fun q hq => ?_; cases q <;> (try simp [h1] at hq) <;> (try (have hh : True := hq; clear hh hq))) | (refine OpsD.gen fun q hq => ?_; cases q <;> (try simp [h1] at hq) <;> (try (have hh : True := hq; clear hh hq)))))
      | (refine T.ret (Done.data (Or.inr rfl) ?_ ?_) <;> simp [Try.results54, *] <;> omega)
      | refine T.rs (fun _ => false) fun K hK => ?_
      | refine T.rs1 (fun _ => false) fun K hK => ?_
      | refine T.rd mixed (fun _ => false) [] (by kernel_rfl) fun K hK => ?_
      | refine T.rd1 mixed (fun _ => false) [] (by kernel_rfl) fun K hK => ?_
      | refine T.cond rfl (fun hcnd => ?_) (fun hcnd => absurd hcnd (by decide))
      | refine T.cond rfl (fun hcnd => absurd hcnd (by decide)) (fun hcnd => ?_)
      | refine T.seq ?_
      | refine T.block ?_
      | refine T.skip ?_
      | refine T.exit ?_
  · have hr : ownM e = (decide (e.name = []) && inM e.num 0 0 && shapeTy 4 e.ty && (noTyM e.fr && decide (e.label = 0))) := by simp [ownM, h1, namedM, typedM]
    rw [hr]
    rw [h1] at hop
    generalize inM e.num 0 0 = i0 at hin0
    refine ACalls.of_body Try.func54 (by kernel_rfl) rfl (by kernel_rfl) (by simp [Try.ntmps54]) (by simp) ?_
    rw [Try.ntmps54]
    repeat' first
      | (refine aops_end (hK _ ?_); clear hK K)
      | (refine aopsD_end (hK _ ?_); clear hK K)
      | (refine aops_go ?_; simp [h1]; (try (refine Ops.gen fun q hq => ?_; cases q <;> (try simp [h1] at hq) <;> (try (have hh : True := hq; clear hh hq)))))
      | (refine aopsD_go ?_; simp [h1]; (try (refine OpsD.gen fun q hq => ?_; cases q <;> (try simp [h1] at hq) <;> (try (have hh : True := hq; clear hh hq)))))
      | (refine wpcall_pure rfl (hop) ?_; simp [h1]; (try first | (refine Ops.gen fun q hq => ?_; cases q <;> (try simp [h1] at hq) <;> (try (have hh : True := hq; clear hh hq))) | (refine OpsD.gen fun q hq => ?_; cases q <;> (try simp [h1] at hq) <;> (try (have hh : True := hq; clear hh hq)))))
      | (refine wpcall_pure rfl (hnm) ?_; simp [h1]; (try first | (refine Ops.gen fun q hq => ?_; cases q <;> (try simp [h1] at hq) <;> (try (have hh : True := hq; clear hh hq))) | (refine OpsD.gen fun q hq => ?_; cases q <;> (try simp [h1] at hq) <;> (try (have hh : True := hq; clear hh hq)))))
      | (refine wpcall_pure rfl (hin0) ?_; simp [h1]; (try first | (refine Ops.gen fun q hq => ?_; cases q <;> (try simp [h1] at hq) <;> (try (have hh : True := hq; clear hh hq))) | (refine OpsD.gen fun q hq => ?_; cases q <;> (try simp [h1] at hq) <;> (try (have hh : True := hq; clear hh hq)))))
      | (refine wpcall_pure rfl (hty) ?_; simp [h1]; (try first | (refine Ops.gen fun q hq => ?_; cases q <;> (try simp [h1] at hq) <;> (try (have hh : True := hq; clear hh hq))) | (refine OpsD.gen fun q hq => ?_; cases q <;> (try simp [h1] at hq) <;> (try (have hh : True := hq; clear hh hq)))))
      | (refine wpcall_pure rfl (hnf) ?_; simp [h1]; (try first | (refine Ops.gen fun q hq => ?_; cases q <;> (try simp [h1] at hq) <;> (try (have hh : True := hq; clear hh hq))) | (refine OpsD.gen fun q hq => ?_; cases q <;> (try simp [h1] at hq) <;> (try (have hh : True := hq; clear hh hq)))))
      | (refine T.ret (Done.data (Or.inr rfl) ?_ ?_) <;> simp [Try.results54, *] <;> omega)
      | refine T.rs (fun _ => false) fun K hK => ?_
      | refine T.rs1 (fun _ => false) fun K hK => ?_
      | refine T.rd mixed (fun _ => false) [] (by kernel_rfl) fun K hK => ?_
      | refine T.rd1 mixed (fun _ => false) [] (by kernel_rfl) fun K hK => ?_
      | refine T.cond rfl (fun hcnd => ?_) (fun hcnd => absurd hcnd (by decide))
      | refine T.cond rfl (fun hcnd => absurd hcnd (by decide)) (fun hcnd => ?_)
      | refine T.seq ?_
      | refine T.block ?_
      | refine T.skip ?_
      | refine T.exit ?_
  · have hr : ownM e = (decide (e.name = []) && inM e.num 0 0 && shapeTy 4 e.ty && ((shapeTy 4 e.fr && shapeTy 4 e.ty && consTy e.fr e.ty) && labM e.label)) := by simp [ownM, h1, namedM, typedM, castOwnM]
    rw [hr]
    rw [h1] at hop
    generalize inM e.num 0 0 = i0 at hin0
    generalize hg1 : (shapeTy 4 e.fr && shapeTy 4 e.ty && consTy e.fr e.ty) = g1 at hcon
    generalize labM e.label = g2 at hlab
    refine ACalls.of_body Try.func54 (by kernel_rfl) rfl (by kernel_rfl) (by simp [Try.ntmps54]) (by simp) ?_
    rw [Try.ntmps54]
    repeat' first
      | (refine aops_end (hK _ ?_); clear hK K)
      | (refine aopsD_end (hK _ ?_); clear hK K)
      | (refine aops_go ?_; simp [h1]; (try (refine Ops.gen fun q hq => ?_; cases q <;> (try simp [h1] at hq) <;> (try (have hh : True := hq; clear hh hq)))))
      | (refine aopsD_go ?_; simp [h1]; (try (refine OpsD.gen fun q hq => ?_; cases q <;> (try simp [h1] at hq) <;> (try (have hh : True := hq; clear hh hq)))))
      | (refine wpcall_pure rfl (hop) ?_; simp [h1]; (try first | (refine Ops.gen fun q hq => ?_; cases q <;> (try simp [h1] at hq) <;> (try (have hh : True := hq; clear hh hq))) | (refine OpsD.gen fun q hq => ?_; cases q <;> (try simp [h1] at hq) <;> (try (have hh : True := hq; clear hh hq)))))
      | (refine wpcall_pure rfl (hnm) ?_; simp [h1]; (try first | (refine Ops.gen fun q hq => ?_; cases q <;> (try simp [h1] at hq) <;> (try (have hh : True := hq; clear hh hq))) | (refine OpsD.gen fun q hq => ?_; cases q <;> (try simp [h1] at hq) <;> (try (have hh : True := hq; clear hh hq)))))
      | (refine wpcall_pure rfl (hin0) ?_; simp [h1]; (try first | (refine Ops.gen fun q hq => ?_; cases q <;> (try simp [h1] at hq) <;> (try (have hh : True := hq; clear hh hq))) | (refine OpsD.gen fun q hq => ?_; cases q <;> (try simp [h1] at hq) <;> (try (have hh : True := hq; clear hh hq)))))
      | (refine wpcall_pure rfl (hty) ?_; simp [h1]; (try first | (refine Ops.gen fun q hq => ?_; cases q <;> (try simp [h1] at hq) <;> (try (have hh : True := hq; clear hh hq))) | (refine OpsD.gen fun q hq => ?_; cases q <;> (try simp [h1] at hq) <;> (try (have hh : True := hq; clear hh hq)))))
      | (refine wpcall_pure rfl (hcon) ?_; simp [h1]; (try first | (refine Ops.gen fun q hq => ?_; cases q <;> (try simp [h1] at hq) <;> (try (have hh : True := hq; clear hh hq))) | (refine OpsD.gen fun q hq => ?_; cases q <;> (try simp [h1] at hq) <;> (try (have hh : True := hq; clear hh hq)))))
      | (refine wpcall_pure rfl (hlab) ?_; simp [h1]; (try first | (refine Ops.gen fun q hq => ?_; cases q <;> (try simp [h1] at hq) <;> (try (have hh : True := hq; clear hh hq))) | (refine OpsD.gen fun q hq => ?_; cases q <;> (try simp [h1] at hq) <;> (try (have hh : True := hq; clear hh hq)))))
      | (refine T.ret (Done.data (Or.inr rfl) ?_ ?_) <;> simp [Try.results54, *] <;> omega)
      | refine T.rs (fun _ => false) fun K hK => ?_
      | refine T.rs1 (fun _ => false) fun K hK => ?_
      | refine T.rd mixed (fun _ => false) [] (by kernel_rfl) fun K hK => ?_
      | refine T.rd1 mixed (fun _ => false) [] (by kernel_rfl) fun K hK => ?_
      | refine T.cond rfl (fun hcnd => ?_) (fun hcnd => absurd hcnd (by decide))
      | refine T.cond rfl (fun hcnd => absurd hcnd (by decide)) (fun hcnd => ?_)
      | refine T.seq ?_
      | refine T.block ?_
      | refine T.skip ?_
      | refine T.exit ?_
  · have hr : ownM e = (decide (e.name = []) && inM e.num 0 999 && noTyM e.ty && (noTyM e.fr && decide (e.label = 0))) := by simp [ownM, h1, namedM, typedM]
    rw [hr]
    rw [h1] at hop
    generalize inM e.num 0 999 = i0 at hin9
    refine ACalls.of_body Try.func54 (by kernel_rfl) rfl (by kernel_rfl) (by simp [Try.ntmps54]) (by simp) ?_
    rw [Try.ntmps54]
    repeat' first
      | (refine aops_end (hK _ ?_); clear hK K)
      | (refine aopsD_end (hK _ ?_); clear hK K)
      | (refine aops_go ?_; simp [h1]; (try (refine Ops.gen fun q hq => ?_; cases q <;> (try simp [h1] at hq) <;> (try (have hh : True := hq; clear hh hq)))))
      | (refine aopsD_go ?_; simp [h1]; (try (refine OpsD.gen fun q hq => ?_; cases q <;> (try simp [h1] at hq) <;> (try (have hh : True := hq; clear hh hq)))))
      | (refine wpcall_pure rfl (hop) ?_; simp [h1]; (try first | (refine Ops.gen fun q hq => ?_; cases q <;> (try simp [h1] at hq) <;> (try (have hh : True := hq; clear hh hq))) | (refine OpsD.gen fun q hq => ?_; cases q <;> (try simp [h1] at hq) <;> (try (have hh : True := hq; clear hh hq)))))
      | (refine wpcall_pure rfl (hnm) ?_; simp [h1]; (try first | (refine Ops.gen fun q hq => ?_; cases q <;> (try simp [h1] at hq) <;> (try (have hh : True := hq; clear hh hq))) | (refine OpsD.gen fun q hq => ?_; cases q <;> (try simp [h1] at hq) <;> (try (have hh : True := hq; clear hh hq)))))
      | (refine wpcall_pure rfl (hin9) ?_; simp [h1]; (try first | (refine Ops.gen fun q hq => ?_; cases q <;> (try simp [h1] at hq) <;> (try (have hh : True := hq; clear hh hq))) | (refine OpsD.gen fun q hq => ?_; cases q <;> (try simp [h1] at hq) <;> (try (have hh : True := hq; clear hh hq)))))
      | (refine wpcall_pure rfl (hnt) ?_; simp [h1]; (try first | (refine Ops.gen fun q hq => ?_; cases q <;> (try simp [h1] at hq) <;> (try (have hh : True := hq; clear hh hq))) | (refine OpsD.gen fun q hq => ?_; cases q <;> (try simp [h1] at hq) <;> (try (have hh : True := hq; clear hh hq)))))
      | (refine wpcall_pure rfl (hnf) ?_; simp [h1]; (try first | (refine Ops.gen fun q hq => ?_; cases q <;> (try simp [h1] at hq) <;> (try (have hh : True := hq; clear hh hq))) | (refine OpsD.gen fun q hq => ?_; cases q <;> (try simp [h1] at hq) <;> (try (have hh : True := hq; clear hh hq)))))
      | (refine T.ret (Done.data (Or.inr rfl) ?_ ?_) <;> simp [Try.results54, *] <;> omega)
      | refine T.rs (fun _ => false) fun K hK => ?_
      | refine T.rs1 (fun _ => false) fun K hK => ?_
      | refine T.rd mixed (fun _ => false) [] (by kernel_rfl) fun K hK => ?_
      | refine T.rd1 mixed (fun _ => false) [] (by kernel_rfl) fun K hK => ?_
      | refine T.cond rfl (fun hcnd => ?_) (fun hcnd => absurd hcnd (by decide))
      | refine T.cond rfl (fun hcnd => absurd hcnd (by decide)) (fun hcnd => ?_)
      | refine T.seq ?_
      | refine T.block ?_
      | refine T.skip ?_
      | refine T.exit ?_
  · have hr : ownM e = (decide (e.name = []) && inM e.num 0 0 && noTyM e.ty && (noTyM e.fr && decide (e.label = 0))) := by simp [ownM, h1, h2, h3, h4, h5, namedM, typedM]
    rw [hr]
    generalize inM e.num 0 0 = i0 at hin0
    refine ACalls.of_body Try.func54 (by kernel_rfl) rfl (by kernel_rfl) (by simp [Try.ntmps54]) (by simp) ?_
    rw [Try.ntmps54]
    repeat' first
      | (refine aops_end (hK _ ?_); clear hK K)
      | (refine aopsD_end (hK _ ?_); clear hK K)
      | (refine aops_go ?_; simp [h1, h2, h3, h4, h5]; (try (refine Ops.gen fun q hq => ?_; cases q <;> (try simp [h1, h2, h3, h4, h5] at hq) <;> (try (have hh : True := hq; clear hh hq)))))
      | (refine aopsD_go ?_; simp [h1, h2, h3, h4, h5]; (try (refine OpsD.gen fun q hq => ?_; cases q <;> (try simp [h1, h2, h3, h4, h5] at hq) <;> (try (have hh : True := hq; clear hh hq)))))
      | (refine wpcall_pure rfl (hop) ?_; simp [h1, h2, h3, h4, h5]; (try first | (refine Ops.gen fun q hq => ?_; cases q <;> (try simp [h1, h2, h3, h4, h5] at hq) <;> (try (have hh : True := hq; clear hh hq))) | (refine OpsD.gen fun q hq => ?_; cases q <;> (try simp [h1, h2, h3, h4, h5] at hq) <;> (try (have hh : True := hq; clear hh hq)))))
      | (refine wpcall_pure rfl (hnm) ?_; simp [h1, h2, h3, h4, h5]; (try first | (refine Ops.gen fun q hq => ?_; cases q <;> (try simp [h1, h2, h3, h4, h5] at hq) <;> (try (have hh : True := hq; clear hh hq))) | (refine OpsD.gen fun q hq => ?_; cases q <;> (try simp [h1, h2, h3, h4, h5] at hq) <;> (try (have hh : True := hq; clear hh hq)))))
      | (refine wpcall_pure rfl (hin0) ?_; simp [h1, h2, h3, h4, h5]; (try first | (refine Ops.gen fun q hq => ?_; cases q <;> (try simp [h1, h2, h3, h4, h5] at hq) <;> (try (have hh : True := hq; clear hh hq))) | (refine OpsD.gen fun q hq => ?_; cases q <;> (try simp [h1, h2, h3, h4, h5] at hq) <;> (try (have hh : True := hq; clear hh hq)))))
      | (refine wpcall_pure rfl (hnt) ?_; simp [h1, h2, h3, h4, h5]; (try first | (refine Ops.gen fun q hq => ?_; cases q <;> (try simp [h1, h2, h3, h4, h5] at hq) <;> (try (have hh : True := hq; clear hh hq))) | (refine OpsD.gen fun q hq => ?_; cases q <;> (try simp [h1, h2, h3, h4, h5] at hq) <;> (try (have hh : True := hq; clear hh hq)))))
      | (refine wpcall_pure rfl (hnf) ?_; simp [h1, h2, h3, h4, h5]; (try first | (refine Ops.gen fun q hq => ?_; cases q <;> (try simp [h1, h2, h3, h4, h5] at hq) <;> (try (have hh : True := hq; clear hh hq))) | (refine OpsD.gen fun q hq => ?_; cases q <;> (try simp [h1, h2, h3, h4, h5] at hq) <;> (try (have hh : True := hq; clear hh hq)))))
      | (refine T.ret (Done.data (Or.inr rfl) ?_ ?_) <;> simp [Try.results54, *] <;> omega)
      | refine T.rs (fun _ => false) fun K hK => ?_
      | refine T.rs1 (fun _ => false) fun K hK => ?_
      | refine T.rd mixed (fun _ => false) [] (by kernel_rfl) fun K hK => ?_
      | refine T.rd1 mixed (fun _ => false) [] (by kernel_rfl) fun K hK => ?_
      | refine T.cond rfl (fun hcnd => ?_) (fun hcnd => absurd hcnd (by decide))
      | refine T.cond rfl (fun hcnd => absurd hcnd (by decide)) (fun hcnd => ?_)
      | refine T.seq ?_
      | refine T.block ?_
      | refine T.skip ?_
      | refine T.exit ?_
end Go.Proofs.Ytdbffbmbbfbamaa
