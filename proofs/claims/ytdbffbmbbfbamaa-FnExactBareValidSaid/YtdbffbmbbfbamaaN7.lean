/- The law of BareValid, walked. -/
import Derived.Test.YtdbffbmbbfbamaaM4
import Derived.Test.YtdbffbmbbfbamaaN6
namespace Go.Proofs.Ytdbffbmbbfbamaa
open Go Go.Av
attribute [local irreducible] T ACalls eTy eTm MTy.kind MTy.kids MTm.kind MTm.name MTm.num MTm.ty MTm.fr MTm.label MTm.kids
attribute [local simp] eTy_def eTm_def
set_option linter.unusedSimpArgs false
set_option linter.unusedVariables false
set_option maxHeartbeats 4000000

theorem lawBareValid_ok (e : MTm) (hw : wTm e) : ACalls Try.prog 5 [aTm e] [] (.b true) [] [] := by
  have hsz := szTerm_ok e hw 1048576 (by omega) (by omega)
  by_cases hn : nTm e ≤ 1048576
  rotate_left
  · rw [show szM (nTm e) 1048576 = -1 by simp only [szM]; rw [if_neg (by omega)]] at hsz
    refine ACalls.of_body Try.func5 (by kernel_rfl) rfl (by kernel_rfl) (by simp [Try.ntmps5]) (by simp) ?_
    rw [Try.ntmps5]
    repeat' first
      | (refine aops_end (hK _ ?_); clear hK K)
      | (refine aopsD_end (hK _ ?_); clear hK K)
      | (refine aops_go ?_; simp; (try (refine Ops.gen fun q hq => ?_; cases q <;> (try simp at hq) <;> (try (have hh : True := hq; clear hh hq)))))
      | (refine aopsD_go ?_; simp; (try (refine OpsD.gen fun q hq => ?_; cases q <;> (try simp at hq) <;> (try (have hh : True := hq; clear hh hq)))))
      | (refine wpcall_pure rfl (hsz) ?_; simp; (try first | (refine Ops.gen fun q hq => ?_; cases q <;> (try simp at hq) <;> (try (have hh : True := hq; clear hh hq))) | (refine OpsD.gen fun q hq => ?_; cases q <;> (try simp at hq) <;> (try (have hh : True := hq; clear hh hq)))))
      | (refine T.ret (Done.data (Or.inr rfl) ?_ ?_) <;> simp [Try.results5] <;> omega)
      | refine T.rs (fun _ => false) fun K hK => ?_
      | refine T.rs1 (fun _ => false) fun K hK => ?_
      | refine T.rd mixed (fun _ => false) [] (by kernel_rfl) fun K hK => ?_
      | refine T.rd1 mixed (fun _ => false) [] (by kernel_rfl) fun K hK => ?_
      | refine T.cond rfl (fun hcnd => ?_) (fun hcnd => absurd hcnd (by decide))
      | refine T.cond rfl (fun hcnd => absurd hcnd (by decide)) (fun hcnd => ?_)
      | refine T.seq ?_
      | refine T.block ?_
      | refine T.skip ?_
      | refine T.exit ?_
  have hpos : ¬ szM (nTm e) 1048576 < 0 := by simp only [szM]; rw [if_pos (by omega)]; omega
  have hto := toTerm_ok e hn
  have heq := eqTerm_ok e hn
  have h1 := BareValidS_ok e (by omega)
  have h2 := BareValid_ok e (by omega)
  generalize szM (nTm e) 1048576 = z at hsz hpos
  generalize (castValidM e && bareM e) = b at h1 h2
  cases b
  · refine ACalls.of_body Try.func5 (by kernel_rfl) rfl (by kernel_rfl) (by simp [Try.ntmps5]) (by simp) ?_
    rw [Try.ntmps5]
    repeat' first
      | (refine aops_end (hK _ ?_); clear hK K)
      | (refine aopsD_end (hK _ ?_); clear hK K)
      | (refine aops_go ?_; simp [hpos]; (try (refine Ops.gen fun q hq => ?_; cases q <;> (try simp [hpos] at hq) <;> (try (have hh : True := hq; clear hh hq)))))
      | (refine aopsD_go ?_; simp [hpos]; (try (refine OpsD.gen fun q hq => ?_; cases q <;> (try simp [hpos] at hq) <;> (try (have hh : True := hq; clear hh hq)))))
      | (refine wpcall_pure rfl (hsz) ?_; simp [hpos]; (try first | (refine Ops.gen fun q hq => ?_; cases q <;> (try simp [hpos] at hq) <;> (try (have hh : True := hq; clear hh hq))) | (refine OpsD.gen fun q hq => ?_; cases q <;> (try simp [hpos] at hq) <;> (try (have hh : True := hq; clear hh hq)))))
      | (refine wpcall_pure rfl (hto) ?_; simp [hpos]; (try first | (refine Ops.gen fun q hq => ?_; cases q <;> (try simp [hpos] at hq) <;> (try (have hh : True := hq; clear hh hq))) | (refine OpsD.gen fun q hq => ?_; cases q <;> (try simp [hpos] at hq) <;> (try (have hh : True := hq; clear hh hq)))))
      | (refine wpcall_pure rfl (h1) ?_; simp [hpos]; (try first | (refine Ops.gen fun q hq => ?_; cases q <;> (try simp [hpos] at hq) <;> (try (have hh : True := hq; clear hh hq))) | (refine OpsD.gen fun q hq => ?_; cases q <;> (try simp [hpos] at hq) <;> (try (have hh : True := hq; clear hh hq)))))
      | (refine wpcall_pure rfl (h2) ?_; simp [hpos]; (try first | (refine Ops.gen fun q hq => ?_; cases q <;> (try simp [hpos] at hq) <;> (try (have hh : True := hq; clear hh hq))) | (refine OpsD.gen fun q hq => ?_; cases q <;> (try simp [hpos] at hq) <;> (try (have hh : True := hq; clear hh hq)))))
      | (refine wpcall_pure rfl (heq) ?_; simp [hpos]; (try first | (refine Ops.gen fun q hq => ?_; cases q <;> (try simp [hpos] at hq) <;> (try (have hh : True := hq; clear hh hq))) | (refine OpsD.gen fun q hq => ?_; cases q <;> (try simp [hpos] at hq) <;> (try (have hh : True := hq; clear hh hq)))))
      | (refine T.ret (Done.data (Or.inr rfl) ?_ ?_) <;> simp [Try.results5] <;> omega)
      | refine T.rs (fun _ => false) fun K hK => ?_
      | refine T.rs1 (fun _ => false) fun K hK => ?_
      | refine T.rd mixed (fun _ => false) [] (by kernel_rfl) fun K hK => ?_
      | refine T.rd1 mixed (fun _ => false) [] (by kernel_rfl) fun K hK => ?_
      | refine T.cond rfl (fun hcnd => ?_) (fun hcnd => absurd hcnd (by decide))
      | refine T.cond rfl (fun hcnd => absurd hcnd (by decide)) (fun hcnd => ?_)
      | refine T.seq ?_
      | refine T.block ?_
      | refine T.skip ?_
      | refine T.exit ?_
  · refine ACalls.of_body Try.func5 (by kernel_rfl) rfl (by kernel_rfl) (by simp [Try.ntmps5]) (by simp) ?_
    rw [Try.ntmps5]
    repeat' first
      | (refine aops_end (hK _ ?_); clear hK K)
      | (refine aopsD_end (hK _ ?_); clear hK K)
      | (refine aops_go ?_; simp [hpos]; (try (refine Ops.gen fun q hq => ?_; cases q <;> (try simp [hpos] at hq) <;> (try (have hh : True := hq; clear hh hq)))))
      | (refine aopsD_go ?_; simp [hpos]; (try (refine OpsD.gen fun q hq => ?_; cases q <;> (try simp [hpos] at hq) <;> (try (have hh : True := hq; clear hh hq)))))
      | (refine wpcall_pure rfl (hsz) ?_; simp [hpos]; (try first | (refine Ops.gen fun q hq => ?_; cases q <;> (try simp [hpos] at hq) <;> (try (have hh : True := hq; clear hh hq))) | (refine OpsD.gen fun q hq => ?_; cases q <;> (try simp [hpos] at hq) <;> (try (have hh : True := hq; clear hh hq)))))
      | (refine wpcall_pure rfl (hto) ?_; simp [hpos]; (try first | (refine Ops.gen fun q hq => ?_; cases q <;> (try simp [hpos] at hq) <;> (try (have hh : True := hq; clear hh hq))) | (refine OpsD.gen fun q hq => ?_; cases q <;> (try simp [hpos] at hq) <;> (try (have hh : True := hq; clear hh hq)))))
      | (refine wpcall_pure rfl (h1) ?_; simp [hpos]; (try first | (refine Ops.gen fun q hq => ?_; cases q <;> (try simp [hpos] at hq) <;> (try (have hh : True := hq; clear hh hq))) | (refine OpsD.gen fun q hq => ?_; cases q <;> (try simp [hpos] at hq) <;> (try (have hh : True := hq; clear hh hq)))))
      | (refine wpcall_pure rfl (h2) ?_; simp [hpos]; (try first | (refine Ops.gen fun q hq => ?_; cases q <;> (try simp [hpos] at hq) <;> (try (have hh : True := hq; clear hh hq))) | (refine OpsD.gen fun q hq => ?_; cases q <;> (try simp [hpos] at hq) <;> (try (have hh : True := hq; clear hh hq)))))
      | (refine wpcall_pure rfl (heq) ?_; simp [hpos]; (try first | (refine Ops.gen fun q hq => ?_; cases q <;> (try simp [hpos] at hq) <;> (try (have hh : True := hq; clear hh hq))) | (refine OpsD.gen fun q hq => ?_; cases q <;> (try simp [hpos] at hq) <;> (try (have hh : True := hq; clear hh hq)))))
      | (refine T.ret (Done.data (Or.inr rfl) ?_ ?_) <;> simp [Try.results5] <;> omega)
      | refine T.rs (fun _ => false) fun K hK => ?_
      | refine T.rs1 (fun _ => false) fun K hK => ?_
      | refine T.rd mixed (fun _ => false) [] (by kernel_rfl) fun K hK => ?_
      | refine T.rd1 mixed (fun _ => false) [] (by kernel_rfl) fun K hK => ?_
      | refine T.cond rfl (fun hcnd => ?_) (fun hcnd => absurd hcnd (by decide))
      | refine T.cond rfl (fun hcnd => absurd hcnd (by decide)) (fun hcnd => ?_)
      | refine T.seq ?_
      | refine T.block ?_
      | refine T.skip ?_
      | refine T.exit ?_
end Go.Proofs.Ytdbffbmbbfbamaa
