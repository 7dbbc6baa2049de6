/- Terms with casts, bare terms: CastValid, BareValid, in the program and in the reference. -/
import Derived.Test.YtdbffbmbbfbamaaN5
namespace Go.Proofs.Ytdbffbmbbfbamaa
open Go Go.Av
attribute [local irreducible] T ACalls eTy eTm MTy.kind MTy.kids MTm.kind MTm.name MTm.num MTm.ty MTm.fr MTm.label MTm.kids
attribute [local simp] eTy_def eTm_def
set_option linter.unusedSimpArgs false
set_option linter.unusedVariables false
set_option maxHeartbeats 4000000

theorem nTm_parts {e : MTm} (h : nTm e ≤ 1099511627776) : nTy e.ty ≤ 1099511627776 ∧ nTy e.fr ≤ 1099511627776 ∧ e.kids.length ≤ 1099511627776 ∧ ∀ u ∈ e.kids, nTm u ≤ 1099511627776 := by
  rw [nTm_def] at h
  have := nTmS_len e.kids
  exact ⟨by omega, by omega, by omega, fun u hu => by have := nTmS_mem hu; omega⟩

theorem l4Shape_ok : ∀ (d : Nat) (e : MTm), d ≤ 1000 → nTm e ≤ 1099511627776 → ACalls Try.prog 40 [aTm e, .i d] [] (.b (shapeTm 13 d e)) [] []
  | 0, e, _, _ => by
    refine ACalls.of_body Try.func40 (by kernel_rfl) rfl (by kernel_rfl) (by simp [Try.ntmps40]) (by simp) ?_
    rw [Try.ntmps40]
    repeat' first
      | (refine aops_end (hK _ ?_); clear hK K)
      | (refine aopsD_end (hK _ ?_); clear hK K)
      | (refine aops_go ?_; simp; (try (refine Ops.gen fun q hq => ?_; cases q <;> (try simp at hq) <;> (try (have hh : True := hq; clear hh hq)))))
      | (refine aopsD_go ?_; simp; (try (refine OpsD.gen fun q hq => ?_; cases q <;> (try simp at hq) <;> (try (have hh : True := hq; clear hh hq)))))
      | (refine T.ret (Done.data (Or.inr rfl) ?_ ?_) <;> simp [Try.results40, shapeTm] <;> omega)
      | refine T.rs (fun _ => false) fun K hK => ?_
      | refine T.rs1 (fun _ => false) fun K hK => ?_
      | refine T.rd mixed (fun _ => false) [] (by kernel_rfl) fun K hK => ?_
      | refine T.rd1 mixed (fun _ => false) [] (by kernel_rfl) fun K hK => ?_
      | refine T.cond rfl (fun hcnd => ?_) (fun hcnd => absurd hcnd (by decide))
      | refine T.cond rfl (fun hcnd => absurd hcnd (by decide)) (fun hcnd => ?_)
      | refine T.seq ?_
      | refine T.block ?_
      | refine T.skip ?_
      | refine T.exit ?_
  | d + 1, e, hd, hn => by
    obtain ⟨hnt, hnf, hnk, hnu⟩ := nTm_parts hn
    have hkids := l2Kids_ok e.kind
    have hd1 : ¬ ((d : Int) + 1 < 1) := by omega
    have hsh : shapeTm 13 (d + 1) e = (decide (e.kind ≠ 13) && (decide (kidsM e.kind = e.kids.length) && ownM e) && e.kids.all (shapeTm 13 d)) := rfl
    by_cases hk13 : e.kind = 13
    · rw [hk13] at hkids
      rw [show shapeTm 13 (d + 1) e = false by rw [hsh]; simp [hk13]]
      refine ACalls.of_body Try.func40 (by kernel_rfl) rfl (by kernel_rfl) (by simp [Try.ntmps40]) (by simp) ?_
      rw [Try.ntmps40]
      repeat' first
        | (refine aops_end (hK _ ?_); clear hK K)
        | (refine aopsD_end (hK _ ?_); clear hK K)
        | (refine aops_go ?_; simp [hd1, hk13]; (try (refine Ops.gen fun q hq => ?_; cases q <;> (try simp [hd1, hk13] at hq) <;> (try (have hh : True := hq; clear hh hq)))))
        | (refine aopsD_go ?_; simp [hd1, hk13]; (try (refine OpsD.gen fun q hq => ?_; cases q <;> (try simp [hd1, hk13] at hq) <;> (try (have hh : True := hq; clear hh hq)))))
        | (refine wpcall_pure rfl (hkids) ?_; simp [hd1, hk13]; (try first | (refine Ops.gen fun q hq => ?_; cases q <;> (try simp [hd1, hk13] at hq) <;> (try (have hh : True := hq; clear hh hq))) | (refine OpsD.gen fun q hq => ?_; cases q <;> (try simp [hd1, hk13] at hq) <;> (try (have hh : True := hq; clear hh hq)))))
        | (refine T.ret (Done.data (Or.inr rfl) ?_ ?_) <;> simp [Try.results40] <;> omega)
        | refine T.rs (fun _ => false) fun K hK => ?_
        | refine T.rs1 (fun _ => false) fun K hK => ?_
        | refine T.rd mixed (fun _ => false) [] (by kernel_rfl) fun K hK => ?_
        | refine T.rd1 mixed (fun _ => false) [] (by kernel_rfl) fun K hK => ?_
        | refine T.cond rfl (fun hcnd => ?_) (fun hcnd => absurd hcnd (by decide))
        | refine T.cond rfl (fun hcnd => absurd hcnd (by decide)) (fun hcnd => ?_)
        | refine T.seq ?_
        | refine T.block ?_
        | refine T.skip ?_
        | refine T.exit ?_
    by_cases hlen : kidsM e.kind = e.kids.length
    rotate_left
    · rw [show shapeTm 13 (d + 1) e = false by rw [hsh]; simp [hlen]]
      refine ACalls.of_body Try.func40 (by kernel_rfl) rfl (by kernel_rfl) (by simp [Try.ntmps40]) (by simp) ?_
      rw [Try.ntmps40]
      repeat' first
        | (refine aops_end (hK _ ?_); clear hK K)
        | (refine aopsD_end (hK _ ?_); clear hK K)
        | (refine aops_go ?_; simp [hd1, hlen]; (try (refine Ops.gen fun q hq => ?_; cases q <;> (try simp [hd1, hlen] at hq) <;> (try (have hh : True := hq; clear hh hq)))))
        | (refine aopsD_go ?_; simp [hd1, hlen]; (try (refine OpsD.gen fun q hq => ?_; cases q <;> (try simp [hd1, hlen] at hq) <;> (try (have hh : True := hq; clear hh hq)))))
        | (refine wpcall_pure rfl (hkids) ?_; simp [hd1, hlen]; (try first | (refine Ops.gen fun q hq => ?_; cases q <;> (try simp [hd1, hlen] at hq) <;> (try (have hh : True := hq; clear hh hq))) | (refine OpsD.gen fun q hq => ?_; cases q <;> (try simp [hd1, hlen] at hq) <;> (try (have hh : True := hq; clear hh hq)))))
        | (refine T.ret (Done.data (Or.inr rfl) ?_ ?_) <;> simp [Try.results40] <;> omega)
        | refine T.rs (fun _ => false) fun K hK => ?_
        | refine T.rs1 (fun _ => false) fun K hK => ?_
        | refine T.rd mixed (fun _ => false) [] (by kernel_rfl) fun K hK => ?_
        | refine T.rd1 mixed (fun _ => false) [] (by kernel_rfl) fun K hK => ?_
        | refine T.cond rfl (fun hcnd => ?_) (fun hcnd => absurd hcnd (by decide))
        | refine T.cond rfl (fun hcnd => absurd hcnd (by decide)) (fun hcnd => ?_)
        | refine T.seq ?_
        | refine T.block ?_
        | refine T.skip ?_
        | refine T.exit ?_
    rw [hlen] at hkids
    have hsh2 : shapeTm 13 (d + 1) e = (ownM e && e.kids.all (shapeTm 13 d)) := by rw [hsh]; simp [hk13, hlen]
    obtain ⟨R, hR⟩ : ∃ R, e.kids.all (shapeTm 13 d) = R := ⟨_, rfl⟩
    obtain ⟨O, hO⟩ : ∃ O, ownM e = O := ⟨_, rfl⟩
    rw [hsh2, hR, hO]
    have h14 : e.kind = 14 → ACalls Try.prog 52 [aTm e] [] (.b O) [] [] := fun h => by rw [← hO]; exact l4Own_ok e h hnt hnf
    have hno : ¬ e.kind = 14 → ACalls Try.prog 53 [aTm e] [] (.b O) [] [] := fun h => by rw [← hO]; exact l2Own_ok e h hnt
    clear hsh hsh2
    by_cases hk14 : e.kind = 14
    · have hown := h14 hk14
      rw [hk14] at hkids
      cases O
      · refine ACalls.of_body Try.func40 (by kernel_rfl) rfl (by kernel_rfl) (by simp [Try.ntmps40]) (by simp) ?_
        rw [Try.ntmps40]
        repeat' first
          | (refine aops_end (hK _ ?_); clear hK K)
          | (refine aopsD_end (hK _ ?_); clear hK K)
          | (refine aops_go ?_; simp [hd1, hk13, hk14]; (try (refine Ops.gen fun q hq => ?_; cases q <;> (try simp [hd1, hk13, hk14] at hq) <;> (try (have hh : True := hq; clear hh hq)))))
          | (refine aopsD_go ?_; simp [hd1, hk13, hk14]; (try (refine OpsD.gen fun q hq => ?_; cases q <;> (try simp [hd1, hk13, hk14] at hq) <;> (try (have hh : True := hq; clear hh hq)))))
          | (refine wpcall_pure rfl (hkids) ?_; simp [hd1, hk13, hk14]; (try first | (refine Ops.gen fun q hq => ?_; cases q <;> (try simp [hd1, hk13, hk14] at hq) <;> (try (have hh : True := hq; clear hh hq))) | (refine OpsD.gen fun q hq => ?_; cases q <;> (try simp [hd1, hk13, hk14] at hq) <;> (try (have hh : True := hq; clear hh hq)))))
          | (refine wpcall_pure (by simp [hd1, hk13, hk14]) (hown) ?_; simp [hd1, hk13, hk14]; (try first | (refine Ops.gen fun q hq => ?_; cases q <;> (try simp [hd1, hk13, hk14] at hq) <;> (try (have hh : True := hq; clear hh hq))) | (refine OpsD.gen fun q hq => ?_; cases q <;> (try simp [hd1, hk13, hk14] at hq) <;> (try (have hh : True := hq; clear hh hq)))))
          | (refine T.ret (Done.data (Or.inr rfl) ?_ ?_) <;> simp [Try.results40] <;> omega)
          | refine T.rs (fun _ => false) fun K hK => ?_
          | refine T.rs1 (fun _ => false) fun K hK => ?_
          | refine T.rd mixed (fun _ => false) [] (by kernel_rfl) fun K hK => ?_
          | refine T.rd1 mixed (fun _ => false) [] (by kernel_rfl) fun K hK => ?_
          | refine T.cond rfl (fun hcnd => ?_) (fun hcnd => absurd hcnd (by decide))
          | refine T.cond rfl (fun hcnd => absurd hcnd (by decide)) (fun hcnd => ?_)
          | refine T.seq ?_
          | refine T.block ?_
          | refine T.skip ?_
          | refine T.exit ?_
      refine ACalls.of_body Try.func40 (by kernel_rfl) rfl (by kernel_rfl) (by simp [Try.ntmps40]) (by simp) ?_
      rw [Try.ntmps40]
      repeat' first
        | (refine aops_end (hK _ ?_); clear hK K)
        | (refine aopsD_end (hK _ ?_); clear hK K)
        | (refine aops_go ?_; simp [hd1, hk13, hk14]; (try (refine Ops.gen fun q hq => ?_; cases q <;> (try simp [hd1, hk13, hk14] at hq) <;> (try (have hh : True := hq; clear hh hq)))))
        | (refine aopsD_go ?_; simp [hd1, hk13, hk14]; (try (refine OpsD.gen fun q hq => ?_; cases q <;> (try simp [hd1, hk13, hk14] at hq) <;> (try (have hh : True := hq; clear hh hq)))))
        | (refine wpcall_pure rfl (hkids) ?_; simp [hd1, hk13, hk14]; (try first | (refine Ops.gen fun q hq => ?_; cases q <;> (try simp [hd1, hk13, hk14] at hq) <;> (try (have hh : True := hq; clear hh hq))) | (refine OpsD.gen fun q hq => ?_; cases q <;> (try simp [hd1, hk13, hk14] at hq) <;> (try (have hh : True := hq; clear hh hq)))))
        | (refine wpcall_pure (by simp [hd1, hk13, hk14]) (hown) ?_; simp [hd1, hk13, hk14]; (try first | (refine Ops.gen fun q hq => ?_; cases q <;> (try simp [hd1, hk13, hk14] at hq) <;> (try (have hh : True := hq; clear hh hq))) | (refine OpsD.gen fun q hq => ?_; cases q <;> (try simp [hd1, hk13, hk14] at hq) <;> (try (have hh : True := hq; clear hh hq)))))
        | refine T.rs (fun _ => false) fun K hK => ?_
        | refine T.rs1 (fun _ => false) fun K hK => ?_
        | refine T.rd mixed (fun _ => false) [] (by kernel_rfl) fun K hK => ?_
        | refine T.rd1 mixed (fun _ => false) [] (by kernel_rfl) fun K hK => ?_
        | refine T.cond rfl (fun hcnd => ?_) (fun hcnd => absurd hcnd (by decide))
        | refine T.cond rfl (fun hcnd => absurd hcnd (by decide)) (fun hcnd => ?_)
        | refine T.seq ?_
        | refine T.block ?_
        | refine T.skip ?_
        | refine T.exit ?_
      rw [Bool.true_and]
      refine T.loopF (fun p : Nat => ⟨[(1, .i (d + 1)), (2, .c (.ptr 0 0)), (5, .i p)], [(aTm e).cells], []⟩) (fun p => e.kids.length + 1 - p) (fun p => p ≤ e.kids.length ∧ (e.kids.drop p).all (shapeTm 13 d) = R) (fun p hp => ?_) 0 (by simpa using hR) (by simp [hk14])
      obtain ⟨hi, he⟩ := hp
      by_cases hlt : p < e.kids.length
      · obtain ⟨u, ht⟩ := get_lt hlt
        have htm : u ∈ e.kids := List.mem_of_getElem? ht
        have hgt : e.kids[p] = u := by rw [List.getElem?_eq_getElem hlt] at ht; exact Option.some.inj ht
        have hdr : e.kids.drop p = u :: e.kids.drop (p + 1) := by rw [List.drop_eq_getElem_cons hlt, hgt]
        have hu := l4Shape_ok d u (by omega) (hnu u htm)
        rw [hdr, List.all_cons] at he
        cases hb : shapeTm 13 d u <;> rw [hb] at hu he
        · repeat' first
            | (refine aops_end (hK _ ?_); clear hK K)
            | (refine aopsD_end (hK _ ?_); clear hK K)
            | (refine aops_go ?_; simp [hlt, hgt]; (try simp (disch := omega) only [wrap64]); (try (refine Ops.gen fun q hq => ?_; cases q <;> (try simp [hlt, hgt] at hq) <;> (try (have hh : True := hq; clear hh hq)))))
            | (refine aopsD_go ?_; simp [hlt, hgt]; (try simp (disch := omega) only [wrap64]); (try (refine OpsD.gen fun q hq => ?_; cases q <;> (try simp [hlt, hgt] at hq) <;> (try (have hh : True := hq; clear hh hq)))))
            | (refine wpcall_pure rfl (hu) ?_; simp [hlt, hgt]; (try simp (disch := omega) only [wrap64]); (try first | (refine Ops.gen fun q hq => ?_; cases q <;> (try simp [hlt, hgt] at hq) <;> (try (have hh : True := hq; clear hh hq))) | (refine OpsD.gen fun q hq => ?_; cases q <;> (try simp [hlt, hgt] at hq) <;> (try (have hh : True := hq; clear hh hq)))))
            | (refine T.ret (Done.data (Or.inr rfl) ?_ ?_) <;> simp [Try.results40, ← he] <;> omega)
            | refine T.rs (fun _ => false) fun K hK => ?_
            | refine T.rs1 (fun _ => false) fun K hK => ?_
            | refine T.rd mixed (fun _ => false) [] (by kernel_rfl) fun K hK => ?_
            | refine T.rd1 mixed (fun _ => false) [] (by kernel_rfl) fun K hK => ?_
            | refine T.cond rfl (fun hcnd => ?_) (fun hcnd => absurd hcnd (by decide))
            | refine T.cond rfl (fun hcnd => absurd hcnd (by decide)) (fun hcnd => ?_)
            | refine T.seq ?_
            | refine T.block ?_
            | refine T.skip ?_
            | refine T.exit ?_
        · repeat' first
            | (refine aops_end (hK _ ?_); clear hK K)
            | (refine aopsD_end (hK _ ?_); clear hK K)
            | (refine aops_go ?_; simp [hlt, hgt]; (try simp (disch := omega) only [wrap64]); (try (refine Ops.gen fun q hq => ?_; cases q <;> (try simp [hlt, hgt] at hq) <;> (try (have hh : True := hq; clear hh hq)))))
            | (refine aopsD_go ?_; simp [hlt, hgt]; (try simp (disch := omega) only [wrap64]); (try (refine OpsD.gen fun q hq => ?_; cases q <;> (try simp [hlt, hgt] at hq) <;> (try (have hh : True := hq; clear hh hq)))))
            | (refine wpcall_pure rfl (hu) ?_; simp [hlt, hgt]; (try simp (disch := omega) only [wrap64]); (try first | (refine Ops.gen fun q hq => ?_; cases q <;> (try simp [hlt, hgt] at hq) <;> (try (have hh : True := hq; clear hh hq))) | (refine OpsD.gen fun q hq => ?_; cases q <;> (try simp [hlt, hgt] at hq) <;> (try (have hh : True := hq; clear hh hq)))))
            | (refine ⟨p + 1, by dsimp only; omega, ⟨by omega, by simpa using he⟩, rfl, rfl, ?_⟩; simp (disch := omega) [wrap64])
            | refine T.rs (fun _ => false) fun K hK => ?_
            | refine T.rs1 (fun _ => false) fun K hK => ?_
            | refine T.rd mixed (fun _ => false) [] (by kernel_rfl) fun K hK => ?_
            | refine T.rd1 mixed (fun _ => false) [] (by kernel_rfl) fun K hK => ?_
            | refine T.cond rfl (fun hcnd => ?_) (fun hcnd => absurd hcnd (by decide))
            | refine T.cond rfl (fun hcnd => absurd hcnd (by decide)) (fun hcnd => ?_)
            | refine T.seq ?_
            | refine T.block ?_
            | refine T.skip ?_
            | refine T.exit ?_
      · have hp' : p = e.kids.length := by omega
        subst hp'
        simp at he
        repeat' first
          | (refine aops_end (hK _ ?_); clear hK K)
          | (refine aopsD_end (hK _ ?_); clear hK K)
          | (refine aops_go ?_; simp [hlt]; (try (refine Ops.gen fun q hq => ?_; cases q <;> (try simp [hlt] at hq) <;> (try (have hh : True := hq; clear hh hq)))))
          | (refine aopsD_go ?_; simp [hlt]; (try (refine OpsD.gen fun q hq => ?_; cases q <;> (try simp [hlt] at hq) <;> (try (have hh : True := hq; clear hh hq)))))
          | (refine T.ret (Done.data (Or.inr rfl) ?_ ?_) <;> simp [Try.results40, he] <;> omega)
          | refine T.rs (fun _ => false) fun K hK => ?_
          | refine T.rs1 (fun _ => false) fun K hK => ?_
          | refine T.rd mixed (fun _ => false) [] (by kernel_rfl) fun K hK => ?_
          | refine T.rd1 mixed (fun _ => false) [] (by kernel_rfl) fun K hK => ?_
          | refine T.cond rfl (fun hcnd => ?_) (fun hcnd => absurd hcnd (by decide))
          | refine T.cond rfl (fun hcnd => absurd hcnd (by decide)) (fun hcnd => ?_)
          | refine T.seq ?_
          | refine T.block ?_
          | refine T.skip ?_
          | refine T.exit ?_
    · have hown := hno hk14
      cases O
      · refine ACalls.of_body Try.func40 (by kernel_rfl) rfl (by kernel_rfl) (by simp [Try.ntmps40]) (by simp) ?_
        rw [Try.ntmps40]
        repeat' first
          | (refine aops_end (hK _ ?_); clear hK K)
          | (refine aopsD_end (hK _ ?_); clear hK K)
          | (refine aops_go ?_; simp [hd1, hk13, hk14]; (try (refine Ops.gen fun q hq => ?_; cases q <;> (try simp [hd1, hk13, hk14] at hq) <;> (try (have hh : True := hq; clear hh hq)))))
          | (refine aopsD_go ?_; simp [hd1, hk13, hk14]; (try (refine OpsD.gen fun q hq => ?_; cases q <;> (try simp [hd1, hk13, hk14] at hq) <;> (try (have hh : True := hq; clear hh hq)))))
          | (refine wpcall_pure rfl (hkids) ?_; simp [hd1, hk13, hk14]; (try first | (refine Ops.gen fun q hq => ?_; cases q <;> (try simp [hd1, hk13, hk14] at hq) <;> (try (have hh : True := hq; clear hh hq))) | (refine OpsD.gen fun q hq => ?_; cases q <;> (try simp [hd1, hk13, hk14] at hq) <;> (try (have hh : True := hq; clear hh hq)))))
          | (refine wpcall_pure (by simp [hd1, hk13, hk14]) (hown) ?_; simp [hd1, hk13, hk14]; (try first | (refine Ops.gen fun q hq => ?_; cases q <;> (try simp [hd1, hk13, hk14] at hq) <;> (try (have hh : True := hq; clear hh hq))) | (refine OpsD.gen fun q hq => ?_; cases q <;> (try simp [hd1, hk13, hk14] at hq) <;> (try (have hh : True := hq; clear hh hq)))))
          | (refine T.ret (Done.data (Or.inr rfl) ?_ ?_) <;> simp [Try.results40] <;> omega)
          | refine T.rs (fun _ => false) fun K hK => ?_
          | refine T.rs1 (fun _ => false) fun K hK => ?_
          | refine T.rd mixed (fun _ => false) [] (by kernel_rfl) fun K hK => ?_
          | refine T.rd1 mixed (fun _ => false) [] (by kernel_rfl) fun K hK => ?_
          | refine T.cond rfl (fun hcnd => ?_) (fun hcnd => absurd hcnd (by decide))
          | refine T.cond rfl (fun hcnd => absurd hcnd (by decide)) (fun hcnd => ?_)
          | refine T.seq ?_
          | refine T.block ?_
          | refine T.skip ?_
          | refine T.exit ?_
      refine ACalls.of_body Try.func40 (by kernel_rfl) rfl (by kernel_rfl) (by simp [Try.ntmps40]) (by simp) ?_
      rw [Try.ntmps40]
      repeat' first
        | (refine aops_end (hK _ ?_); clear hK K)
        | (refine aopsD_end (hK _ ?_); clear hK K)
        | (refine aops_go ?_; simp [hd1, hk13, hk14]; (try (refine Ops.gen fun q hq => ?_; cases q <;> (try simp [hd1, hk13, hk14] at hq) <;> (try (have hh : True := hq; clear hh hq)))))
        | (refine aopsD_go ?_; simp [hd1, hk13, hk14]; (try (refine OpsD.gen fun q hq => ?_; cases q <;> (try simp [hd1, hk13, hk14] at hq) <;> (try (have hh : True := hq; clear hh hq)))))
        | (refine wpcall_pure rfl (hkids) ?_; simp [hd1, hk13, hk14]; (try first | (refine Ops.gen fun q hq => ?_; cases q <;> (try simp [hd1, hk13, hk14] at hq) <;> (try (have hh : True := hq; clear hh hq))) | (refine OpsD.gen fun q hq => ?_; cases q <;> (try simp [hd1, hk13, hk14] at hq) <;> (try (have hh : True := hq; clear hh hq)))))
        | (refine wpcall_pure (by simp [hd1, hk13, hk14]) (hown) ?_; simp [hd1, hk13, hk14]; (try first | (refine Ops.gen fun q hq => ?_; cases q <;> (try simp [hd1, hk13, hk14] at hq) <;> (try (have hh : True := hq; clear hh hq))) | (refine OpsD.gen fun q hq => ?_; cases q <;> (try simp [hd1, hk13, hk14] at hq) <;> (try (have hh : True := hq; clear hh hq)))))
        | refine T.rs (fun _ => false) fun K hK => ?_
        | refine T.rs1 (fun _ => false) fun K hK => ?_
        | refine T.rd mixed (fun _ => false) [] (by kernel_rfl) fun K hK => ?_
        | refine T.rd1 mixed (fun _ => false) [] (by kernel_rfl) fun K hK => ?_
        | refine T.cond rfl (fun hcnd => ?_) (fun hcnd => absurd hcnd (by decide))
        | refine T.cond rfl (fun hcnd => absurd hcnd (by decide)) (fun hcnd => ?_)
        | refine T.seq ?_
        | refine T.block ?_
        | refine T.skip ?_
        | refine T.exit ?_
      rw [Bool.true_and]
      refine T.loopF (fun p : Nat => ⟨[(1, .i (d + 1)), (2, .c (.ptr 0 0)), (5, .i p)], [(aTm e).cells], []⟩) (fun p => e.kids.length + 1 - p) (fun p => p ≤ e.kids.length ∧ (e.kids.drop p).all (shapeTm 13 d) = R) (fun p hp => ?_) 0 (by simpa using hR) (by simp)
      obtain ⟨hi, he⟩ := hp
      by_cases hlt : p < e.kids.length
      · obtain ⟨u, ht⟩ := get_lt hlt
        have htm : u ∈ e.kids := List.mem_of_getElem? ht
        have hgt : e.kids[p] = u := by rw [List.getElem?_eq_getElem hlt] at ht; exact Option.some.inj ht
        have hdr : e.kids.drop p = u :: e.kids.drop (p + 1) := by rw [List.drop_eq_getElem_cons hlt, hgt]
        have hu := l4Shape_ok d u (by omega) (hnu u htm)
        rw [hdr, List.all_cons] at he
        cases hb : shapeTm 13 d u <;> rw [hb] at hu he
        · repeat' first
            | (refine aops_end (hK _ ?_); clear hK K)
            | (refine aopsD_end (hK _ ?_); clear hK K)
            | (refine aops_go ?_; simp [hlt, hgt]; (try simp (disch := omega) only [wrap64]); (try (refine Ops.gen fun q hq => ?_; cases q <;> (try simp [hlt, hgt] at hq) <;> (try (have hh : True := hq; clear hh hq)))))
            | (refine aopsD_go ?_; simp [hlt, hgt]; (try simp (disch := omega) only [wrap64]); (try (refine OpsD.gen fun q hq => ?_; cases q <;> (try simp [hlt, hgt] at hq) <;> (try (have hh : True := hq; clear hh hq)))))
            | (refine wpcall_pure rfl (hu) ?_; simp [hlt, hgt]; (try simp (disch := omega) only [wrap64]); (try first | (refine Ops.gen fun q hq => ?_; cases q <;> (try simp [hlt, hgt] at hq) <;> (try (have hh : True := hq; clear hh hq))) | (refine OpsD.gen fun q hq => ?_; cases q <;> (try simp [hlt, hgt] at hq) <;> (try (have hh : True := hq; clear hh hq)))))
            | (refine T.ret (Done.data (Or.inr rfl) ?_ ?_) <;> simp [Try.results40, ← he] <;> omega)
            | refine T.rs (fun _ => false) fun K hK => ?_
            | refine T.rs1 (fun _ => false) fun K hK => ?_
            | refine T.rd mixed (fun _ => false) [] (by kernel_rfl) fun K hK => ?_
            | refine T.rd1 mixed (fun _ => false) [] (by kernel_rfl) fun K hK => ?_
            | refine T.cond rfl (fun hcnd => ?_) (fun hcnd => absurd hcnd (by decide))
            | refine T.cond rfl (fun hcnd => absurd hcnd (by decide)) (fun hcnd => ?_)
            | refine T.seq ?_
            | refine T.block ?_
            | refine T.skip ?_
            | refine T.exit ?_
        · repeat' first
            | (refine aops_end (hK _ ?_); clear hK K)
            | (refine aopsD_end (hK _ ?_); clear hK K)
            | (refine aops_go ?_; simp [hlt, hgt]; (try simp (disch := omega) only [wrap64]); (try (refine Ops.gen fun q hq => ?_; cases q <;> (try simp [hlt, hgt] at hq) <;> (try (have hh : True := hq; clear hh hq)))))
            | (refine aopsD_go ?_; simp [hlt, hgt]; (try simp (disch := omega) only [wrap64]); (try (refine OpsD.gen fun q hq => ?_; cases q <;> (try simp [hlt, hgt] at hq) <;> (try (have hh : True := hq; clear hh hq)))))
            | (refine wpcall_pure rfl (hu) ?_; simp [hlt, hgt]; (try simp (disch := omega) only [wrap64]); (try first | (refine Ops.gen fun q hq => ?_; cases q <;> (try simp [hlt, hgt] at hq) <;> (try (have hh : True := hq; clear hh hq))) | (refine OpsD.gen fun q hq => ?_; cases q <;> (try simp [hlt, hgt] at hq) <;> (try (have hh : True := hq; clear hh hq)))))
            | (refine ⟨p + 1, by dsimp only; omega, ⟨by omega, by simpa using he⟩, rfl, rfl, ?_⟩; simp (disch := omega) [wrap64])
            | refine T.rs (fun _ => false) fun K hK => ?_
            | refine T.rs1 (fun _ => false) fun K hK => ?_
            | refine T.rd mixed (fun _ => false) [] (by kernel_rfl) fun K hK => ?_
            | refine T.rd1 mixed (fun _ => false) [] (by kernel_rfl) fun K hK => ?_
            | refine T.cond rfl (fun hcnd => ?_) (fun hcnd => absurd hcnd (by decide))
            | refine T.cond rfl (fun hcnd => absurd hcnd (by decide)) (fun hcnd => ?_)
            | refine T.seq ?_
            | refine T.block ?_
            | refine T.skip ?_
            | refine T.exit ?_
      · have hp' : p = e.kids.length := by omega
        subst hp'
        simp at he
        repeat' first
          | (refine aops_end (hK _ ?_); clear hK K)
          | (refine aopsD_end (hK _ ?_); clear hK K)
          | (refine aops_go ?_; simp [hlt]; (try (refine Ops.gen fun q hq => ?_; cases q <;> (try simp [hlt] at hq) <;> (try (have hh : True := hq; clear hh hq)))))
          | (refine aopsD_go ?_; simp [hlt]; (try (refine OpsD.gen fun q hq => ?_; cases q <;> (try simp [hlt] at hq) <;> (try (have hh : True := hq; clear hh hq)))))
          | (refine T.ret (Done.data (Or.inr rfl) ?_ ?_) <;> simp [Try.results40, he] <;> omega)
          | refine T.rs (fun _ => false) fun K hK => ?_
          | refine T.rs1 (fun _ => false) fun K hK => ?_
          | refine T.rd mixed (fun _ => false) [] (by kernel_rfl) fun K hK => ?_
          | refine T.rd1 mixed (fun _ => false) [] (by kernel_rfl) fun K hK => ?_
          | refine T.cond rfl (fun hcnd => ?_) (fun hcnd => absurd hcnd (by decide))
          | refine T.cond rfl (fun hcnd => absurd hcnd (by decide)) (fun hcnd => ?_)
          | refine T.seq ?_
          | refine T.block ?_
          | refine T.skip ?_
          | refine T.exit ?_

theorem l2Count_ok : ∀ (d : Nat) (e : MTm), d ≤ 1000 → nTm e ≤ 1099511627776 → ACalls Try.prog 41 [aTm e, .i d] [] (.i (countTm d e)) [] []
  | 0, e, _, hn => by
    obtain ⟨hnt, hnf, hnk, hnu⟩ := nTm_parts hn
    refine ACalls.of_body Try.func41 (by kernel_rfl) rfl (by kernel_rfl) (by simp [Try.ntmps41]) (by simp) ?_
    rw [Try.ntmps41]
    repeat' first
      | (refine aops_end (hK _ ?_); clear hK K)
      | (refine aopsD_end (hK _ ?_); clear hK K)
      | (refine aops_go ?_; simp; (try (refine Ops.gen fun q hq => ?_; cases q <;> (try simp at hq) <;> (try (have hh : True := hq; clear hh hq)))))
      | (refine aopsD_go ?_; simp; (try (refine OpsD.gen fun q hq => ?_; cases q <;> (try simp at hq) <;> (try (have hh : True := hq; clear hh hq)))))
      | refine T.rs (fun _ => false) fun K hK => ?_
      | refine T.rs1 (fun _ => false) fun K hK => ?_
      | refine T.rd mixed (fun _ => false) [] (by kernel_rfl) fun K hK => ?_
      | refine T.rd1 mixed (fun _ => false) [] (by kernel_rfl) fun K hK => ?_
      | refine T.cond rfl (fun hcnd => ?_) (fun hcnd => absurd hcnd (by decide))
      | refine T.cond rfl (fun hcnd => absurd hcnd (by decide)) (fun hcnd => ?_)
      | refine T.seq ?_
      | refine T.block ?_
      | refine T.skip ?_
      | refine T.exit ?_
    refine T.loopF (fun _ : Unit => ⟨[(1, .i 0), (2, .c (.ptr 0 0)), (5, .i 1), (6, .i 0)], [(aTm e).cells], []⟩) (fun _ => 0) (fun _ => True) (fun _ _ => ?_) () trivial (by simp)
    repeat' first
      | (refine aops_end (hK _ ?_); clear hK K)
      | (refine aopsD_end (hK _ ?_); clear hK K)
      | (refine aops_go ?_; simp; (try simp (disch := omega) only [wrap64]); (try (refine Ops.gen fun q hq => ?_; cases q <;> (try simp at hq) <;> (try (have hh : True := hq; clear hh hq)))))
      | (refine aopsD_go ?_; simp; (try simp (disch := omega) only [wrap64]); (try (refine OpsD.gen fun q hq => ?_; cases q <;> (try simp at hq) <;> (try (have hh : True := hq; clear hh hq)))))
      | (refine T.ret (Done.data (Or.inr rfl) ?_ ?_) <;> simp [Try.results41, countTm] <;> omega)
      | refine T.rs (fun _ => false) fun K hK => ?_
      | refine T.rs1 (fun _ => false) fun K hK => ?_
      | refine T.rd mixed (fun _ => false) [] (by kernel_rfl) fun K hK => ?_
      | refine T.rd1 mixed (fun _ => false) [] (by kernel_rfl) fun K hK => ?_
      | refine T.cond rfl (fun hcnd => ?_) (fun hcnd => absurd hcnd (by decide))
      | refine T.cond rfl (fun hcnd => absurd hcnd (by decide)) (fun hcnd => ?_)
      | refine T.seq ?_
      | refine T.block ?_
      | refine T.skip ?_
      | refine T.exit ?_
  | d + 1, e, hd, hn => by
    obtain ⟨hnt, hnf, hnk, hnu⟩ := nTm_parts hn
    have hd1 : (0 : Int) < (d : Int) + 1 := by omega
    have hcl := countTm_le (d + 1) e
    obtain ⟨R, hR⟩ : ∃ R, countTm (d + 1) e = R := ⟨_, rfl⟩
    rw [hR] at hcl ⊢
    refine ACalls.of_body Try.func41 (by kernel_rfl) rfl (by kernel_rfl) (by simp [Try.ntmps41]) (by simp) ?_
    rw [Try.ntmps41]
    repeat' first
      | (refine aops_end (hK _ ?_); clear hK K)
      | (refine aopsD_end (hK _ ?_); clear hK K)
      | (refine aops_go ?_; simp; (try (refine Ops.gen fun q hq => ?_; cases q <;> (try simp at hq) <;> (try (have hh : True := hq; clear hh hq)))))
      | (refine aopsD_go ?_; simp; (try (refine OpsD.gen fun q hq => ?_; cases q <;> (try simp at hq) <;> (try (have hh : True := hq; clear hh hq)))))
      | refine T.rs (fun _ => false) fun K hK => ?_
      | refine T.rs1 (fun _ => false) fun K hK => ?_
      | refine T.rd mixed (fun _ => false) [] (by kernel_rfl) fun K hK => ?_
      | refine T.rd1 mixed (fun _ => false) [] (by kernel_rfl) fun K hK => ?_
      | refine T.cond rfl (fun hcnd => ?_) (fun hcnd => absurd hcnd (by decide))
      | refine T.cond rfl (fun hcnd => absurd hcnd (by decide)) (fun hcnd => ?_)
      | refine T.seq ?_
      | refine T.block ?_
      | refine T.skip ?_
      | refine T.exit ?_
    refine T.loopF (fun x : Nat × Nat => ⟨[(1, .i (d + 1)), (2, .c (.ptr 0 0)), (5, .i x.2), (6, .i x.1)], [(aTm e).cells], []⟩) (fun x => e.kids.length + 1 - x.1) (fun x => x.1 ≤ e.kids.length ∧ x.2 + ((e.kids.drop x.1).map (countTm d)).sum = R) (fun x hx => ?_) (0, 1) (by simpa [countTm] using hR) (by simp)
    obtain ⟨p, k⟩ := x
    obtain ⟨hi, he⟩ := hx
    dsimp only at hi he ⊢
    by_cases hlt : p < e.kids.length
    · obtain ⟨u, ht⟩ := get_lt hlt
      have htm : u ∈ e.kids := List.mem_of_getElem? ht
      have hgt : e.kids[p] = u := by rw [List.getElem?_eq_getElem hlt] at ht; exact Option.some.inj ht
      have hdr : e.kids.drop p = u :: e.kids.drop (p + 1) := by rw [List.drop_eq_getElem_cons hlt, hgt]
      have hu := l2Count_ok d u (by omega) (hnu u htm)
      rw [hdr, List.map_cons, List.sum_cons] at he
      generalize countTm d u = cu at hu he
      repeat' first
        | (refine aops_end (hK _ ?_); clear hK K)
        | (refine aopsD_end (hK _ ?_); clear hK K)
        | (refine aops_go ?_; simp [hlt, hgt, hd1]; (try simp (disch := omega) only [wrap64]); (try (refine Ops.gen fun q hq => ?_; cases q <;> (try simp [hlt, hgt, hd1] at hq) <;> (try (have hh : True := hq; clear hh hq)))))
        | (refine aopsD_go ?_; simp [hlt, hgt, hd1]; (try simp (disch := omega) only [wrap64]); (try (refine OpsD.gen fun q hq => ?_; cases q <;> (try simp [hlt, hgt, hd1] at hq) <;> (try (have hh : True := hq; clear hh hq)))))
        | (refine wpcall_pure rfl (hu) ?_; simp [hlt, hgt, hd1]; (try simp (disch := omega) only [wrap64]); (try first | (refine Ops.gen fun q hq => ?_; cases q <;> (try simp [hlt, hgt, hd1] at hq) <;> (try (have hh : True := hq; clear hh hq))) | (refine OpsD.gen fun q hq => ?_; cases q <;> (try simp [hlt, hgt, hd1] at hq) <;> (try (have hh : True := hq; clear hh hq)))))
        | (refine ⟨(p + 1, k + cu), by dsimp only; omega, ⟨by dsimp only; omega, by dsimp only; omega⟩, rfl, rfl, ?_⟩; simp (disch := omega) [wrap64])
        | refine T.rs (fun _ => false) fun K hK => ?_
        | refine T.rs1 (fun _ => false) fun K hK => ?_
        | refine T.rd mixed (fun _ => false) [] (by kernel_rfl) fun K hK => ?_
        | refine T.rd1 mixed (fun _ => false) [] (by kernel_rfl) fun K hK => ?_
        | refine T.cond rfl (fun hcnd => ?_) (fun hcnd => absurd hcnd (by decide))
        | refine T.cond rfl (fun hcnd => absurd hcnd (by decide)) (fun hcnd => ?_)
        | refine T.seq ?_
        | refine T.block ?_
        | refine T.skip ?_
        | refine T.exit ?_
    · have hp' : p = e.kids.length := by omega
      subst hp'
      simp at he
      repeat' first
        | (refine aops_end (hK _ ?_); clear hK K)
        | (refine aopsD_end (hK _ ?_); clear hK K)
        | (refine aops_go ?_; simp [hlt]; (try (refine Ops.gen fun q hq => ?_; cases q <;> (try simp [hlt] at hq) <;> (try (have hh : True := hq; clear hh hq)))))
        | (refine aopsD_go ?_; simp [hlt]; (try (refine OpsD.gen fun q hq => ?_; cases q <;> (try simp [hlt] at hq) <;> (try (have hh : True := hq; clear hh hq)))))
        | (refine T.ret (Done.data (Or.inr rfl) ?_ ?_) <;> simp [Try.results41, he] <;> omega)
        | refine T.rs (fun _ => false) fun K hK => ?_
        | refine T.rs1 (fun _ => false) fun K hK => ?_
        | refine T.rd mixed (fun _ => false) [] (by kernel_rfl) fun K hK => ?_
        | refine T.rd1 mixed (fun _ => false) [] (by kernel_rfl) fun K hK => ?_
        | refine T.cond rfl (fun hcnd => ?_) (fun hcnd => absurd hcnd (by decide))
        | refine T.cond rfl (fun hcnd => absurd hcnd (by decide)) (fun hcnd => ?_)
        | refine T.seq ?_
        | refine T.block ?_
        | refine T.skip ?_
        | refine T.exit ?_

theorem CastValidS_ok (e : MTm) (hn : nTm e ≤ 1099511627776) : ACalls Try.prog 28 [aTm e] [] (.b (castValidM e)) [] [] := by
  have h1 := l4Shape_ok 40 e (by omega) hn
  have h2 := l2Count_ok 40 e (by omega) hn
  rw [show castValidM e = (shapeTm 13 40 e && decide (countTm 40 e ≤ 200)) from rfl]
  generalize shapeTm 13 40 e = a at *
  generalize countTm 40 e = b at *
  refine ACalls.of_body Try.func28 (by kernel_rfl) rfl (by kernel_rfl) (by simp [Try.ntmps28]) (by simp) ?_
  rw [Try.ntmps28]
  repeat' first
    | (refine aops_end (hK _ ?_); clear hK K)
    | (refine aopsD_end (hK _ ?_); clear hK K)
    | (refine aops_go ?_; simp; (try (refine Ops.gen fun q hq => ?_; cases q <;> (try simp at hq) <;> (try (have hh : True := hq; clear hh hq)))))
    | (refine aopsD_go ?_; simp; (try (refine OpsD.gen fun q hq => ?_; cases q <;> (try simp at hq) <;> (try (have hh : True := hq; clear hh hq)))))
    | (refine wpcall_pure rfl (h1) ?_; simp; (try first | (refine Ops.gen fun q hq => ?_; cases q <;> (try simp at hq) <;> (try (have hh : True := hq; clear hh hq))) | (refine OpsD.gen fun q hq => ?_; cases q <;> (try simp at hq) <;> (try (have hh : True := hq; clear hh hq)))))
    | (refine wpcall_pure rfl (h2) ?_; simp; (try first | (refine Ops.gen fun q hq => ?_; cases q <;> (try simp at hq) <;> (try (have hh : True := hq; clear hh hq))) | (refine OpsD.gen fun q hq => ?_; cases q <;> (try simp at hq) <;> (try (have hh : True := hq; clear hh hq)))))
    | (refine T.ret (Done.data (Or.inr rfl) ?_ ?_) <;> simp [Try.results28, *] <;> omega)
    | refine T.rs (fun _ => false) fun K hK => ?_
    | refine T.rs1 (fun _ => false) fun K hK => ?_
    | refine T.rd mixed (fun _ => false) [] (by kernel_rfl) fun K hK => ?_
    | refine T.rd1 mixed (fun _ => false) [] (by kernel_rfl) fun K hK => ?_
    | refine T.cond rfl (fun hcnd => ?_) (fun hcnd => absurd hcnd (by decide))
    | refine T.cond rfl (fun hcnd => absurd hcnd (by decide)) (fun hcnd => ?_)
    | refine T.seq ?_
    | refine T.block ?_
    | refine T.skip ?_
    | refine T.exit ?_

theorem scan_ok (mn md nt : Int) (hmn : mn ≤ 1000) (hmd : md ≤ 1000) : ∀ (e : MTm), nTm e ≤ 1099511627776 → ∀ (deep c : Int), 0 ≤ c → c ≤ 1000 → 0 ≤ deep →
    ACalls Try.prog 43 [aTm e, .i deep, .i mn, .i md, .i nt, .c (.ptr 0 0)] (dV [[.i c]]) (.b (scanM mn md nt deep e c).1) (dV [[.i (scanM mn md nt deep e c).2]]) [] := by
  intro e
  induction e using MTm.ind with
  | h e ih =>
    intro hn deep c h0 hc hdp
    obtain ⟨hnt, hnf, hnk, hnu⟩ := nTm_parts hn
    have hnode := nodeOk_ok e hnk hnt hnf
    rw [scanM_def]
    by_cases q1 : mn < c + 1
    · rw [if_pos (by simp [q1])]
      refine ACalls.of_body Try.func43 (by kernel_rfl) rfl (by kernel_rfl) (by simp [Try.ntmps43]) (by simp) ?_
      rw [Try.ntmps43]
      repeat' first
        | (refine aops_end (hK _ ?_); clear hK K)
        | (refine aopsD_end (hK _ ?_); clear hK K)
        | (refine aops_go ?_; simp [q1]; (try simp (disch := omega) only [wrap64]); (try (refine Ops.gen fun q hq => ?_; cases q <;> (try simp [q1] at hq) <;> (try (have hh : True := hq; clear hh hq)))))
        | (refine aopsD_go ?_; simp [q1]; (try simp (disch := omega) only [wrap64]); (try (refine OpsD.gen fun q hq => ?_; cases q <;> (try simp [q1] at hq) <;> (try (have hh : True := hq; clear hh hq)))))
        | (refine wpcall_pure rfl (hnode) ?_; simp [q1]; (try simp (disch := omega) only [wrap64]); (try first | (refine Ops.gen fun q hq => ?_; cases q <;> (try simp [q1] at hq) <;> (try (have hh : True := hq; clear hh hq))) | (refine OpsD.gen fun q hq => ?_; cases q <;> (try simp [q1] at hq) <;> (try (have hh : True := hq; clear hh hq)))))
        | (refine T.ret (Done.obj1 (Or.inr rfl) ?_ ?_ ?_) <;> simp [Try.results43] <;> omega)
        | refine T.rs (fun _ => false) fun K hK => ?_
        | refine T.rs1 (fun _ => false) fun K hK => ?_
        | refine T.rd mixed (fun _ => false) [] (by kernel_rfl) fun K hK => ?_
        | refine T.rd1 mixed (fun _ => false) [] (by kernel_rfl) fun K hK => ?_
        | refine T.cond rfl (fun hcnd => ?_) (fun hcnd => absurd hcnd (by decide))
        | refine T.cond rfl (fun hcnd => absurd hcnd (by decide)) (fun hcnd => ?_)
        | refine T.seq ?_
        | refine T.block ?_
        | refine T.skip ?_
        | refine T.exit ?_
    by_cases q2 : md < deep
    · rw [if_pos (by simp [q2])]
      refine ACalls.of_body Try.func43 (by kernel_rfl) rfl (by kernel_rfl) (by simp [Try.ntmps43]) (by simp) ?_
      rw [Try.ntmps43]
      repeat' first
        | (refine aops_end (hK _ ?_); clear hK K)
        | (refine aopsD_end (hK _ ?_); clear hK K)
        | (refine aops_go ?_; simp [q1, q2]; (try simp (disch := omega) only [wrap64]); (try (refine Ops.gen fun q hq => ?_; cases q <;> (try simp [q1, q2] at hq) <;> (try (have hh : True := hq; clear hh hq)))))
        | (refine aopsD_go ?_; simp [q1, q2]; (try simp (disch := omega) only [wrap64]); (try (refine OpsD.gen fun q hq => ?_; cases q <;> (try simp [q1, q2] at hq) <;> (try (have hh : True := hq; clear hh hq)))))
        | (refine wpcall_pure rfl (hnode) ?_; simp [q1, q2]; (try simp (disch := omega) only [wrap64]); (try first | (refine Ops.gen fun q hq => ?_; cases q <;> (try simp [q1, q2] at hq) <;> (try (have hh : True := hq; clear hh hq))) | (refine OpsD.gen fun q hq => ?_; cases q <;> (try simp [q1, q2] at hq) <;> (try (have hh : True := hq; clear hh hq)))))
        | (refine T.ret (Done.obj1 (Or.inr rfl) ?_ ?_ ?_) <;> simp [Try.results43] <;> omega)
        | refine T.rs (fun _ => false) fun K hK => ?_
        | refine T.rs1 (fun _ => false) fun K hK => ?_
        | refine T.rd mixed (fun _ => false) [] (by kernel_rfl) fun K hK => ?_
        | refine T.rd1 mixed (fun _ => false) [] (by kernel_rfl) fun K hK => ?_
        | refine T.cond rfl (fun hcnd => ?_) (fun hcnd => absurd hcnd (by decide))
        | refine T.cond rfl (fun hcnd => absurd hcnd (by decide)) (fun hcnd => ?_)
        | refine T.seq ?_
        | refine T.block ?_
        | refine T.skip ?_
        | refine T.exit ?_
    by_cases q3 : e.kind = nt
    · rw [if_pos (by simp [q3])]
      refine ACalls.of_body Try.func43 (by kernel_rfl) rfl (by kernel_rfl) (by simp [Try.ntmps43]) (by simp) ?_
      rw [Try.ntmps43]
      repeat' first
        | (refine aops_end (hK _ ?_); clear hK K)
        | (refine aopsD_end (hK _ ?_); clear hK K)
        | (refine aops_go ?_; simp [q1, q2, q3]; (try simp (disch := omega) only [wrap64]); (try (refine Ops.gen fun q hq => ?_; cases q <;> (try simp [q1, q2, q3] at hq) <;> (try (have hh : True := hq; clear hh hq)))))
        | (refine aopsD_go ?_; simp [q1, q2, q3]; (try simp (disch := omega) only [wrap64]); (try (refine OpsD.gen fun q hq => ?_; cases q <;> (try simp [q1, q2, q3] at hq) <;> (try (have hh : True := hq; clear hh hq)))))
        | (refine wpcall_pure rfl (hnode) ?_; simp [q1, q2, q3]; (try simp (disch := omega) only [wrap64]); (try first | (refine Ops.gen fun q hq => ?_; cases q <;> (try simp [q1, q2, q3] at hq) <;> (try (have hh : True := hq; clear hh hq))) | (refine OpsD.gen fun q hq => ?_; cases q <;> (try simp [q1, q2, q3] at hq) <;> (try (have hh : True := hq; clear hh hq)))))
        | (refine T.ret (Done.obj1 (Or.inr rfl) ?_ ?_ ?_) <;> simp [Try.results43] <;> omega)
        | refine T.rs (fun _ => false) fun K hK => ?_
        | refine T.rs1 (fun _ => false) fun K hK => ?_
        | refine T.rd mixed (fun _ => false) [] (by kernel_rfl) fun K hK => ?_
        | refine T.rd1 mixed (fun _ => false) [] (by kernel_rfl) fun K hK => ?_
        | refine T.cond rfl (fun hcnd => ?_) (fun hcnd => absurd hcnd (by decide))
        | refine T.cond rfl (fun hcnd => absurd hcnd (by decide)) (fun hcnd => ?_)
        | refine T.seq ?_
        | refine T.block ?_
        | refine T.skip ?_
        | refine T.exit ?_
    cases hN : nodeM e
    · rw [if_pos (by simp)]
      rw [hN] at hnode
      refine ACalls.of_body Try.func43 (by kernel_rfl) rfl (by kernel_rfl) (by simp [Try.ntmps43]) (by simp) ?_
      rw [Try.ntmps43]
      repeat' first
        | (refine aops_end (hK _ ?_); clear hK K)
        | (refine aopsD_end (hK _ ?_); clear hK K)
        | (refine aops_go ?_; simp [q1, q2, q3]; (try simp (disch := omega) only [wrap64]); (try (refine Ops.gen fun q hq => ?_; cases q <;> (try simp [q1, q2, q3] at hq) <;> (try (have hh : True := hq; clear hh hq)))))
        | (refine aopsD_go ?_; simp [q1, q2, q3]; (try simp (disch := omega) only [wrap64]); (try (refine OpsD.gen fun q hq => ?_; cases q <;> (try simp [q1, q2, q3] at hq) <;> (try (have hh : True := hq; clear hh hq)))))
        | (refine wpcall_pure rfl (hnode) ?_; simp [q1, q2, q3]; (try simp (disch := omega) only [wrap64]); (try first | (refine Ops.gen fun q hq => ?_; cases q <;> (try simp [q1, q2, q3] at hq) <;> (try (have hh : True := hq; clear hh hq))) | (refine OpsD.gen fun q hq => ?_; cases q <;> (try simp [q1, q2, q3] at hq) <;> (try (have hh : True := hq; clear hh hq)))))
        | (refine T.ret (Done.obj1 (Or.inr rfl) ?_ ?_ ?_) <;> simp [Try.results43] <;> omega)
        | refine T.rs (fun _ => false) fun K hK => ?_
        | refine T.rs1 (fun _ => false) fun K hK => ?_
        | refine T.rd mixed (fun _ => false) [] (by kernel_rfl) fun K hK => ?_
        | refine T.rd1 mixed (fun _ => false) [] (by kernel_rfl) fun K hK => ?_
        | refine T.cond rfl (fun hcnd => ?_) (fun hcnd => absurd hcnd (by decide))
        | refine T.cond rfl (fun hcnd => absurd hcnd (by decide)) (fun hcnd => ?_)
        | refine T.seq ?_
        | refine T.block ?_
        | refine T.skip ?_
        | refine T.exit ?_
    rw [hN] at hnode
    rw [if_neg (by simp [q1, q2, q3])]
    obtain ⟨R, hR⟩ : ∃ R, scanS mn md nt (deep + 1) e.kids (c + 1) = R := ⟨_, rfl⟩
    rw [hR]
    refine ACalls.of_body Try.func43 (by kernel_rfl) rfl (by kernel_rfl) (by simp [Try.ntmps43]) (by simp) ?_
    rw [Try.ntmps43]
    repeat' first
      | (refine aops_end (hK _ ?_); clear hK K)
      | (refine aopsD_end (hK _ ?_); clear hK K)
      | (refine aops_go ?_; simp [q1, q2, q3]; (try simp (disch := omega) only [wrap64]); (try (refine Ops.gen fun q hq => ?_; cases q <;> (try simp [q1, q2, q3] at hq) <;> (try (have hh : True := hq; clear hh hq)))))
      | (refine aopsD_go ?_; simp [q1, q2, q3]; (try simp (disch := omega) only [wrap64]); (try (refine OpsD.gen fun q hq => ?_; cases q <;> (try simp [q1, q2, q3] at hq) <;> (try (have hh : True := hq; clear hh hq)))))
      | (refine wpcall_pure rfl (hnode) ?_; simp [q1, q2, q3]; (try simp (disch := omega) only [wrap64]); (try first | (refine Ops.gen fun q hq => ?_; cases q <;> (try simp [q1, q2, q3] at hq) <;> (try (have hh : True := hq; clear hh hq))) | (refine OpsD.gen fun q hq => ?_; cases q <;> (try simp [q1, q2, q3] at hq) <;> (try (have hh : True := hq; clear hh hq)))))
      | refine T.rs (fun _ => false) fun K hK => ?_
      | refine T.rs1 (fun _ => false) fun K hK => ?_
      | refine T.rd mixed (fun _ => false) [] (by kernel_rfl) fun K hK => ?_
      | refine T.rd1 mixed (fun _ => false) [] (by kernel_rfl) fun K hK => ?_
      | refine T.cond rfl (fun hcnd => ?_) (fun hcnd => absurd hcnd (by decide))
      | refine T.cond rfl (fun hcnd => absurd hcnd (by decide)) (fun hcnd => ?_)
      | refine T.seq ?_
      | refine T.block ?_
      | refine T.skip ?_
      | refine T.exit ?_
    refine T.loopF (fun x : Nat × Int × List (List CV) => ⟨[(1, .i deep), (2, .i mn), (3, .i md), (4, .i nt), (5, .c (.ptr 0 0)), (6, .c (.ptr 1 0)), (42, .l (e.kids.map eTm)), (43, .i e.kids.length), (44, .i x.1)], [.d (.i x.2.1)] :: (aTm e).cells :: x.2.2, []⟩) (fun x => e.kids.length + 1 - x.1) (fun x => x.1 ≤ e.kids.length ∧ 0 ≤ x.2.1 ∧ x.2.1 ≤ mn ∧ scanS mn md nt (deep + 1) (e.kids.drop x.1) x.2.1 = R) (fun x hx => ?_) (0, c + 1, []) (by simpa using ⟨by omega, by omega, hR⟩) (by simp)
    obtain ⟨p, k, G⟩ := x
    obtain ⟨hi, hk0, hk1, he⟩ := hx
    dsimp only at hi hk0 hk1 he ⊢
    by_cases hlt : p < e.kids.length
    · obtain ⟨u, ht⟩ := get_lt hlt
      have htm : u ∈ e.kids := List.mem_of_getElem? ht
      have hgt : e.kids[p] = u := by rw [List.getElem?_eq_getElem hlt] at ht; exact Option.some.inj ht
      have hdr : e.kids.drop p = u :: e.kids.drop (p + 1) := by rw [List.drop_eq_getElem_cons hlt, hgt]
      have hu := ih u htm (hnu u htm) (deep + 1) k hk0 (by omega) (by omega)
      have hle := scanM_le mn md nt u (deep + 1) k hk0
      rw [hdr, scanS] at he
      generalize scanM mn md nt (deep + 1) u k = r at hu hle he
      obtain ⟨b, k'⟩ := r
      dsimp only at hu hle he
      cases b
      · repeat' first
          | (refine aops_end (hK _ ?_); clear hK K)
          | (refine aopsD_end (hK _ ?_); clear hK K)
          | (refine aops_go ?_; simp [hlt, hgt]; (try simp (disch := omega) only [wrap64]); (try (refine Ops.gen fun q hq => ?_; cases q <;> (try simp [hlt, hgt] at hq) <;> (try (have hh : True := hq; clear hh hq)))))
          | (refine aopsD_go ?_; simp [hlt, hgt]; (try simp (disch := omega) only [wrap64]); (try (refine OpsD.gen fun q hq => ?_; cases q <;> (try simp [hlt, hgt] at hq) <;> (try (have hh : True := hq; clear hh hq)))))
          | (refine wpcall_upd1 0 [.i k] [.i k'] rfl rfl hu ?_; simp)
          | (refine T.ret (Done.obj1 (Or.inr rfl) ?_ ?_ ?_) <;> simp [Try.results43, ← he] <;> omega)
          | refine T.rs (fun _ => false) fun K hK => ?_
          | refine T.rs1 (fun _ => false) fun K hK => ?_
          | refine T.rd mixed (fun _ => false) [] (by kernel_rfl) fun K hK => ?_
          | refine T.rd1 mixed (fun _ => false) [] (by kernel_rfl) fun K hK => ?_
          | refine T.cond rfl (fun hcnd => ?_) (fun hcnd => absurd hcnd (by decide))
          | refine T.cond rfl (fun hcnd => absurd hcnd (by decide)) (fun hcnd => ?_)
          | refine T.seq ?_
          | refine T.block ?_
          | refine T.skip ?_
          | refine T.exit ?_
      · obtain ⟨hle1, hle2⟩ := hle rfl
        repeat' first
          | (refine aops_end (hK _ ?_); clear hK K)
          | (refine aopsD_end (hK _ ?_); clear hK K)
          | (refine aops_go ?_; simp [hlt, hgt]; (try simp (disch := omega) only [wrap64]); (try (refine Ops.gen fun q hq => ?_; cases q <;> (try simp [hlt, hgt] at hq) <;> (try (have hh : True := hq; clear hh hq)))))
          | (refine aopsD_go ?_; simp [hlt, hgt]; (try simp (disch := omega) only [wrap64]); (try (refine OpsD.gen fun q hq => ?_; cases q <;> (try simp [hlt, hgt] at hq) <;> (try (have hh : True := hq; clear hh hq)))))
          | (refine wpcall_upd1 0 [.i k] [.i k'] rfl rfl hu ?_; simp)
          | (refine ⟨(p + 1, k', _), by dsimp only; omega, ⟨by dsimp only; omega, hle1, hle2, by simpa using he⟩, rfl, rfl, ?_⟩; simp (disch := omega) [wrap64])
          | refine T.rs (fun _ => false) fun K hK => ?_
          | refine T.rs1 (fun _ => false) fun K hK => ?_
          | refine T.rd mixed (fun _ => false) [] (by kernel_rfl) fun K hK => ?_
          | refine T.rd1 mixed (fun _ => false) [] (by kernel_rfl) fun K hK => ?_
          | refine T.cond rfl (fun hcnd => ?_) (fun hcnd => absurd hcnd (by decide))
          | refine T.cond rfl (fun hcnd => absurd hcnd (by decide)) (fun hcnd => ?_)
          | refine T.seq ?_
          | refine T.block ?_
          | refine T.skip ?_
          | refine T.exit ?_
    · have hp' : p = e.kids.length := by omega
      subst hp'
      simp [scanS] at he
      repeat' first
        | (refine aops_end (hK _ ?_); clear hK K)
        | (refine aopsD_end (hK _ ?_); clear hK K)
        | (refine aops_go ?_; simp [hlt]; (try (refine Ops.gen fun q hq => ?_; cases q <;> (try simp [hlt] at hq) <;> (try (have hh : True := hq; clear hh hq)))))
        | (refine aopsD_go ?_; simp [hlt]; (try (refine OpsD.gen fun q hq => ?_; cases q <;> (try simp [hlt] at hq) <;> (try (have hh : True := hq; clear hh hq)))))
        | (refine T.ret (Done.obj1 (Or.inr rfl) ?_ ?_ ?_) <;> simp [Try.results43, ← he] <;> omega)
        | refine T.rs (fun _ => false) fun K hK => ?_
        | refine T.rs1 (fun _ => false) fun K hK => ?_
        | refine T.rd mixed (fun _ => false) [] (by kernel_rfl) fun K hK => ?_
        | refine T.rd1 mixed (fun _ => false) [] (by kernel_rfl) fun K hK => ?_
        | refine T.cond rfl (fun hcnd => ?_) (fun hcnd => absurd hcnd (by decide))
        | refine T.cond rfl (fun hcnd => absurd hcnd (by decide)) (fun hcnd => ?_)
        | refine T.seq ?_
        | refine T.block ?_
        | refine T.skip ?_
        | refine T.exit ?_

theorem CastValid_ok (e : MTm) (hn : nTm e ≤ 1099511627776) : ACalls Try.prog 32 [aTm e] [] (.b (castValidM e)) [] [] := by
  have h := scan_ok 200 40 13 (by omega) (by omega) e hn 1 0 (by omega) (by omega) (by omega)
  have hl := (scanM_law 200 40 13 e 40 0 (by omega) (by omega)).1
  have hr : (scanM 200 40 13 1 e 0).1 = castValidM e := by
    rw [show ((40 : Int) + 1 - ((40 : Nat) : Int)) = 1 by omega] at hl
    rw [hl, castValidM]
    congr 1
    exact decide_eq_decide.2 (by omega)
  rw [hr] at h
  refine ACalls.of_body Try.func32 (by kernel_rfl) rfl (by kernel_rfl) (by simp [Try.ntmps32]) (by simp) ?_
  rw [Try.ntmps32]
  repeat' first
    | (refine aops_end (hK _ ?_); clear hK K)
    | (refine aopsD_end (hK _ ?_); clear hK K)
    | (refine aops_go ?_; simp)
    | (refine aopsD_go ?_; simp)
    | (refine wpcall_upd1 1 [.i 0] [.i (scanM 200 40 13 1 e 0).2] rfl rfl h ?_; simp)
    | (refine T.ret (Done.data (Or.inr rfl) ?_ ?_) <;> simp [Try.results32] <;> omega)
    | refine T.rs (fun _ => false) fun K hK => ?_
    | refine T.rs1 (fun _ => false) fun K hK => ?_
    | refine T.rd mixed (fun _ => false) [] (by kernel_rfl) fun K hK => ?_
    | refine T.rd1 mixed (fun _ => false) [] (by kernel_rfl) fun K hK => ?_
    | refine T.cond rfl (fun hcnd => ?_) (fun hcnd => absurd hcnd (by decide))
    | refine T.cond rfl (fun hcnd => absurd hcnd (by decide)) (fun hcnd => ?_)
    | refine T.seq ?_
    | refine T.block ?_
    | refine T.skip ?_
    | refine T.exit ?_

theorem l13Any_ok : ∀ (e : MTm), nTm e ≤ 1099511627776 → ACalls Try.prog 29 [aTm e] [] (.b (bareM e)) [] [] := by
  intro e
  induction e using MTm.ind with
  | h e ih =>
    intro hn
    obtain ⟨hnt, hnf, hnk, hnu⟩ := nTm_parts hn
    rw [bareM_def]
    by_cases h14 : e.kind = 14
    · refine ACalls.of_body Try.func29 (by kernel_rfl) rfl (by kernel_rfl) (by simp [Try.ntmps29]) (by simp) ?_
      rw [Try.ntmps29]
      repeat' first
        | (refine aops_end (hK _ ?_); clear hK K)
        | (refine aopsD_end (hK _ ?_); clear hK K)
        | (refine aops_go ?_; simp [h14]; (try (refine Ops.gen fun q hq => ?_; cases q <;> (try simp [h14] at hq) <;> (try (have hh : True := hq; clear hh hq)))))
        | (refine aopsD_go ?_; simp [h14]; (try (refine OpsD.gen fun q hq => ?_; cases q <;> (try simp [h14] at hq) <;> (try (have hh : True := hq; clear hh hq)))))
        | (refine T.ret (Done.data (Or.inr rfl) ?_ ?_) <;> simp [Try.results29, *] <;> omega)
        | refine T.rs (fun _ => false) fun K hK => ?_
        | refine T.rs1 (fun _ => false) fun K hK => ?_
        | refine T.rd mixed (fun _ => false) [] (by kernel_rfl) fun K hK => ?_
        | refine T.rd1 mixed (fun _ => false) [] (by kernel_rfl) fun K hK => ?_
        | refine T.cond rfl (fun hcnd => ?_) (fun hcnd => absurd hcnd (by decide))
        | refine T.cond rfl (fun hcnd => absurd hcnd (by decide)) (fun hcnd => ?_)
        | refine T.seq ?_
        | refine T.block ?_
        | refine T.skip ?_
        | refine T.exit ?_
    by_cases h5 : e.kind = 5 ∧ ¬ e.ty.kind = 1
    · obtain ⟨h5, ht1⟩ := h5
      refine ACalls.of_body Try.func29 (by kernel_rfl) rfl (by kernel_rfl) (by simp [Try.ntmps29]) (by simp) ?_
      rw [Try.ntmps29]
      repeat' first
        | (refine aops_end (hK _ ?_); clear hK K)
        | (refine aopsD_end (hK _ ?_); clear hK K)
        | (refine aops_go ?_; simp [h14, h5, ht1]; (try (refine Ops.gen fun q hq => ?_; cases q <;> (try simp [h14, h5, ht1] at hq) <;> (try (have hh : True := hq; clear hh hq)))))
        | (refine aopsD_go ?_; simp [h14, h5, ht1]; (try (refine OpsD.gen fun q hq => ?_; cases q <;> (try simp [h14, h5, ht1] at hq) <;> (try (have hh : True := hq; clear hh hq)))))
        | (refine T.ret (Done.data (Or.inr rfl) ?_ ?_) <;> simp [Try.results29, *] <;> omega)
        | refine T.rs (fun _ => false) fun K hK => ?_
        | refine T.rs1 (fun _ => false) fun K hK => ?_
        | refine T.rd mixed (fun _ => false) [] (by kernel_rfl) fun K hK => ?_
        | refine T.rd1 mixed (fun _ => false) [] (by kernel_rfl) fun K hK => ?_
        | refine T.cond rfl (fun hcnd => ?_) (fun hcnd => absurd hcnd (by decide))
        | refine T.cond rfl (fun hcnd => absurd hcnd (by decide)) (fun hcnd => ?_)
        | refine T.seq ?_
        | refine T.block ?_
        | refine T.skip ?_
        | refine T.exit ?_
    obtain ⟨R, hR⟩ : ∃ R, e.kids.all bareM = R := ⟨_, rfl⟩
    have hb : (decide (e.kind ≠ 5) || decide (e.ty.kind = 1)) = true := by
      by_cases e.kind = 5 <;> simp_all
    rw [hb, hR]
    by_cases h5' : e.kind = 5
    · have ht1 : e.ty.kind = 1 := by simp [h5'] at hb; exact hb
      refine ACalls.of_body Try.func29 (by kernel_rfl) rfl (by kernel_rfl) (by simp [Try.ntmps29]) (by simp) ?_
      rw [Try.ntmps29]
      repeat' first
        | (refine aops_end (hK _ ?_); clear hK K)
        | (refine aopsD_end (hK _ ?_); clear hK K)
        | (refine aops_go ?_; simp [h14, h5', ht1]; (try (refine Ops.gen fun q hq => ?_; cases q <;> (try simp [h14, h5', ht1] at hq) <;> (try (have hh : True := hq; clear hh hq)))))
        | (refine aopsD_go ?_; simp [h14, h5', ht1]; (try (refine OpsD.gen fun q hq => ?_; cases q <;> (try simp [h14, h5', ht1] at hq) <;> (try (have hh : True := hq; clear hh hq)))))
        | refine T.rs (fun _ => false) fun K hK => ?_
        | refine T.rs1 (fun _ => false) fun K hK => ?_
        | refine T.rd mixed (fun _ => false) [] (by kernel_rfl) fun K hK => ?_
        | refine T.rd1 mixed (fun _ => false) [] (by kernel_rfl) fun K hK => ?_
        | refine T.cond rfl (fun hcnd => ?_) (fun hcnd => absurd hcnd (by decide))
        | refine T.cond rfl (fun hcnd => absurd hcnd (by decide)) (fun hcnd => ?_)
        | refine T.seq ?_
        | refine T.block ?_
        | refine T.skip ?_
        | refine T.exit ?_
      refine T.loopF (fun p : Nat => ⟨[(1, .c (.ptr 0 0)), (3, .i p)], [(aTm e).cells], []⟩) (fun p => e.kids.length + 1 - p) (fun p => p ≤ e.kids.length ∧ (e.kids.drop p).all bareM = R) (fun p hp => ?_) 0 (by simpa using hR) (by simp [h5', ht1])
      obtain ⟨hi, he⟩ := hp
      by_cases hlt : p < e.kids.length
      · obtain ⟨u, ht⟩ := get_lt hlt
        have htm : u ∈ e.kids := List.mem_of_getElem? ht
        have hgt : e.kids[p] = u := by rw [List.getElem?_eq_getElem hlt] at ht; exact Option.some.inj ht
        have hdr : e.kids.drop p = u :: e.kids.drop (p + 1) := by rw [List.drop_eq_getElem_cons hlt, hgt]
        have hu := ih u htm (hnu u htm)
        rw [hdr, List.all_cons] at he
        cases hbu : bareM u <;> rw [hbu] at hu he
        · repeat' first
            | (refine aops_end (hK _ ?_); clear hK K)
            | (refine aopsD_end (hK _ ?_); clear hK K)
            | (refine aops_go ?_; simp [hlt, hgt]; (try simp (disch := omega) only [wrap64]); (try (refine Ops.gen fun q hq => ?_; cases q <;> (try simp [hlt, hgt] at hq) <;> (try (have hh : True := hq; clear hh hq)))))
            | (refine aopsD_go ?_; simp [hlt, hgt]; (try simp (disch := omega) only [wrap64]); (try (refine OpsD.gen fun q hq => ?_; cases q <;> (try simp [hlt, hgt] at hq) <;> (try (have hh : True := hq; clear hh hq)))))
            | (refine wpcall_pure rfl (hu) ?_; simp [hlt, hgt]; (try simp (disch := omega) only [wrap64]); (try first | (refine Ops.gen fun q hq => ?_; cases q <;> (try simp [hlt, hgt] at hq) <;> (try (have hh : True := hq; clear hh hq))) | (refine OpsD.gen fun q hq => ?_; cases q <;> (try simp [hlt, hgt] at hq) <;> (try (have hh : True := hq; clear hh hq)))))
            | (refine T.ret (Done.data (Or.inr rfl) ?_ ?_) <;> simp [Try.results29, h5', ← he] <;> omega)
            | refine T.rs (fun _ => false) fun K hK => ?_
            | refine T.rs1 (fun _ => false) fun K hK => ?_
            | refine T.rd mixed (fun _ => false) [] (by kernel_rfl) fun K hK => ?_
            | refine T.rd1 mixed (fun _ => false) [] (by kernel_rfl) fun K hK => ?_
            | refine T.cond rfl (fun hcnd => ?_) (fun hcnd => absurd hcnd (by decide))
            | refine T.cond rfl (fun hcnd => absurd hcnd (by decide)) (fun hcnd => ?_)
            | refine T.seq ?_
            | refine T.block ?_
            | refine T.skip ?_
            | refine T.exit ?_
        · repeat' first
            | (refine aops_end (hK _ ?_); clear hK K)
            | (refine aopsD_end (hK _ ?_); clear hK K)
            | (refine aops_go ?_; simp [hlt, hgt]; (try simp (disch := omega) only [wrap64]); (try (refine Ops.gen fun q hq => ?_; cases q <;> (try simp [hlt, hgt] at hq) <;> (try (have hh : True := hq; clear hh hq)))))
            | (refine aopsD_go ?_; simp [hlt, hgt]; (try simp (disch := omega) only [wrap64]); (try (refine OpsD.gen fun q hq => ?_; cases q <;> (try simp [hlt, hgt] at hq) <;> (try (have hh : True := hq; clear hh hq)))))
            | (refine wpcall_pure rfl (hu) ?_; simp [hlt, hgt]; (try simp (disch := omega) only [wrap64]); (try first | (refine Ops.gen fun q hq => ?_; cases q <;> (try simp [hlt, hgt] at hq) <;> (try (have hh : True := hq; clear hh hq))) | (refine OpsD.gen fun q hq => ?_; cases q <;> (try simp [hlt, hgt] at hq) <;> (try (have hh : True := hq; clear hh hq)))))
            | (refine ⟨p + 1, by dsimp only; omega, ⟨by omega, by simpa using he⟩, rfl, rfl, ?_⟩; simp (disch := omega) [wrap64])
            | refine T.rs (fun _ => false) fun K hK => ?_
            | refine T.rs1 (fun _ => false) fun K hK => ?_
            | refine T.rd mixed (fun _ => false) [] (by kernel_rfl) fun K hK => ?_
            | refine T.rd1 mixed (fun _ => false) [] (by kernel_rfl) fun K hK => ?_
            | refine T.cond rfl (fun hcnd => ?_) (fun hcnd => absurd hcnd (by decide))
            | refine T.cond rfl (fun hcnd => absurd hcnd (by decide)) (fun hcnd => ?_)
            | refine T.seq ?_
            | refine T.block ?_
            | refine T.skip ?_
            | refine T.exit ?_
      · have hp' : p = e.kids.length := by omega
        subst hp'
        simp at he
        repeat' first
          | (refine aops_end (hK _ ?_); clear hK K)
          | (refine aopsD_end (hK _ ?_); clear hK K)
          | (refine aops_go ?_; simp [hlt]; (try (refine Ops.gen fun q hq => ?_; cases q <;> (try simp [hlt] at hq) <;> (try (have hh : True := hq; clear hh hq)))))
          | (refine aopsD_go ?_; simp [hlt]; (try (refine OpsD.gen fun q hq => ?_; cases q <;> (try simp [hlt] at hq) <;> (try (have hh : True := hq; clear hh hq)))))
          | (refine T.ret (Done.data (Or.inr rfl) ?_ ?_) <;> simp [Try.results29, h5', he] <;> omega)
          | refine T.rs (fun _ => false) fun K hK => ?_
          | refine T.rs1 (fun _ => false) fun K hK => ?_
          | refine T.rd mixed (fun _ => false) [] (by kernel_rfl) fun K hK => ?_
          | refine T.rd1 mixed (fun _ => false) [] (by kernel_rfl) fun K hK => ?_
          | refine T.cond rfl (fun hcnd => ?_) (fun hcnd => absurd hcnd (by decide))
          | refine T.cond rfl (fun hcnd => absurd hcnd (by decide)) (fun hcnd => ?_)
          | refine T.seq ?_
          | refine T.block ?_
          | refine T.skip ?_
          | refine T.exit ?_
    · refine ACalls.of_body Try.func29 (by kernel_rfl) rfl (by kernel_rfl) (by simp [Try.ntmps29]) (by simp) ?_
      rw [Try.ntmps29]
      repeat' first
        | (refine aops_end (hK _ ?_); clear hK K)
        | (refine aopsD_end (hK _ ?_); clear hK K)
        | (refine aops_go ?_; simp [h14, h5']; (try (refine Ops.gen fun q hq => ?_; cases q <;> (try simp [h14, h5'] at hq) <;> (try (have hh : True := hq; clear hh hq)))))
        | (refine aopsD_go ?_; simp [h14, h5']; (try (refine OpsD.gen fun q hq => ?_; cases q <;> (try simp [h14, h5'] at hq) <;> (try (have hh : True := hq; clear hh hq)))))
        | refine T.rs (fun _ => false) fun K hK => ?_
        | refine T.rs1 (fun _ => false) fun K hK => ?_
        | refine T.rd mixed (fun _ => false) [] (by kernel_rfl) fun K hK => ?_
        | refine T.rd1 mixed (fun _ => false) [] (by kernel_rfl) fun K hK => ?_
        | refine T.cond rfl (fun hcnd => ?_) (fun hcnd => absurd hcnd (by decide))
        | refine T.cond rfl (fun hcnd => absurd hcnd (by decide)) (fun hcnd => ?_)
        | refine T.seq ?_
        | refine T.block ?_
        | refine T.skip ?_
        | refine T.exit ?_
      refine T.loopF (fun p : Nat => ⟨[(1, .c (.ptr 0 0)), (3, .i p)], [(aTm e).cells], []⟩) (fun p => e.kids.length + 1 - p) (fun p => p ≤ e.kids.length ∧ (e.kids.drop p).all bareM = R) (fun p hp => ?_) 0 (by simpa using hR) (by simp)
      obtain ⟨hi, he⟩ := hp
      by_cases hlt : p < e.kids.length
      · obtain ⟨u, ht⟩ := get_lt hlt
        have htm : u ∈ e.kids := List.mem_of_getElem? ht
        have hgt : e.kids[p] = u := by rw [List.getElem?_eq_getElem hlt] at ht; exact Option.some.inj ht
        have hdr : e.kids.drop p = u :: e.kids.drop (p + 1) := by rw [List.drop_eq_getElem_cons hlt, hgt]
        have hu := ih u htm (hnu u htm)
        rw [hdr, List.all_cons] at he
        cases hbu : bareM u <;> rw [hbu] at hu he
        · repeat' first
            | (refine aops_end (hK _ ?_); clear hK K)
            | (refine aopsD_end (hK _ ?_); clear hK K)
            | (refine aops_go ?_; simp [hlt, hgt]; (try simp (disch := omega) only [wrap64]); (try (refine Ops.gen fun q hq => ?_; cases q <;> (try simp [hlt, hgt] at hq) <;> (try (have hh : True := hq; clear hh hq)))))
            | (refine aopsD_go ?_; simp [hlt, hgt]; (try simp (disch := omega) only [wrap64]); (try (refine OpsD.gen fun q hq => ?_; cases q <;> (try simp [hlt, hgt] at hq) <;> (try (have hh : True := hq; clear hh hq)))))
            | (refine wpcall_pure rfl (hu) ?_; simp [hlt, hgt]; (try simp (disch := omega) only [wrap64]); (try first | (refine Ops.gen fun q hq => ?_; cases q <;> (try simp [hlt, hgt] at hq) <;> (try (have hh : True := hq; clear hh hq))) | (refine OpsD.gen fun q hq => ?_; cases q <;> (try simp [hlt, hgt] at hq) <;> (try (have hh : True := hq; clear hh hq)))))
            | (refine T.ret (Done.data (Or.inr rfl) ?_ ?_) <;> simp [Try.results29, h14, ← he] <;> omega)
            | refine T.rs (fun _ => false) fun K hK => ?_
            | refine T.rs1 (fun _ => false) fun K hK => ?_
            | refine T.rd mixed (fun _ => false) [] (by kernel_rfl) fun K hK => ?_
            | refine T.rd1 mixed (fun _ => false) [] (by kernel_rfl) fun K hK => ?_
            | refine T.cond rfl (fun hcnd => ?_) (fun hcnd => absurd hcnd (by decide))
            | refine T.cond rfl (fun hcnd => absurd hcnd (by decide)) (fun hcnd => ?_)
            | refine T.seq ?_
            | refine T.block ?_
            | refine T.skip ?_
            | refine T.exit ?_
        · repeat' first
            | (refine aops_end (hK _ ?_); clear hK K)
            | (refine aopsD_end (hK _ ?_); clear hK K)
            | (refine aops_go ?_; simp [hlt, hgt]; (try simp (disch := omega) only [wrap64]); (try (refine Ops.gen fun q hq => ?_; cases q <;> (try simp [hlt, hgt] at hq) <;> (try (have hh : True := hq; clear hh hq)))))
            | (refine aopsD_go ?_; simp [hlt, hgt]; (try simp (disch := omega) only [wrap64]); (try (refine OpsD.gen fun q hq => ?_; cases q <;> (try simp [hlt, hgt] at hq) <;> (try (have hh : True := hq; clear hh hq)))))
            | (refine wpcall_pure rfl (hu) ?_; simp [hlt, hgt]; (try simp (disch := omega) only [wrap64]); (try first | (refine Ops.gen fun q hq => ?_; cases q <;> (try simp [hlt, hgt] at hq) <;> (try (have hh : True := hq; clear hh hq))) | (refine OpsD.gen fun q hq => ?_; cases q <;> (try simp [hlt, hgt] at hq) <;> (try (have hh : True := hq; clear hh hq)))))
            | (refine ⟨p + 1, by dsimp only; omega, ⟨by omega, by simpa using he⟩, rfl, rfl, ?_⟩; simp (disch := omega) [wrap64])
            | refine T.rs (fun _ => false) fun K hK => ?_
            | refine T.rs1 (fun _ => false) fun K hK => ?_
            | refine T.rd mixed (fun _ => false) [] (by kernel_rfl) fun K hK => ?_
            | refine T.rd1 mixed (fun _ => false) [] (by kernel_rfl) fun K hK => ?_
            | refine T.cond rfl (fun hcnd => ?_) (fun hcnd => absurd hcnd (by decide))
            | refine T.cond rfl (fun hcnd => absurd hcnd (by decide)) (fun hcnd => ?_)
            | refine T.seq ?_
            | refine T.block ?_
            | refine T.skip ?_
            | refine T.exit ?_
      · have hp' : p = e.kids.length := by omega
        subst hp'
        simp at he
        repeat' first
          | (refine aops_end (hK _ ?_); clear hK K)
          | (refine aopsD_end (hK _ ?_); clear hK K)
          | (refine aops_go ?_; simp [hlt]; (try (refine Ops.gen fun q hq => ?_; cases q <;> (try simp [hlt] at hq) <;> (try (have hh : True := hq; clear hh hq)))))
          | (refine aopsD_go ?_; simp [hlt]; (try (refine OpsD.gen fun q hq => ?_; cases q <;> (try simp [hlt] at hq) <;> (try (have hh : True := hq; clear hh hq)))))
          | (refine T.ret (Done.data (Or.inr rfl) ?_ ?_) <;> simp [Try.results29, h14, he] <;> omega)
          | refine T.rs (fun _ => false) fun K hK => ?_
          | refine T.rs1 (fun _ => false) fun K hK => ?_
          | refine T.rd mixed (fun _ => false) [] (by kernel_rfl) fun K hK => ?_
          | refine T.rd1 mixed (fun _ => false) [] (by kernel_rfl) fun K hK => ?_
          | refine T.cond rfl (fun hcnd => ?_) (fun hcnd => absurd hcnd (by decide))
          | refine T.cond rfl (fun hcnd => absurd hcnd (by decide)) (fun hcnd => ?_)
          | refine T.seq ?_
          | refine T.block ?_
          | refine T.skip ?_
          | refine T.exit ?_

theorem isBare1_ok (e : MTm) (q : Bool) (h : ACalls Try.prog 33 [aTm e] [] (.b q) [] []) : ACalls Try.prog 45 [aTm e] [] (.b (!q)) [] [] := by
  refine ACalls.of_body Try.func45 (by kernel_rfl) rfl (by kernel_rfl) (by simp [Try.ntmps45]) (by simp) ?_
  rw [Try.ntmps45]
  repeat' first
    | (refine aops_end (hK _ ?_); clear hK K)
    | (refine aopsD_end (hK _ ?_); clear hK K)
    | (refine aops_go ?_; simp)
    | (refine aopsD_go ?_; simp)
    | (refine wpcall_pure rfl (h) ?_; simp)
    | (refine T.ret (Done.data (Or.inr rfl) ?_ ?_) <;> simp [Try.results45] <;> omega)
    | refine T.rs (fun _ => false) fun K hK => ?_
    | refine T.rs1 (fun _ => false) fun K hK => ?_
    | refine T.rd mixed (fun _ => false) [] (by kernel_rfl) fun K hK => ?_
    | refine T.rd1 mixed (fun _ => false) [] (by kernel_rfl) fun K hK => ?_
    | refine T.cond rfl (fun hcnd => ?_) (fun hcnd => absurd hcnd (by decide))
    | refine T.cond rfl (fun hcnd => absurd hcnd (by decide)) (fun hcnd => ?_)
    | refine T.seq ?_
    | refine T.block ?_
    | refine T.skip ?_
    | refine T.exit ?_

theorem isBare_ok : ∀ (e : MTm), nTm e ≤ 1099511627776 → ACalls Try.prog 33 [aTm e] [] (.b (bareM e)) [] [] := by
  intro e
  induction e using MTm.ind with
  | h e ih =>
    intro hn
    obtain ⟨hnt, hnf, hnk, hnu⟩ := nTm_parts hn
    have hcf := containsFuncTm_0 45 e.kids (fun t => !bareM t) (by omega) (fun u hu => isBare1_ok u _ (ih u hu (hnu u hu)))
    rw [bareM_def, ← not_any_not]
    generalize (e.kids.any fun t => !bareM t) = R at hcf ⊢
    refine ACalls.of_body Try.func33 (by kernel_rfl) rfl (by kernel_rfl) (by simp [Try.ntmps33]) (by simp) ?_
    rw [Try.ntmps33]
    repeat' first
      | (refine aops_end (hK _ ?_); clear hK K)
      | (refine aopsD_end (hK _ ?_); clear hK K)
      | (refine aops_go ?_; simp; (try (refine Ops.gen fun q hq => ?_; cases q <;> (try simp at hq) <;> (try (have hh : True := hq; clear hh hq)))))
      | (refine aopsD_go ?_; simp; (try (refine OpsD.gen fun q hq => ?_; cases q <;> (try simp at hq) <;> (try (have hh : True := hq; clear hh hq)))))
      | (refine wpcall_pure rfl (hcf) ?_; simp; (try first | (refine Ops.gen fun q hq => ?_; cases q <;> (try simp at hq) <;> (try (have hh : True := hq; clear hh hq))) | (refine OpsD.gen fun q hq => ?_; cases q <;> (try simp at hq) <;> (try (have hh : True := hq; clear hh hq)))))
      | (refine T.ret (Done.data (Or.inr rfl) ?_ ?_) <;> simp [Try.results33, *] <;> omega)
      | refine T.rs (fun _ => false) fun K hK => ?_
      | refine T.rs1 (fun _ => false) fun K hK => ?_
      | refine T.rd mixed (fun _ => false) [] (by kernel_rfl) fun K hK => ?_
      | refine T.rd1 mixed (fun _ => false) [] (by kernel_rfl) fun K hK => ?_
      | refine T.cond rfl (fun hcnd => ?_) (fun hcnd => absurd hcnd (by decide))
      | refine T.cond rfl (fun hcnd => absurd hcnd (by decide)) (fun hcnd => ?_)
      | refine T.seq ?_
      | refine T.block ?_
      | refine T.skip ?_
      | refine T.exit ?_

theorem BareValidS_ok (e : MTm) (hn : nTm e ≤ 1099511627776) : ACalls Try.prog 15 [aTm e] [] (.b (castValidM e && bareM e)) [] [] := by
  have h1 := CastValidS_ok e hn
  have h2 := l13Any_ok e hn
  generalize castValidM e = a at *
  generalize bareM e = b at *
  refine ACalls.of_body Try.func15 (by kernel_rfl) rfl (by kernel_rfl) (by simp [Try.ntmps15]) (by simp) ?_
  rw [Try.ntmps15]
  repeat' first
    | (refine aops_end (hK _ ?_); clear hK K)
    | (refine aopsD_end (hK _ ?_); clear hK K)
    | (refine aops_go ?_; simp; (try (refine Ops.gen fun q hq => ?_; cases q <;> (try simp at hq) <;> (try (have hh : True := hq; clear hh hq)))))
    | (refine aopsD_go ?_; simp; (try (refine OpsD.gen fun q hq => ?_; cases q <;> (try simp at hq) <;> (try (have hh : True := hq; clear hh hq)))))
    | (refine wpcall_pure rfl (h1) ?_; simp; (try first | (refine Ops.gen fun q hq => ?_; cases q <;> (try simp at hq) <;> (try (have hh : True := hq; clear hh hq))) | (refine OpsD.gen fun q hq => ?_; cases q <;> (try simp at hq) <;> (try (have hh : True := hq; clear hh hq)))))
    | (refine wpcall_pure rfl (h2) ?_; simp; (try first | (refine Ops.gen fun q hq => ?_; cases q <;> (try simp at hq) <;> (try (have hh : True := hq; clear hh hq))) | (refine OpsD.gen fun q hq => ?_; cases q <;> (try simp at hq) <;> (try (have hh : True := hq; clear hh hq)))))
    | (refine T.ret (Done.data (Or.inr rfl) ?_ ?_) <;> simp [Try.results15, *] <;> omega)
    | refine T.rs (fun _ => false) fun K hK => ?_
    | refine T.rs1 (fun _ => false) fun K hK => ?_
    | refine T.rd mixed (fun _ => false) [] (by kernel_rfl) fun K hK => ?_
    | refine T.rd1 mixed (fun _ => false) [] (by kernel_rfl) fun K hK => ?_
    | refine T.cond rfl (fun hcnd => ?_) (fun hcnd => absurd hcnd (by decide))
    | refine T.cond rfl (fun hcnd => absurd hcnd (by decide)) (fun hcnd => ?_)
    | refine T.seq ?_
    | refine T.block ?_
    | refine T.skip ?_
    | refine T.exit ?_

theorem BareValid_ok (e : MTm) (hn : nTm e ≤ 1099511627776) : ACalls Try.prog 17 [aTm e] [] (.b (castValidM e && bareM e)) [] [] := by
  have h1 := CastValid_ok e hn
  have h2 := isBare_ok e hn
  generalize castValidM e = a at *
  generalize bareM e = b at *
  refine ACalls.of_body Try.func17 (by kernel_rfl) rfl (by kernel_rfl) (by simp [Try.ntmps17]) (by simp) ?_
  rw [Try.ntmps17]
  repeat' first
    | (refine aops_end (hK _ ?_); clear hK K)
    | (refine aopsD_end (hK _ ?_); clear hK K)
    | (refine aops_go ?_; simp; (try (refine Ops.gen fun q hq => ?_; cases q <;> (try simp at hq) <;> (try (have hh : True := hq; clear hh hq)))))
    | (refine aopsD_go ?_; simp; (try (refine OpsD.gen fun q hq => ?_; cases q <;> (try simp at hq) <;> (try (have hh : True := hq; clear hh hq)))))
    | (refine wpcall_pure rfl (h1) ?_; simp; (try first | (refine Ops.gen fun q hq => ?_; cases q <;> (try simp at hq) <;> (try (have hh : True := hq; clear hh hq))) | (refine OpsD.gen fun q hq => ?_; cases q <;> (try simp at hq) <;> (try (have hh : True := hq; clear hh hq)))))
    | (refine wpcall_pure rfl (h2) ?_; simp; (try first | (refine Ops.gen fun q hq => ?_; cases q <;> (try simp at hq) <;> (try (have hh : True := hq; clear hh hq))) | (refine OpsD.gen fun q hq => ?_; cases q <;> (try simp at hq) <;> (try (have hh : True := hq; clear hh hq)))))
    | (refine T.ret (Done.data (Or.inr rfl) ?_ ?_) <;> simp [Try.results17, *] <;> omega)
    | refine T.rs (fun _ => false) fun K hK => ?_
    | refine T.rs1 (fun _ => false) fun K hK => ?_
    | refine T.rd mixed (fun _ => false) [] (by kernel_rfl) fun K hK => ?_
    | refine T.rd1 mixed (fun _ => false) [] (by kernel_rfl) fun K hK => ?_
    | refine T.cond rfl (fun hcnd => ?_) (fun hcnd => absurd hcnd (by decide))
    | refine T.cond rfl (fun hcnd => absurd hcnd (by decide)) (fun hcnd => ?_)
    | refine T.seq ?_
    | refine T.block ?_
    | refine T.skip ?_
    | refine T.exit ?_
end Go.Proofs.Ytdbffbmbbfbamaa
