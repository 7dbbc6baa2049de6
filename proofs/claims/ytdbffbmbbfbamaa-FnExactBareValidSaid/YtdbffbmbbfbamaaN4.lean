/- Types: TypeValid, Consistent, in the program and in the reference. -/
import Derived.Test.YtdbffbmbbfbamaaN3
namespace Go.Proofs.Ytdbffbmbbfbamaa
open Go Go.Av
attribute [local irreducible] T ACalls eTy eTm MTy.kind MTy.kids MTm.kind MTm.name MTm.num MTm.ty MTm.fr MTm.label MTm.kids
attribute [local simp] eTy_def eTm_def
set_option linter.unusedSimpArgs false
set_option linter.unusedVariables false
set_option maxHeartbeats 4000000

theorem TypeValidS_ok (t : MTy) (hn : nTy t ≤ 1099511627776) : ACalls Try.prog 66 [aTy t] [] (.b (shapeTy 4 t)) [] [] := by
  refine ACalls.of_body Try.func66 (by kernel_rfl) rfl (by kernel_rfl) (by simp [Try.ntmps66]) (by simp) ?_
  rw [Try.ntmps66]
  repeat' first
    | (refine aops_end (hK _ ?_); clear hK K)
    | (refine aopsD_end (hK _ ?_); clear hK K)
    | (refine aops_go ?_; simp)
    | (refine aopsD_go ?_; simp)
    | (refine wpcall_pure rfl (l1Shape_ok 4 t (by omega) hn) ?_; simp)
    | (refine T.ret (Done.data (Or.inr rfl) ?_ ?_) <;> simp [Try.results66] <;> omega)
    | refine T.rs (fun _ => false) fun K hK => ?_
    | refine T.rs1 (fun _ => false) fun K hK => ?_
    | refine T.rd mixed (fun _ => false) [] (by kernel_rfl) fun K hK => ?_
    | refine T.rd1 mixed (fun _ => false) [] (by kernel_rfl) fun K hK => ?_
    | refine T.cond rfl (fun hcnd => ?_) (fun hcnd => absurd hcnd (by decide))
    | refine T.cond rfl (fun hcnd => absurd hcnd (by decide)) (fun hcnd => ?_)
    | refine T.seq ?_
    | refine T.block ?_
    | refine T.skip ?_
    | refine T.exit ?_

theorem typeScan1_ok (d : Int) (hd : 0 ≤ d ∧ d ≤ 1000) (t : MTy) (q : Bool) (h : ACalls Try.prog 93 [aTy t, .i (d + 1)] [] (.b q) [] []) :
    ACalls Try.prog 100 [aTy t, .c (.ptr 0 0)] (dV [[.i d]]) (.b (!q)) (dV [[.i d]]) [] := by
  refine ACalls.of_body Try.func100 (by kernel_rfl) rfl (by kernel_rfl) (by simp [Try.ntmps100]) (by simp) ?_
  rw [Try.ntmps100]
  repeat' first
    | (refine aops_end (hK _ ?_); clear hK K)
    | (refine aopsD_end (hK _ ?_); clear hK K)
    | (refine aops_go ?_; simp; (try simp (disch := omega) only [wrap64]))
    | (refine aopsD_go ?_; simp; (try simp (disch := omega) only [wrap64]))
    | (refine wpcall_pure rfl (h) ?_; simp; (try simp (disch := omega) only [wrap64]))
    | refine T.rs (fun _ => false) fun K hK => ?_
    | refine T.rs1 (fun _ => false) fun K hK => ?_
    | refine T.rd mixed (fun _ => false) [] (by kernel_rfl) fun K hK => ?_
    | refine T.rd1 mixed (fun _ => false) [] (by kernel_rfl) fun K hK => ?_
    | refine T.cond rfl (fun hcnd => ?_) (fun hcnd => absurd hcnd (by decide))
    | refine T.cond rfl (fun hcnd => absurd hcnd (by decide)) (fun hcnd => ?_)
    | refine T.seq ?_
    | refine T.block ?_
    | refine T.skip ?_
    | refine T.exit ?_
  refine T.ret (Done.obj1 (Or.inr rfl) ?_ ?_ ?_) <;> simp [Try.results100]

theorem typeScan_ok : ∀ (d : Nat) (t : MTy), d ≤ 4 → nTy t ≤ 1099511627776 → ACalls Try.prog 93 [aTy t, .i (5 - d)] [] (.b (shapeTy d t)) [] []
  | 0, t, _, _ => by
    refine ACalls.of_body Try.func93 (by kernel_rfl) rfl (by kernel_rfl) (by simp [Try.ntmps93]) (by simp) ?_
    rw [Try.ntmps93]
    repeat' first
      | (refine aops_end (hK _ ?_); clear hK K)
      | (refine aopsD_end (hK _ ?_); clear hK K)
      | (refine aops_go ?_; simp; (try (refine Ops.gen fun q hq => ?_; cases q <;> (try simp at hq) <;> (try (have hh : True := hq; clear hh hq)))))
      | (refine aopsD_go ?_; simp; (try (refine OpsD.gen fun q hq => ?_; cases q <;> (try simp at hq) <;> (try (have hh : True := hq; clear hh hq)))))
      | (refine T.ret (Done.data (Or.inr rfl) ?_ ?_) <;> simp [Try.results93, shapeTy] <;> omega)
      | refine T.rs (fun _ => false) fun K hK => ?_
      | refine T.rs1 (fun _ => false) fun K hK => ?_
      | refine T.rd mixed (fun _ => false) [] (by kernel_rfl) fun K hK => ?_
      | refine T.rd1 mixed (fun _ => false) [] (by kernel_rfl) fun K hK => ?_
      | refine T.cond rfl (fun hcnd => ?_) (fun hcnd => absurd hcnd (by decide))
      | refine T.cond rfl (fun hcnd => absurd hcnd (by decide)) (fun hcnd => ?_)
      | refine T.seq ?_
      | refine T.block ?_
      | refine T.skip ?_
      | refine T.exit ?_
  | d + 1, t, hd, hn => by
    rw [nTy_def] at hn
    have hlen := nTyS_len t.kids
    have hd1 : (5 : Int) - (d + 1) ≤ 4 := by omega
    have hc := containsFuncTy_1 100 (.i (5 - (d + 1))) t.kids (fun t => !shapeTy d t) (by omega) (fun u hu => typeScan1_ok (5 - (d + 1)) (by omega) u _ (by
      have := typeScan_ok d u (by omega) (by have := nTyS_mem hu; omega)
      rwa [show (5 : Int) - (d + 1) + 1 = 5 - d by omega]))
    have hall : (!t.kids.any fun t => !shapeTy d t) = t.kids.all (shapeTy d) := not_any_not _ _
    rw [show shapeTy (d + 1) t = (decide (tyKids t.kind = t.kids.length) && t.kids.all (shapeTy d)) from rfl, ← hall]
    generalize (t.kids.any fun t => !shapeTy d t) = R at hc ⊢
    refine ACalls.of_body Try.func93 (by kernel_rfl) rfl (by kernel_rfl) (by simp [Try.ntmps93]) (by simp) ?_
    rw [Try.ntmps93]
    repeat' first
      | (refine aops_end (hK _ ?_); clear hK K)
      | (refine aopsD_end (hK _ ?_); clear hK K)
      | (refine aops_go ?_; simp [hd1]; (try (refine Ops.gen fun q hq => ?_; cases q <;> (try simp [hd1] at hq) <;> (try (have hh : True := hq; clear hh hq)))))
      | (refine aopsD_go ?_; simp [hd1]; (try (refine OpsD.gen fun q hq => ?_; cases q <;> (try simp [hd1] at hq) <;> (try (have hh : True := hq; clear hh hq)))))
      | (refine wpcall_obj1 1 [.i (5 - (d + 1))] rfl (by simp) hc ?_; simp)
      | (refine T.ret (Done.data (Or.inr rfl) ?_ ?_) <;> simp [Try.results93, tyKids, *] <;> omega)
      | refine T.rs (fun _ => false) fun K hK => ?_
      | refine T.rs1 (fun _ => false) fun K hK => ?_
      | refine T.rd mixed (fun _ => false) [] (by kernel_rfl) fun K hK => ?_
      | refine T.rd1 mixed (fun _ => false) [] (by kernel_rfl) fun K hK => ?_
      | refine T.cond rfl (fun hcnd => ?_) (fun hcnd => absurd hcnd (by decide))
      | refine T.cond rfl (fun hcnd => absurd hcnd (by decide)) (fun hcnd => ?_)
      | refine T.seq ?_
      | refine T.block ?_
      | refine T.skip ?_
      | refine T.exit ?_
    
theorem TypeValid_ok (t : MTy) (hn : nTy t ≤ 1099511627776) : ACalls Try.prog 72 [aTy t] [] (.b (shapeTy 4 t)) [] [] := by
  refine ACalls.of_body Try.func72 (by kernel_rfl) rfl (by kernel_rfl) (by simp [Try.ntmps72]) (by simp) ?_
  rw [Try.ntmps72]
  repeat' first
    | (refine aops_end (hK _ ?_); clear hK K)
    | (refine aopsD_end (hK _ ?_); clear hK K)
    | (refine aops_go ?_; simp)
    | (refine aopsD_go ?_; simp)
    | (refine wpcall_pure rfl (typeScan_ok 4 t (by omega) hn) ?_; simp)
    | (refine T.ret (Done.data (Or.inr rfl) ?_ ?_) <;> simp [Try.results72] <;> omega)
    | refine T.rs (fun _ => false) fun K hK => ?_
    | refine T.rs1 (fun _ => false) fun K hK => ?_
    | refine T.rd mixed (fun _ => false) [] (by kernel_rfl) fun K hK => ?_
    | refine T.rd1 mixed (fun _ => false) [] (by kernel_rfl) fun K hK => ?_
    | refine T.cond rfl (fun hcnd => ?_) (fun hcnd => absurd hcnd (by decide))
    | refine T.cond rfl (fun hcnd => absurd hcnd (by decide)) (fun hcnd => ?_)
    | refine T.seq ?_
    | refine T.block ?_
    | refine T.skip ?_
    | refine T.exit ?_

theorem consistent_ok : (a b : MTy) → nTy a ≤ 1099511627776 → ACalls Try.prog 94 [aTy a, aTy b] [] (.b (consTy a b)) [] []
  | .mk k l, b, hn => by
    rw [nTy_def] at hn
    have hlen := nTyS_len l
    have hc := equalFuncTy_0 94 l b.kids consTy (by simp at hn; omega) (fun u hu v hv => consistent_ok u v (by have := nTyS_mem hu; simp at hn; omega))
    rw [consTy_def]
    simp only [MTy.kids_mk, MTy.kind_mk]
    generalize all2 consTy l b.kids = R at hc ⊢
    refine ACalls.of_body Try.func94 (by kernel_rfl) rfl (by kernel_rfl) (by simp [Try.ntmps94]) (by simp) ?_
    rw [Try.ntmps94]
    repeat' first
      | (refine aops_end (hK _ ?_); clear hK K)
      | (refine aopsD_end (hK _ ?_); clear hK K)
      | (refine aops_go ?_; simp; (try (refine Ops.gen fun q hq => ?_; cases q <;> (try simp at hq) <;> (try (have hh : True := hq; clear hh hq)))))
      | (refine aopsD_go ?_; simp; (try (refine OpsD.gen fun q hq => ?_; cases q <;> (try simp at hq) <;> (try (have hh : True := hq; clear hh hq)))))
      | (refine wpcall_pure rfl (hc) ?_; simp; (try first | (refine Ops.gen fun q hq => ?_; cases q <;> (try simp at hq) <;> (try (have hh : True := hq; clear hh hq))) | (refine OpsD.gen fun q hq => ?_; cases q <;> (try simp at hq) <;> (try (have hh : True := hq; clear hh hq)))))
      | (refine T.ret (Done.data (Or.inr rfl) ?_ ?_) <;> simp [Try.results94, *] <;> omega)
      | refine T.rs (fun _ => false) fun K hK => ?_
      | refine T.rs1 (fun _ => false) fun K hK => ?_
      | refine T.rd mixed (fun _ => false) [] (by kernel_rfl) fun K hK => ?_
      | refine T.rd1 mixed (fun _ => false) [] (by kernel_rfl) fun K hK => ?_
      | refine T.cond rfl (fun hcnd => ?_) (fun hcnd => absurd hcnd (by decide))
      | refine T.cond rfl (fun hcnd => absurd hcnd (by decide)) (fun hcnd => ?_)
      | refine T.seq ?_
      | refine T.block ?_
      | refine T.skip ?_
      | refine T.exit ?_
termination_by a => SizeOf.sizeOf a
decreasing_by have := List.sizeOf_lt_of_mem hu; simp; omega

theorem Consistent_ok (a b : MTy) (ha : nTy a ≤ 1099511627776) (hb : nTy b ≤ 1099511627776) : ACalls Try.prog 74 [aTy a, aTy b] [] (.b (shapeTy 4 a && shapeTy 4 b && consTy a b)) [] [] := by
  refine ACalls.of_body Try.func74 (by kernel_rfl) rfl (by kernel_rfl) (by simp [Try.ntmps74]) (by simp) ?_
  rw [Try.ntmps74]
  repeat' first
    | (refine aops_end (hK _ ?_); clear hK K)
    | (refine aopsD_end (hK _ ?_); clear hK K)
    | (refine aops_go ?_; simp; (try (refine Ops.gen fun q hq => ?_; cases q <;> (try simp at hq) <;> (try (have hh : True := hq; clear hh hq)))))
    | (refine aopsD_go ?_; simp; (try (refine OpsD.gen fun q hq => ?_; cases q <;> (try simp at hq) <;> (try (have hh : True := hq; clear hh hq)))))
    | (refine wpcall_pure rfl (TypeValid_ok a ha) ?_; simp; (try first | (refine Ops.gen fun q hq => ?_; cases q <;> (try simp at hq) <;> (try (have hh : True := hq; clear hh hq))) | (refine OpsD.gen fun q hq => ?_; cases q <;> (try simp at hq) <;> (try (have hh : True := hq; clear hh hq)))))
    | (refine wpcall_pure rfl (TypeValid_ok b hb) ?_; simp; (try first | (refine Ops.gen fun q hq => ?_; cases q <;> (try simp at hq) <;> (try (have hh : True := hq; clear hh hq))) | (refine OpsD.gen fun q hq => ?_; cases q <;> (try simp at hq) <;> (try (have hh : True := hq; clear hh hq)))))
    | (refine wpcall_pure rfl (consistent_ok a b ha) ?_; simp; (try first | (refine Ops.gen fun q hq => ?_; cases q <;> (try simp at hq) <;> (try (have hh : True := hq; clear hh hq))) | (refine OpsD.gen fun q hq => ?_; cases q <;> (try simp at hq) <;> (try (have hh : True := hq; clear hh hq)))))
    | (refine T.ret (Done.data (Or.inr rfl) ?_ ?_) <;> simp [Try.results74, *] <;> omega)
    | refine T.rs (fun _ => false) fun K hK => ?_
    | refine T.rs1 (fun _ => false) fun K hK => ?_
    | refine T.rd mixed (fun _ => false) [] (by kernel_rfl) fun K hK => ?_
    | refine T.rd1 mixed (fun _ => false) [] (by kernel_rfl) fun K hK => ?_
    | refine T.cond rfl (fun hcnd => ?_) (fun hcnd => absurd hcnd (by decide))
    | refine T.cond rfl (fun hcnd => absurd hcnd (by decide)) (fun hcnd => ?_)
    | refine T.seq ?_
    | refine T.block ?_
    | refine T.skip ?_
    | refine T.exit ?_

theorem l1Consistent_ok : ∀ (d : Nat) (a b : MTy), d ≤ 1000 → shapeTy d a = true → shapeTy d b = true → ACalls Try.prog 67 [aTy a, aTy b] [] (.b (consTy a b)) [] []
  | 0, a, b, _, ha, _ => by simp [shapeTy] at ha
  | d + 1, a, b, hd, ha, hb => by
    obtain ⟨e, he, hka, hla, hsa⟩ := shapeTy_kids ha
    obtain ⟨e', he', hkb, hlb, hsb⟩ := shapeTy_kids hb
    obtain rfl : d = e := by omega
    obtain rfl : d = e' := by omega
    rw [consTy_def]
    refine ACalls.of_body Try.func67 (by kernel_rfl) rfl (by kernel_rfl) (by simp [Try.ntmps67]) (by simp) ?_
    rw [Try.ntmps67]
    by_cases hk1 : a.kind = 1
    · repeat' first
        | (refine aops_end (hK _ ?_); clear hK K)
        | (refine aopsD_end (hK _ ?_); clear hK K)
        | (refine aops_go ?_; simp [hk1]; (try (refine Ops.gen fun q hq => ?_; cases q <;> (try simp [hk1] at hq) <;> (try (have hh : True := hq; clear hh hq)))))
        | (refine aopsD_go ?_; simp [hk1]; (try (refine OpsD.gen fun q hq => ?_; cases q <;> (try simp [hk1] at hq) <;> (try (have hh : True := hq; clear hh hq)))))
        | (refine T.ret (Done.data (Or.inr rfl) ?_ ?_) <;> simp [Try.results67, hk1] <;> omega)
        | refine T.rs (fun _ => false) fun K hK => ?_
        | refine T.rs1 (fun _ => false) fun K hK => ?_
        | refine T.rd mixed (fun _ => false) [] (by kernel_rfl) fun K hK => ?_
        | refine T.rd1 mixed (fun _ => false) [] (by kernel_rfl) fun K hK => ?_
        | refine T.cond rfl (fun hcnd => ?_) (fun hcnd => absurd hcnd (by decide))
        | refine T.cond rfl (fun hcnd => absurd hcnd (by decide)) (fun hcnd => ?_)
        | refine T.seq ?_
        | refine T.block ?_
        | refine T.skip ?_
        | refine T.exit ?_
    by_cases hk2 : b.kind = 1
    · repeat' first
        | (refine aops_end (hK _ ?_); clear hK K)
        | (refine aopsD_end (hK _ ?_); clear hK K)
        | (refine aops_go ?_; simp [hk1, hk2, beq_f hk1]; (try (refine Ops.gen fun q hq => ?_; cases q <;> (try simp [hk1, hk2, beq_f hk1] at hq) <;> (try (have hh : True := hq; clear hh hq)))))
        | (refine aopsD_go ?_; simp [hk1, hk2, beq_f hk1]; (try (refine OpsD.gen fun q hq => ?_; cases q <;> (try simp [hk1, hk2, beq_f hk1] at hq) <;> (try (have hh : True := hq; clear hh hq)))))
        | (refine T.ret (Done.data (Or.inr rfl) ?_ ?_) <;> simp [Try.results67, hk1, hk2] <;> omega)
        | refine T.rs (fun _ => false) fun K hK => ?_
        | refine T.rs1 (fun _ => false) fun K hK => ?_
        | refine T.rd mixed (fun _ => false) [] (by kernel_rfl) fun K hK => ?_
        | refine T.rd1 mixed (fun _ => false) [] (by kernel_rfl) fun K hK => ?_
        | refine T.cond rfl (fun hcnd => ?_) (fun hcnd => absurd hcnd (by decide))
        | refine T.cond rfl (fun hcnd => absurd hcnd (by decide)) (fun hcnd => ?_)
        | refine T.seq ?_
        | refine T.block ?_
        | refine T.skip ?_
        | refine T.exit ?_
    by_cases hk : a.kind = b.kind
    rotate_left
    · repeat' first
        | (refine aops_end (hK _ ?_); clear hK K)
        | (refine aopsD_end (hK _ ?_); clear hK K)
        | (refine aops_go ?_; simp [hk1, hk2, hk]; (try (refine Ops.gen fun q hq => ?_; cases q <;> (try simp [hk1, hk2, hk] at hq) <;> (try (have hh : True := hq; clear hh hq)))))
        | (refine aopsD_go ?_; simp [hk1, hk2, hk]; (try (refine OpsD.gen fun q hq => ?_; cases q <;> (try simp [hk1, hk2, hk] at hq) <;> (try (have hh : True := hq; clear hh hq)))))
        | (refine T.ret (Done.data (Or.inr rfl) ?_ ?_) <;> simp [Try.results67, hk1, hk2, hk] <;> omega)
        | refine T.rs (fun _ => false) fun K hK => ?_
        | refine T.rs1 (fun _ => false) fun K hK => ?_
        | refine T.rd mixed (fun _ => false) [] (by kernel_rfl) fun K hK => ?_
        | refine T.rd1 mixed (fun _ => false) [] (by kernel_rfl) fun K hK => ?_
        | refine T.cond rfl (fun hcnd => ?_) (fun hcnd => absurd hcnd (by decide))
        | refine T.cond rfl (fun hcnd => absurd hcnd (by decide)) (fun hcnd => ?_)
        | refine T.seq ?_
        | refine T.block ?_
        | refine T.skip ?_
        | refine T.exit ?_
    have hlm : a.kids.length = b.kids.length := by rw [hk] at hka; omega
    repeat' first
      | (refine aops_end (hK _ ?_); clear hK K)
      | (refine aopsD_end (hK _ ?_); clear hK K)
      | (refine aops_go ?_; simp [hk1, hk2, hk]; (try (refine Ops.gen fun q hq => ?_; cases q <;> (try simp [hk1, hk2, hk] at hq) <;> (try (have hh : True := hq; clear hh hq)))))
      | (refine aopsD_go ?_; simp [hk1, hk2, hk]; (try (refine OpsD.gen fun q hq => ?_; cases q <;> (try simp [hk1, hk2, hk] at hq) <;> (try (have hh : True := hq; clear hh hq)))))
      | refine T.rs (fun _ => false) fun K hK => ?_
      | refine T.rs1 (fun _ => false) fun K hK => ?_
      | refine T.rd mixed (fun _ => false) [] (by kernel_rfl) fun K hK => ?_
      | refine T.rd1 mixed (fun _ => false) [] (by kernel_rfl) fun K hK => ?_
      | refine T.cond rfl (fun hcnd => ?_) (fun hcnd => absurd hcnd (by decide))
      | refine T.cond rfl (fun hcnd => absurd hcnd (by decide)) (fun hcnd => ?_)
      | refine T.seq ?_
      | refine T.block ?_
      | refine T.skip ?_
      | refine T.exit ?_
    obtain ⟨R, hR⟩ : ∃ R, all2 consTy a.kids b.kids = R := ⟨_, rfl⟩
    rw [show (decide (a.kind = 1) || decide (b.kind = 1) || (decide (a.kind = b.kind) && all2 consTy a.kids b.kids)) = R by simp [hk1, hk2, hk, hR]]
    refine T.loopF (fun p : Nat => ⟨[(2, .c (.ptr 0 0)), (3, .c (.ptr 1 0)), (5, .i p)], [(aTy a).cells, (aTy b).cells], []⟩) (fun p => a.kids.length + 1 - p) (fun p => p ≤ a.kids.length ∧ all2 consTy (a.kids.drop p) (b.kids.drop p) = R) (fun p hp => ?_) 0 (by simpa using hR) (by simp [hk])
    obtain ⟨hi, he⟩ := hp
    by_cases hlt : p < a.kids.length
    · have hlt2 : p < b.kids.length := by omega
      obtain ⟨u, ht⟩ := get_lt hlt
      have htm : u ∈ a.kids := List.mem_of_getElem? ht
      have hgt : a.kids[p] = u := by rw [List.getElem?_eq_getElem hlt] at ht; exact Option.some.inj ht
      have hdr : a.kids.drop p = u :: a.kids.drop (p + 1) := by rw [List.drop_eq_getElem_cons hlt, hgt]
      obtain ⟨v, hv⟩ := get_lt hlt2
      have hvm : v ∈ b.kids := List.mem_of_getElem? hv
      have hgv : b.kids[p] = v := by rw [List.getElem?_eq_getElem hlt2] at hv; exact Option.some.inj hv
      have hu := l1Consistent_ok d u v (by omega) (hsa u htm) (hsb v hvm)
      rw [hdr, drop_cons hlt2, hgv, all2_cons] at he
      cases hb : consTy u v <;> rw [hb] at hu he
      · repeat' first
          | (refine aops_end (hK _ ?_); clear hK K)
          | (refine aopsD_end (hK _ ?_); clear hK K)
          | (refine aops_go ?_; simp [hlt, hlt2, hgt, hgv]; (try simp (disch := omega) only [wrap64]); (try (refine Ops.gen fun q hq => ?_; cases q <;> (try simp [hlt, hlt2, hgt, hgv] at hq) <;> (try (have hh : True := hq; clear hh hq)))))
          | (refine aopsD_go ?_; simp [hlt, hlt2, hgt, hgv]; (try simp (disch := omega) only [wrap64]); (try (refine OpsD.gen fun q hq => ?_; cases q <;> (try simp [hlt, hlt2, hgt, hgv] at hq) <;> (try (have hh : True := hq; clear hh hq)))))
          | (refine wpcall_pure rfl (hu) ?_; simp [hlt, hlt2, hgt, hgv]; (try simp (disch := omega) only [wrap64]); (try first | (refine Ops.gen fun q hq => ?_; cases q <;> (try simp [hlt, hlt2, hgt, hgv] at hq) <;> (try (have hh : True := hq; clear hh hq))) | (refine OpsD.gen fun q hq => ?_; cases q <;> (try simp [hlt, hlt2, hgt, hgv] at hq) <;> (try (have hh : True := hq; clear hh hq)))))
          | (refine T.ret (Done.data (Or.inr rfl) ?_ ?_) <;> simp [Try.results67, ← he] <;> omega)
          | refine T.rs (fun _ => false) fun K hK => ?_
          | refine T.rs1 (fun _ => false) fun K hK => ?_
          | refine T.rd mixed (fun _ => false) [] (by kernel_rfl) fun K hK => ?_
          | refine T.rd1 mixed (fun _ => false) [] (by kernel_rfl) fun K hK => ?_
          | refine T.cond rfl (fun hcnd => ?_) (fun hcnd => absurd hcnd (by decide))
          | refine T.cond rfl (fun hcnd => absurd hcnd (by decide)) (fun hcnd => ?_)
          | refine T.seq ?_
          | refine T.block ?_
          | refine T.skip ?_
          | refine T.exit ?_
      · repeat' first
          | (refine aops_end (hK _ ?_); clear hK K)
          | (refine aopsD_end (hK _ ?_); clear hK K)
          | (refine aops_go ?_; simp [hlt, hlt2, hgt, hgv]; (try simp (disch := omega) only [wrap64]); (try (refine Ops.gen fun q hq => ?_; cases q <;> (try simp [hlt, hlt2, hgt, hgv] at hq) <;> (try (have hh : True := hq; clear hh hq)))))
          | (refine aopsD_go ?_; simp [hlt, hlt2, hgt, hgv]; (try simp (disch := omega) only [wrap64]); (try (refine OpsD.gen fun q hq => ?_; cases q <;> (try simp [hlt, hlt2, hgt, hgv] at hq) <;> (try (have hh : True := hq; clear hh hq)))))
          | (refine wpcall_pure rfl (hu) ?_; simp [hlt, hlt2, hgt, hgv]; (try simp (disch := omega) only [wrap64]); (try first | (refine Ops.gen fun q hq => ?_; cases q <;> (try simp [hlt, hlt2, hgt, hgv] at hq) <;> (try (have hh : True := hq; clear hh hq))) | (refine OpsD.gen fun q hq => ?_; cases q <;> (try simp [hlt, hlt2, hgt, hgv] at hq) <;> (try (have hh : True := hq; clear hh hq)))))
          | (refine ⟨p + 1, by dsimp only; omega, ⟨by omega, by simpa using he⟩, rfl, rfl, ?_⟩; simp (disch := omega) [wrap64])
          | refine T.rs (fun _ => false) fun K hK => ?_
          | refine T.rs1 (fun _ => false) fun K hK => ?_
          | refine T.rd mixed (fun _ => false) [] (by kernel_rfl) fun K hK => ?_
          | refine T.rd1 mixed (fun _ => false) [] (by kernel_rfl) fun K hK => ?_
          | refine T.cond rfl (fun hcnd => ?_) (fun hcnd => absurd hcnd (by decide))
          | refine T.cond rfl (fun hcnd => absurd hcnd (by decide)) (fun hcnd => ?_)
          | refine T.seq ?_
          | refine T.block ?_
          | refine T.skip ?_
          | refine T.exit ?_
    · have hp' : p = a.kids.length := by omega
      subst hp'
      rw [List.drop_length, hlm, List.drop_length, all2_nil] at he
      repeat' first
        | (refine aops_end (hK _ ?_); clear hK K)
        | (refine aopsD_end (hK _ ?_); clear hK K)
        | (refine aops_go ?_; simp [hlt, hlm]; (try (refine Ops.gen fun q hq => ?_; cases q <;> (try simp [hlt, hlm] at hq) <;> (try (have hh : True := hq; clear hh hq)))))
        | (refine aopsD_go ?_; simp [hlt, hlm]; (try (refine OpsD.gen fun q hq => ?_; cases q <;> (try simp [hlt, hlm] at hq) <;> (try (have hh : True := hq; clear hh hq)))))
        | (refine T.ret (Done.data (Or.inr rfl) ?_ ?_) <;> simp [Try.results67, ← he] <;> omega)
        | refine T.rs (fun _ => false) fun K hK => ?_
        | refine T.rs1 (fun _ => false) fun K hK => ?_
        | refine T.rd mixed (fun _ => false) [] (by kernel_rfl) fun K hK => ?_
        | refine T.rd1 mixed (fun _ => false) [] (by kernel_rfl) fun K hK => ?_
        | refine T.cond rfl (fun hcnd => ?_) (fun hcnd => absurd hcnd (by decide))
        | refine T.cond rfl (fun hcnd => absurd hcnd (by decide)) (fun hcnd => ?_)
        | refine T.seq ?_
        | refine T.block ?_
        | refine T.skip ?_
        | refine T.exit ?_
end Go.Proofs.Ytdbffbmbbfbamaa
