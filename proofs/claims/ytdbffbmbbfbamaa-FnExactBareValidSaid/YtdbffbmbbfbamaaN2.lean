/- slices.IndexFunc, slices.ContainsFunc, slices.EqualFunc over types and terms. -/
import Derived.Test.YtdbffbmbbfbamaaL1
import Derived.Test.YtdbffbmbbfbamaaN1
namespace Go.Proofs.Ytdbffbmbbfbamaa
open Go Go.Av
attribute [local irreducible] T ACalls eTy eTm MTy.kind MTy.kids MTm.kind MTm.name MTm.num MTm.ty MTm.fr MTm.label MTm.kids
attribute [local simp] eTy_def eTm_def
set_option linter.unusedSimpArgs false
set_option linter.unusedVariables false
set_option maxHeartbeats 4000000

theorem indexFuncTy_0 (f : FuncId) (l : List MTy) (q : MTy → Bool) (hl : l.length ≤ 4611686018427387904) (hf : ∀ t ∈ l, ACalls Try.prog f [aTy t] [] (.b (q t)) [] []) :
    ACalls Try.prog 104 [.l (l.map eTy), .c (.fn f [])] [] (.i (firstIx q l 0)) [] [] := by
  refine ACalls.of_body Try.func104 (by kernel_rfl) rfl (by kernel_rfl) (by simp [Try.ntmps104]) (by simp) ?_
  rw [Try.ntmps104]
  repeat' first
    | (refine aops_end (hK _ ?_); clear hK K)
    | (refine aopsD_end (hK _ ?_); clear hK K)
    | (refine aops_go ?_; simp; (try (refine Ops.gen fun q hq => ?_; cases q <;> (try simp at hq) <;> (try (have hh : True := hq; clear hh hq)))))
    | (refine aopsD_go ?_; simp; (try (refine OpsD.gen fun q hq => ?_; cases q <;> (try simp at hq) <;> (try (have hh : True := hq; clear hh hq)))))
    | refine T.rs (fun _ => false) fun K hK => ?_
    | refine T.rs1 (fun _ => false) fun K hK => ?_
    | refine T.rd mixed (fun _ => false) [] (by kernel_rfl) fun K hK => ?_
    | refine T.rd1 mixed (fun _ => false) [] (by kernel_rfl) fun K hK => ?_
    | refine T.cond rfl (fun hcnd => ?_) (fun hcnd => absurd hcnd (by decide))
    | refine T.cond rfl (fun hcnd => absurd hcnd (by decide)) (fun hcnd => ?_)
    | refine T.seq ?_
    | refine T.block ?_
    | refine T.skip ?_
    | refine T.exit ?_
  obtain ⟨R, hR⟩ : ∃ R, firstIx q l 0 = R := ⟨_, rfl⟩
  rw [hR]
  refine T.loopF (fun p : Nat => ⟨[(0, .l (l.map eTy)), (1, .c (.fn f [])), (7, .i l.length), (8, .i p)], [], []⟩) (fun p => l.length + 1 - p) (fun p => p ≤ l.length ∧ firstIx q (l.drop p) p = R) (fun p hp => ?_) 0 (by simpa using hR) (by simp)
  obtain ⟨hi, he⟩ := hp
  by_cases hlt : p < l.length
  · obtain ⟨u, ht⟩ := get_lt hlt
    have htm : u ∈ l := List.mem_of_getElem? ht
    have hgt : l[p] = u := by rw [List.getElem?_eq_getElem hlt] at ht; exact Option.some.inj ht
    have hdr : l.drop p = u :: l.drop (p + 1) := by rw [List.drop_eq_getElem_cons hlt, hgt]
    have hu := hf u htm
    rw [hdr, firstIx] at he
    cases hb : q u <;> rw [hb] at hu he
    · repeat' first
        | (refine aops_end (hK _ ?_); clear hK K)
        | (refine aopsD_end (hK _ ?_); clear hK K)
        | (refine aops_go ?_; simp [hlt, hgt]; (try simp (disch := omega) only [wrap64]); (try (refine Ops.gen fun q hq => ?_; cases q <;> (try simp [hlt, hgt] at hq) <;> (try (have hh : True := hq; clear hh hq)))))
        | (refine aopsD_go ?_; simp [hlt, hgt]; (try simp (disch := omega) only [wrap64]); (try (refine OpsD.gen fun q hq => ?_; cases q <;> (try simp [hlt, hgt] at hq) <;> (try (have hh : True := hq; clear hh hq)))))
        | (refine wpcall_pure rfl (hu) ?_; simp [hlt, hgt]; (try simp (disch := omega) only [wrap64]); (try first | (refine Ops.gen fun q hq => ?_; cases q <;> (try simp [hlt, hgt] at hq) <;> (try (have hh : True := hq; clear hh hq))) | (refine OpsD.gen fun q hq => ?_; cases q <;> (try simp [hlt, hgt] at hq) <;> (try (have hh : True := hq; clear hh hq)))))
        | (refine ⟨p + 1, by dsimp only; omega, ⟨by omega, by simpa using he⟩, ?_⟩; simp (disch := omega) [wrap64])
        | refine T.rs (fun _ => false) fun K hK => ?_
        | refine T.rs1 (fun _ => false) fun K hK => ?_
        | refine T.rd mixed (fun _ => false) [] (by kernel_rfl) fun K hK => ?_
        | refine T.rd1 mixed (fun _ => false) [] (by kernel_rfl) fun K hK => ?_
        | refine T.cond rfl (fun hcnd => ?_) (fun hcnd => absurd hcnd (by decide))
        | refine T.cond rfl (fun hcnd => absurd hcnd (by decide)) (fun hcnd => ?_)
        | refine T.seq ?_
        | refine T.block ?_
        | refine T.skip ?_
        | refine T.exit ?_
    · repeat' first
        | (refine aops_end (hK _ ?_); clear hK K)
        | (refine aopsD_end (hK _ ?_); clear hK K)
        | (refine aops_go ?_; simp [hlt, hgt]; (try simp (disch := omega) only [wrap64]); (try (refine Ops.gen fun q hq => ?_; cases q <;> (try simp [hlt, hgt] at hq) <;> (try (have hh : True := hq; clear hh hq)))))
        | (refine aopsD_go ?_; simp [hlt, hgt]; (try simp (disch := omega) only [wrap64]); (try (refine OpsD.gen fun q hq => ?_; cases q <;> (try simp [hlt, hgt] at hq) <;> (try (have hh : True := hq; clear hh hq)))))
        | (refine wpcall_pure rfl (hu) ?_; simp [hlt, hgt]; (try simp (disch := omega) only [wrap64]); (try first | (refine Ops.gen fun q hq => ?_; cases q <;> (try simp [hlt, hgt] at hq) <;> (try (have hh : True := hq; clear hh hq))) | (refine OpsD.gen fun q hq => ?_; cases q <;> (try simp [hlt, hgt] at hq) <;> (try (have hh : True := hq; clear hh hq)))))
        | (refine T.ret (Done.data (Or.inr rfl) ?_ ?_) <;> simp [Try.results104, ← he] <;> omega)
        | refine T.rs (fun _ => false) fun K hK => ?_
        | refine T.rs1 (fun _ => false) fun K hK => ?_
        | refine T.rd mixed (fun _ => false) [] (by kernel_rfl) fun K hK => ?_
        | refine T.rd1 mixed (fun _ => false) [] (by kernel_rfl) fun K hK => ?_
        | refine T.cond rfl (fun hcnd => ?_) (fun hcnd => absurd hcnd (by decide))
        | refine T.cond rfl (fun hcnd => absurd hcnd (by decide)) (fun hcnd => ?_)
        | refine T.seq ?_
        | refine T.block ?_
        | refine T.skip ?_
        | refine T.exit ?_
  · have hp' : p = l.length := by omega
    subst hp'
    simp [firstIx] at he
    repeat' first
      | (refine aops_end (hK _ ?_); clear hK K)
      | (refine aopsD_end (hK _ ?_); clear hK K)
      | (refine aops_go ?_; simp [hlt]; (try (refine Ops.gen fun q hq => ?_; cases q <;> (try simp [hlt] at hq) <;> (try (have hh : True := hq; clear hh hq)))))
      | (refine aopsD_go ?_; simp [hlt]; (try (refine OpsD.gen fun q hq => ?_; cases q <;> (try simp [hlt] at hq) <;> (try (have hh : True := hq; clear hh hq)))))
      | (refine T.ret (Done.data (Or.inr rfl) ?_ ?_) <;> simp [Try.results104, he] <;> omega)
      | refine T.rs (fun _ => false) fun K hK => ?_
      | refine T.rs1 (fun _ => false) fun K hK => ?_
      | refine T.rd mixed (fun _ => false) [] (by kernel_rfl) fun K hK => ?_
      | refine T.rd1 mixed (fun _ => false) [] (by kernel_rfl) fun K hK => ?_
      | refine T.cond rfl (fun hcnd => ?_) (fun hcnd => absurd hcnd (by decide))
      | refine T.cond rfl (fun hcnd => absurd hcnd (by decide)) (fun hcnd => ?_)
      | refine T.seq ?_
      | refine T.block ?_
      | refine T.skip ?_
      | refine T.exit ?_

theorem containsFuncTy_0 (f : FuncId) (l : List MTy) (q : MTy → Bool) (hl : l.length ≤ 4611686018427387904) (hf : ∀ t ∈ l, ACalls Try.prog f [aTy t] [] (.b (q t)) [] []) :
    ACalls Try.prog 99 [.l (l.map eTy), .c (.fn f [])] [] (.b (l.any q)) [] [] := by
  refine ACalls.of_body Try.func99 (by kernel_rfl) rfl (by kernel_rfl) (by simp [Try.ntmps99]) (by simp) ?_
  rw [Try.ntmps99]
  rw [← firstIx_any (i := 0) (by omega)]
  repeat' first
    | (refine aops_end (hK _ ?_); clear hK K)
    | (refine aopsD_end (hK _ ?_); clear hK K)
    | (refine aops_go ?_; simp; (try (refine Ops.gen fun q hq => ?_; cases q <;> (try simp at hq) <;> (try (have hh : True := hq; clear hh hq)))))
    | (refine aopsD_go ?_; simp; (try (refine OpsD.gen fun q hq => ?_; cases q <;> (try simp at hq) <;> (try (have hh : True := hq; clear hh hq)))))
    | (refine wpcall_pure rfl (indexFuncTy_0 f l q hl hf) ?_; simp; (try first | (refine Ops.gen fun q hq => ?_; cases q <;> (try simp at hq) <;> (try (have hh : True := hq; clear hh hq))) | (refine OpsD.gen fun q hq => ?_; cases q <;> (try simp at hq) <;> (try (have hh : True := hq; clear hh hq)))))
    | (refine T.ret (Done.data (Or.inr rfl) ?_ ?_) <;> simp [Try.results99, *] <;> omega)
    | refine T.rs (fun _ => false) fun K hK => ?_
    | refine T.rs1 (fun _ => false) fun K hK => ?_
    | refine T.rd mixed (fun _ => false) [] (by kernel_rfl) fun K hK => ?_
    | refine T.rd1 mixed (fun _ => false) [] (by kernel_rfl) fun K hK => ?_
    | refine T.cond rfl (fun hcnd => ?_) (fun hcnd => absurd hcnd (by decide))
    | refine T.cond rfl (fun hcnd => absurd hcnd (by decide)) (fun hcnd => ?_)
    | refine T.seq ?_
    | refine T.block ?_
    | refine T.skip ?_
    | refine T.exit ?_

theorem indexFuncTy_1 (f : FuncId) (d : DV) (l : List MTy) (q : MTy → Bool) (hl : l.length ≤ 4611686018427387904) (hf : ∀ t ∈ l, ACalls Try.prog f [aTy t, .c (.ptr 0 0)] (dV [[d]]) (.b (q t)) (dV [[d]]) []) :
    ACalls Try.prog 104 [.l (l.map eTy), .c (.fn f [0])] (dV [[d]]) (.i (firstIx q l 0)) (dV [[d]]) [] := by
  refine ACalls.of_body Try.func104 (by kernel_rfl) rfl (by kernel_rfl) (by simp [Try.ntmps104]) (by simp) ?_
  rw [Try.ntmps104]
  repeat' first
    | (refine aops_end (hK _ ?_); clear hK K)
    | (refine aopsD_end (hK _ ?_); clear hK K)
    | (refine aops_go ?_; simp; (try (refine Ops.gen fun q hq => ?_; cases q <;> (try simp at hq) <;> (try (have hh : True := hq; clear hh hq)))))
    | (refine aopsD_go ?_; simp; (try (refine OpsD.gen fun q hq => ?_; cases q <;> (try simp at hq) <;> (try (have hh : True := hq; clear hh hq)))))
    | refine T.rs (fun _ => false) fun K hK => ?_
    | refine T.rs1 (fun _ => false) fun K hK => ?_
    | refine T.rd mixed (fun _ => false) [] (by kernel_rfl) fun K hK => ?_
    | refine T.rd1 mixed (fun _ => false) [] (by kernel_rfl) fun K hK => ?_
    | refine T.cond rfl (fun hcnd => ?_) (fun hcnd => absurd hcnd (by decide))
    | refine T.cond rfl (fun hcnd => absurd hcnd (by decide)) (fun hcnd => ?_)
    | refine T.seq ?_
    | refine T.block ?_
    | refine T.skip ?_
    | refine T.exit ?_
  obtain ⟨R, hR⟩ : ∃ R, firstIx q l 0 = R := ⟨_, rfl⟩
  rw [hR]
  refine T.loopF (fun p : Nat => ⟨[(0, .l (l.map eTy)), (1, .c (.fn f [0])), (7, .i l.length), (8, .i p)], [[.d d]], []⟩) (fun p => l.length + 1 - p) (fun p => p ≤ l.length ∧ firstIx q (l.drop p) p = R) (fun p hp => ?_) 0 (by simpa using hR) (by simp)
  obtain ⟨hi, he⟩ := hp
  by_cases hlt : p < l.length
  · obtain ⟨u, ht⟩ := get_lt hlt
    have htm : u ∈ l := List.mem_of_getElem? ht
    have hgt : l[p] = u := by rw [List.getElem?_eq_getElem hlt] at ht; exact Option.some.inj ht
    have hdr : l.drop p = u :: l.drop (p + 1) := by rw [List.drop_eq_getElem_cons hlt, hgt]
    have hu := hf u htm
    rw [hdr, firstIx] at he
    cases hb : q u <;> rw [hb] at hu he
    · repeat' first
        | (refine aops_end (hK _ ?_); clear hK K)
        | (refine aopsD_end (hK _ ?_); clear hK K)
        | (refine aops_go ?_; simp [hlt, hgt]; (try simp (disch := omega) only [wrap64]); (try (refine Ops.gen fun q hq => ?_; cases q <;> (try simp [hlt, hgt] at hq) <;> (try (have hh : True := hq; clear hh hq)))))
        | (refine aopsD_go ?_; simp [hlt, hgt]; (try simp (disch := omega) only [wrap64]); (try (refine OpsD.gen fun q hq => ?_; cases q <;> (try simp [hlt, hgt] at hq) <;> (try (have hh : True := hq; clear hh hq)))))
        | (refine wpcall_obj1 0 [d] rfl rfl hu ?_; simp)
        | (refine ⟨p + 1, by dsimp only; omega, ⟨by omega, by simpa using he⟩, ?_⟩; simp (disch := omega) [wrap64])
        | refine T.rs (fun _ => false) fun K hK => ?_
        | refine T.rs1 (fun _ => false) fun K hK => ?_
        | refine T.rd mixed (fun _ => false) [] (by kernel_rfl) fun K hK => ?_
        | refine T.rd1 mixed (fun _ => false) [] (by kernel_rfl) fun K hK => ?_
        | refine T.cond rfl (fun hcnd => ?_) (fun hcnd => absurd hcnd (by decide))
        | refine T.cond rfl (fun hcnd => absurd hcnd (by decide)) (fun hcnd => ?_)
        | refine T.seq ?_
        | refine T.block ?_
        | refine T.skip ?_
        | refine T.exit ?_
    · repeat' first
        | (refine aops_end (hK _ ?_); clear hK K)
        | (refine aopsD_end (hK _ ?_); clear hK K)
        | (refine aops_go ?_; simp [hlt, hgt]; (try simp (disch := omega) only [wrap64]); (try (refine Ops.gen fun q hq => ?_; cases q <;> (try simp [hlt, hgt] at hq) <;> (try (have hh : True := hq; clear hh hq)))))
        | (refine aopsD_go ?_; simp [hlt, hgt]; (try simp (disch := omega) only [wrap64]); (try (refine OpsD.gen fun q hq => ?_; cases q <;> (try simp [hlt, hgt] at hq) <;> (try (have hh : True := hq; clear hh hq)))))
        | (refine wpcall_obj1 0 [d] rfl rfl hu ?_; simp)
        | refine T.rs (fun _ => false) fun K hK => ?_
        | refine T.rs1 (fun _ => false) fun K hK => ?_
        | refine T.rd mixed (fun _ => false) [] (by kernel_rfl) fun K hK => ?_
        | refine T.rd1 mixed (fun _ => false) [] (by kernel_rfl) fun K hK => ?_
        | refine T.cond rfl (fun hcnd => ?_) (fun hcnd => absurd hcnd (by decide))
        | refine T.cond rfl (fun hcnd => absurd hcnd (by decide)) (fun hcnd => ?_)
        | refine T.seq ?_
        | refine T.block ?_
        | refine T.skip ?_
        | refine T.exit ?_
      refine T.ret (Done.obj1 (Or.inr rfl) ?_ ?_ ?_) <;> simp [Try.results104, ← he]
  · have hp' : p = l.length := by omega
    subst hp'
    simp [firstIx] at he
    repeat' first
      | (refine aops_end (hK _ ?_); clear hK K)
      | (refine aopsD_end (hK _ ?_); clear hK K)
      | (refine aops_go ?_; simp [hlt]; (try (refine Ops.gen fun q hq => ?_; cases q <;> (try simp [hlt] at hq) <;> (try (have hh : True := hq; clear hh hq)))))
      | (refine aopsD_go ?_; simp [hlt]; (try (refine OpsD.gen fun q hq => ?_; cases q <;> (try simp [hlt] at hq) <;> (try (have hh : True := hq; clear hh hq)))))
      | refine T.rs (fun _ => false) fun K hK => ?_
      | refine T.rs1 (fun _ => false) fun K hK => ?_
      | refine T.rd mixed (fun _ => false) [] (by kernel_rfl) fun K hK => ?_
      | refine T.rd1 mixed (fun _ => false) [] (by kernel_rfl) fun K hK => ?_
      | refine T.cond rfl (fun hcnd => ?_) (fun hcnd => absurd hcnd (by decide))
      | refine T.cond rfl (fun hcnd => absurd hcnd (by decide)) (fun hcnd => ?_)
      | refine T.seq ?_
      | refine T.block ?_
      | refine T.skip ?_
      | refine T.exit ?_
    refine T.ret (Done.obj1 (Or.inr rfl) ?_ ?_ ?_) <;> simp [Try.results104, he]

theorem containsFuncTy_1 (f : FuncId) (d : DV) (l : List MTy) (q : MTy → Bool) (hl : l.length ≤ 4611686018427387904) (hf : ∀ t ∈ l, ACalls Try.prog f [aTy t, .c (.ptr 0 0)] (dV [[d]]) (.b (q t)) (dV [[d]]) []) :
    ACalls Try.prog 99 [.l (l.map eTy), .c (.fn f [0])] (dV [[d]]) (.b (l.any q)) (dV [[d]]) [] := by
  refine ACalls.of_body Try.func99 (by kernel_rfl) rfl (by kernel_rfl) (by simp [Try.ntmps99]) (by simp) ?_
  rw [Try.ntmps99]
  rw [← firstIx_any (i := 0) (by omega)]
  repeat' first
    | (refine aops_end (hK _ ?_); clear hK K)
    | (refine aopsD_end (hK _ ?_); clear hK K)
    | (refine aops_go ?_; simp; (try (refine Ops.gen fun q hq => ?_; cases q <;> (try simp at hq) <;> (try (have hh : True := hq; clear hh hq)))))
    | (refine aopsD_go ?_; simp; (try (refine OpsD.gen fun q hq => ?_; cases q <;> (try simp at hq) <;> (try (have hh : True := hq; clear hh hq)))))
    | (refine wpcall_obj1 0 [d] rfl rfl (indexFuncTy_1 f d l q hl hf) ?_; simp)
    | refine T.rs (fun _ => false) fun K hK => ?_
    | refine T.rs1 (fun _ => false) fun K hK => ?_
    | refine T.rd mixed (fun _ => false) [] (by kernel_rfl) fun K hK => ?_
    | refine T.rd1 mixed (fun _ => false) [] (by kernel_rfl) fun K hK => ?_
    | refine T.cond rfl (fun hcnd => ?_) (fun hcnd => absurd hcnd (by decide))
    | refine T.cond rfl (fun hcnd => absurd hcnd (by decide)) (fun hcnd => ?_)
    | refine T.seq ?_
    | refine T.block ?_
    | refine T.skip ?_
    | refine T.exit ?_
  all_goals (refine T.ret (Done.obj1 (Or.inr rfl) ?_ ?_ ?_) <;> simp [Try.results99, *])

theorem indexFuncTm_0 (f : FuncId) (l : List MTm) (q : MTm → Bool) (hl : l.length ≤ 4611686018427387904) (hf : ∀ t ∈ l, ACalls Try.prog f [aTm t] [] (.b (q t)) [] []) :
    ACalls Try.prog 55 [.l (l.map eTm), .c (.fn f [])] [] (.i (firstIx q l 0)) [] [] := by
  refine ACalls.of_body Try.func55 (by kernel_rfl) rfl (by kernel_rfl) (by simp [Try.ntmps55]) (by simp) ?_
  rw [Try.ntmps55]
  repeat' first
    | (refine aops_end (hK _ ?_); clear hK K)
    | (refine aopsD_end (hK _ ?_); clear hK K)
    | (refine aops_go ?_; simp; (try (refine Ops.gen fun q hq => ?_; cases q <;> (try simp at hq) <;> (try (have hh : True := hq; clear hh hq)))))
    | (refine aopsD_go ?_; simp; (try (refine OpsD.gen fun q hq => ?_; cases q <;> (try simp at hq) <;> (try (have hh : True := hq; clear hh hq)))))
    | refine T.rs (fun _ => false) fun K hK => ?_
    | refine T.rs1 (fun _ => false) fun K hK => ?_
    | refine T.rd mixed (fun _ => false) [] (by kernel_rfl) fun K hK => ?_
    | refine T.rd1 mixed (fun _ => false) [] (by kernel_rfl) fun K hK => ?_
    | refine T.cond rfl (fun hcnd => ?_) (fun hcnd => absurd hcnd (by decide))
    | refine T.cond rfl (fun hcnd => absurd hcnd (by decide)) (fun hcnd => ?_)
    | refine T.seq ?_
    | refine T.block ?_
    | refine T.skip ?_
    | refine T.exit ?_
  obtain ⟨R, hR⟩ : ∃ R, firstIx q l 0 = R := ⟨_, rfl⟩
  rw [hR]
  refine T.loopF (fun p : Nat => ⟨[(0, .l (l.map eTm)), (1, .c (.fn f [])), (7, .i l.length), (8, .i p)], [], []⟩) (fun p => l.length + 1 - p) (fun p => p ≤ l.length ∧ firstIx q (l.drop p) p = R) (fun p hp => ?_) 0 (by simpa using hR) (by simp)
  obtain ⟨hi, he⟩ := hp
  by_cases hlt : p < l.length
  · obtain ⟨u, ht⟩ := get_lt hlt
    have htm : u ∈ l := List.mem_of_getElem? ht
    have hgt : l[p] = u := by rw [List.getElem?_eq_getElem hlt] at ht; exact Option.some.inj ht
    have hdr : l.drop p = u :: l.drop (p + 1) := by rw [List.drop_eq_getElem_cons hlt, hgt]
    have hu := hf u htm
    rw [hdr, firstIx] at he
    cases hb : q u <;> rw [hb] at hu he
    · repeat' first
        | (refine aops_end (hK _ ?_); clear hK K)
        | (refine aopsD_end (hK _ ?_); clear hK K)
        | (refine aops_go ?_; simp [hlt, hgt]; (try simp (disch := omega) only [wrap64]); (try (refine Ops.gen fun q hq => ?_; cases q <;> (try simp [hlt, hgt] at hq) <;> (try (have hh : True := hq; clear hh hq)))))
        | (refine aopsD_go ?_; simp [hlt, hgt]; (try simp (disch := omega) only [wrap64]); (try (refine OpsD.gen fun q hq => ?_; cases q <;> (try simp [hlt, hgt] at hq) <;> (try (have hh : True := hq; clear hh hq)))))
        | (refine wpcall_pure rfl (hu) ?_; simp [hlt, hgt]; (try simp (disch := omega) only [wrap64]); (try first | (refine Ops.gen fun q hq => ?_; cases q <;> (try simp [hlt, hgt] at hq) <;> (try (have hh : True := hq; clear hh hq))) | (refine OpsD.gen fun q hq => ?_; cases q <;> (try simp [hlt, hgt] at hq) <;> (try (have hh : True := hq; clear hh hq)))))
        | (refine ⟨p + 1, by dsimp only; omega, ⟨by omega, by simpa using he⟩, ?_⟩; simp (disch := omega) [wrap64])
        | refine T.rs (fun _ => false) fun K hK => ?_
        | refine T.rs1 (fun _ => false) fun K hK => ?_
        | refine T.rd mixed (fun _ => false) [] (by kernel_rfl) fun K hK => ?_
        | refine T.rd1 mixed (fun _ => false) [] (by kernel_rfl) fun K hK => ?_
        | refine T.cond rfl (fun hcnd => ?_) (fun hcnd => absurd hcnd (by decide))
        | refine T.cond rfl (fun hcnd => absurd hcnd (by decide)) (fun hcnd => ?_)
        | refine T.seq ?_
        | refine T.block ?_
        | refine T.skip ?_
        | refine T.exit ?_
    · repeat' first
        | (refine aops_end (hK _ ?_); clear hK K)
        | (refine aopsD_end (hK _ ?_); clear hK K)
        | (refine aops_go ?_; simp [hlt, hgt]; (try simp (disch := omega) only [wrap64]); (try (refine Ops.gen fun q hq => ?_; cases q <;> (try simp [hlt, hgt] at hq) <;> (try (have hh : True := hq; clear hh hq)))))
        | (refine aopsD_go ?_; simp [hlt, hgt]; (try simp (disch := omega) only [wrap64]); (try (refine OpsD.gen fun q hq => ?_; cases q <;> (try simp [hlt, hgt] at hq) <;> (try (have hh : True := hq; clear hh hq)))))
        | (refine wpcall_pure rfl (hu) ?_; simp [hlt, hgt]; (try simp (disch := omega) only [wrap64]); (try first | (refine Ops.gen fun q hq => ?_; cases q <;> (try simp [hlt, hgt] at hq) <;> (try (have hh : True := hq; clear hh hq))) | (refine OpsD.gen fun q hq => ?_; cases q <;> (try simp [hlt, hgt] at hq) <;> (try (have hh : True := hq; clear hh hq)))))
        | (refine T.ret (Done.data (Or.inr rfl) ?_ ?_) <;> simp [Try.results55, ← he] <;> omega)
        | refine T.rs (fun _ => false) fun K hK => ?_
        | refine T.rs1 (fun _ => false) fun K hK => ?_
        | refine T.rd mixed (fun _ => false) [] (by kernel_rfl) fun K hK => ?_
        | refine T.rd1 mixed (fun _ => false) [] (by kernel_rfl) fun K hK => ?_
        | refine T.cond rfl (fun hcnd => ?_) (fun hcnd => absurd hcnd (by decide))
        | refine T.cond rfl (fun hcnd => absurd hcnd (by decide)) (fun hcnd => ?_)
        | refine T.seq ?_
        | refine T.block ?_
        | refine T.skip ?_
        | refine T.exit ?_
  · have hp' : p = l.length := by omega
    subst hp'
    simp [firstIx] at he
    repeat' first
      | (refine aops_end (hK _ ?_); clear hK K)
      | (refine aopsD_end (hK _ ?_); clear hK K)
      | (refine aops_go ?_; simp [hlt]; (try (refine Ops.gen fun q hq => ?_; cases q <;> (try simp [hlt] at hq) <;> (try (have hh : True := hq; clear hh hq)))))
      | (refine aopsD_go ?_; simp [hlt]; (try (refine OpsD.gen fun q hq => ?_; cases q <;> (try simp [hlt] at hq) <;> (try (have hh : True := hq; clear hh hq)))))
      | (refine T.ret (Done.data (Or.inr rfl) ?_ ?_) <;> simp [Try.results55, he] <;> omega)
      | refine T.rs (fun _ => false) fun K hK => ?_
      | refine T.rs1 (fun _ => false) fun K hK => ?_
      | refine T.rd mixed (fun _ => false) [] (by kernel_rfl) fun K hK => ?_
      | refine T.rd1 mixed (fun _ => false) [] (by kernel_rfl) fun K hK => ?_
      | refine T.cond rfl (fun hcnd => ?_) (fun hcnd => absurd hcnd (by decide))
      | refine T.cond rfl (fun hcnd => absurd hcnd (by decide)) (fun hcnd => ?_)
      | refine T.seq ?_
      | refine T.block ?_
      | refine T.skip ?_
      | refine T.exit ?_

theorem containsFuncTm_0 (f : FuncId) (l : List MTm) (q : MTm → Bool) (hl : l.length ≤ 4611686018427387904) (hf : ∀ t ∈ l, ACalls Try.prog f [aTm t] [] (.b (q t)) [] []) :
    ACalls Try.prog 44 [.l (l.map eTm), .c (.fn f [])] [] (.b (l.any q)) [] [] := by
  refine ACalls.of_body Try.func44 (by kernel_rfl) rfl (by kernel_rfl) (by simp [Try.ntmps44]) (by simp) ?_
  rw [Try.ntmps44]
  rw [← firstIx_any (i := 0) (by omega)]
  repeat' first
    | (refine aops_end (hK _ ?_); clear hK K)
    | (refine aopsD_end (hK _ ?_); clear hK K)
    | (refine aops_go ?_; simp; (try (refine Ops.gen fun q hq => ?_; cases q <;> (try simp at hq) <;> (try (have hh : True := hq; clear hh hq)))))
    | (refine aopsD_go ?_; simp; (try (refine OpsD.gen fun q hq => ?_; cases q <;> (try simp at hq) <;> (try (have hh : True := hq; clear hh hq)))))
    | (refine wpcall_pure rfl (indexFuncTm_0 f l q hl hf) ?_; simp; (try first | (refine Ops.gen fun q hq => ?_; cases q <;> (try simp at hq) <;> (try (have hh : True := hq; clear hh hq))) | (refine OpsD.gen fun q hq => ?_; cases q <;> (try simp at hq) <;> (try (have hh : True := hq; clear hh hq)))))
    | (refine T.ret (Done.data (Or.inr rfl) ?_ ?_) <;> simp [Try.results44, *] <;> omega)
    | refine T.rs (fun _ => false) fun K hK => ?_
    | refine T.rs1 (fun _ => false) fun K hK => ?_
    | refine T.rd mixed (fun _ => false) [] (by kernel_rfl) fun K hK => ?_
    | refine T.rd1 mixed (fun _ => false) [] (by kernel_rfl) fun K hK => ?_
    | refine T.cond rfl (fun hcnd => ?_) (fun hcnd => absurd hcnd (by decide))
    | refine T.cond rfl (fun hcnd => absurd hcnd (by decide)) (fun hcnd => ?_)
    | refine T.seq ?_
    | refine T.block ?_
    | refine T.skip ?_
    | refine T.exit ?_

theorem indexFuncTm_1 (f : FuncId) (d : DV) (l : List MTm) (q : MTm → Bool) (hl : l.length ≤ 4611686018427387904) (hf : ∀ t ∈ l, ACalls Try.prog f [aTm t, .c (.ptr 0 0)] (dV [[d]]) (.b (q t)) (dV [[d]]) []) :
    ACalls Try.prog 55 [.l (l.map eTm), .c (.fn f [0])] (dV [[d]]) (.i (firstIx q l 0)) (dV [[d]]) [] := by
  refine ACalls.of_body Try.func55 (by kernel_rfl) rfl (by kernel_rfl) (by simp [Try.ntmps55]) (by simp) ?_
  rw [Try.ntmps55]
  repeat' first
    | (refine aops_end (hK _ ?_); clear hK K)
    | (refine aopsD_end (hK _ ?_); clear hK K)
    | (refine aops_go ?_; simp; (try (refine Ops.gen fun q hq => ?_; cases q <;> (try simp at hq) <;> (try (have hh : True := hq; clear hh hq)))))
    | (refine aopsD_go ?_; simp; (try (refine OpsD.gen fun q hq => ?_; cases q <;> (try simp at hq) <;> (try (have hh : True := hq; clear hh hq)))))
    | refine T.rs (fun _ => false) fun K hK => ?_
    | refine T.rs1 (fun _ => false) fun K hK => ?_
    | refine T.rd mixed (fun _ => false) [] (by kernel_rfl) fun K hK => ?_
    | refine T.rd1 mixed (fun _ => false) [] (by kernel_rfl) fun K hK => ?_
    | refine T.cond rfl (fun hcnd => ?_) (fun hcnd => absurd hcnd (by decide))
    | refine T.cond rfl (fun hcnd => absurd hcnd (by decide)) (fun hcnd => ?_)
    | refine T.seq ?_
    | refine T.block ?_
    | refine T.skip ?_
    | refine T.exit ?_
  obtain ⟨R, hR⟩ : ∃ R, firstIx q l 0 = R := ⟨_, rfl⟩
  rw [hR]
  refine T.loopF (fun p : Nat => ⟨[(0, .l (l.map eTm)), (1, .c (.fn f [0])), (7, .i l.length), (8, .i p)], [[.d d]], []⟩) (fun p => l.length + 1 - p) (fun p => p ≤ l.length ∧ firstIx q (l.drop p) p = R) (fun p hp => ?_) 0 (by simpa using hR) (by simp)
  obtain ⟨hi, he⟩ := hp
  by_cases hlt : p < l.length
  · obtain ⟨u, ht⟩ := get_lt hlt
    have htm : u ∈ l := List.mem_of_getElem? ht
    have hgt : l[p] = u := by rw [List.getElem?_eq_getElem hlt] at ht; exact Option.some.inj ht
    have hdr : l.drop p = u :: l.drop (p + 1) := by rw [List.drop_eq_getElem_cons hlt, hgt]
    have hu := hf u htm
    rw [hdr, firstIx] at he
    cases hb : q u <;> rw [hb] at hu he
    · repeat' first
        | (refine aops_end (hK _ ?_); clear hK K)
        | (refine aopsD_end (hK _ ?_); clear hK K)
        | (refine aops_go ?_; simp [hlt, hgt]; (try simp (disch := omega) only [wrap64]); (try (refine Ops.gen fun q hq => ?_; cases q <;> (try simp [hlt, hgt] at hq) <;> (try (have hh : True := hq; clear hh hq)))))
        | (refine aopsD_go ?_; simp [hlt, hgt]; (try simp (disch := omega) only [wrap64]); (try (refine OpsD.gen fun q hq => ?_; cases q <;> (try simp [hlt, hgt] at hq) <;> (try (have hh : True := hq; clear hh hq)))))
        | (refine wpcall_obj1 0 [d] rfl rfl hu ?_; simp)
        | (refine ⟨p + 1, by dsimp only; omega, ⟨by omega, by simpa using he⟩, ?_⟩; simp (disch := omega) [wrap64])
        | refine T.rs (fun _ => false) fun K hK => ?_
        | refine T.rs1 (fun _ => false) fun K hK => ?_
        | refine T.rd mixed (fun _ => false) [] (by kernel_rfl) fun K hK => ?_
        | refine T.rd1 mixed (fun _ => false) [] (by kernel_rfl) fun K hK => ?_
        | refine T.cond rfl (fun hcnd => ?_) (fun hcnd => absurd hcnd (by decide))
        | refine T.cond rfl (fun hcnd => absurd hcnd (by decide)) (fun hcnd => ?_)
        | refine T.seq ?_
        | refine T.block ?_
        | refine T.skip ?_
        | refine T.exit ?_
    · repeat' first
        | (refine aops_end (hK _ ?_); clear hK K)
        | (refine aopsD_end (hK _ ?_); clear hK K)
        | (refine aops_go ?_; simp [hlt, hgt]; (try simp (disch := omega) only [wrap64]); (try (refine Ops.gen fun q hq => ?_; cases q <;> (try simp [hlt, hgt] at hq) <;> (try (have hh : True := hq; clear hh hq)))))
        | (refine aopsD_go ?_; simp [hlt, hgt]; (try simp (disch := omega) only [wrap64]); (try (refine OpsD.gen fun q hq => ?_; cases q <;> (try simp [hlt, hgt] at hq) <;> (try (have hh : True := hq; clear hh hq)))))
        | (refine wpcall_obj1 0 [d] rfl rfl hu ?_; simp)
        | refine T.rs (fun _ => false) fun K hK => ?_
        | refine T.rs1 (fun _ => false) fun K hK => ?_
        | refine T.rd mixed (fun _ => false) [] (by kernel_rfl) fun K hK => ?_
        | refine T.rd1 mixed (fun _ => false) [] (by kernel_rfl) fun K hK => ?_
        | refine T.cond rfl (fun hcnd => ?_) (fun hcnd => absurd hcnd (by decide))
        | refine T.cond rfl (fun hcnd => absurd hcnd (by decide)) (fun hcnd => ?_)
        | refine T.seq ?_
        | refine T.block ?_
        | refine T.skip ?_
        | refine T.exit ?_
      refine T.ret (Done.obj1 (Or.inr rfl) ?_ ?_ ?_) <;> simp [Try.results55, ← he]
  · have hp' : p = l.length := by omega
    subst hp'
    simp [firstIx] at he
    repeat' first
      | (refine aops_end (hK _ ?_); clear hK K)
      | (refine aopsD_end (hK _ ?_); clear hK K)
      | (refine aops_go ?_; simp [hlt]; (try (refine Ops.gen fun q hq => ?_; cases q <;> (try simp [hlt] at hq) <;> (try (have hh : True := hq; clear hh hq)))))
      | (refine aopsD_go ?_; simp [hlt]; (try (refine OpsD.gen fun q hq => ?_; cases q <;> (try simp [hlt] at hq) <;> (try (have hh : True := hq; clear hh hq)))))
      | refine T.rs (fun _ => false) fun K hK => ?_
      | refine T.rs1 (fun _ => false) fun K hK => ?_
      | refine T.rd mixed (fun _ => false) [] (by kernel_rfl) fun K hK => ?_
      | refine T.rd1 mixed (fun _ => false) [] (by kernel_rfl) fun K hK => ?_
      | refine T.cond rfl (fun hcnd => ?_) (fun hcnd => absurd hcnd (by decide))
      | refine T.cond rfl (fun hcnd => absurd hcnd (by decide)) (fun hcnd => ?_)
      | refine T.seq ?_
      | refine T.block ?_
      | refine T.skip ?_
      | refine T.exit ?_
    refine T.ret (Done.obj1 (Or.inr rfl) ?_ ?_ ?_) <;> simp [Try.results55, he]

theorem containsFuncTm_1 (f : FuncId) (d : DV) (l : List MTm) (q : MTm → Bool) (hl : l.length ≤ 4611686018427387904) (hf : ∀ t ∈ l, ACalls Try.prog f [aTm t, .c (.ptr 0 0)] (dV [[d]]) (.b (q t)) (dV [[d]]) []) :
    ACalls Try.prog 44 [.l (l.map eTm), .c (.fn f [0])] (dV [[d]]) (.b (l.any q)) (dV [[d]]) [] := by
  refine ACalls.of_body Try.func44 (by kernel_rfl) rfl (by kernel_rfl) (by simp [Try.ntmps44]) (by simp) ?_
  rw [Try.ntmps44]
  rw [← firstIx_any (i := 0) (by omega)]
  repeat' first
    | (refine aops_end (hK _ ?_); clear hK K)
    | (refine aopsD_end (hK _ ?_); clear hK K)
    | (refine aops_go ?_; simp; (try (refine Ops.gen fun q hq => ?_; cases q <;> (try simp at hq) <;> (try (have hh : True := hq; clear hh hq)))))
    | (refine aopsD_go ?_; simp; (try (refine OpsD.gen fun q hq => ?_; cases q <;> (try simp at hq) <;> (try (have hh : True := hq; clear hh hq)))))
    | (refine wpcall_obj1 0 [d] rfl rfl (indexFuncTm_1 f d l q hl hf) ?_; simp)
    | refine T.rs (fun _ => false) fun K hK => ?_
    | refine T.rs1 (fun _ => false) fun K hK => ?_
    | refine T.rd mixed (fun _ => false) [] (by kernel_rfl) fun K hK => ?_
    | refine T.rd1 mixed (fun _ => false) [] (by kernel_rfl) fun K hK => ?_
    | refine T.cond rfl (fun hcnd => ?_) (fun hcnd => absurd hcnd (by decide))
    | refine T.cond rfl (fun hcnd => absurd hcnd (by decide)) (fun hcnd => ?_)
    | refine T.seq ?_
    | refine T.block ?_
    | refine T.skip ?_
    | refine T.exit ?_
  all_goals (refine T.ret (Done.obj1 (Or.inr rfl) ?_ ?_ ?_) <;> simp [Try.results44, *])

end Go.Proofs.Ytdbffbmbbfbamaa
