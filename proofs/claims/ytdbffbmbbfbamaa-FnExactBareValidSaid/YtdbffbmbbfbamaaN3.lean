/- slices.EqualFunc over types and terms. -/
import Derived.Test.YtdbffbmbbfbamaaN2
namespace Go.Proofs.Ytdbffbmbbfbamaa
open Go Go.Av
attribute [local irreducible] T ACalls eTy eTm MTy.kind MTy.kids MTm.kind MTm.name MTm.num MTm.ty MTm.fr MTm.label MTm.kids
attribute [local simp] eTy_def eTm_def
set_option linter.unusedSimpArgs false
set_option linter.unusedVariables false
set_option maxHeartbeats 4000000

theorem equalFuncTy_0 (f : FuncId) (l m : List MTy) (q : MTy → MTy → Bool) (hl : l.length ≤ 4611686018427387904) (hf : ∀ a ∈ l, ∀ b ∈ m, ACalls Try.prog f [aTy a, aTy b] [] (.b (q a b)) [] []) :
    ACalls Try.prog 101 [.l (l.map eTy), .l (m.map eTy), .c (.fn f [])] [] (.b (all2 q l m)) [] [] := by
  refine ACalls.of_body Try.func101 (by kernel_rfl) rfl (by kernel_rfl) (by simp [Try.ntmps101]) (by simp) ?_
  rw [Try.ntmps101]
  by_cases hlm : l.length = m.length
  rotate_left
  · have hne : ¬ (l.length : Int) = m.length := by omega
    repeat' first
      | (refine aops_end (hK _ ?_); clear hK K)
      | (refine aopsD_end (hK _ ?_); clear hK K)
      | (refine aops_go ?_; simp [hne]; (try (refine Ops.gen fun q hq => ?_; cases q <;> (try simp [hne] at hq) <;> (try (have hh : True := hq; clear hh hq)))))
      | (refine aopsD_go ?_; simp [hne]; (try (refine OpsD.gen fun q hq => ?_; cases q <;> (try simp [hne] at hq) <;> (try (have hh : True := hq; clear hh hq)))))
      | (refine T.ret (Done.data (Or.inr rfl) ?_ ?_) <;> simp [Try.results101, all2_ne hlm] <;> omega)
      | refine T.rs (fun _ => false) fun K hK => ?_
      | refine T.rs1 (fun _ => false) fun K hK => ?_
      | refine T.rd mixed (fun _ => false) [] (by kernel_rfl) fun K hK => ?_
      | refine T.rd1 mixed (fun _ => false) [] (by kernel_rfl) fun K hK => ?_
      | refine T.cond rfl (fun hcnd => ?_) (fun hcnd => absurd hcnd (by decide))
      | refine T.cond rfl (fun hcnd => absurd hcnd (by decide)) (fun hcnd => ?_)
      | refine T.seq ?_
      | refine T.block ?_
      | refine T.skip ?_
      | refine T.exit ?_
  repeat' first
    | (refine aops_end (hK _ ?_); clear hK K)
    | (refine aopsD_end (hK _ ?_); clear hK K)
    | (refine aops_go ?_; simp [hlm]; (try (refine Ops.gen fun q hq => ?_; cases q <;> (try simp [hlm] at hq) <;> (try (have hh : True := hq; clear hh hq)))))
    | (refine aopsD_go ?_; simp [hlm]; (try (refine OpsD.gen fun q hq => ?_; cases q <;> (try simp [hlm] at hq) <;> (try (have hh : True := hq; clear hh hq)))))
    | refine T.rs (fun _ => false) fun K hK => ?_
    | refine T.rs1 (fun _ => false) fun K hK => ?_
    | refine T.rd mixed (fun _ => false) [] (by kernel_rfl) fun K hK => ?_
    | refine T.rd1 mixed (fun _ => false) [] (by kernel_rfl) fun K hK => ?_
    | refine T.cond rfl (fun hcnd => ?_) (fun hcnd => absurd hcnd (by decide))
    | refine T.cond rfl (fun hcnd => absurd hcnd (by decide)) (fun hcnd => ?_)
    | refine T.seq ?_
    | refine T.block ?_
    | refine T.skip ?_
    | refine T.exit ?_
  obtain ⟨R, hR⟩ : ∃ R, all2 q l m = R := ⟨_, rfl⟩
  rw [hR]
  refine T.loopF (fun x : Nat × List (List CV) => ⟨[(0, .l (l.map eTy)), (1, .l (m.map eTy)), (2, .c (.fn f [])), (15, .l (l.map eTy)), (16, .i m.length), (17, .i x.1)], x.2, []⟩) (fun x => l.length + 1 - x.1) (fun x => x.1 ≤ l.length ∧ all2 q (l.drop x.1) (m.drop x.1) = R) (fun x hp => ?_) (0, []) (by simpa using hR) (by simp)
  obtain ⟨p, G⟩ := x
  obtain ⟨hi, he⟩ := hp
  dsimp only at hi he ⊢
  by_cases hlt : p < l.length
  · have hlt2 : p < m.length := by omega
    obtain ⟨u, ht⟩ := get_lt hlt
    have htm : u ∈ l := List.mem_of_getElem? ht
    have hgt : l[p] = u := by rw [List.getElem?_eq_getElem hlt] at ht; exact Option.some.inj ht
    have hdr : l.drop p = u :: l.drop (p + 1) := by rw [List.drop_eq_getElem_cons hlt, hgt]
    obtain ⟨v, hv⟩ := get_lt hlt2
    have hvm : v ∈ m := List.mem_of_getElem? hv
    have hgv : m[p] = v := by rw [List.getElem?_eq_getElem hlt2] at hv; exact Option.some.inj hv
    have hu := hf u htm v hvm
    rw [hdr, drop_cons hlt2, hgv, all2_cons] at he
    cases hb : q u v <;> rw [hb] at hu he
    · repeat' first
        | (refine aops_end (hK _ ?_); clear hK K)
        | (refine aopsD_end (hK _ ?_); clear hK K)
        | (refine aops_go ?_; simp [hlt, hlt2, hgt, hgv]; (try simp (disch := omega) only [wrap64]); (try (refine Ops.gen fun q hq => ?_; cases q <;> (try simp [hlt, hlt2, hgt, hgv] at hq) <;> (try (have hh : True := hq; clear hh hq)))))
        | (refine aopsD_go ?_; simp [hlt, hlt2, hgt, hgv]; (try simp (disch := omega) only [wrap64]); (try (refine OpsD.gen fun q hq => ?_; cases q <;> (try simp [hlt, hlt2, hgt, hgv] at hq) <;> (try (have hh : True := hq; clear hh hq)))))
        | (refine wpcall_pure rfl (hu) ?_; simp [hlt, hlt2, hgt, hgv]; (try simp (disch := omega) only [wrap64]); (try first | (refine Ops.gen fun q hq => ?_; cases q <;> (try simp [hlt, hlt2, hgt, hgv] at hq) <;> (try (have hh : True := hq; clear hh hq))) | (refine OpsD.gen fun q hq => ?_; cases q <;> (try simp [hlt, hlt2, hgt, hgv] at hq) <;> (try (have hh : True := hq; clear hh hq)))))
        | (refine T.ret (Done.data (Or.inr rfl) ?_ ?_) <;> simp [Try.results101, ← he] <;> omega)
        | refine T.rs (fun _ => false) fun K hK => ?_
        | refine T.rs1 (fun _ => false) fun K hK => ?_
        | refine T.rd mixed (fun _ => false) [] (by kernel_rfl) fun K hK => ?_
        | refine T.rd1 mixed (fun _ => false) [] (by kernel_rfl) fun K hK => ?_
        | refine T.cond rfl (fun hcnd => ?_) (fun hcnd => absurd hcnd (by decide))
        | refine T.cond rfl (fun hcnd => absurd hcnd (by decide)) (fun hcnd => ?_)
        | refine T.seq ?_
        | refine T.block ?_
        | refine T.skip ?_
        | refine T.exit ?_
    · repeat' first
        | (refine aops_end (hK _ ?_); clear hK K)
        | (refine aopsD_end (hK _ ?_); clear hK K)
        | (refine aops_go ?_; simp [hlt, hlt2, hgt, hgv]; (try simp (disch := omega) only [wrap64]); (try (refine Ops.gen fun q hq => ?_; cases q <;> (try simp [hlt, hlt2, hgt, hgv] at hq) <;> (try (have hh : True := hq; clear hh hq)))))
        | (refine aopsD_go ?_; simp [hlt, hlt2, hgt, hgv]; (try simp (disch := omega) only [wrap64]); (try (refine OpsD.gen fun q hq => ?_; cases q <;> (try simp [hlt, hlt2, hgt, hgv] at hq) <;> (try (have hh : True := hq; clear hh hq)))))
        | (refine wpcall_pure rfl (hu) ?_; simp [hlt, hlt2, hgt, hgv]; (try simp (disch := omega) only [wrap64]); (try first | (refine Ops.gen fun q hq => ?_; cases q <;> (try simp [hlt, hlt2, hgt, hgv] at hq) <;> (try (have hh : True := hq; clear hh hq))) | (refine OpsD.gen fun q hq => ?_; cases q <;> (try simp [hlt, hlt2, hgt, hgv] at hq) <;> (try (have hh : True := hq; clear hh hq)))))
        | (refine ⟨(p + 1, _), by dsimp only; omega, ⟨by dsimp only; omega, by simpa using he⟩, rfl, rfl, ?_⟩; simp (disch := omega) [wrap64])
        | refine T.rs (fun _ => false) fun K hK => ?_
        | refine T.rs1 (fun _ => false) fun K hK => ?_
        | refine T.rd mixed (fun _ => false) [] (by kernel_rfl) fun K hK => ?_
        | refine T.rd1 mixed (fun _ => false) [] (by kernel_rfl) fun K hK => ?_
        | refine T.cond rfl (fun hcnd => ?_) (fun hcnd => absurd hcnd (by decide))
        | refine T.cond rfl (fun hcnd => absurd hcnd (by decide)) (fun hcnd => ?_)
        | refine T.seq ?_
        | refine T.block ?_
        | refine T.skip ?_
        | refine T.exit ?_
  · have hp' : p = l.length := by omega
    subst hp'
    rw [List.drop_length, hlm, List.drop_length, all2_nil] at he
    repeat' first
      | (refine aops_end (hK _ ?_); clear hK K)
      | (refine aopsD_end (hK _ ?_); clear hK K)
      | (refine aops_go ?_; simp [hlt, hlm]; (try (refine Ops.gen fun q hq => ?_; cases q <;> (try simp [hlt, hlm] at hq) <;> (try (have hh : True := hq; clear hh hq)))))
      | (refine aopsD_go ?_; simp [hlt, hlm]; (try (refine OpsD.gen fun q hq => ?_; cases q <;> (try simp [hlt, hlm] at hq) <;> (try (have hh : True := hq; clear hh hq)))))
      | (refine T.ret (Done.data (Or.inr rfl) ?_ ?_) <;> simp [Try.results101, ← he] <;> omega)
      | refine T.rs (fun _ => false) fun K hK => ?_
      | refine T.rs1 (fun _ => false) fun K hK => ?_
      | refine T.rd mixed (fun _ => false) [] (by kernel_rfl) fun K hK => ?_
      | refine T.rd1 mixed (fun _ => false) [] (by kernel_rfl) fun K hK => ?_
      | refine T.cond rfl (fun hcnd => ?_) (fun hcnd => absurd hcnd (by decide))
      | refine T.cond rfl (fun hcnd => absurd hcnd (by decide)) (fun hcnd => ?_)
      | refine T.seq ?_
      | refine T.block ?_
      | refine T.skip ?_
      | refine T.exit ?_

end Go.Proofs.Ytdbffbmbbfbamaa
