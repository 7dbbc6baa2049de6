/- The laws' own functions on types and terms: copies; equality of equal ones. -/
import Derived.Test.YtdbffbmbbfbamaaM2
namespace Go.Proofs.Ytdbffbmbbfbamaa
open Go Go.Av
attribute [local irreducible] T
attribute [local simp] eTy_def eTm_def
set_option linter.unusedSimpArgs false
set_option linter.unusedVariables false

theorem toTypeS_step (l : List MTy) (hl : l.length ≤ 1048576) (h : ∀ t ∈ l, ACalls Try.prog 30 [aTy t] [] (aTy t) [] []) : ACalls Try.prog 42 [.l (l.map eTy)] [] (.l (l.map eTy)) [] [] := by
  refine ACalls.of_body Try.func42 (by kernel_rfl) rfl (by kernel_rfl) (by simp [Try.ntmps42]) (by simp) ?_
  rw [Try.ntmps42]
  repeat' first
    | (refine T.rs (fun _ => false) fun K hK => ?_; (repeat (refine aops_go ?_; simp)); refine aops_end (hK _ ?_); clear hK K)
    | (refine T.rs1 (fun _ => false) fun K hK => ?_; (repeat (refine aops_go ?_; simp)); refine aops_end (hK _ ?_); clear hK K)
    | refine T.cond rfl (fun hc => ?_) (fun hc => absurd hc (by decide))
    | refine T.cond rfl (fun hc => absurd hc (by decide)) (fun hc => ?_)
    | refine T.seq ?_
    | refine T.block ?_
    | refine T.skip ?_
    | refine T.exit ?_
  refine T.rs1 (fun _ => false) fun K hK => ?_
  repeat (refine aops_go ?_; simp)
  refine ⟨by omega, by omega, ?_⟩
  repeat (refine aops_go ?_; simp)
  refine aops_end (hK _ ?_)
  clear hK K
  repeat' first
    | (refine T.rs (fun _ => false) fun K hK => ?_; (repeat (refine aops_go ?_; simp)); refine aops_end (hK _ ?_); clear hK K)
    | (refine T.rs1 (fun _ => false) fun K hK => ?_; (repeat (refine aops_go ?_; simp)); refine aops_end (hK _ ?_); clear hK K)
    | refine T.cond rfl (fun hc => ?_) (fun hc => absurd hc (by decide))
    | refine T.cond rfl (fun hc => absurd hc (by decide)) (fun hc => ?_)
    | refine T.seq ?_
    | refine T.block ?_
    | refine T.skip ?_
    | refine T.exit ?_
  refine T.loopF (fun p : Nat => ⟨[(0, .l (l.map eTy)), (3, .c (.own 0 l.length)), (4, .i p)], [], [{ sz := 2, ety := 40, rows := fillR eTy [.i 0, .sl []] l p, wr := true }]⟩) (fun p => l.length + 1 - p) (fun p => p ≤ l.length) (fun p hp => ?_) 0 (by simp) (by simp [fillR_zero])
  by_cases hlt : p < l.length
  · obtain ⟨t, ht⟩ := get_lt hlt
    have htm : t ∈ l := List.mem_of_getElem? ht
    have hgt : l[p] = t := by rw [List.getElem?_eq_getElem hlt] at ht; exact Option.some.inj ht
    repeat' first
      | (refine T.rs (fun _ => false) fun K hK => ?_; (repeat (refine aops_go ?_; simp [hlt])); refine aops_end (hK _ ?_); clear hK K)
      | (refine T.rs1 (fun _ => false) fun K hK => ?_; (repeat (refine aops_go ?_; simp [hlt])); refine aops_end (hK _ ?_); clear hK K)
      | refine T.cond rfl (fun hc => ?_) (fun hc => absurd hc (by decide))
      | refine T.cond rfl (fun hc => absurd hc (by decide)) (fun hc => ?_)
      | refine T.seq ?_
      | refine T.block ?_
      | refine T.skip ?_
      | refine T.exit ?_
    refine T.rs1 (fun _ => false) fun K hK => ?_
    repeat (refine aops_go ?_; simp [hlt, hgt])
    refine wpcall_pure (by simp) (h t htm) ?_
    simp
    repeat (refine aops_go ?_; simp [fillR_len (Nat.le_of_lt hlt), hlt, fillR_at hlt])
    refine aops_end (hK _ ?_)
    clear hK K
    repeat' first
      | (refine T.rs (fun _ => false) fun K hK => ?_; (repeat (refine aops_go ?_; simp)); refine aops_end (hK _ ?_); clear hK K)
      | (refine T.rs1 (fun _ => false) fun K hK => ?_; (repeat (refine aops_go ?_; simp)); refine aops_end (hK _ ?_); clear hK K)
      | refine T.cond rfl (fun hc => ?_) (fun hc => absurd hc (by decide))
      | refine T.cond rfl (fun hc => absurd hc (by decide)) (fun hc => ?_)
      | refine T.seq ?_
      | refine T.block ?_
      | refine T.skip ?_
      | refine T.exit ?_
    refine ⟨p + 1, by dsimp only; omega, by omega, ?_⟩
    have hw2 : IntKind.i64.wrap ((p : Int) + 1) = p + 1 := wrap64 (by omega) (by omega)
    have hfs := fillR_set' (f := eTy) (z := [.i 0, .sl []]) ht
    rw [eTy_def] at hfs
    simp [hw2, ← hfs]
  · have hp' : p = l.length := by omega
    subst hp'
    repeat' first
      | (refine T.rs (fun _ => false) fun K hK => ?_; (repeat (refine aops_go ?_; simp [hlt])); refine aops_end (hK _ ?_); clear hK K)
      | (refine T.rs1 (fun _ => false) fun K hK => ?_; (repeat (refine aops_go ?_; simp [hlt])); refine aops_end (hK _ ?_); clear hK K)
      | refine T.cond rfl (fun hc => ?_) (fun hc => absurd hc (by decide))
      | refine T.cond rfl (fun hc => absurd hc (by decide)) (fun hc => ?_)
      | refine T.seq ?_
      | refine T.block ?_
      | refine T.skip ?_
      | refine T.exit ?_
    refine T.ret (Done.pure (Or.inr rfl) (x := .c (.own 0 l.length)) ?_ ?_) <;> simp [Try.results42, fillR_full]

theorem toTermS_step (l : List MTm) (hl : l.length ≤ 1048576) (h : ∀ t ∈ l, ACalls Try.prog 16 [aTm t] [] (aTm t) [] []) : ACalls Try.prog 31 [.l (l.map eTm)] [] (.l (l.map eTm)) [] [] := by
  refine ACalls.of_body Try.func31 (by kernel_rfl) rfl (by kernel_rfl) (by simp [Try.ntmps31]) (by simp) ?_
  rw [Try.ntmps31]
  repeat' first
    | (refine T.rs (fun _ => false) fun K hK => ?_; (repeat (refine aops_go ?_; simp)); refine aops_end (hK _ ?_); clear hK K)
    | (refine T.rs1 (fun _ => false) fun K hK => ?_; (repeat (refine aops_go ?_; simp)); refine aops_end (hK _ ?_); clear hK K)
    | refine T.cond rfl (fun hc => ?_) (fun hc => absurd hc (by decide))
    | refine T.cond rfl (fun hc => absurd hc (by decide)) (fun hc => ?_)
    | refine T.seq ?_
    | refine T.block ?_
    | refine T.skip ?_
    | refine T.exit ?_
  refine T.rs1 (fun _ => false) fun K hK => ?_
  repeat (refine aops_go ?_; simp)
  refine ⟨by omega, by omega, ?_⟩
  repeat (refine aops_go ?_; simp)
  refine aops_end (hK _ ?_)
  clear hK K
  repeat' first
    | (refine T.rs (fun _ => false) fun K hK => ?_; (repeat (refine aops_go ?_; simp)); refine aops_end (hK _ ?_); clear hK K)
    | (refine T.rs1 (fun _ => false) fun K hK => ?_; (repeat (refine aops_go ?_; simp)); refine aops_end (hK _ ?_); clear hK K)
    | refine T.cond rfl (fun hc => ?_) (fun hc => absurd hc (by decide))
    | refine T.cond rfl (fun hc => absurd hc (by decide)) (fun hc => ?_)
    | refine T.seq ?_
    | refine T.block ?_
    | refine T.skip ?_
    | refine T.exit ?_
  refine T.loopF (fun p : Nat => ⟨[(0, .l (l.map eTm)), (3, .c (.own 0 l.length)), (4, .i p)], [], [{ sz := 9, ety := 43, rows := fillR eTm [.i 0, .str [], .i 0, .i 0, .sl [], .i 0, .sl [], .i 0, .sl []] l p, wr := true }]⟩) (fun p => l.length + 1 - p) (fun p => p ≤ l.length) (fun p hp => ?_) 0 (by simp) (by simp [fillR_zero])
  by_cases hlt : p < l.length
  · obtain ⟨t, ht⟩ := get_lt hlt
    have htm : t ∈ l := List.mem_of_getElem? ht
    have hgt : l[p] = t := by rw [List.getElem?_eq_getElem hlt] at ht; exact Option.some.inj ht
    repeat' first
      | (refine T.rs (fun _ => false) fun K hK => ?_; (repeat (refine aops_go ?_; simp [hlt])); refine aops_end (hK _ ?_); clear hK K)
      | (refine T.rs1 (fun _ => false) fun K hK => ?_; (repeat (refine aops_go ?_; simp [hlt])); refine aops_end (hK _ ?_); clear hK K)
      | refine T.cond rfl (fun hc => ?_) (fun hc => absurd hc (by decide))
      | refine T.cond rfl (fun hc => absurd hc (by decide)) (fun hc => ?_)
      | refine T.seq ?_
      | refine T.block ?_
      | refine T.skip ?_
      | refine T.exit ?_
    refine T.rs1 (fun _ => false) fun K hK => ?_
    repeat (refine aops_go ?_; simp [hlt, hgt])
    refine wpcall_pure (by simp) (h t htm) ?_
    simp
    repeat (refine aops_go ?_; simp [fillR_len (Nat.le_of_lt hlt), hlt, fillR_at hlt])
    refine aops_end (hK _ ?_)
    clear hK K
    repeat' first
      | (refine T.rs (fun _ => false) fun K hK => ?_; (repeat (refine aops_go ?_; simp)); refine aops_end (hK _ ?_); clear hK K)
      | (refine T.rs1 (fun _ => false) fun K hK => ?_; (repeat (refine aops_go ?_; simp)); refine aops_end (hK _ ?_); clear hK K)
      | refine T.cond rfl (fun hc => ?_) (fun hc => absurd hc (by decide))
      | refine T.cond rfl (fun hc => absurd hc (by decide)) (fun hc => ?_)
      | refine T.seq ?_
      | refine T.block ?_
      | refine T.skip ?_
      | refine T.exit ?_
    refine ⟨p + 1, by dsimp only; omega, by omega, ?_⟩
    have hw2 : IntKind.i64.wrap ((p : Int) + 1) = p + 1 := wrap64 (by omega) (by omega)
    have hfs := fillR_set' (f := eTm) (z := [.i 0, .str [], .i 0, .i 0, .sl [], .i 0, .sl [], .i 0, .sl []]) ht
    rw [eTm_def] at hfs
    simp [hw2, ← hfs]
  · have hp' : p = l.length := by omega
    subst hp'
    repeat' first
      | (refine T.rs (fun _ => false) fun K hK => ?_; (repeat (refine aops_go ?_; simp [hlt])); refine aops_end (hK _ ?_); clear hK K)
      | (refine T.rs1 (fun _ => false) fun K hK => ?_; (repeat (refine aops_go ?_; simp [hlt])); refine aops_end (hK _ ?_); clear hK K)
      | refine T.cond rfl (fun hc => ?_) (fun hc => absurd hc (by decide))
      | refine T.cond rfl (fun hc => absurd hc (by decide)) (fun hc => ?_)
      | refine T.seq ?_
      | refine T.block ?_
      | refine T.skip ?_
      | refine T.exit ?_
    refine T.ret (Done.pure (Or.inr rfl) (x := .c (.own 0 l.length)) ?_ ?_) <;> simp [Try.results31, fillR_full]

theorem toType_step (t : MTy) (h : ACalls Try.prog 42 [.l (t.kids.map eTy)] [] (.l (t.kids.map eTy)) [] []) : ACalls Try.prog 30 [aTy t] [] (aTy t) [] [] := by
  refine ACalls.of_body Try.func30 (by kernel_rfl) rfl (by kernel_rfl) (by simp [Try.ntmps30]) (by simp) ?_
  rw [Try.ntmps30]
  repeat' first
    | (refine T.rs (fun _ => false) fun K hK => ?_; (repeat (refine aops_go ?_; simp)); refine aops_end (hK _ ?_); clear hK K)
    | (refine T.rs1 (fun _ => false) fun K hK => ?_; (repeat (refine aops_go ?_; simp)); refine aops_end (hK _ ?_); clear hK K)
    | refine T.cond rfl (fun hc => ?_) (fun hc => absurd hc (by decide))
    | refine T.cond rfl (fun hc => absurd hc (by decide)) (fun hc => ?_)
    | refine T.seq ?_
    | refine T.block ?_
    | refine T.skip ?_
    | refine T.exit ?_
  refine T.rs1 (fun _ => false) fun K hK => ?_
  repeat (refine aops_go ?_; simp)
  refine wpcall_pure (by simp) (h) ?_
  simp
  repeat (refine aops_go ?_; simp)
  refine aops_end (hK _ ?_)
  clear hK K
  repeat' first
    | (refine T.rs (fun _ => false) fun K hK => ?_; (repeat (refine aops_go ?_; simp)); refine aops_end (hK _ ?_); clear hK K)
    | (refine T.rs1 (fun _ => false) fun K hK => ?_; (repeat (refine aops_go ?_; simp)); refine aops_end (hK _ ?_); clear hK K)
    | refine T.cond rfl (fun hc => ?_) (fun hc => absurd hc (by decide))
    | refine T.cond rfl (fun hc => absurd hc (by decide)) (fun hc => ?_)
    | refine T.seq ?_
    | refine T.block ?_
    | refine T.skip ?_
    | refine T.exit ?_
  refine T.ret (Done.data (Or.inr rfl) ?_ ?_) <;> simp [Try.results30]

theorem toType_ok : (t : MTy) → nTy t ≤ 1048576 → ACalls Try.prog 30 [aTy t] [] (aTy t) [] []
  | .mk k l, hn => by
    rw [nTy_def] at hn
    have hl := nTyS_len l
    exact toType_step _ (toTypeS_step l (by simp at hn; omega) (fun t ht => toType_ok t (by have := nTyS_mem ht; simp at hn; omega)))
termination_by t => SizeOf.sizeOf t
decreasing_by have := List.sizeOf_lt_of_mem ht; simp; omega

theorem toTypeS_ok (l : List MTy) (hn : nTyS l ≤ 1048576) : ACalls Try.prog 42 [.l (l.map eTy)] [] (.l (l.map eTy)) [] [] :=
  toTypeS_step l (by have := nTyS_len l; omega) (fun t ht => toType_ok t (by have := nTyS_mem ht; omega))

theorem toTerm_step (e : MTm) (ht : nTy e.ty ≤ 1048576) (hf : nTy e.fr ≤ 1048576) (h : ACalls Try.prog 31 [.l (e.kids.map eTm)] [] (.l (e.kids.map eTm)) [] []) : ACalls Try.prog 16 [aTm e] [] (aTm e) [] [] := by
  refine ACalls.of_body Try.func16 (by kernel_rfl) rfl (by kernel_rfl) (by simp [Try.ntmps16]) (by simp) ?_
  rw [Try.ntmps16]
  repeat' first
    | (refine T.rs (fun _ => false) fun K hK => ?_; (repeat (refine aops_go ?_; simp)); refine aops_end (hK _ ?_); clear hK K)
    | (refine T.rs1 (fun _ => false) fun K hK => ?_; (repeat (refine aops_go ?_; simp)); refine aops_end (hK _ ?_); clear hK K)
    | refine T.cond rfl (fun hc => ?_) (fun hc => absurd hc (by decide))
    | refine T.cond rfl (fun hc => absurd hc (by decide)) (fun hc => ?_)
    | refine T.seq ?_
    | refine T.block ?_
    | refine T.skip ?_
    | refine T.exit ?_
  refine T.rs1 (fun _ => false) fun K hK => ?_
  repeat (refine aops_go ?_; simp)
  refine wpcall_pure (by simp) (toType_ok e.ty ht) ?_
  simp
  repeat (refine aops_go ?_; simp)
  refine aops_end (hK _ ?_)
  clear hK K
  repeat' first
    | (refine T.rs (fun _ => false) fun K hK => ?_; (repeat (refine aops_go ?_; simp)); refine aops_end (hK _ ?_); clear hK K)
    | (refine T.rs1 (fun _ => false) fun K hK => ?_; (repeat (refine aops_go ?_; simp)); refine aops_end (hK _ ?_); clear hK K)
    | refine T.cond rfl (fun hc => ?_) (fun hc => absurd hc (by decide))
    | refine T.cond rfl (fun hc => absurd hc (by decide)) (fun hc => ?_)
    | refine T.seq ?_
    | refine T.block ?_
    | refine T.skip ?_
    | refine T.exit ?_
  refine T.rs1 (fun _ => false) fun K hK => ?_
  repeat (refine aops_go ?_; simp)
  refine wpcall_pure (by simp) (toType_ok e.fr hf) ?_
  simp
  repeat (refine aops_go ?_; simp)
  refine aops_end (hK _ ?_)
  clear hK K
  repeat' first
    | (refine T.rs (fun _ => false) fun K hK => ?_; (repeat (refine aops_go ?_; simp)); refine aops_end (hK _ ?_); clear hK K)
    | (refine T.rs1 (fun _ => false) fun K hK => ?_; (repeat (refine aops_go ?_; simp)); refine aops_end (hK _ ?_); clear hK K)
    | refine T.cond rfl (fun hc => ?_) (fun hc => absurd hc (by decide))
    | refine T.cond rfl (fun hc => absurd hc (by decide)) (fun hc => ?_)
    | refine T.seq ?_
    | refine T.block ?_
    | refine T.skip ?_
    | refine T.exit ?_
  refine T.rs1 (fun _ => false) fun K hK => ?_
  repeat (refine aops_go ?_; simp)
  refine wpcall_pure (by simp) (h) ?_
  simp
  repeat (refine aops_go ?_; simp)
  refine aops_end (hK _ ?_)
  clear hK K
  repeat' first
    | (refine T.rs (fun _ => false) fun K hK => ?_; (repeat (refine aops_go ?_; simp)); refine aops_end (hK _ ?_); clear hK K)
    | (refine T.rs1 (fun _ => false) fun K hK => ?_; (repeat (refine aops_go ?_; simp)); refine aops_end (hK _ ?_); clear hK K)
    | refine T.cond rfl (fun hc => ?_) (fun hc => absurd hc (by decide))
    | refine T.cond rfl (fun hc => absurd hc (by decide)) (fun hc => ?_)
    | refine T.seq ?_
    | refine T.block ?_
    | refine T.skip ?_
    | refine T.exit ?_
  refine T.ret (Done.data (Or.inr rfl) ?_ ?_) <;> simp [Try.results16]

theorem toTerm_ok : (e : MTm) → nTm e ≤ 1048576 → ACalls Try.prog 16 [aTm e] [] (aTm e) [] []
  | .mk k s n t f b l, hn => by
    rw [nTm_def] at hn
    have hl := nTmS_len l
    simp only [MTm.name_mk, MTm.ty_mk, MTm.fr_mk, MTm.kids_mk] at hn
    exact toTerm_step _ (by simp; omega) (by simp; omega) (toTermS_step l (by omega) (fun t ht => toTerm_ok t (by have := nTmS_mem ht; omega)))
termination_by e => SizeOf.sizeOf e
decreasing_by have := List.sizeOf_lt_of_mem ht; simp; omega

theorem toTermS_ok (l : List MTm) (hn : nTmS l ≤ 1048576) : ACalls Try.prog 31 [.l (l.map eTm)] [] (.l (l.map eTm)) [] [] :=
  toTermS_step l (by have := nTmS_len l; omega) (fun t ht => toTerm_ok t (by have := nTmS_mem ht; omega))

end Go.Proofs.Ytdbffbmbbfbamaa
