/- A part of the library of this seat: a value-semantic program logic over the model, plain models, and walks of functions. -/
import Derived.Test.YtjllgkglfabhaaaDoorC5
set_option linter.unusedVariables false
set_option linter.unusedSimpArgs false
namespace Go.Proofs.YtjllgkglfabhaaaDoor
attribute [-simp] Go.Av.get_app_len Go.Av.get_app_len0 Go.Av.set_app_len Go.Av.set_app_len0 Go.Av.freeStep Go.Av.exV Go.Av.keepL Go.Av.ups Go.Av.take_app_len Go.Av.innVs Go.Av.putBack Go.Av.objCells Go.Av.back Go.Av.resVs Go.Av.one Go.Av.freeStepG Go.Av.exA Go.Av.innAsH Go.Av.AV.innH Go.Av.CV.innH Go.Av.innHs Go.Av.AV.outnH Go.Av.CV.outnH
open Go Go.Av
attribute [local irreducible] T
attribute [local simp] eCo_def

@[simp] theorem td_lawsCoercionS : td Tryd.prog 50 = some { ag := false, sz := 1, by_ := 24, zero := some [.nil], el := some 52, ar := none, fl := [], ik := none, isS := false, isB := false } := keep (by kernel_rfl)
@[simp] theorem td_lawsCoercion : td Tryd.prog 52 = some { ag := true, sz := 4, by_ := 48, zero := some [.d (.int .i64 0), .d (.int .i64 0), .d (.int .i64 0), .nil], el := none, ar := none, fl := [(0, 1), (1, 1), (2, 1), (3, 1)], ik := none, isS := false, isB := false } := keep (by kernel_rfl)
@[simp] theorem td_implCoercionS : td Tryd.prog 55 = some { ag := false, sz := 1, by_ := 24, zero := some [.nil], el := some 57, ar := none, fl := [], ik := none, isS := false, isB := false } := keep (by kernel_rfl)
@[simp] theorem td_implCoercion : td Tryd.prog 57 = some { ag := true, sz := 4, by_ := 48, zero := some [.d (.int .i64 0), .d (.int .i64 0), .d (.int .i64 0), .nil], el := none, ar := none, fl := [(0, 1), (1, 1), (2, 1), (3, 1)], ik := none, isS := false, isB := false } := keep (by kernel_rfl)

theorem szCoercionS_step (l : List MCo) (hl : l.length ≤ 9223372036854775807) (h : ∀ t ∈ l, ∀ left : Int, 0 ≤ left → left ≤ 1048576 → ACalls Tryd.prog 27 [aCo t, .i left] [] (.i (szM (nCo t) left)) [] []) (left : Int) (h0 : 0 ≤ left) (h1 : left ≤ 1048576) :
    ACalls Tryd.prog 66 [.l (l.map eCo), .i left] [] (.i (szM (nCoS l) left)) [] [] := by
  refine ACalls.of_body Tryd.func66 (by kernel_rfl) rfl (by kernel_rfl) (by simp [Tryd.ntmps66]) (by simp) ?_
  rw [Tryd.ntmps66]
  have hw : IntKind.i64.wrap (left - (l.length : Int)) = left - l.length := wrap64 (by omega) (by omega)
  have hsum := nCoS_sum l
  by_cases hlen : left - (l.length : Int) < 0
  · repeat' first | (refine T.rs (fun _ => false) fun K hK => ?_; (repeat (refine aops_go ?_; simp [hw, hlen])); refine aops_end (hK _ ?_); clear hK K) | (refine T.rs1 (fun _ => false) fun K hK => ?_; (repeat (refine aops_go ?_; simp [hw, hlen])); refine aops_end (hK _ ?_); clear hK K) | refine T.cond rfl (fun hc => ?_) (fun hc => absurd hc (by decide)) | refine T.cond rfl (fun hc => absurd hc (by decide)) (fun hc => ?_) | refine T.seq ?_ | refine T.block ?_ | refine T.skip ?_ | refine T.exit ?_
    have hneg : ¬ (nCoS l : Int) ≤ left := by omega
    refine T.ret (Done.data (Or.inr rfl) ?_ ?_) <;> simp [Tryd.results66, szM, hneg]
  have hlen' : ¬ left < (l.length : Int) := by omega
  repeat' first | (refine T.rs (fun _ => false) fun K hK => ?_; (repeat (refine aops_go ?_; simp [hw, hlen, hlen'])); refine aops_end (hK _ ?_); clear hK K) | (refine T.rs1 (fun _ => false) fun K hK => ?_; (repeat (refine aops_go ?_; simp [hw, hlen, hlen'])); refine aops_end (hK _ ?_); clear hK K) | refine T.cond rfl (fun hc => ?_) (fun hc => absurd hc (by decide)) | refine T.cond rfl (fun hc => absurd hc (by decide)) (fun hc => ?_) | refine T.seq ?_ | refine T.block ?_ | refine T.skip ?_ | refine T.exit ?_
  refine T.loopF (fun p : Nat => ⟨[(0, .l (l.map eCo)), (1, .i (left - l.length - sumCo (l.take p))), (5, .i p)], [], []⟩) (fun p => l.length + 1 - p) (fun p => p ≤ l.length ∧ 0 ≤ left - l.length - sumCo (l.take p)) (fun p hp => ?_) 0 (by simp [sumCo]; omega) (by simp [hw, sumCo])
  obtain ⟨hi, he⟩ := hp
  by_cases hlt : p < l.length
  · obtain ⟨t, ht⟩ := get_lt hlt
    have htm : t ∈ l := List.mem_of_getElem? ht
    have htk := sumCo_take ht
    have hle := sumCo_le l (p + 1)
    have hgt : l[p] = t := by rw [List.getElem?_eq_getElem hlt] at ht; exact Option.some.inj ht
    repeat' first | (refine T.rs (fun _ => false) fun K hK => ?_; (repeat (refine aops_go ?_; simp [hlt])); refine aops_end (hK _ ?_); clear hK K) | (refine T.rs1 (fun _ => false) fun K hK => ?_; (repeat (refine aops_go ?_; simp [hlt])); refine aops_end (hK _ ?_); clear hK K) | refine T.cond rfl (fun hc => ?_) (fun hc => absurd hc (by decide)) | refine T.cond rfl (fun hc => absurd hc (by decide)) (fun hc => ?_) | refine T.seq ?_ | refine T.block ?_ | refine T.skip ?_ | refine T.exit ?_
    refine T.rs1 (fun _ => false) fun K hK => ?_
    repeat (refine aops_go ?_; simp [hlt, hgt])
    refine wpcall_pure (by simp) (h t htm _ he (by omega)) ?_
    simp
    repeat (refine aops_go ?_; simp)
    refine aops_end (hK _ ?_)
    clear hK K
    by_cases hq : szM (nCo t) (left - l.length - sumCo (l.take p)) < 0
    · repeat' first | (refine T.rs (fun _ => false) fun K hK => ?_; (repeat (refine aops_go ?_; simp [hq])); refine aops_end (hK _ ?_); clear hK K) | (refine T.rs1 (fun _ => false) fun K hK => ?_; (repeat (refine aops_go ?_; simp [hq])); refine aops_end (hK _ ?_); clear hK K) | refine T.cond rfl (fun hc => ?_) (fun hc => absurd hc (by decide)) | refine T.cond rfl (fun hc => absurd hc (by decide)) (fun hc => ?_) | refine T.seq ?_ | refine T.block ?_ | refine T.skip ?_ | refine T.exit ?_
      have hneg : ¬ (nCoS l : Int) ≤ left := by
        simp only [szM] at hq
        split at hq <;> omega
      refine T.ret (Done.data (Or.inr rfl) ?_ ?_) <;> simp [Tryd.results66, szM, hneg]
    · have hq2 : szM (nCo t) (left - l.length - sumCo (l.take p)) = left - l.length - sumCo (l.take (p + 1)) := by
        simp only [szM] at hq ⊢
        split at hq <;> split <;> omega
      repeat' first | (refine T.rs (fun _ => false) fun K hK => ?_; (repeat (refine aops_go ?_; simp [hq])); refine aops_end (hK _ ?_); clear hK K) | (refine T.rs1 (fun _ => false) fun K hK => ?_; (repeat (refine aops_go ?_; simp [hq])); refine aops_end (hK _ ?_); clear hK K) | refine T.cond rfl (fun hc => ?_) (fun hc => absurd hc (by decide)) | refine T.cond rfl (fun hc => absurd hc (by decide)) (fun hc => ?_) | refine T.seq ?_ | refine T.block ?_ | refine T.skip ?_ | refine T.exit ?_
      refine ⟨p + 1, by dsimp only; omega, ⟨by omega, by rw [← hq2]; omega⟩, ?_⟩
      have hw2 : IntKind.i64.wrap ((p : Int) + 1) = p + 1 := wrap64 (by omega) (by omega)
      simp [hw2, hq2]
  · have hp' : p = l.length := by omega
    subst hp'
    repeat' first | (refine T.rs (fun _ => false) fun K hK => ?_; (repeat (refine aops_go ?_; simp [hlt])); refine aops_end (hK _ ?_); clear hK K) | (refine T.rs1 (fun _ => false) fun K hK => ?_; (repeat (refine aops_go ?_; simp [hlt])); refine aops_end (hK _ ?_); clear hK K) | refine T.cond rfl (fun hc => ?_) (fun hc => absurd hc (by decide)) | refine T.cond rfl (fun hc => absurd hc (by decide)) (fun hc => ?_) | refine T.seq ?_ | refine T.block ?_ | refine T.skip ?_ | refine T.exit ?_
    have hpos : (nCoS l : Int) ≤ left := by rw [List.take_length] at he; omega
    refine T.ret (Done.data (Or.inr rfl) ?_ ?_) <;> simp [Tryd.results66, szM, hpos]
    omega

theorem szCoercion_step (t : MCo) (left : Int) (h : ACalls Tryd.prog 66 [.l (t.kids.map eCo), .i left] [] (.i (szM (nCoS t.kids) left)) [] []) : ACalls Tryd.prog 27 [aCo t, .i left] [] (.i (szM (nCo t) left)) [] [] := by
  refine ACalls.of_body Tryd.func27 (by kernel_rfl) rfl (by kernel_rfl) (by simp [Tryd.ntmps27]) (by simp) ?_
  rw [Tryd.ntmps27]
  rw [nCo_def]
  repeat' first | (refine T.rs (fun _ => false) fun K hK => ?_; (repeat (refine aops_go ?_; simp)); refine aops_end (hK _ ?_); clear hK K) | (refine T.rs1 (fun _ => false) fun K hK => ?_; (repeat (refine aops_go ?_; simp)); refine aops_end (hK _ ?_); clear hK K) | refine T.cond rfl (fun hc => ?_) (fun hc => absurd hc (by decide)) | refine T.cond rfl (fun hc => absurd hc (by decide)) (fun hc => ?_) | refine T.seq ?_ | refine T.block ?_ | refine T.skip ?_ | refine T.exit ?_
  refine T.rs1 (fun _ => false) fun K hK => ?_
  repeat (refine aops_go ?_; simp)
  refine wpcall_pure (by simp) (h) ?_
  simp
  repeat (refine aops_go ?_; simp)
  refine aops_end (hK _ ?_)
  clear hK K
  by_cases hq : szM (nCoS t.kids) left < 0
  · have hneg : szM (nCoS t.kids) left = -1 := by simp only [szM] at hq ⊢; split at hq <;> split <;> omega
    repeat' first | (refine T.rs (fun _ => false) fun K hK => ?_; (repeat (refine aops_go ?_; simp [hq])); refine aops_end (hK _ ?_); clear hK K) | (refine T.rs1 (fun _ => false) fun K hK => ?_; (repeat (refine aops_go ?_; simp [hq])); refine aops_end (hK _ ?_); clear hK K) | refine T.cond rfl (fun hc => ?_) (fun hc => absurd hc (by decide)) | refine T.cond rfl (fun hc => absurd hc (by decide)) (fun hc => ?_) | refine T.seq ?_ | refine T.block ?_ | refine T.skip ?_ | refine T.exit ?_
    refine T.ret (Done.data (Or.inr rfl) ?_ ?_) <;> simp [Tryd.results27, hneg]
  · repeat' first | (refine T.rs (fun _ => false) fun K hK => ?_; (repeat (refine aops_go ?_; simp [hq])); refine aops_end (hK _ ?_); clear hK K) | (refine T.rs1 (fun _ => false) fun K hK => ?_; (repeat (refine aops_go ?_; simp [hq])); refine aops_end (hK _ ?_); clear hK K) | refine T.cond rfl (fun hc => ?_) (fun hc => absurd hc (by decide)) | refine T.cond rfl (fun hc => absurd hc (by decide)) (fun hc => ?_) | refine T.seq ?_ | refine T.block ?_ | refine T.skip ?_ | refine T.exit ?_
    refine T.ret (Done.data (Or.inr rfl) ?_ ?_) <;> simp [Tryd.results27]

theorem szCoercion_ok : (t : MCo) → wCo t → ∀ left : Int, 0 ≤ left → left ≤ 1048576 → ACalls Tryd.prog 27 [aCo t, .i left] [] (.i (szM (nCo t) left)) [] []
  | .mk k tg lb l, hw, left, h0, h1 => by
    rw [wCo_def] at hw
    exact szCoercion_step _ _ (szCoercionS_step l hw.1 (fun t ht left h0 h1 => szCoercion_ok t (wCoS_mem hw.2 ht) left h0 h1) left h0 h1)
termination_by t => SizeOf.sizeOf t
decreasing_by have := List.sizeOf_lt_of_mem ht; simp; omega

theorem toCoercionS_step (l : List MCo) (hl : l.length ≤ 1048576) (h : ∀ t ∈ l, ACalls Tryd.prog 29 [aCo t] [] (aCo t) [] []) : ACalls Tryd.prog 69 [.l (l.map eCo)] [] (.l (l.map eCo)) [] [] := by
  refine ACalls.of_body Tryd.func69 (by kernel_rfl) rfl (by kernel_rfl) (by simp [Tryd.ntmps69]) (by simp) ?_
  rw [Tryd.ntmps69]
  repeat' first | (refine T.rs (fun _ => false) fun K hK => ?_; (repeat (refine aops_go ?_; simp)); refine aops_end (hK _ ?_); clear hK K) | (refine T.rs1 (fun _ => false) fun K hK => ?_; (repeat (refine aops_go ?_; simp)); refine aops_end (hK _ ?_); clear hK K) | refine T.cond rfl (fun hc => ?_) (fun hc => absurd hc (by decide)) | refine T.cond rfl (fun hc => absurd hc (by decide)) (fun hc => ?_) | refine T.seq ?_ | refine T.block ?_ | refine T.skip ?_ | refine T.exit ?_
  refine T.rs1 (fun _ => false) fun K hK => ?_
  repeat (refine aops_go ?_; simp)
  refine ⟨by omega, by omega, ?_⟩
  repeat (refine aops_go ?_; simp)
  refine aops_end (hK _ ?_)
  clear hK K
  repeat' first | (refine T.rs (fun _ => false) fun K hK => ?_; (repeat (refine aops_go ?_; simp)); refine aops_end (hK _ ?_); clear hK K) | (refine T.rs1 (fun _ => false) fun K hK => ?_; (repeat (refine aops_go ?_; simp)); refine aops_end (hK _ ?_); clear hK K) | refine T.cond rfl (fun hc => ?_) (fun hc => absurd hc (by decide)) | refine T.cond rfl (fun hc => absurd hc (by decide)) (fun hc => ?_) | refine T.seq ?_ | refine T.block ?_ | refine T.skip ?_ | refine T.exit ?_
  refine T.loopF (fun p : Nat => ⟨[(0, .l (l.map eCo)), (3, .c (.own 0 l.length)), (4, .i p)], [], [{ sz := 4, ety := 57, rows := fillR eCo [.i 0, .i 0, .i 0, .sl []] l p, wr := true }]⟩) (fun p => l.length + 1 - p) (fun p => p ≤ l.length) (fun p hp => ?_) 0 (by simp) (by simp [fillR_zero])
  by_cases hlt : p < l.length
  · obtain ⟨t, ht⟩ := get_lt hlt
    have htm : t ∈ l := List.mem_of_getElem? ht
    have hgt : l[p] = t := by rw [List.getElem?_eq_getElem hlt] at ht; exact Option.some.inj ht
    repeat' first | (refine T.rs (fun _ => false) fun K hK => ?_; (repeat (refine aops_go ?_; simp [hlt])); refine aops_end (hK _ ?_); clear hK K) | (refine T.rs1 (fun _ => false) fun K hK => ?_; (repeat (refine aops_go ?_; simp [hlt])); refine aops_end (hK _ ?_); clear hK K) | refine T.cond rfl (fun hc => ?_) (fun hc => absurd hc (by decide)) | refine T.cond rfl (fun hc => absurd hc (by decide)) (fun hc => ?_) | refine T.seq ?_ | refine T.block ?_ | refine T.skip ?_ | refine T.exit ?_
    refine T.rs1 (fun _ => false) fun K hK => ?_
    repeat (refine aops_go ?_; simp [hlt, hgt])
    refine wpcall_pure (by simp) (h t htm) ?_
    simp
    repeat (refine aops_go ?_; simp [fillR_len (Nat.le_of_lt hlt), hlt, fillR_at hlt])
    refine aops_end (hK _ ?_)
    clear hK K
    repeat' first | (refine T.rs (fun _ => false) fun K hK => ?_; (repeat (refine aops_go ?_; simp)); refine aops_end (hK _ ?_); clear hK K) | (refine T.rs1 (fun _ => false) fun K hK => ?_; (repeat (refine aops_go ?_; simp)); refine aops_end (hK _ ?_); clear hK K) | refine T.cond rfl (fun hc => ?_) (fun hc => absurd hc (by decide)) | refine T.cond rfl (fun hc => absurd hc (by decide)) (fun hc => ?_) | refine T.seq ?_ | refine T.block ?_ | refine T.skip ?_ | refine T.exit ?_
    refine ⟨p + 1, by dsimp only; omega, by omega, ?_⟩
    have hw2 : IntKind.i64.wrap ((p : Int) + 1) = p + 1 := wrap64 (by omega) (by omega)
    have hfs := fillR_set' (f := eCo) (z := [.i 0, .i 0, .i 0, .sl []]) ht
    rw [eCo_def] at hfs
    simp [hw2, ← hfs]
  · have hp' : p = l.length := by omega
    subst hp'
    repeat' first | (refine T.rs (fun _ => false) fun K hK => ?_; (repeat (refine aops_go ?_; simp [hlt])); refine aops_end (hK _ ?_); clear hK K) | (refine T.rs1 (fun _ => false) fun K hK => ?_; (repeat (refine aops_go ?_; simp [hlt])); refine aops_end (hK _ ?_); clear hK K) | refine T.cond rfl (fun hc => ?_) (fun hc => absurd hc (by decide)) | refine T.cond rfl (fun hc => absurd hc (by decide)) (fun hc => ?_) | refine T.seq ?_ | refine T.block ?_ | refine T.skip ?_ | refine T.exit ?_
    refine T.ret (Done.pure (Or.inr rfl) (x := .c (.own 0 l.length)) ?_ ?_) <;> simp [Tryd.results69, fillR_full]

theorem toCoercion_step (t : MCo) (h : ACalls Tryd.prog 69 [.l (t.kids.map eCo)] [] (.l (t.kids.map eCo)) [] []) : ACalls Tryd.prog 29 [aCo t] [] (aCo t) [] [] := by
  refine ACalls.of_body Tryd.func29 (by kernel_rfl) rfl (by kernel_rfl) (by simp [Tryd.ntmps29]) (by simp) ?_
  rw [Tryd.ntmps29]
  repeat' first | (refine T.rs (fun _ => false) fun K hK => ?_; (repeat (refine aops_go ?_; simp)); refine aops_end (hK _ ?_); clear hK K) | (refine T.rs1 (fun _ => false) fun K hK => ?_; (repeat (refine aops_go ?_; simp)); refine aops_end (hK _ ?_); clear hK K) | refine T.cond rfl (fun hc => ?_) (fun hc => absurd hc (by decide)) | refine T.cond rfl (fun hc => absurd hc (by decide)) (fun hc => ?_) | refine T.seq ?_ | refine T.block ?_ | refine T.skip ?_ | refine T.exit ?_
  refine T.rs1 (fun _ => false) fun K hK => ?_
  repeat (refine aops_go ?_; simp)
  refine wpcall_pure (by simp) (h) ?_
  simp
  repeat (refine aops_go ?_; simp)
  refine aops_end (hK _ ?_)
  clear hK K
  repeat' first | (refine T.rs (fun _ => false) fun K hK => ?_; (repeat (refine aops_go ?_; simp)); refine aops_end (hK _ ?_); clear hK K) | (refine T.rs1 (fun _ => false) fun K hK => ?_; (repeat (refine aops_go ?_; simp)); refine aops_end (hK _ ?_); clear hK K) | refine T.cond rfl (fun hc => ?_) (fun hc => absurd hc (by decide)) | refine T.cond rfl (fun hc => absurd hc (by decide)) (fun hc => ?_) | refine T.seq ?_ | refine T.block ?_ | refine T.skip ?_ | refine T.exit ?_
  refine T.ret (Done.data (Or.inr rfl) ?_ ?_) <;> simp [Tryd.results29]

theorem toCoercion_ok : (t : MCo) → nCo t ≤ 1048576 → ACalls Tryd.prog 29 [aCo t] [] (aCo t) [] []
  | .mk k tg lb l, hn => by
    rw [nCo_def] at hn
    have hl := nCoS_len l
    exact toCoercion_step _ (toCoercionS_step l (by simp at hn; omega) (fun t ht => toCoercion_ok t (by have := nCoS_mem ht; simp at hn; omega)))
termination_by t => SizeOf.sizeOf t
decreasing_by have := List.sizeOf_lt_of_mem ht; simp; omega

theorem eqCoercionS_step (l : List MCo) (hl : l.length ≤ 1048576) (h : ∀ t ∈ l, ACalls Tryd.prog 31 [aCo t, aCo t] [] (.b true) [] []) : ACalls Tryd.prog 72 [.l (l.map eCo), .l (l.map eCo)] [] (.b true) [] [] := by
  refine ACalls.of_body Tryd.func72 (by kernel_rfl) rfl (by kernel_rfl) (by simp [Tryd.ntmps72]) (by simp) ?_
  rw [Tryd.ntmps72]
  repeat' first | (refine T.rs (fun _ => false) fun K hK => ?_; (repeat (refine aops_go ?_; simp)); refine aops_end (hK _ ?_); clear hK K) | (refine T.rs1 (fun _ => false) fun K hK => ?_; (repeat (refine aops_go ?_; simp)); refine aops_end (hK _ ?_); clear hK K) | refine T.cond rfl (fun hc => ?_) (fun hc => absurd hc (by decide)) | refine T.cond rfl (fun hc => absurd hc (by decide)) (fun hc => ?_) | refine T.seq ?_ | refine T.block ?_ | refine T.skip ?_ | refine T.exit ?_
  refine T.loopF (fun p : Nat => ⟨[(0, .l (l.map eCo)), (1, .l (l.map eCo)), (5, .i p)], [], []⟩) (fun p => l.length + 1 - p) (fun p => p ≤ l.length) (fun p hp => ?_) 0 (by simp) (by simp)
  by_cases hlt : p < l.length
  · obtain ⟨t, ht⟩ := get_lt hlt
    have htm : t ∈ l := List.mem_of_getElem? ht
    have hgt : l[p] = t := by rw [List.getElem?_eq_getElem hlt] at ht; exact Option.some.inj ht
    repeat' first | (refine T.rs (fun _ => false) fun K hK => ?_; (repeat (refine aops_go ?_; simp [hlt])); refine aops_end (hK _ ?_); clear hK K) | (refine T.rs1 (fun _ => false) fun K hK => ?_; (repeat (refine aops_go ?_; simp [hlt])); refine aops_end (hK _ ?_); clear hK K) | refine T.cond rfl (fun hc => ?_) (fun hc => absurd hc (by decide)) | refine T.cond rfl (fun hc => absurd hc (by decide)) (fun hc => ?_) | refine T.seq ?_ | refine T.block ?_ | refine T.skip ?_ | refine T.exit ?_
    refine T.rd1 mixed (fun _ => false) [] (by kernel_rfl) fun K hK => ?_
    repeat (refine aopsD_go ?_; simp [hlt, hgt])
    refine wpcall_pure (by simp) (h t htm) ?_
    simp
    repeat (refine aopsD_go ?_; simp)
    refine aopsD_end (hK _ ?_)
    clear hK K
    repeat' first | (refine T.rs (fun _ => false) fun K hK => ?_; (repeat (refine aops_go ?_; simp)); refine aops_end (hK _ ?_); clear hK K) | (refine T.rs1 (fun _ => false) fun K hK => ?_; (repeat (refine aops_go ?_; simp)); refine aops_end (hK _ ?_); clear hK K) | refine T.cond rfl (fun hc => ?_) (fun hc => absurd hc (by decide)) | refine T.cond rfl (fun hc => absurd hc (by decide)) (fun hc => ?_) | refine T.seq ?_ | refine T.block ?_ | refine T.skip ?_ | refine T.exit ?_
    refine ⟨p + 1, by dsimp only; omega, by omega, ?_⟩
    have hw2 : IntKind.i64.wrap ((p : Int) + 1) = p + 1 := wrap64 (by omega) (by omega)
    simp [hw2]
  · have hp' : p = l.length := by omega
    subst hp'
    repeat' first | (refine T.rs (fun _ => false) fun K hK => ?_; (repeat (refine aops_go ?_; simp [hlt])); refine aops_end (hK _ ?_); clear hK K) | (refine T.rs1 (fun _ => false) fun K hK => ?_; (repeat (refine aops_go ?_; simp [hlt])); refine aops_end (hK _ ?_); clear hK K) | refine T.cond rfl (fun hc => ?_) (fun hc => absurd hc (by decide)) | refine T.cond rfl (fun hc => absurd hc (by decide)) (fun hc => ?_) | refine T.seq ?_ | refine T.block ?_ | refine T.skip ?_ | refine T.exit ?_
    refine T.ret (Done.data (Or.inr rfl) ?_ ?_) <;> simp [Tryd.results72]

theorem eqCoercion_step (t : MCo) (h : ACalls Tryd.prog 72 [.l (t.kids.map eCo), .l (t.kids.map eCo)] [] (.b true) [] []) : ACalls Tryd.prog 31 [aCo t, aCo t] [] (.b true) [] [] := by
  refine ACalls.of_body Tryd.func31 (by kernel_rfl) rfl (by kernel_rfl) (by simp [Tryd.ntmps31]) (by simp) ?_
  rw [Tryd.ntmps31]
  repeat' first | (refine T.rs (fun _ => false) fun K hK => ?_; (repeat (refine aops_go ?_; simp)); refine aops_end (hK _ ?_); clear hK K) | (refine T.rs1 (fun _ => false) fun K hK => ?_; (repeat (refine aops_go ?_; simp)); refine aops_end (hK _ ?_); clear hK K) | refine T.cond rfl (fun hc => ?_) (fun hc => absurd hc (by decide)) | refine T.cond rfl (fun hc => absurd hc (by decide)) (fun hc => ?_) | refine T.seq ?_ | refine T.block ?_ | refine T.skip ?_ | refine T.exit ?_
  refine T.rs1 (fun _ => false) fun K hK => ?_
  repeat (refine aops_go ?_; simp)
  refine wpcall_pure (by simp) (h) ?_
  simp
  repeat (refine aops_go ?_; simp)
  refine aops_end (hK _ ?_)
  clear hK K
  repeat' first | (refine T.rs (fun _ => false) fun K hK => ?_; (repeat (refine aops_go ?_; simp)); refine aops_end (hK _ ?_); clear hK K) | (refine T.rs1 (fun _ => false) fun K hK => ?_; (repeat (refine aops_go ?_; simp)); refine aops_end (hK _ ?_); clear hK K) | refine T.cond rfl (fun hc => ?_) (fun hc => absurd hc (by decide)) | refine T.cond rfl (fun hc => absurd hc (by decide)) (fun hc => ?_) | refine T.seq ?_ | refine T.block ?_ | refine T.skip ?_ | refine T.exit ?_
  refine T.ret (Done.data (Or.inr rfl) ?_ ?_) <;> simp [Tryd.results31]

theorem eqCoercion_ok : (t : MCo) → nCo t ≤ 1048576 → ACalls Tryd.prog 31 [aCo t, aCo t] [] (.b true) [] []
  | .mk k tg lb l, hn => by
    rw [nCo_def] at hn
    have hl := nCoS_len l
    exact eqCoercion_step _ (eqCoercionS_step l (by simp at hn; omega) (fun t ht => eqCoercion_ok t (by have := nCoS_mem ht; simp at hn; omega)))
termination_by t => SizeOf.sizeOf t
decreasing_by have := List.sizeOf_lt_of_mem ht; simp; omega

end Go.Proofs.YtjllgkglfabhaaaDoor

namespace Go.Proofs.YtjllgkglfabhaaaDoor
attribute [-simp] Go.Av.freeStep Go.Av.exV Go.Av.keepL Go.Av.ups Go.Av.take_app_len Go.Av.MCo.kind_mk Go.Av.MCo.tag_mk Go.Av.MCo.label_mk Go.Av.MCo.kids_mk Go.Av.innVs Go.Av.putBack Go.Av.objCells Go.Av.back Go.Av.resVs Go.Av.one Go.Av.freeStepG Go.Av.exA Go.Av.innAsH Go.Av.AV.innH Go.Av.CV.innH Go.Av.innHs Go.Av.AV.outnH Go.Av.CV.outnH
open Go Go.Av
attribute [local irreducible] T ACalls eTy eTm MTy.kind MTy.kids MTm.kind MTm.name MTm.num MTm.ty MTm.fr MTm.label MTm.kids
attribute [local simp] eTy_def eTm_def
set_option maxHeartbeats 4000000

end Go.Proofs.YtjllgkglfabhaaaDoor

namespace Go.Proofs.YtjllgkglfabhaaaDoor
attribute [-simp] Go.Av.keepL Go.Av.ups Go.Av.take_app_len Go.Av.MCo.kind_mk Go.Av.MCo.tag_mk Go.Av.MCo.label_mk Go.Av.MCo.kids_mk Go.Av.innVs Go.Av.putBack Go.Av.objCells Go.Av.back Go.Av.resVs Go.Av.one Go.Av.freeStepG Go.Av.exA Go.Av.innAsH Go.Av.AV.innH Go.Av.CV.innH Go.Av.innHs Go.Av.AV.outnH Go.Av.CV.outnH
open Go Go.Av
attribute [local irreducible] T ACalls eTy eTm MTy.kind MTy.kids MTm.kind MTm.name MTm.num MTm.ty MTm.fr MTm.label MTm.kids
attribute [local simp] eTy_def eTm_def
set_option maxHeartbeats 4000000
attribute [local simp] Option.bind

end Go.Proofs.YtjllgkglfabhaaaDoor

namespace Go.Proofs.YtjllgkglfabhaaaDoor
attribute [-simp] Go.Av.keepL Go.Av.ups Go.Av.take_app_len Go.Av.MCo.kind_mk Go.Av.MCo.tag_mk Go.Av.MCo.label_mk Go.Av.MCo.kids_mk Go.Av.innVs Go.Av.putBack Go.Av.objCells Go.Av.back Go.Av.resVs Go.Av.one Go.Av.freeStepG Go.Av.exA Go.Av.innAsH Go.Av.AV.innH Go.Av.CV.innH Go.Av.innHs Go.Av.AV.outnH Go.Av.CV.outnH
open Go Go.Av
attribute [local irreducible] T ACalls eTy eTm MTy.kind MTy.kids MTm.kind MTm.name MTm.num MTm.ty MTm.fr MTm.label MTm.kids
attribute [local simp] eTy_def eTm_def
set_option maxHeartbeats 4000000

end Go.Proofs.YtjllgkglfabhaaaDoor

namespace Go.Proofs.YtjllgkglfabhaaaDoor
attribute [-simp] Go.Av.keepL Go.Av.ups Go.Av.take_app_len Go.Av.MCo.kind_mk Go.Av.MCo.tag_mk Go.Av.MCo.label_mk Go.Av.MCo.kids_mk Go.Av.innVs Go.Av.putBack Go.Av.objCells Go.Av.back Go.Av.resVs Go.Av.one Go.Av.freeStepG Go.Av.exA Go.Av.innAsH Go.Av.AV.innH Go.Av.CV.innH Go.Av.innHs Go.Av.AV.outnH Go.Av.CV.outnH
open Go Go.Av
attribute [local irreducible] T ACalls eTy eTm MTy.kind MTy.kids MTm.kind MTm.name MTm.num MTm.ty MTm.fr MTm.label MTm.kids
attribute [local simp] eTy_def eTm_def
set_option maxHeartbeats 4000000

end Go.Proofs.YtjllgkglfabhaaaDoor

namespace Go.Proofs.YtjllgkglfabhaaaDoor
attribute [-simp] Go.Av.keepL Go.Av.ups Go.Av.take_app_len Go.Av.MCo.kind_mk Go.Av.MCo.tag_mk Go.Av.MCo.label_mk Go.Av.MCo.kids_mk Go.Av.innVs Go.Av.putBack Go.Av.objCells Go.Av.back Go.Av.resVs Go.Av.one Go.Av.freeStepG Go.Av.exA Go.Av.innAsH Go.Av.AV.innH Go.Av.CV.innH Go.Av.innHs Go.Av.AV.outnH Go.Av.CV.outnH
open Go Go.Av
attribute [local irreducible] T ACalls eTy eTm MTy.kind MTy.kids MTm.kind MTm.name MTm.num MTm.ty MTm.fr MTm.label MTm.kids
attribute [local simp] eTy_def eTm_def
set_option maxHeartbeats 4000000

/-- The type of a term in a context, as_ TypeIn answers it. -/
def typeInM (ctx : List MBd) (e : MTm) : Option MTy := if ctxM ctx = true ∧ termValidM e = true then typeM ctx e else none

abbrev tyRes : Option MTy → List AV
  | some t => [aTy t, .b true]
  | none => [aTy zeroT, .b false]

end Go.Proofs.YtjllgkglfabhaaaDoor
