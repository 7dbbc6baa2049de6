import Derived.Test.YtdbffbmbbfbamaaChecked
import Derived.Test.YtdbffbmbbfbamaaA15
namespace Go.Proofs.Ytdbffbmbbfbamaa
open Go Go.Av
attribute [local irreducible] T
@[simp] theorem td22 : td Try.prog 22 = some { ag := false, sz := 1, by_ := 24, zero := some [.nil], el := some 54, ar := none, fl := [], ik := none, isS := false, isB := false } := keep (by kernel_rfl)
@[simp] theorem td54 : td Try.prog 54 = some { ag := true, sz := 2, by_ := 16, zero := some [.d (.int .i64 0), .d (.int .i64 0)], el := none, ar := none, fl := [(0,1),(1,1)], ik := none, isS := false, isB := false } := keep (by kernel_rfl)
@[simp] theorem td25 : td Try.prog 25 = some { ag := false, sz := 1, by_ := 24, zero := some [.nil], el := some 52, ar := none, fl := [], ik := none, isS := false, isB := false } := keep (by kernel_rfl)
@[simp] theorem td52 : td Try.prog 52 = some { ag := true, sz := 2, by_ := 16, zero := some [.d (.int .i64 0), .d (.int .i64 0)], el := none, ar := none, fl := [(0,1),(1,1)], ik := none, isS := false, isB := false } := keep (by kernel_rfl)
@[simp] theorem td3 : td Try.prog 3 = some { ag := false, sz := 1, by_ := 8, zero := some [.d (.int .i64 0)], el := none, ar := none, fl := [], ik := some .i64, isS := false, isB := false } := keep (by kernel_rfl)
@[simp] theorem td4 : td Try.prog 4 = some { ag := false, sz := 1, by_ := 1, zero := some [.d (.bool false)], el := none, ar := none, fl := [], ik := none, isS := false, isB := true } := keep (by kernel_rfl)
@[simp] theorem sq52 : sq Try.prog 52 = some [0, 0] := keep (by kernel_rfl)
theorem mixed : Try.prog.follows .mixedOrders = true := by kernel_rfl
structure MOp where
  kind : Int
  a : Int
deriving DecidableEq
@[simp] def eOp (o : MOp) : List DV := [.i o.kind, .i o.a]
abbrev eOps (l : List MOp) : List (List DV) := l.map eOp

def szOpS (l : List MOp) (left : Int) : Int := if IntKind.i64.wrap (left - l.length) < 0 then -1 else IntKind.i64.wrap (left - l.length)

theorem szOpS_ok (l : List MOp) (left : Int) : ACalls Try.prog 7 [.l (eOps l), .i left] [] (.i (szOpS l left)) [] [] := by
  refine ACalls.of_body Try.func7 (by kernel_rfl) rfl (by kernel_rfl) (by simp [Try.ntmps7]) (by simp) ?_
  rw [Try.ntmps7]
  refine T.rs (fun _ => false) fun K hK => ?_
  repeat (refine aops_go ?_; simp)
  refine aops_end (hK _ ?_)
  refine T.rs (fun _ => false) fun K hK => ?_
  repeat (refine aops_go ?_; simp)
  refine aops_end (hK _ ?_)
  refine T.seq ?_
  refine T.rs (fun _ => false) fun K hK => ?_
  repeat (refine aops_go ?_; simp)
  refine aops_end (hK _ ?_)
  refine T.cond rfl (fun hb => ?_) (fun hb => ?_)
  · refine T.rs (fun _ => false) fun K hK => ?_
    repeat (refine aops_go ?_; simp)
    refine aops_end (hK _ ?_)
    refine T.ret (Done.pure (Or.inr rfl) (x := .i (szOpS l left)) ?_ ?_)
    · simp [Try.results7]
      simp [szOpS]; simp at hb; omega
    · simp
  · refine T.skip ?_
    refine T.rs (fun _ => false) fun K hK => ?_
    repeat (refine aops_go ?_; simp)
    refine aops_end (hK _ ?_)
    refine T.ret (Done.pure (Or.inr rfl) (x := .i (szOpS l left)) ?_ ?_)
    · simp [Try.results7]
      simp [szOpS]; simp at hb; omega
    · simp

theorem toOp_ok (o : MOp) : ACalls Try.prog 20 [.agg [.d (.i o.kind), .d (.i o.a)]] [] (.agg [.d (.i o.kind), .d (.i o.a)]) [] [] := by
  refine ACalls.of_body Try.func20 (by kernel_rfl) rfl (by kernel_rfl) (by simp [Try.ntmps20]) (by simp) ?_
  rw [Try.ntmps20]
  refine T.rs (fun _ => false) fun K hK => ?_
  repeat (refine aops_go ?_; simp)
  refine aops_end (hK _ ?_)
  refine T.rs (fun _ => false) fun K hK => ?_
  repeat (refine aops_go ?_; simp)
  refine aops_end (hK _ ?_)
  refine T.rs (fun _ => false) fun K hK => ?_
  repeat (refine aops_go ?_; simp)
  refine aops_end (hK _ ?_)
  refine T.rs (fun _ => false) fun K hK => ?_
  repeat (refine aops_go ?_; simp)
  refine aops_end (hK _ ?_)
  refine T.rs (fun _ => false) fun K hK => ?_
  repeat (refine aops_go ?_; simp)
  refine aops_end (hK _ ?_)
  refine T.ret (Done.pure (Or.inr rfl) (x := .agg [.d (.i o.kind), .d (.i o.a)]) ?_ ?_)
  · simp [Try.results20]
  · simp


theorem toOpS_ok (l : List MOp) (hl : l.length ≤ 1048576) : ACalls Try.prog 9 [.l (eOps l)] [] (.l (eOps l)) [] [] := by
  refine ACalls.of_body Try.func9 (by kernel_rfl) rfl (by kernel_rfl) (by simp [Try.ntmps9]) (by simp) ?_
  rw [Try.ntmps9]
  refine T.rs (fun _ => false) fun K hK => ?_
  repeat (refine aops_go ?_; simp)
  refine aops_end (hK _ ?_)
  clear hK K
  refine T.rs (fun _ => false) fun K hK => ?_
  repeat (refine aops_go ?_; simp)
  refine ⟨by omega, by omega, ?_⟩
  repeat (refine aops_go ?_; simp)
  refine aops_end (hK _ ?_)
  clear hK K
  repeat' first
    | (refine T.rs (fun _ => false) fun K hK => ?_; (repeat (refine aops_go ?_; simp)); refine aops_end (hK _ ?_); clear hK)
    | refine T.seq ?_
    | refine T.block ?_
    | refine T.skip ?_
  refine T.loopF (fun i : Nat => ⟨[(0, .l (eOps l)), (3, .c (.own 0 l.length)), (4, .i i)], [], [{ sz := 2, ety := 52, rows := fillR eOp [.i 0, .i 0] l i, wr := true }]⟩) (fun i => l.length + 1 - i) (fun i => i ≤ l.length) (fun i hi => ?_) 0 (by simp) (by simp [fillR_zero])
  repeat' first
    | (refine T.rs (fun _ => false) fun K hK => ?_; (repeat (refine aops_go ?_; simp)); refine aops_end (hK _ ?_); clear hK)
    | refine T.seq ?_
    | refine T.block ?_
    | refine T.skip ?_
  refine T.cond rfl (fun hb => ?_) (fun hb => ?_)
  · have hlt : i < l.length := by simpa using hb
    obtain ⟨o, ho⟩ := get_lt hlt
    refine T.skip ?_
    refine T.seq ?_
    refine T.block ?_
    refine T.rs1 (fun _ => false) fun K hK => ?_
    repeat (refine aops_go ?_; simp [ho])
    refine wpcall_pure (by simp) (toOp_ok o) ?_
    simp
    repeat (refine aops_go ?_; simp [fillR_len (Nat.le_of_lt hlt), hlt, fillR_at hlt])
    refine aops_end (hK _ ?_)
    clear hK K
    refine T.rs1 (fun _ => false) fun K hK => ?_
    repeat (refine aops_go ?_; simp)
    refine aops_end (hK _ ?_)
    refine ⟨i + 1, by dsimp only; omega, by omega, ?_⟩
    have hw : IntKind.i64.wrap ((i : Int) + 1) = i + 1 := wrap64 (by omega) (by omega)
    simp [← fillR_set' ho, hw]
  · refine T.exit ?_
    have hi' : i = l.length := by simp at hb; omega
    subst hi'
    refine T.rs (fun _ => false) fun K hK => ?_
    repeat (refine aops_go ?_; simp)
    refine aops_end (hK _ ?_)
    refine T.ret (Done.pure (Or.inr rfl) (x := .c (.own 0 l.length)) ?_ ?_)
    · simp [Try.results9]
    · simp [fillR_full]

theorem opsEq_ok (l m : List MOp) (hl : l.length ≤ 1048576) : ACalls Try.prog 8 [.l (eOps l), .l (eOps m)] [] (.b (decide (l = m))) [] [] := by
  refine ACalls.of_body Try.func8 (by kernel_rfl) rfl (by kernel_rfl) (by simp [Try.ntmps8]) (by simp) ?_
  rw [Try.ntmps8]
  repeat' first
    | (refine T.rs (fun _ => false) fun K hK => ?_; (repeat (refine aops_go ?_; simp)); refine aops_end (hK _ ?_); clear hK)
    | refine T.seq ?_
    | refine T.block ?_
    | refine T.skip ?_
  refine T.cond rfl (fun hb => ?_) (fun hb => ?_)
  · repeat' first
        | (refine T.rs (fun _ => false) fun K hK => ?_; (repeat (refine aops_go ?_; simp)); refine aops_end (hK _ ?_); clear hK)
        | refine T.seq ?_
        | refine T.block ?_
        | refine T.skip ?_
    refine T.ret (Done.pure (Or.inr rfl) (x := .b (decide (l = m))) ?_ ?_)
    · simp [Try.results8]
      rintro rfl; simp at hb
    · simp
  · have hlm : l.length = m.length := by simp at hb; omega
    clear hb
    repeat' first
        | (refine T.rs (fun _ => false) fun K hK => ?_; (repeat (refine aops_go ?_; simp)); refine aops_end (hK _ ?_); clear hK)
        | refine T.seq ?_
        | refine T.block ?_
        | refine T.skip ?_
    refine T.loopF (fun i : Nat => ⟨[(0, .l (eOps l)), (1, .l (eOps m)), (5, .i i)], [], []⟩) (fun i => l.length + 1 - i) (fun i => i ≤ l.length ∧ l.take i = m.take i) (fun i hi => ?_) 0 (by simp) (by simp)
    obtain ⟨hi, he⟩ := hi
    repeat' first
        | (refine T.rs (fun _ => false) fun K hK => ?_; (repeat (refine aops_go ?_; simp)); refine aops_end (hK _ ?_); clear hK)
        | refine T.seq ?_
        | refine T.block ?_
        | refine T.skip ?_
    refine T.cond rfl (fun hb => ?_) (fun hb => ?_)
    · have hlt : i < l.length := by simpa using hb
      obtain ⟨o, ho⟩ := get_lt hlt
      obtain ⟨o', ho'⟩ := get_lt (l := m) (i := i) (by omega)
      repeat' first
        | (refine T.rs (fun _ => false) fun K hK => ?_; (repeat (refine aops_go ?_; simp)); refine aops_end (hK _ ?_); clear hK)
        | refine T.seq ?_
        | refine T.block ?_
        | refine T.skip ?_
      refine T.rd1 mixed (fun _ => false) [] (by kernel_rfl) fun K hK => ?_
      repeat (refine aopsD_go ?_; simp [ho, ho'])
      refine aopsD_end (hK _ ?_)
      clear hK
      have hoo : (o = o') ↔ (o.kind = o'.kind ∧ o.a = o'.a) := by cases o; cases o'; simp
      refine T.cond rfl (fun hc => ?_) (fun hc => ?_)
      · repeat' first
            | (refine T.rs (fun _ => false) fun K hK => ?_; (repeat (refine aops_go ?_; simp)); refine aops_end (hK _ ?_); clear hK)
            | refine T.seq ?_
            | refine T.block ?_
            | refine T.skip ?_
        refine T.ret (Done.pure (Or.inr rfl) (x := .b (decide (l = m))) ?_ ?_)
        · simp [Try.results8]
          rintro rfl
          rw [ho] at ho'; simp at ho'; subst ho'
          simp at hc
        · simp
      · have hoe : o = o' := by rw [hoo]; simpa using hc
        subst hoe
        refine T.skip ?_
        refine T.rs1 (fun _ => false) fun K hK => ?_
        repeat (refine aops_go ?_; simp)
        refine aops_end (hK _ ?_)
        refine ⟨i + 1, by dsimp only; omega, ⟨by omega, by rw [List.take_add_one, List.take_add_one, he, ho, ho']⟩, ?_⟩
        have hw : IntKind.i64.wrap ((i : Int) + 1) = i + 1 := wrap64 (by omega) (by omega)
        simp [hw]
    · refine T.exit ?_
      have hi' : i = l.length := by simp at hb; omega
      subst hi'
      have hlm' : l = m := by rw [List.take_of_length_le (by omega), List.take_of_length_le (by omega)] at he; exact he
      refine T.rs (fun _ => false) fun K hK => ?_
      repeat (refine aops_go ?_; simp)
      refine aops_end (hK _ ?_)
      refine T.ret (Done.pure (Or.inr rfl) (x := .b (decide (l = m))) ?_ ?_)
      · simp [Try.results8, hlm']
      · simp

theorem slicesEq_ok (l m : List MOp) (hl : l.length ≤ 1048576) : ACalls Try.prog 21 [.l (eOps l), .l (eOps m)] [] (.b (decide (l = m))) [] [] := by
  refine ACalls.of_body Try.func21 (by kernel_rfl) rfl (by kernel_rfl) (by simp [Try.ntmps21]) (by simp) ?_
  rw [Try.ntmps21]
  repeat' first
    | (refine T.rs (fun _ => false) fun K hK => ?_; (repeat (refine aops_go ?_; simp)); refine aops_end (hK _ ?_); clear hK)
    | refine T.seq ?_
    | refine T.block ?_
    | refine T.skip ?_
  refine T.cond rfl (fun hb => ?_) (fun hb => ?_)
  · repeat' first
        | (refine T.rs (fun _ => false) fun K hK => ?_; (repeat (refine aops_go ?_; simp)); refine aops_end (hK _ ?_); clear hK)
        | refine T.seq ?_
        | refine T.block ?_
        | refine T.skip ?_
    refine T.ret (Done.pure (Or.inr rfl) (x := .b (decide (l = m))) ?_ ?_)
    · simp [Try.results21]
      rintro rfl; simp at hb
    · simp
  · have hlm : l.length = m.length := by simp at hb; omega
    clear hb
    repeat' first
        | (refine T.rs (fun _ => false) fun K hK => ?_; (repeat (refine aops_go ?_; simp)); refine aops_end (hK _ ?_); clear hK)
        | refine T.seq ?_
        | refine T.block ?_
        | refine T.skip ?_
    refine T.loopF (fun i : Nat => ⟨[(0, .l (eOps l)), (1, .l (eOps m)), (12, .i l.length), (13, .i i)], [], []⟩) (fun i => l.length + 1 - i) (fun i => i ≤ l.length ∧ l.take i = m.take i) (fun i hi => ?_) 0 (by simp) (by simp)
    obtain ⟨hi, he⟩ := hi
    repeat' first
        | (refine T.rs (fun _ => false) fun K hK => ?_; (repeat (refine aops_go ?_; simp)); refine aops_end (hK _ ?_); clear hK)
        | refine T.seq ?_
        | refine T.block ?_
        | refine T.skip ?_
    refine T.cond rfl (fun hb => ?_) (fun hb => ?_)
    · have hlt : i < l.length := by simpa using hb
      obtain ⟨o, ho⟩ := get_lt hlt
      obtain ⟨o', ho'⟩ := get_lt (l := m) (i := i) (by omega)
      repeat' first
        | (refine T.rs (fun _ => false) fun K hK => ?_; (repeat (refine aops_go ?_; simp)); refine aops_end (hK _ ?_); clear hK)
        | refine T.seq ?_
        | refine T.block ?_
        | refine T.skip ?_
      refine T.rd1 mixed (fun _ => false) [] (by kernel_rfl) fun K hK => ?_
      repeat (refine aopsD_go ?_; simp [ho, ho'])
      refine aopsD_end (hK _ ?_)
      clear hK
      have hoo : (o = o') ↔ (o.kind = o'.kind ∧ o.a = o'.a) := by cases o; cases o'; simp
      refine T.cond rfl (fun hc => ?_) (fun hc => ?_)
      · repeat' first
            | (refine T.rs (fun _ => false) fun K hK => ?_; (repeat (refine aops_go ?_; simp)); refine aops_end (hK _ ?_); clear hK)
            | refine T.seq ?_
            | refine T.block ?_
            | refine T.skip ?_
        refine T.ret (Done.pure (Or.inr rfl) (x := .b (decide (l = m))) ?_ ?_)
        · simp [Try.results21]
          rintro rfl
          rw [ho] at ho'; simp at ho'; subst ho'
          simp at hc
        · simp
      · have hoe : o = o' := by rw [hoo]; simpa using hc
        subst hoe
        refine T.skip ?_
        refine T.rs1 (fun _ => false) fun K hK => ?_
        repeat (refine aops_go ?_; simp)
        refine aops_end (hK _ ?_)
        refine ⟨i + 1, by dsimp only; omega, ⟨by omega, by rw [List.take_add_one, List.take_add_one, he, ho, ho']⟩, ?_⟩
        have hw : IntKind.i64.wrap ((i : Int) + 1) = i + 1 := wrap64 (by omega) (by omega)
        simp [hw]
    · refine T.exit ?_
      have hi' : i = l.length := by simp at hb; omega
      subst hi'
      have hlm' : l = m := by rw [List.take_of_length_le (by omega), List.take_of_length_le (by omega)] at he; exact he
      refine T.rs (fun _ => false) fun K hK => ?_
      repeat (refine aops_go ?_; simp)
      refine aops_end (hK _ ?_)
      refine T.ret (Done.pure (Or.inr rfl) (x := .b (decide (l = m))) ?_ ?_)
      · simp [Try.results21, hlm']
      · simp

theorem eqOp_ok (o o' : MOp) : ACalls Try.prog 22 [.agg [.d (.i o.kind), .d (.i o.a)], .agg [.d (.i o'.kind), .d (.i o'.a)]] [] (.b (decide (o = o'))) [] [] := by
  refine ACalls.of_body Try.func22 (by kernel_rfl) rfl (by kernel_rfl) (by simp [Try.ntmps22]) (by simp) ?_
  rw [Try.ntmps22]
  have hoo : (o = o') ↔ (o.kind = o'.kind ∧ o.a = o'.a) := by cases o; cases o'; simp
  repeat' first
    | (refine T.rs (fun _ => false) fun K hK => ?_; (repeat (refine aops_go ?_; simp)); refine aops_end (hK _ ?_); clear hK)
    | refine T.seq ?_
    | refine T.block ?_
    | refine T.skip ?_
  refine T.cond rfl (fun hc => ?_) (fun hc => ?_)
  · repeat' first
        | (refine T.rs (fun _ => false) fun K hK => ?_; (repeat (refine aops_go ?_; simp)); refine aops_end (hK _ ?_); clear hK)
        | refine T.seq ?_
        | refine T.block ?_
        | refine T.skip ?_
    refine T.ret (Done.pure (Or.inr rfl) (x := .b (decide (o = o'))) ?_ ?_)
    · simp [Try.results22]
      simp at hc; simp [hoo, hc]
    · simp
  · repeat' first
        | (refine T.rs (fun _ => false) fun K hK => ?_; (repeat (refine aops_go ?_; simp)); refine aops_end (hK _ ?_); clear hK)
        | refine T.seq ?_
        | refine T.block ?_
        | refine T.skip ?_
    refine T.cond rfl (fun hd => ?_) (fun hd => ?_)
    · repeat' first
          | (refine T.rs (fun _ => false) fun K hK => ?_; (repeat (refine aops_go ?_; simp)); refine aops_end (hK _ ?_); clear hK)
          | refine T.seq ?_
          | refine T.block ?_
          | refine T.skip ?_
      refine T.ret (Done.pure (Or.inr rfl) (x := .b (decide (o = o'))) ?_ ?_)
      · simp [Try.results22]
        simp at hd; simp [hoo, hd]
      · simp
    · repeat' first
          | (refine T.rs (fun _ => false) fun K hK => ?_; (repeat (refine aops_go ?_; simp)); refine aops_end (hK _ ?_); clear hK)
          | refine T.seq ?_
          | refine T.block ?_
          | refine T.skip ?_
      refine T.ret (Done.pure (Or.inr rfl) (x := .b (decide (o = o'))) ?_ ?_)
      · simp [Try.results22]
        simp at hc hd; simp [hoo, hc, hd]
      · simp

theorem eqOpS_ok (l m : List MOp) (hl : l.length ≤ 1048576) : ACalls Try.prog 11 [.l (eOps l), .l (eOps m)] [] (.b (decide (l = m))) [] [] := by
  refine ACalls.of_body Try.func11 (by kernel_rfl) rfl (by kernel_rfl) (by simp [Try.ntmps11]) (by simp) ?_
  rw [Try.ntmps11]
  repeat' first
    | (refine T.rs (fun _ => false) fun K hK => ?_; (repeat (refine aops_go ?_; simp)); refine aops_end (hK _ ?_); clear hK)
    | refine T.seq ?_
    | refine T.block ?_
    | refine T.skip ?_
  refine T.cond rfl (fun hb => ?_) (fun hb => ?_)
  · repeat' first
        | (refine T.rs (fun _ => false) fun K hK => ?_; (repeat (refine aops_go ?_; simp)); refine aops_end (hK _ ?_); clear hK)
        | refine T.seq ?_
        | refine T.block ?_
        | refine T.skip ?_
    refine T.ret (Done.pure (Or.inr rfl) (x := .b (decide (l = m))) ?_ ?_)
    · simp [Try.results11]
      rintro rfl; simp at hb
    · simp
  · have hlm : l.length = m.length := by simp at hb; omega
    clear hb
    repeat' first
        | (refine T.rs (fun _ => false) fun K hK => ?_; (repeat (refine aops_go ?_; simp)); refine aops_end (hK _ ?_); clear hK)
        | refine T.seq ?_
        | refine T.block ?_
        | refine T.skip ?_
    refine T.loopF (fun i : Nat => ⟨[(0, .l (eOps l)), (1, .l (eOps m)), (5, .i i)], [], []⟩) (fun i => l.length + 1 - i) (fun i => i ≤ l.length ∧ l.take i = m.take i) (fun i hi => ?_) 0 (by simp) (by simp)
    obtain ⟨hi, he⟩ := hi
    repeat' first
        | (refine T.rs (fun _ => false) fun K hK => ?_; (repeat (refine aops_go ?_; simp)); refine aops_end (hK _ ?_); clear hK)
        | refine T.seq ?_
        | refine T.block ?_
        | refine T.skip ?_
    refine T.cond rfl (fun hb => ?_) (fun hb => ?_)
    · have hlt : i < l.length := by simpa using hb
      obtain ⟨o, ho⟩ := get_lt hlt
      obtain ⟨o', ho'⟩ := get_lt (l := m) (i := i) (by omega)
      repeat' first
        | (refine T.rs (fun _ => false) fun K hK => ?_; (repeat (refine aops_go ?_; simp)); refine aops_end (hK _ ?_); clear hK)
        | refine T.seq ?_
        | refine T.block ?_
        | refine T.skip ?_
      refine T.rd1 mixed (fun _ => false) [] (by kernel_rfl) fun K hK => ?_
      repeat (refine aopsD_go ?_; simp [ho, ho'])
      refine wpcall_pure (by simp) (eqOp_ok o o') ?_
      simp
      repeat (refine aopsD_go ?_; simp)
      refine aopsD_end (hK _ ?_)
      clear hK
      refine T.cond rfl (fun hc => ?_) (fun hc => ?_)
      · repeat' first
            | (refine T.rs (fun _ => false) fun K hK => ?_; (repeat (refine aops_go ?_; simp)); refine aops_end (hK _ ?_); clear hK)
            | refine T.seq ?_
            | refine T.block ?_
            | refine T.skip ?_
        refine T.ret (Done.pure (Or.inr rfl) (x := .b (decide (l = m))) ?_ ?_)
        · simp [Try.results11]
          rintro rfl
          rw [ho] at ho'; simp at ho'; subst ho'
          simp at hc
        · simp
      · have hoe : o = o' := by simpa using hc
        subst hoe
        refine T.skip ?_
        refine T.rs1 (fun _ => false) fun K hK => ?_
        repeat (refine aops_go ?_; simp)
        refine aops_end (hK _ ?_)
        refine ⟨i + 1, by dsimp only; omega, ⟨by omega, by rw [List.take_add_one, List.take_add_one, he, ho, ho']⟩, ?_⟩
        have hw : IntKind.i64.wrap ((i : Int) + 1) = i + 1 := wrap64 (by omega) (by omega)
        simp [hw]
    · refine T.exit ?_
      have hi' : i = l.length := by simp at hb; omega
      subst hi'
      have hlm' : l = m := by rw [List.take_of_length_le (by omega), List.take_of_length_le (by omega)] at he; exact he
      refine T.rs (fun _ => false) fun K hK => ?_
      repeat (refine aops_go ?_; simp)
      refine aops_end (hK _ ?_)
      refine T.ret (Done.pure (Or.inr rfl) (x := .b (decide (l = m))) ?_ ?_)
      · simp [Try.results11, hlm']
      · simp

theorem opsSame_ok (l m : List MOp) (hl : l.length ≤ 1048576) : ACalls Try.prog 10 [.l (eOps l), .l (eOps m)] [] (.b (decide (l = m))) [] [] := by
  refine ACalls.of_body Try.func10 (by kernel_rfl) rfl (by kernel_rfl) (by simp [Try.ntmps10]) (by simp) ?_
  rw [Try.ntmps10]
  repeat' first
    | (refine T.rs (fun _ => false) fun K hK => ?_; (repeat (refine aops_go ?_; simp)); refine aops_end (hK _ ?_); clear hK)
    | refine T.seq ?_
    | refine T.block ?_
    | refine T.skip ?_
  refine T.rs1 (fun _ => false) fun K hK => ?_
  repeat (refine aops_go ?_; simp)
  refine wpcall_pure (by simp) (slicesEq_ok l m hl) ?_
  simp
  repeat (refine aops_go ?_; simp)
  refine aops_end (hK _ ?_)
  refine T.ret (Done.pure (Or.inr rfl) (x := .b (decide (l = m))) ?_ ?_)
  · simp [Try.results10]
  · simp

theorem law_ok (l m : List MOp) (hl : l.length ≤ 9223372036854775807) (hm : m.length ≤ 9223372036854775807) : ACalls Try.prog 3 [.l (eOps l), .l (eOps m)] [] (.b true) [] [] := by
  refine ACalls.of_body Try.func3 (by kernel_rfl) rfl (by kernel_rfl) (by simp [Try.ntmps3]) (by simp) ?_
  rw [Try.ntmps3]
  repeat' first
    | (refine T.rs (fun _ => false) fun K hK => ?_; (repeat (refine aops_go ?_; simp)); refine aops_end (hK _ ?_); clear hK)
    | refine T.seq ?_
    | refine T.block ?_
    | refine T.skip ?_
  refine T.rs1 (fun _ => false) fun K hK => ?_
  repeat (refine aops_go ?_; simp)
  refine wpcall_pure (by simp) (szOpS_ok l 1048576) ?_
  simp
  repeat (refine aops_go ?_; simp)
  refine aops_end (hK _ ?_)
  clear hK
  repeat' first
    | (refine T.rs (fun _ => false) fun K hK => ?_; (repeat (refine aops_go ?_; simp)); refine aops_end (hK _ ?_); clear hK)
    | refine T.seq ?_
    | refine T.block ?_
    | refine T.skip ?_
  refine T.cond rfl (fun hb => ?_) (fun hb => ?_)
  · repeat' first
        | (refine T.rs (fun _ => false) fun K hK => ?_; (repeat (refine aops_go ?_; simp)); refine aops_end (hK _ ?_); clear hK)
        | refine T.seq ?_
        | refine T.block ?_
        | refine T.skip ?_
    refine T.ret (Done.pure (Or.inr rfl) (x := .b true) ?_ ?_)
    · simp [Try.results3]
    · simp
  have h1 : szOpS l 1048576 = 1048576 - (l.length : Int) ∧ l.length ≤ 1048576 := by
    have hw : IntKind.i64.wrap (1048576 - (l.length : Int)) = 1048576 - l.length := wrap64 (by omega) (by omega)
    simp only [szOpS, hw, decide_eq_false_iff_not] at hb ⊢
    split at hb <;> omega
  clear hb
  obtain ⟨h1, hl'⟩ := h1
  rw [h1]
  repeat' first
    | (refine T.rs (fun _ => false) fun K hK => ?_; (repeat (refine aops_go ?_; simp)); refine aops_end (hK _ ?_); clear hK)
    | refine T.seq ?_
    | refine T.block ?_
    | refine T.skip ?_
  refine T.rs1 (fun _ => false) fun K hK => ?_
  repeat (refine aops_go ?_; simp)
  refine wpcall_pure (by simp) (szOpS_ok m (1048576 - (l.length : Int))) ?_
  simp
  repeat (refine aops_go ?_; simp)
  refine aops_end (hK _ ?_)
  clear hK
  repeat' first
    | (refine T.rs (fun _ => false) fun K hK => ?_; (repeat (refine aops_go ?_; simp)); refine aops_end (hK _ ?_); clear hK)
    | refine T.seq ?_
    | refine T.block ?_
    | refine T.skip ?_
  refine T.cond rfl (fun hb => ?_) (fun hb => ?_)
  · repeat' first
        | (refine T.rs (fun _ => false) fun K hK => ?_; (repeat (refine aops_go ?_; simp)); refine aops_end (hK _ ?_); clear hK)
        | refine T.seq ?_
        | refine T.block ?_
        | refine T.skip ?_
    refine T.ret (Done.pure (Or.inr rfl) (x := .b true) ?_ ?_)
    · simp [Try.results3]
    · simp
  have h2 : m.length ≤ 1048576 := by
    have hw : IntKind.i64.wrap (1048576 - (l.length : Int) - (m.length : Int)) = 1048576 - l.length - m.length := wrap64 (by omega) (by omega)
    simp only [szOpS, hw, decide_eq_false_iff_not] at hb
    split at hb <;> omega
  clear hb
  generalize szOpS m (1048576 - (l.length : Int)) = q
  repeat' first
    | (refine T.rs (fun _ => false) fun K hK => ?_; (repeat (refine aops_go ?_; simp)); refine aops_end (hK _ ?_); clear hK)
    | refine T.seq ?_
    | refine T.block ?_
    | refine T.skip ?_
  refine T.rs1 (fun _ => false) fun K hK => ?_
  repeat (refine aops_go ?_; simp)
  refine wpcall_pure (by simp) (toOpS_ok l hl') ?_
  simp
  repeat (refine aops_go ?_; simp)
  refine wpcall_pure (by simp) (toOpS_ok m h2) ?_
  simp
  repeat (refine aops_go ?_; simp)
  refine wpcall_pure (by simp) (opsEq_ok l m hl') ?_
  simp
  repeat (refine aops_go ?_; simp)
  refine aops_end (hK _ ?_)
  clear hK
  repeat' first
    | (refine T.rs (fun _ => false) fun K hK => ?_; (repeat (refine aops_go ?_; simp)); refine aops_end (hK _ ?_); clear hK)
    | refine T.seq ?_
    | refine T.block ?_
    | refine T.skip ?_
  refine T.rs1 (fun _ => false) fun K hK => ?_
  repeat (refine aops_go ?_; simp)
  refine wpcall_pure (by simp) (toOpS_ok l hl') ?_
  simp
  repeat (refine aops_go ?_; simp)
  refine aops_end (hK _ ?_)
  clear hK
  repeat' first
    | (refine T.rs (fun _ => false) fun K hK => ?_; (repeat (refine aops_go ?_; simp)); refine aops_end (hK _ ?_); clear hK)
    | refine T.seq ?_
    | refine T.block ?_
    | refine T.skip ?_
  refine T.rs1 (fun _ => false) fun K hK => ?_
  repeat (refine aops_go ?_; simp)
  refine wpcall_pure (by simp) (toOpS_ok m h2) ?_
  simp
  repeat (refine aops_go ?_; simp)
  refine aops_end (hK _ ?_)
  clear hK
  repeat' first
    | (refine T.rs (fun _ => false) fun K hK => ?_; (repeat (refine aops_go ?_; simp)); refine aops_end (hK _ ?_); clear hK)
    | refine T.seq ?_
    | refine T.block ?_
    | refine T.skip ?_
  refine T.rs1 (fun _ => false) fun K hK => ?_
  repeat (refine aops_go ?_; simp)
  refine wpcall_pure (by simp) (opsSame_ok l m hl') ?_
  simp
  repeat (refine aops_go ?_; simp)
  refine aops_end (hK _ ?_)
  clear hK
  repeat' first
    | (refine T.rs (fun _ => false) fun K hK => ?_; (repeat (refine aops_go ?_; simp)); refine aops_end (hK _ ?_); clear hK)
    | refine T.seq ?_
    | refine T.block ?_
    | refine T.skip ?_
  refine T.cond rfl (fun hb => ?_) (fun hb => ?_)
  · simp at hb
  repeat' first
    | (refine T.rs (fun _ => false) fun K hK => ?_; (repeat (refine aops_go ?_; simp)); refine aops_end (hK _ ?_); clear hK)
    | refine T.seq ?_
    | refine T.block ?_
    | refine T.skip ?_
  refine T.rs1 (fun _ => false) fun K hK => ?_
  repeat (refine aops_go ?_; simp)
  refine wpcall_pure (by simp) (toOpS_ok l hl') ?_
  simp
  repeat (refine aops_go ?_; simp)
  refine wpcall_pure (by simp) (eqOpS_ok l l hl') ?_
  simp
  repeat (refine aops_go ?_; simp)
  refine aops_end (hK _ ?_)
  clear hK
  refine T.cond rfl (fun hc => ?_) (fun hc => ?_)
  · simp at hc
  repeat' first
    | (refine T.rs (fun _ => false) fun K hK => ?_; (repeat (refine aops_go ?_; simp)); refine aops_end (hK _ ?_); clear hK)
    | refine T.seq ?_
    | refine T.block ?_
    | refine T.skip ?_
  refine T.rs1 (fun _ => false) fun K hK => ?_
  repeat (refine aops_go ?_; simp)
  refine wpcall_pure (by simp) (toOpS_ok m h2) ?_
  simp
  repeat (refine aops_go ?_; simp)
  refine wpcall_pure (by simp) (eqOpS_ok m m h2) ?_
  simp
  repeat (refine aops_go ?_; simp)
  refine aops_end (hK _ ?_)
  clear hK
  refine T.cond rfl (fun hd => ?_) (fun hd => ?_)
  · simp at hd
  repeat' first
    | (refine T.rs (fun _ => false) fun K hK => ?_; (repeat (refine aops_go ?_; simp)); refine aops_end (hK _ ?_); clear hK)
    | refine T.seq ?_
    | refine T.block ?_
    | refine T.skip ?_
  refine T.ret (Done.pure (Or.inr rfl) (x := .b true) ?_ ?_)
  · simp [Try.results3]
  · simp

end Go.Proofs.Ytdbffbmbbfbamaa
