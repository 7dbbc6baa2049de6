/- A part of the library of this seat. -/
import Derived.Test.YtcmdpggdaiinpaaGreatDoorQ38
set_option linter.unusedVariables false
set_option linter.unusedSimpArgs false
namespace Go.Proofs.YtcmdpggdaiinpaaGreatDoor
attribute [-simp] Go.Av.MCo.kind_mk Go.Av.MCo.tag_mk Go.Av.MCo.label_mk Go.Av.MCo.kids_mk Go.Av.callJ Go.Av.IT.kind_v Go.Av.IT.kind_b Go.Av.IT.kind_p Go.Av.IT.name_v Go.Av.IT.name_b Go.Av.IT.name_p Go.Av.IT.kids_v Go.Av.IT.kids_b Go.Av.IT.kids_p Go.Av.eIT_len Go.Av.gT_cons Go.Av.sT_cons
open Go Go.Av
attribute [local irreducible] T ACalls TX EX LX Draws Some_ ACallsX eTy eTm MTy.kind MTy.kids MTm.kind MTm.name MTm.num MTm.ty MTm.fr MTm.label MTm.kids
attribute [local simp] eTy_def eTm_def
set_option maxHeartbeats 16000000
set_option maxRecDepth 8000
def bwRen : Go.Shelf.Ren := ⟨fun n => match n with | 166 => 56 | 240 => 95 | 276 => 134 | _ => 0, fun n => match n with | 0 => 0 | 3 => 3 | 4 => 4 | 5 => 5 | 9 => 9 | 20 => 20 | 37 => 22 | 70 => 89 | 72 => 91 | 75 => 53 | 80 => 65 | 164 => 147 | _ => 0, fun n => match n with  | _ => 0⟩
theorem bwLays : Go.Proofs.Lays.n166 Tryz.prog bwRen where
 mixed := mixed
 f166 := by kernel_rfl
 f240 := by kernel_rfl
 f276 := by kernel_rfl
 t0 := by kernel_rfl
 a0 := by intro w; kernel_rfl
 z0 := by intro w; kernel_rfl
 v0 := by intro w; kernel_rfl
 t3 := by kernel_rfl
 a3 := by intro w; kernel_rfl
 z3 := by intro w; kernel_rfl
 v3 := by intro w; kernel_rfl
 t4 := by kernel_rfl
 a4 := by intro w; kernel_rfl
 z4 := by intro w; kernel_rfl
 v4 := by intro w; kernel_rfl
 t9 := by kernel_rfl
 a9 := by intro w; kernel_rfl
 z9 := by intro w; kernel_rfl
 v9 := by intro w; kernel_rfl
 t20 := by kernel_rfl
 a20 := by intro w; kernel_rfl
 z20 := by intro w; kernel_rfl
 v20 := by intro w; kernel_rfl
 t37 := by kernel_rfl
 a37 := by intro w; kernel_rfl
 z37 := by intro w; kernel_rfl
 v37 := by intro w; kernel_rfl
 t70 := by kernel_rfl
 a70 := by intro w; kernel_rfl
 z70 := by intro w; kernel_rfl
 v70 := by intro w; kernel_rfl
 t72 := by kernel_rfl
 a72 := by intro w; kernel_rfl
 z72 := by intro w; kernel_rfl
 v72 := by intro w; kernel_rfl
 t75 := by kernel_rfl
 a75 := by intro w; kernel_rfl
 z75 := by intro w; kernel_rfl
 v75 := by intro w; kernel_rfl
 t164 := by kernel_rfl
 a164 := by intro w; kernel_rfl
 z164 := by intro w; kernel_rfl
 v164 := by intro w; kernel_rfl
def bsxRen : Go.Shelf.Ren := ⟨fun n => match n with | 169 => 59 | _ => 0, fun n => match n with | 0 => 0 | 3 => 3 | 5 => 5 | 9 => 9 | 37 => 22 | 70 => 89 | 72 => 91 | 127 => 116 | _ => 0, fun n => match n with  | _ => 0⟩
theorem bsxLays : Go.Proofs.Lays.n169 Tryz.prog bsxRen where
 mixed := mixed
 f169 := by kernel_rfl
 t0 := by kernel_rfl
 a0 := by intro w; kernel_rfl
 z0 := by intro w; kernel_rfl
 v0 := by intro w; kernel_rfl
 t3 := by kernel_rfl
 a3 := by intro w; kernel_rfl
 z3 := by intro w; kernel_rfl
 v3 := by intro w; kernel_rfl
 t9 := by kernel_rfl
 a9 := by intro w; kernel_rfl
 z9 := by intro w; kernel_rfl
 v9 := by intro w; kernel_rfl
 t37 := by kernel_rfl
 a37 := by intro w; kernel_rfl
 z37 := by intro w; kernel_rfl
 v37 := by intro w; kernel_rfl
 t70 := by kernel_rfl
 a70 := by intro w; kernel_rfl
 z70 := by intro w; kernel_rfl
 v70 := by intro w; kernel_rfl
 t72 := by kernel_rfl
 a72 := by intro w; kernel_rfl
 z72 := by intro w; kernel_rfl
 v72 := by intro w; kernel_rfl
 t127 := by kernel_rfl
 a127 := by intro w; kernel_rfl
 z127 := by intro w; kernel_rfl
 v127 := by intro w; kernel_rfl
theorem bwExtra : Go.Proofs.Builder.Extra Tryz.prog bwRen where
 sizeBuilder := by kernel_rfl
 liesBuilder := by kernel_rfl
 t5 := by kernel_rfl
 a5 := by intro w; kernel_rfl
 z5 := by intro w; kernel_rfl
 v5 := by intro w; kernel_rfl
 infoByte := by kernel_rfl
 cellsByte := by kernel_rfl
 sizeByte := by kernel_rfl
 neB5 := by decide
theorem bsExtra : Go.Proofs.Builder.Extra Tryz.prog bsxRen where
 sizeBuilder := by kernel_rfl
 liesBuilder := by kernel_rfl
 t5 := by kernel_rfl
 a5 := by intro w; kernel_rfl
 z5 := by intro w; kernel_rfl
 v5 := by intro w; kernel_rfl
 infoByte := by kernel_rfl
 cellsByte := by kernel_rfl
 sizeByte := by kernel_rfl
 neB5 := by decide
theorem write_ok (pv : Value) (done s : List UInt8) (h : done.length + s.length <= 1000000) : FCalls Tryz.prog 56 [.c (.d (.raw pv)), .s s] [(.b 91 5 (Lib.byteCells done), pv)] fun r L' => r = .tup [.i s.length, .c (.d (.raw .nilIface))] /\ L' = [(.b 91 5 (Lib.byteCells (done ++ s)), pv)] := by
 have := writeString_f bwLays bwExtra (enters Tryz.func56 (by kernel_rfl) rfl) (Lib.byteCells done) s pv (by rw [Lib.byteCells_length]; omega)
 rw [strCells_bs, <- byteCells_app] at this
 exact this
theorem string_ok (pv : Value) (done : List UInt8) (h : done ≠ []) : FCalls Tryz.prog 59 [.c (.d (.raw pv))] [(.b 91 5 (Lib.byteCells done), pv)] fun r L' => r = .s done /\ L' = [] :=
 string_f bsxLays bsExtra (enters Tryz.func59 (by kernel_rfl) rfl) h pv rfl

@[simp] theorem td_opSx : td Tryz.prog 23 = some { ag := false, sz := 1, by_ := 24, zero := some [.nil], el := some 51, ar := none, fl := [], ik := none, isS := false, isB := false } := keep (by kernel_rfl)
@[simp] theorem td_opx : td Tryz.prog 51 = some { ag := true, sz := 2, by_ := 16, zero := some [.d (.int .i64 0), .d (.int .i64 0)], el := none, ar := none, fl := [(0, 1), (1, 1)], ik := none, isS := false, isB := false } := keep (by kernel_rfl)
@[simp] theorem td_bldx : td Tryz.prog 91 = some { ag := true, sz := 2, by_ := 32, zero := some [.np, .nil], el := none, ar := none, fl := [(0, 1), (1, 1)], ik := none, isS := false, isB := false } := keep (by kernel_rfl)
@[simp] theorem td_strSx : td Tryz.prog 44 = some { ag := false, sz := 1, by_ := 24, zero := some [.nil], el := some 9, ar := none, fl := [], ik := none, isS := false, isB := false } := keep (by kernel_rfl)

theorem opWords_ok : ACalls Tryz.prog 29 [] [] (.l (wordsM.map eW)) [] [] := by
 refine ACalls.of_body Tryz.func29 (by kernel_rfl) rfl (by kernel_rfl) (by simp [Tryz.ntmps29]) (by simp) ?_
 rw [Tryz.ntmps29]
 repeat' first | ((first | refine aops_end (hK _ ?_) | refine aopsD_end (hK _ ?_) | refine aopsF_end (hK _ ?_)); clear hK K) | ((first | refine aops_go ?_ | refine aopsD_go ?_ | refine aopsF_go ?_); simp; (try (refine gen2 ?_ ?_ <;> intro hq <;> try simp at hq))) | (refine T.ret (Done.data (Or.inr rfl) ?_ ?_) <;> simp [Tryz.results29, wordsM] <;> omega) | refine T.r0 fun K hK => ?_ | refine T.r1 fun K hK => ?_ | (refine ⟨by omega, ?_⟩) | refine T.ct rfl ?_ | refine T.cf rfl ?_ | refine T.seq ?_ | refine T.block ?_ | refine T.skip ?_ | refine T.exit ?_

theorem hasA_ok (k : Int) : ACalls Tryz.prog 57 [.i k] [] (.b (hasAM k)) [] [] := by
 refine ACalls.of_body Tryz.func57 (by kernel_rfl) rfl (by kernel_rfl) (by simp [Tryz.ntmps57]) (by simp) ?_
 rw [Tryz.ntmps57]
 repeat' first | ((first | refine aops_end (hK _ ?_) | refine aopsD_end (hK _ ?_) | refine aopsF_end (hK _ ?_)); clear hK K) | ((first | refine aops_go ?_ | refine aopsD_go ?_ | refine aopsF_go ?_); simp; (try (refine gen2 ?_ ?_ <;> intro hq <;> try simp at hq))) | (refine T.ret (Done.data (Or.inr rfl) ?_ ?_) <;> simp [Tryz.results57, hasAM, *] <;> omega) | refine T.r0 fun K hK => ?_ | refine T.r1 fun K hK => ?_ | (refine ⟨by omega, ?_⟩) | refine T.ct rfl ?_ | refine T.cf rfl ?_ | refine T.seq ?_ | refine T.block ?_ | refine T.skip ?_ | refine T.exit ?_

theorem mostA_ok (k r : Int) : ACalls Tryz.prog 35 [.i k, .i r] [] (.i (mostA k r)) [] [] := by
 refine ACalls.of_body Tryz.func35 (by kernel_rfl) rfl (by kernel_rfl) (by simp [Tryz.ntmps35]) (by simp) ?_
 rw [Tryz.ntmps35]
 repeat' first | ((first | refine aops_end (hK _ ?_) | refine aopsD_end (hK _ ?_) | refine aopsF_end (hK _ ?_)); clear hK K) | ((first | refine aops_go ?_ | refine aopsD_go ?_ | refine aopsF_go ?_); simp; (try (refine gen2 ?_ ?_ <;> intro hq <;> try simp at hq))) | (refine T.ret (Done.data (Or.inr rfl) ?_ ?_) <;> simp [Tryz.results35, mostA, *] <;> omega) | refine T.r0 fun K hK => ?_ | refine T.r1 fun K hK => ?_ | (refine ⟨by omega, ?_⟩) | refine T.ct rfl ?_ | refine T.cf rfl ?_ | refine T.seq ?_ | refine T.block ?_ | refine T.skip ?_ | refine T.exit ?_

theorem OpsValid_ok (l : List MOp) (hl : l.length <= 1099511627776) : ACalls Tryz.prog 9 [.l (l.map eOp)] [] (.b (opsValidM l)) [] [] := by
 have hlen := inM_ok l.length 1 120
 rw [opsValidM]
 obtain ⟨R, hR⟩ : ∃ R, opsOk l = R := ⟨_, rfl⟩
 rw [hR]
 refine ACalls.of_body Tryz.func9 (by kernel_rfl) rfl (by kernel_rfl) (by simp [Tryz.ntmps9]) (by simp) ?_
 rw [Tryz.ntmps9]
 repeat' first | ((first | refine aops_end (hK _ ?_) | refine aopsD_end (hK _ ?_) | refine aopsF_end (hK _ ?_)); clear hK K) | ((first | refine aops_go ?_ | refine aopsD_go ?_ | refine aopsF_go ?_); simp; (try (refine gen2 ?_ ?_ <;> intro hq <;> try simp at hq))) | refine T.rd (id := 4) mixed (fun _ => false) [] (by kernel_rfl) fun K hK => ?_ | refine T.rd1 (id := 4) mixed (fun _ => false) [] (by kernel_rfl) fun K hK => ?_ | refine T.r0 fun K hK => ?_ | refine T.r1 fun K hK => ?_ | (refine ⟨by omega, ?_⟩) | refine T.ct rfl ?_ | refine T.cf rfl ?_ | refine T.seq ?_ | refine T.block ?_ | refine T.skip ?_ | refine T.exit ?_
 refine T.loopF (fun x : Nat × List (List CV) => ⟨[(0, .l (l.map eOp)), (2, .b false), (5, .l (l.map eOp)), (6, .i l.length), (7, .i x.1)], x.2, []⟩) (fun x => l.length + 1 - x.1) (fun x => x.1 <= l.length /\ opsOk (l.drop x.1) = R) (fun x hp => ?_) (0, []) (by simpa using hR) (by simp)
 obtain ⟨p, G⟩ := x
 obtain ⟨hi, he⟩ := hp
 dsimp only at hi he ⊢
 by_cases hlt : p < l.length
 ·obtain ⟨u, ht⟩ := get_lt hlt
  have htm : u ∈ l := List.mem_of_getElem? ht
  have hgt : l[p] = u := by rw [List.getElem?_eq_getElem hlt] at ht; exact Option.some.inj ht
  have hdr : l.drop p = u :: l.drop (p + 1) := by rw [List.drop_eq_getElem_cons hlt, hgt]
  have h1 := inM_ok u.kind 1 13
  have h2 := mostA_ok u.kind ((l.length : Int) - 1 - p)
  have h3 := inM_ok u.a 0 (mostA u.kind ((l.length : Int) - 1 - p))
  rw [hdr, opsOk, opOk, show (((l.drop (p + 1)).length : Nat) : Int) = (l.length : Int) - 1 - p by rw [List.length_drop]; omega] at he
  have w1 : IntKind.i64.wrap ((l.length : Int) - 1) = (l.length : Int) - 1 := wrap64 (by omega) (by omega)
  have w2 : IntKind.i64.wrap ((l.length : Int) - 1 - p) = (l.length : Int) - 1 - p := wrap64 (by omega) (by omega)
  generalize inM u.kind 1 13 = q1 at h1 he
  generalize inM u.a 0 (mostA u.kind ((l.length : Int) - 1 - p)) = q2 at h3 he
  cases q1
  ·simp at he
   subst he
   repeat' first | ((first | refine aops_end (hK _ ?_) | refine aopsD_end (hK _ ?_) | refine aopsF_end (hK _ ?_)); clear hK K) | ((first | refine aops_go ?_ | refine aopsD_go ?_ | refine aopsF_go ?_ | refine wpcall_pure rfl (h1) ?_ | refine wpcall_pure rfl (h2) ?_ | refine wpcall_pure rfl (h3) ?_); simp [hlt, hgt, w1, w2]; (try simp (disch := omega) only [wrap64]); (try (refine gen2 ?_ ?_ <;> intro hq <;> try simp [hlt, hgt, w1, w2] at hq))) | (refine T.ret (Done.data (Or.inr rfl) ?_ ?_) <;> simp [Tryz.results9] <;> omega) | refine T.rd (id := 4) mixed (fun _ => false) [] (by kernel_rfl) fun K hK => ?_ | refine T.rd1 (id := 4) mixed (fun _ => false) [] (by kernel_rfl) fun K hK => ?_ | refine T.r0 fun K hK => ?_ | refine T.r1 fun K hK => ?_ | (refine ⟨by omega, ?_⟩) | refine T.ct rfl ?_ | refine T.cf rfl ?_ | refine T.seq ?_ | refine T.block ?_ | refine T.skip ?_ | refine T.exit ?_
  cases q2
  ·simp at he
   subst he
   repeat' first | ((first | refine aops_end (hK _ ?_) | refine aopsD_end (hK _ ?_) | refine aopsF_end (hK _ ?_)); clear hK K) | ((first | refine aops_go ?_ | refine aopsD_go ?_ | refine aopsF_go ?_ | refine wpcall_pure rfl (h1) ?_ | refine wpcall_pure rfl (h2) ?_ | refine wpcall_pure rfl (h3) ?_); simp [hlt, hgt, w1, w2]; (try simp (disch := omega) only [wrap64]); (try (refine gen2 ?_ ?_ <;> intro hq <;> try simp [hlt, hgt, w1, w2] at hq))) | (refine T.ret (Done.data (Or.inr rfl) ?_ ?_) <;> simp [Tryz.results9] <;> omega) | refine T.rd (id := 4) mixed (fun _ => false) [] (by kernel_rfl) fun K hK => ?_ | refine T.rd1 (id := 4) mixed (fun _ => false) [] (by kernel_rfl) fun K hK => ?_ | refine T.r0 fun K hK => ?_ | refine T.r1 fun K hK => ?_ | (refine ⟨by omega, ?_⟩) | refine T.ct rfl ?_ | refine T.cf rfl ?_ | refine T.seq ?_ | refine T.block ?_ | refine T.skip ?_ | refine T.exit ?_
  ·repeat' first | ((first | refine aops_end (hK _ ?_) | refine aopsD_end (hK _ ?_) | refine aopsF_end (hK _ ?_)); clear hK K) | ((first | refine aops_go ?_ | refine aopsD_go ?_ | refine aopsF_go ?_ | refine wpcall_pure rfl (h1) ?_ | refine wpcall_pure rfl (h2) ?_ | refine wpcall_pure rfl (h3) ?_); simp [hlt, hgt, w1, w2]; (try simp (disch := omega) only [wrap64]); (try (refine gen2 ?_ ?_ <;> intro hq <;> try simp [hlt, hgt, w1, w2] at hq))) | (refine ⟨(p + 1, _), by dsimp only; omega, ⟨by dsimp only; omega, by simpa using he⟩, rfl, rfl, ?_⟩; simp (disch := omega) [wrap64]) | refine T.rd (id := 4) mixed (fun _ => false) [] (by kernel_rfl) fun K hK => ?_ | refine T.rd1 (id := 4) mixed (fun _ => false) [] (by kernel_rfl) fun K hK => ?_ | refine T.r0 fun K hK => ?_ | refine T.r1 fun K hK => ?_ | (refine ⟨by omega, ?_⟩) | refine T.ct rfl ?_ | refine T.cf rfl ?_ | refine T.seq ?_ | refine T.block ?_ | refine T.skip ?_ | refine T.exit ?_
 ·have hp' : p = l.length := by omega
  subst hp'
  simp [opsOk] at he
  subst he
  rw [Bool.true_and]
  generalize inM l.length 1 120 = q at hlen ⊢
  repeat' first | ((first | refine aops_end (hK _ ?_) | refine aopsD_end (hK _ ?_) | refine aopsF_end (hK _ ?_)); clear hK K) | ((first | refine aops_go ?_ | refine aopsD_go ?_ | refine aopsF_go ?_ | refine wpcall_pure rfl (hlen) ?_); simp [hlt]) | (refine T.ret (Done.data (Or.inr rfl) ?_ ?_) <;> simp [Tryz.results9] <;> omega) | refine T.rd (id := 4) mixed (fun _ => false) [] (by kernel_rfl) fun K hK => ?_ | refine T.rd1 (id := 4) mixed (fun _ => false) [] (by kernel_rfl) fun K hK => ?_ | refine T.r0 fun K hK => ?_ | refine T.r1 fun K hK => ?_ | (refine ⟨by omega, ?_⟩) | refine T.ct rfl ?_ | refine T.cf rfl ?_ | refine T.seq ?_ | refine T.block ?_ | refine T.skip ?_ | refine T.exit ?_

theorem l14Own_ok (o : MOp) (i n : Nat) (hi : i < n) (hn : n <= 1000) : ACalls Tryz.prog 36 [aOp o, .i i, .i n] [] (.b (opOk o ((n : Int) - 1 - i))) [] [] := by
 have w1 : IntKind.i64.wrap ((i : Int) + 1) = (i : Int) + 1 := wrap64 (by omega) (by omega)
 obtain ⟨k, a⟩ := o
 have hc : k = 1 \/ k = 2 \/ k = 3 \/ (k = 4 \/ k = 9 \/ k = 10) \/ (¬ k = 1 /\ ¬ k = 2 /\ ¬ k = 3 /\ ¬ k = 4 /\ ¬ k = 9 /\ ¬ k = 10) := by omega
 rcases hc with rfl | rfl | rfl | hk | ⟨e1, e2, e3, e4, e9, e10⟩
 ·rw [show opOk ⟨1, a⟩ ((n : Int) - 1 - i) = (decide (0 <= a) && decide (a <= 999)) by simp only [opOk, inM, show mostA 1 ((n : Int) - 1 - i) = 999 from rfl]; rw [Bool.eq_iff_iff]; simp only [Bool.and_eq_true, Bool.or_eq_true, decide_eq_true_eq]; omega]
  refine ACalls.of_body Tryz.func36 (by kernel_rfl) rfl (by kernel_rfl) (by simp [Tryz.ntmps36]) (by simp) ?_
  rw [Tryz.ntmps36]
  repeat' first | ((first | refine aops_end (hK _ ?_) | refine aopsD_end (hK _ ?_) | refine aopsF_end (hK _ ?_)); clear hK K) | ((first | refine aops_go ?_ | refine aopsD_go ?_ | refine aopsF_go ?_); simp; (try (refine gen2 ?_ ?_ <;> intro hq <;> try simp at hq))) | (refine T.ret (Done.data (Or.inr rfl) ?_ ?_) <;> simp [Tryz.results36, *] <;> omega) | refine T.r0 fun K hK => ?_ | refine T.r1 fun K hK => ?_ | (refine ⟨by omega, ?_⟩) | refine T.ct rfl ?_ | refine T.cf rfl ?_ | refine T.seq ?_ | refine T.block ?_ | refine T.skip ?_ | refine T.exit ?_
 ·rw [show opOk ⟨2, a⟩ ((n : Int) - 1 - i) = (decide (a = 0) || decide (a = 1)) by simp only [opOk, inM, show mostA 2 ((n : Int) - 1 - i) = 1 from rfl]; rw [Bool.eq_iff_iff]; simp only [Bool.and_eq_true, Bool.or_eq_true, decide_eq_true_eq]; omega]
  refine ACalls.of_body Tryz.func36 (by kernel_rfl) rfl (by kernel_rfl) (by simp [Tryz.ntmps36]) (by simp) ?_
  rw [Tryz.ntmps36]
  repeat' first | ((first | refine aops_end (hK _ ?_) | refine aopsD_end (hK _ ?_) | refine aopsF_end (hK _ ?_)); clear hK K) | ((first | refine aops_go ?_ | refine aopsD_go ?_ | refine aopsF_go ?_); simp; (try (refine gen2 ?_ ?_ <;> intro hq <;> try simp at hq))) | (refine T.ret (Done.data (Or.inr rfl) ?_ ?_) <;> simp [Tryz.results36, *] <;> omega) | refine T.r0 fun K hK => ?_ | refine T.r1 fun K hK => ?_ | (refine ⟨by omega, ?_⟩) | refine T.ct rfl ?_ | refine T.cf rfl ?_ | refine T.seq ?_ | refine T.block ?_ | refine T.skip ?_ | refine T.exit ?_
 ·rw [show opOk ⟨3, a⟩ ((n : Int) - 1 - i) = (decide (0 <= a) && decide (a < 12)) by simp only [opOk, inM, show mostA 3 ((n : Int) - 1 - i) = 11 from rfl]; rw [Bool.eq_iff_iff]; simp only [Bool.and_eq_true, Bool.or_eq_true, decide_eq_true_eq]; omega]
  refine ACalls.of_body Tryz.func36 (by kernel_rfl) rfl (by kernel_rfl) (by simp [Tryz.ntmps36]) (by simp) ?_
  rw [Tryz.ntmps36]
  repeat' first | ((first | refine aops_end (hK _ ?_) | refine aopsD_end (hK _ ?_) | refine aopsF_end (hK _ ?_)); clear hK K) | ((first | refine aops_go ?_ | refine aopsD_go ?_ | refine aopsF_go ?_); simp; (try (refine gen2 ?_ ?_ <;> intro hq <;> try simp at hq))) | (refine T.ret (Done.data (Or.inr rfl) ?_ ?_) <;> simp [Tryz.results36, *] <;> omega) | refine T.r0 fun K hK => ?_ | refine T.r1 fun K hK => ?_ | (refine ⟨by omega, ?_⟩) | refine T.ct rfl ?_ | refine T.cf rfl ?_ | refine T.seq ?_ | refine T.block ?_ | refine T.skip ?_ | refine T.exit ?_
 ·have hr : opOk ⟨k, a⟩ ((n : Int) - 1 - i) = (decide (0 <= a) && decide (a <= n) && decide ((i : Int) + 1 + a <= n)) := by
   have hm : mostA k ((n : Int) - 1 - i) = (n : Int) - 1 - i := by rcases hk with rfl | rfl | rfl <;> rfl
   clear w1
   simp only [opOk, inM, hm]; rw [Bool.eq_iff_iff]; simp only [Bool.and_eq_true, Bool.or_eq_true, decide_eq_true_eq]; omega
  rw [hr]
  by_cases h0 : 0 <= a /\ a <= n
  ·have w2 : IntKind.i64.wrap ((i : Int) + 1 + a) = (i : Int) + 1 + a := wrap64 (by omega) (by omega)
   obtain ⟨h1, h2⟩ := h0
   rcases hk with rfl | rfl | rfl
   ·refine ACalls.of_body Tryz.func36 (by kernel_rfl) rfl (by kernel_rfl) (by simp [Tryz.ntmps36]) (by simp) ?_
    rw [Tryz.ntmps36]
    repeat' first | ((first | refine aops_end (hK _ ?_) | refine aopsD_end (hK _ ?_) | refine aopsF_end (hK _ ?_)); clear hK K) | ((first | refine aops_go ?_ | refine aopsD_go ?_ | refine aopsF_go ?_); simp [w1, w2, h1, h2]; (try (refine gen2 ?_ ?_ <;> intro hq <;> try simp [w1, w2, h1, h2] at hq))) | (refine T.ret (Done.data (Or.inr rfl) ?_ ?_) <;> simp [Tryz.results36, *] <;> omega) | refine T.r0 fun K hK => ?_ | refine T.r1 fun K hK => ?_ | (refine ⟨by omega, ?_⟩) | refine T.ct rfl ?_ | refine T.cf rfl ?_ | refine T.seq ?_ | refine T.block ?_ | refine T.skip ?_ | refine T.exit ?_
   ·refine ACalls.of_body Tryz.func36 (by kernel_rfl) rfl (by kernel_rfl) (by simp [Tryz.ntmps36]) (by simp) ?_
    rw [Tryz.ntmps36]
    repeat' first | ((first | refine aops_end (hK _ ?_) | refine aopsD_end (hK _ ?_) | refine aopsF_end (hK _ ?_)); clear hK K) | ((first | refine aops_go ?_ | refine aopsD_go ?_ | refine aopsF_go ?_); simp [w1, w2, h1, h2]; (try (refine gen2 ?_ ?_ <;> intro hq <;> try simp [w1, w2, h1, h2] at hq))) | (refine T.ret (Done.data (Or.inr rfl) ?_ ?_) <;> simp [Tryz.results36, *] <;> omega) | refine T.r0 fun K hK => ?_ | refine T.r1 fun K hK => ?_ | (refine ⟨by omega, ?_⟩) | refine T.ct rfl ?_ | refine T.cf rfl ?_ | refine T.seq ?_ | refine T.block ?_ | refine T.skip ?_ | refine T.exit ?_
   ·refine ACalls.of_body Tryz.func36 (by kernel_rfl) rfl (by kernel_rfl) (by simp [Tryz.ntmps36]) (by simp) ?_
    rw [Tryz.ntmps36]
    repeat' first | ((first | refine aops_end (hK _ ?_) | refine aopsD_end (hK _ ?_) | refine aopsF_end (hK _ ?_)); clear hK K) | ((first | refine aops_go ?_ | refine aopsD_go ?_ | refine aopsF_go ?_); simp [w1, w2, h1, h2]; (try (refine gen2 ?_ ?_ <;> intro hq <;> try simp [w1, w2, h1, h2] at hq))) | (refine T.ret (Done.data (Or.inr rfl) ?_ ?_) <;> simp [Tryz.results36, *] <;> omega) | refine T.r0 fun K hK => ?_ | refine T.r1 fun K hK => ?_ | (refine ⟨by omega, ?_⟩) | refine T.ct rfl ?_ | refine T.cf rfl ?_ | refine T.seq ?_ | refine T.block ?_ | refine T.skip ?_ | refine T.exit ?_
  ·rw [show (decide (0 <= a) && decide (a <= (n : Int)) && decide ((i : Int) + 1 + a <= n)) = false by rw [Bool.eq_false_iff]; simp only [ne_eq, Bool.and_eq_true, decide_eq_true_eq]; omega]
   by_cases h1 : 0 <= a
   ·have h2 : ¬ a <= n := fun h => h0 ⟨h1, h⟩
    rcases hk with rfl | rfl | rfl
    ·refine ACalls.of_body Tryz.func36 (by kernel_rfl) rfl (by kernel_rfl) (by simp [Tryz.ntmps36]) (by simp) ?_
     rw [Tryz.ntmps36]
     repeat' first | ((first | refine aops_end (hK _ ?_) | refine aopsD_end (hK _ ?_) | refine aopsF_end (hK _ ?_)); clear hK K) | ((first | refine aops_go ?_ | refine aopsD_go ?_ | refine aopsF_go ?_); simp [h1, h2]; (try (refine gen2 ?_ ?_ <;> intro hq <;> try simp [h1, h2] at hq))) | (refine T.ret (Done.data (Or.inr rfl) ?_ ?_) <;> simp [Tryz.results36] <;> omega) | refine T.r0 fun K hK => ?_ | refine T.r1 fun K hK => ?_ | (refine ⟨by omega, ?_⟩) | refine T.ct rfl ?_ | refine T.cf rfl ?_ | refine T.seq ?_ | refine T.block ?_ | refine T.skip ?_ | refine T.exit ?_
    ·refine ACalls.of_body Tryz.func36 (by kernel_rfl) rfl (by kernel_rfl) (by simp [Tryz.ntmps36]) (by simp) ?_
     rw [Tryz.ntmps36]
     repeat' first | ((first | refine aops_end (hK _ ?_) | refine aopsD_end (hK _ ?_) | refine aopsF_end (hK _ ?_)); clear hK K) | ((first | refine aops_go ?_ | refine aopsD_go ?_ | refine aopsF_go ?_); simp [h1, h2]; (try (refine gen2 ?_ ?_ <;> intro hq <;> try simp [h1, h2] at hq))) | (refine T.ret (Done.data (Or.inr rfl) ?_ ?_) <;> simp [Tryz.results36] <;> omega) | refine T.r0 fun K hK => ?_ | refine T.r1 fun K hK => ?_ | (refine ⟨by omega, ?_⟩) | refine T.ct rfl ?_ | refine T.cf rfl ?_ | refine T.seq ?_ | refine T.block ?_ | refine T.skip ?_ | refine T.exit ?_
    ·refine ACalls.of_body Tryz.func36 (by kernel_rfl) rfl (by kernel_rfl) (by simp [Tryz.ntmps36]) (by simp) ?_
     rw [Tryz.ntmps36]
     repeat' first | ((first | refine aops_end (hK _ ?_) | refine aopsD_end (hK _ ?_) | refine aopsF_end (hK _ ?_)); clear hK K) | ((first | refine aops_go ?_ | refine aopsD_go ?_ | refine aopsF_go ?_); simp [h1, h2]; (try (refine gen2 ?_ ?_ <;> intro hq <;> try simp [h1, h2] at hq))) | (refine T.ret (Done.data (Or.inr rfl) ?_ ?_) <;> simp [Tryz.results36] <;> omega) | refine T.r0 fun K hK => ?_ | refine T.r1 fun K hK => ?_ | (refine ⟨by omega, ?_⟩) | refine T.ct rfl ?_ | refine T.cf rfl ?_ | refine T.seq ?_ | refine T.block ?_ | refine T.skip ?_ | refine T.exit ?_
   ·rcases hk with rfl | rfl | rfl
    ·refine ACalls.of_body Tryz.func36 (by kernel_rfl) rfl (by kernel_rfl) (by simp [Tryz.ntmps36]) (by simp) ?_
     rw [Tryz.ntmps36]
     repeat' first | ((first | refine aops_end (hK _ ?_) | refine aopsD_end (hK _ ?_) | refine aopsF_end (hK _ ?_)); clear hK K) | ((first | refine aops_go ?_ | refine aopsD_go ?_ | refine aopsF_go ?_); simp [h1]; (try (refine gen2 ?_ ?_ <;> intro hq <;> try simp [h1] at hq))) | (refine T.ret (Done.data (Or.inr rfl) ?_ ?_) <;> simp [Tryz.results36] <;> omega) | refine T.r0 fun K hK => ?_ | refine T.r1 fun K hK => ?_ | (refine ⟨by omega, ?_⟩) | refine T.ct rfl ?_ | refine T.cf rfl ?_ | refine T.seq ?_ | refine T.block ?_ | refine T.skip ?_ | refine T.exit ?_
    ·refine ACalls.of_body Tryz.func36 (by kernel_rfl) rfl (by kernel_rfl) (by simp [Tryz.ntmps36]) (by simp) ?_
     rw [Tryz.ntmps36]
     repeat' first | ((first | refine aops_end (hK _ ?_) | refine aopsD_end (hK _ ?_) | refine aopsF_end (hK _ ?_)); clear hK K) | ((first | refine aops_go ?_ | refine aopsD_go ?_ | refine aopsF_go ?_); simp [h1]; (try (refine gen2 ?_ ?_ <;> intro hq <;> try simp [h1] at hq))) | (refine T.ret (Done.data (Or.inr rfl) ?_ ?_) <;> simp [Tryz.results36] <;> omega) | refine T.r0 fun K hK => ?_ | refine T.r1 fun K hK => ?_ | (refine ⟨by omega, ?_⟩) | refine T.ct rfl ?_ | refine T.cf rfl ?_ | refine T.seq ?_ | refine T.block ?_ | refine T.skip ?_ | refine T.exit ?_
    ·refine ACalls.of_body Tryz.func36 (by kernel_rfl) rfl (by kernel_rfl) (by simp [Tryz.ntmps36]) (by simp) ?_
     rw [Tryz.ntmps36]
     repeat' first | ((first | refine aops_end (hK _ ?_) | refine aopsD_end (hK _ ?_) | refine aopsF_end (hK _ ?_)); clear hK K) | ((first | refine aops_go ?_ | refine aopsD_go ?_ | refine aopsF_go ?_); simp [h1]; (try (refine gen2 ?_ ?_ <;> intro hq <;> try simp [h1] at hq))) | (refine T.ret (Done.data (Or.inr rfl) ?_ ?_) <;> simp [Tryz.results36] <;> omega) | refine T.r0 fun K hK => ?_ | refine T.r1 fun K hK => ?_ | (refine ⟨by omega, ?_⟩) | refine T.ct rfl ?_ | refine T.cf rfl ?_ | refine T.seq ?_ | refine T.block ?_ | refine T.skip ?_ | refine T.exit ?_
 ·have hr : opOk ⟨k, a⟩ ((n : Int) - 1 - i) = (decide (1 <= k) && decide (k <= 13) && decide (a = 0)) := by
   have hm : mostA k ((n : Int) - 1 - i) = 0 := by simp [mostA, e1, e2, e3, e4, e9, e10]
   simp only [opOk, inM, hm]; rw [Bool.eq_iff_iff]; simp only [Bool.and_eq_true, Bool.or_eq_true, decide_eq_true_eq]; omega
  rw [hr]
  refine ACalls.of_body Tryz.func36 (by kernel_rfl) rfl (by kernel_rfl) (by simp [Tryz.ntmps36]) (by simp) ?_
  rw [Tryz.ntmps36]
  repeat' first | ((first | refine aops_end (hK _ ?_) | refine aopsD_end (hK _ ?_) | refine aopsF_end (hK _ ?_)); clear hK K) | ((first | refine aops_go ?_ | refine aopsD_go ?_ | refine aopsF_go ?_); simp [e1, e2, e3, e4, e9, e10]; (try (refine gen2 ?_ ?_ <;> intro hq <;> try simp [e1, e2, e3, e4, e9, e10] at hq))) | (refine T.ret (Done.data (Or.inr rfl) ?_ ?_) <;> simp [Tryz.results36, *] <;> omega) | refine T.r0 fun K hK => ?_ | refine T.r1 fun K hK => ?_ | (refine ⟨by omega, ?_⟩) | refine T.ct rfl ?_ | refine T.cf rfl ?_ | refine T.seq ?_ | refine T.block ?_ | refine T.skip ?_ | refine T.exit ?_

theorem OpsValidS_ok (l : List MOp) (hl : l.length <= 1099511627776) : ACalls Tryz.prog 10 [.l (l.map eOp)] [] (.b (opsValidM l)) [] [] := by
 rw [opsValidM]
 by_cases hbig : l.length <= 120
 rotate_left
 ·have hb : ¬ (l.length : Int) <= 120 := by omega
  rw [show inM l.length 1 120 = false by simp [inM]; omega, Bool.and_false]
  refine ACalls.of_body Tryz.func10 (by kernel_rfl) rfl (by kernel_rfl) (by simp [Tryz.ntmps10]) (by simp) ?_
  rw [Tryz.ntmps10]
  repeat' first | ((first | refine aops_end (hK _ ?_) | refine aopsD_end (hK _ ?_) | refine aopsF_end (hK _ ?_)); clear hK K) | ((first | refine aops_go ?_ | refine aopsD_go ?_ | refine aopsF_go ?_); simp [hb]; (try (refine gen2 ?_ ?_ <;> intro hq <;> try simp [hb] at hq))) | refine T.r0 fun K hK => ?_ | refine T.r1 fun K hK => ?_ | (refine ⟨by omega, ?_⟩) | refine T.ct rfl ?_ | refine T.cf rfl ?_ | refine T.seq ?_ | refine T.block ?_ | refine T.skip ?_ | refine T.exit ?_
  refine T.loopF (fun p : Nat => ⟨[(0, .l (l.map eOp)), (3, .i 0)], [], []⟩) (fun p => 1) (fun p => True) (fun p hp => ?_) 0 trivial (by simp)
  have h0 : (0 : Int) < l.length := by omega
  repeat' first | ((first | refine aops_end (hK _ ?_) | refine aopsD_end (hK _ ?_) | refine aopsF_end (hK _ ?_)); clear hK K) | ((first | refine aops_go ?_ | refine aopsD_go ?_ | refine aopsF_go ?_); simp [hb, h0]; (try (refine gen2 ?_ ?_ <;> intro hq <;> try simp [hb, h0] at hq))) | (refine T.ret (Done.data (Or.inr rfl) ?_ ?_) <;> simp [Tryz.results10] <;> omega) | refine T.r0 fun K hK => ?_ | refine T.r1 fun K hK => ?_ | (refine ⟨by omega, ?_⟩) | refine T.ct rfl ?_ | refine T.cf rfl ?_ | refine T.seq ?_ | refine T.block ?_ | refine T.skip ?_ | refine T.exit ?_
 have hb : (l.length : Int) <= 120 := by omega
 obtain ⟨R, hR⟩ : ∃ R, opsOk l = R := ⟨_, rfl⟩
 rw [hR]
 refine ACalls.of_body Tryz.func10 (by kernel_rfl) rfl (by kernel_rfl) (by simp [Tryz.ntmps10]) (by simp) ?_
 rw [Tryz.ntmps10]
 repeat' first | ((first | refine aops_end (hK _ ?_) | refine aopsD_end (hK _ ?_) | refine aopsF_end (hK _ ?_)); clear hK K) | ((first | refine aops_go ?_ | refine aopsD_go ?_ | refine aopsF_go ?_); simp [hb]; (try (refine gen2 ?_ ?_ <;> intro hq <;> try simp [hb] at hq))) | refine T.r0 fun K hK => ?_ | refine T.r1 fun K hK => ?_ | (refine ⟨by omega, ?_⟩) | refine T.ct rfl ?_ | refine T.cf rfl ?_ | refine T.seq ?_ | refine T.block ?_ | refine T.skip ?_ | refine T.exit ?_
 refine T.loopF (fun p : Nat => ⟨[(0, .l (l.map eOp)), (3, .i p)], [], []⟩) (fun p => l.length + 1 - p) (fun p => p <= l.length /\ opsOk (l.drop p) = R) (fun p hp => ?_) 0 (by simpa using hR) (by simp)
 obtain ⟨hi, he⟩ := hp
 by_cases hlt : p < l.length
 ·obtain ⟨u, ht⟩ := get_lt hlt
  have htm : u ∈ l := List.mem_of_getElem? ht
  have hgt : l[p] = u := by rw [List.getElem?_eq_getElem hlt] at ht; exact Option.some.inj ht
  have hdr : l.drop p = u :: l.drop (p + 1) := by rw [List.drop_eq_getElem_cons hlt, hgt]
  have h1 := l14Own_ok u p l.length hlt (by omega)
  rw [hdr, opsOk, show (((l.drop (p + 1)).length : Nat) : Int) = (l.length : Int) - 1 - p by rw [List.length_drop]; omega] at he
  generalize opOk u ((l.length : Int) - 1 - p) = q at h1 he
  cases q
  ·simp at he
   subst he
   repeat' first | ((first | refine aops_end (hK _ ?_) | refine aopsD_end (hK _ ?_) | refine aopsF_end (hK _ ?_)); clear hK K) | ((first | refine aops_go ?_ | refine aopsD_go ?_ | refine aopsF_go ?_ | refine wpcall_pure rfl (h1) ?_); simp [hlt, hgt, hb]; (try simp (disch := omega) only [wrap64]); (try (refine gen2 ?_ ?_ <;> intro hq <;> try simp [hlt, hgt, hb] at hq))) | (refine T.ret (Done.data (Or.inr rfl) ?_ ?_) <;> simp [Tryz.results10] <;> omega) | refine T.r0 fun K hK => ?_ | refine T.r1 fun K hK => ?_ | (refine ⟨by omega, ?_⟩) | refine T.ct rfl ?_ | refine T.cf rfl ?_ | refine T.seq ?_ | refine T.block ?_ | refine T.skip ?_ | refine T.exit ?_
  ·repeat' first | ((first | refine aops_end (hK _ ?_) | refine aopsD_end (hK _ ?_) | refine aopsF_end (hK _ ?_)); clear hK K) | ((first | refine aops_go ?_ | refine aopsD_go ?_ | refine aopsF_go ?_ | refine wpcall_pure rfl (h1) ?_); simp [hlt, hgt, hb]; (try simp (disch := omega) only [wrap64]); (try (refine gen2 ?_ ?_ <;> intro hq <;> try simp [hlt, hgt, hb] at hq))) | (refine ⟨p + 1, by dsimp only; omega, ⟨by omega, by simpa using he⟩, ?_⟩; simp (disch := omega) [wrap64]) | refine T.r0 fun K hK => ?_ | refine T.r1 fun K hK => ?_ | (refine ⟨by omega, ?_⟩) | refine T.ct rfl ?_ | refine T.cf rfl ?_ | refine T.seq ?_ | refine T.block ?_ | refine T.skip ?_ | refine T.exit ?_
 ·have hp' : p = l.length := by omega
  subst hp'
  simp [opsOk] at he
  subst he
  rw [Bool.true_and, inM]
  repeat' first | ((first | refine aops_end (hK _ ?_) | refine aopsD_end (hK _ ?_) | refine aopsF_end (hK _ ?_)); clear hK K) | ((first | refine aops_go ?_ | refine aopsD_go ?_ | refine aopsF_go ?_); simp [hlt, hb]; (try (refine gen2 ?_ ?_ <;> intro hq <;> try simp [hlt, hb] at hq))) | (refine T.ret (Done.data (Or.inr rfl) ?_ ?_) <;> simp [Tryz.results10, *] <;> omega) | refine T.r0 fun K hK => ?_ | refine T.r1 fun K hK => ?_ | (refine ⟨by omega, ?_⟩) | refine T.ct rfl ?_ | refine T.cf rfl ?_ | refine T.seq ?_ | refine T.block ?_ | refine T.skip ?_ | refine T.exit ?_
end Go.Proofs.YtcmdpggdaiinpaaGreatDoor

namespace Go.Proofs.YtcmdpggdaiinpaaGreatDoor
attribute [-simp] Go.Av.MCo.kind_mk Go.Av.MCo.tag_mk Go.Av.MCo.label_mk Go.Av.MCo.kids_mk Go.Av.callJ Go.Av.IT.kind_v Go.Av.IT.kind_b Go.Av.IT.kind_p Go.Av.IT.name_v Go.Av.IT.name_b Go.Av.IT.name_p Go.Av.IT.kids_v Go.Av.IT.kids_b Go.Av.IT.kids_p Go.Av.eIT_len Go.Av.gT_cons Go.Av.sT_cons
open Go Go.Av
attribute [local irreducible] T ACalls TX EX LX Draws Some_ ACallsX eTy eTm MTy.kind MTy.kids MTm.kind MTm.name MTm.num MTm.ty MTm.fr MTm.label MTm.kids
attribute [local simp] eTy_def eTm_def
set_option maxHeartbeats 16000000
set_option maxRecDepth 8000
attribute [local irreducible] wordsM opWord

theorem opsText_ok (l : List MOp) (h0 : 1 <= l.length) (hl : l.length <= 120) (ho : ∀ o ∈ l, 1 <= o.kind /\ o.kind <= 13 /\ 0 <= o.a /\ o.a <= 1000) : ACalls Tryz.prog 25 [.l (l.map eOp)] [] (.s (opsTextM l)) [] [] := by
 refine FCalls.plain ?_
 have hne : opsTextM l ≠ [] := opsText_ne (by intro e; rw [e] at h0; simp at h0)
 have hlen : ∀ p, (opsTextM (l.take p)).length <= 1560 := fun p => by
  have h1 := opsText_len (l := l.take p) fun o hm => by have := ho o (List.mem_of_mem_take hm); omega
  have h2 : (l.take p).length <= 120 := by rw [List.length_take]; omega
  omega
 refine FCalls.of_body Tryz.func25 (by kernel_rfl) rfl (by kernel_rfl) (by simp [Tryz.ntmps25]) ?_
 rw [Tryz.ntmps25]
 repeat' first | (refine aopsJ_builder (T := 91) (e := 5) rfl rfl td_bldx rfl fun pv => ?_; simp) | (refine aopsJ_end (hK _ _ ?_); clear hK K) | (refine aopsD_end (hK _ ?_); clear hK K) | (refine aopsJ_go ?_; simp; (try (refine J2 ?_ ?_ <;> intro hq <;> try simp at hq))) | (refine aopsF_end (hK _ ?_); clear hK K) | ((first | refine aopsD_go ?_ | refine aopsF_go ?_); simp; (try (refine gen2 ?_ ?_ <;> intro hq <;> try simp at hq))) | refine TJ.seqT (T.rd1 (id := 5) mixed (fun _ => false) [] (by kernel_rfl) fun K hK => ?_) | refine TJ.rs (fun _ => false) fun K hK => ?_ | refine TJ.rs1 (fun _ => false) fun K hK => ?_ | (refine And.intro (by omega) ?_) | refine TJ.cond rfl (fun hcnd => ?_) (fun hcnd => absurd hcnd (by decide)) | refine TJ.cond rfl (fun hcnd => absurd hcnd (by decide)) (fun hcnd => ?_) | refine TJ.seq ?_ | refine TJ.block ?_ | refine TJ.skip ?_ | refine TJ.exit ?_
 refine TJ.loopK [2, 3, 6, 7] (fun x : Nat × List (List CV) => [(8, .i x.1)]) (fun _ => []) (fun x => x.2) (fun x A => A) (fun x => [(.b 91 5 (Lib.byteCells (opsTextM (l.take x.1))), pv)]) (fun x => l.length + 1 - x.1) (fun x => x.1 <= l.length) (by simp; rfl) (fun x hi => ?_) (0, []) (by simp) (by simp) (by simp) (by simp) (M := []) (by simp; exact .refl _)
 obtain ⟨p, G⟩ := x
 dsimp only at hi ⊢
 simp only [ups, List.set_cons_zero, List.set_cons_succ, List.cons_append, List.nil_append, List.append_nil]
 by_cases hlt : p < l.length
 ·obtain ⟨u, ht⟩ := get_lt hlt
  have htm : u ∈ l := List.mem_of_getElem? ht
  have hgt : l[p] = u := by rw [List.getElem?_eq_getElem hlt] at ht; exact Option.some.inj ht
  have hdr : l.drop p = u :: l.drop (p + 1) := by rw [List.drop_eq_getElem_cons hlt, hgt]
  obtain ⟨hk1, hk2, ha1, ha2⟩ := ho u htm
  obtain ⟨j, hj⟩ : ∃ j : Nat, u.kind = (j : Int) + 1 := ⟨(u.kind - 1).toNat, by omega⟩
  have hj13 : j < wordsM.length := by rw [wordsM_len]; omega
  have hwj : wordsM[j] = opWord ((j : Int) + 1) := by
   have := wordsM_at (j := j) (by omega)
   rw [List.getElem?_eq_getElem hj13] at this
   exact Option.some.inj this
  have wj : IntKind.i64.wrap ((j : Int) + 1 - 1) = (j : Int) := by rw [wrap64 (by omega) (by omega)]; omega
  have k1 := opWords_ok
  have k2 := hasA_ok u.kind
  have k3 := Itoa_ok u.a (by omega) (by omega)
  have lw := opWord_len ((j : Int) + 1)
  have li := itoa_len_le (n := u.a) (by omega) (by omega)
  have hd := hlen p
  have htk := opsText_take ht
  have ht2 : opText u = opWord ((j : Int) + 1) ++ ((if hasAM u.kind = true then 32 :: Lib.itoa u.a else []) ++ [10]) := by rw [opText, hj]
  rw [hj] at k2 ht2
  have hwr : ∀ (d s : List UInt8), d.length + s.length <= 1000000 -> FCalls Tryz.prog 56 [.c (.d (.raw pv)), .s s] [(.b 91 5 (Lib.byteCells d), pv)] (fun r L' => r = .tup [.i s.length, .c (.d (.raw .nilIface))] /\ L' = [(.b 91 5 (Lib.byteCells (d ++ s)), pv)]) := fun d s h => write_ok pv d s h
  rw [ht2] at htk
  generalize hasAM ((j : Int) + 1) = q at k2 htk
  generalize opWord ((j : Int) + 1) = W at *
  generalize opsTextM (l.take p) = D at *
  generalize Lib.itoa u.a = I at *
  cases q
  ·repeat' first | (refine aopsD_end (hK _ ?_); clear hK K; have hK := hKJ; clear hKJ; simp only [lastOf, List.getLast?_cons_cons, List.getLast?_singleton, List.length_cons, List.length_nil]) | (refine aopsJ_end (hK _ _ ?_); clear hK K) | (refine aopsJ_end (hK _ _ ?_); clear hK) | (refine aopsD_end (hK _ ?_); clear hK K) | (refine aopsJ_go ?_; simp [hlt, hgt, hj, wj, hj13, hwj]; (try simp (disch := omega) only [wrap64, catLe]); (try (refine J2 ?_ ?_ <;> intro hq <;> try simp [hlt, hgt, hj, wj, hj13, hwj] at hq))) | (refine aopsD_go ?_; simp [hlt, hgt, hj, wj, hj13, hwj]; (try simp (disch := omega) only [wrap64, catLe]); (try (refine gen2 ?_ ?_ <;> intro hq <;> try simp [hlt, hgt, hj, wj, hj13, hwj] at hq))) | (refine aopsF_end (hK _ ?_); clear hK K) | (refine aopsF_go ?_; simp [hlt, hgt, hj, wj, hj13, hwj]; (try simp (disch := omega) only [wrap64, catLe]); (try (refine gen2 ?_ ?_ <;> intro hq <;> try simp [hlt, hgt, hj, wj, hj13, hwj] at hq))) | (refine wpcallJ_pure rfl (k1) ?_; simp [hlt, hgt, hj, wj, hj13, hwj]; (try simp (disch := omega) only [wrap64, catLe]); (try (refine J2 ?_ ?_ <;> intro hq <;> try simp [hlt, hgt, hj, wj, hj13, hwj] at hq))) | (refine wpcall_pure rfl (k1) ?_; simp [hlt, hgt, hj, wj, hj13, hwj]; (try simp (disch := omega) only [wrap64, catLe]); (try (refine gen2 ?_ ?_ <;> intro hq <;> try simp [hlt, hgt, hj, wj, hj13, hwj] at hq))) | (refine wpcallJ_pure rfl (k2) ?_; simp [hlt, hgt, hj, wj, hj13, hwj]; (try simp (disch := omega) only [wrap64, catLe]); (try (refine J2 ?_ ?_ <;> intro hq <;> try simp [hlt, hgt, hj, wj, hj13, hwj] at hq))) | (refine wpcall_pure rfl (k2) ?_; simp [hlt, hgt, hj, wj, hj13, hwj]; (try simp (disch := omega) only [wrap64, catLe]); (try (refine gen2 ?_ ?_ <;> intro hq <;> try simp [hlt, hgt, hj, wj, hj13, hwj] at hq))) | (refine wpcallJ_pure rfl (k3) ?_; simp [hlt, hgt, hj, wj, hj13, hwj]; (try simp (disch := omega) only [wrap64, catLe]); (try (refine J2 ?_ ?_ <;> intro hq <;> try simp [hlt, hgt, hj, wj, hj13, hwj] at hq))) | (refine wpcall_pure rfl (k3) ?_; simp [hlt, hgt, hj, wj, hj13, hwj]; (try simp (disch := omega) only [wrap64, catLe]); (try (refine gen2 ?_ ?_ <;> intro hq <;> try simp [hlt, hgt, hj, wj, hj13, hwj] at hq))) | (refine wpcallJ_mut (L2 := []) ?_ ?_ (hwr D W (by omega)) ?_; (focus (solve | exact .refl _)); (focus (solve | (repeat' first | exact FzVs.nil | apply FzVs.cons | apply FzV.c | apply FzV.agg | exact FzL.nil | apply FzL.cons | exact FzC.d | exact FzC.nil | exact FzC.np | (refine FzC.thaw' ?_ (tyK_dp _ _); (focus (solve | simp))) | (refine FzC.thaw' ?_ (tmK_dp _ _ _); (focus (solve | simp)))))); rintro _ _ ⟨rfl, rfl⟩; simp [hlt, hgt, hj, wj, hj13, hwj]; (try simp (disch := omega) only [wrap64, catLe]); (try (refine J2 ?_ ?_ <;> intro hq <;> try simp [hlt, hgt, hj, wj, hj13, hwj] at hq))) | (refine wpcallJ_mut (L2 := []) ?_ ?_ (hwr (D ++ W) [10] (by simp; omega)) ?_; (focus (solve | exact .refl _)); (focus (solve | (repeat' first | exact FzVs.nil | apply FzVs.cons | apply FzV.c | apply FzV.agg | exact FzL.nil | apply FzL.cons | exact FzC.d | exact FzC.nil | exact FzC.np | (refine FzC.thaw' ?_ (tyK_dp _ _); (focus (solve | simp))) | (refine FzC.thaw' ?_ (tmK_dp _ _ _); (focus (solve | simp)))))); rintro _ _ ⟨rfl, rfl⟩; simp [hlt, hgt, hj, wj, hj13, hwj]; (try simp (disch := omega) only [wrap64, catLe]); (try (refine J2 ?_ ?_ <;> intro hq <;> try simp [hlt, hgt, hj, wj, hj13, hwj] at hq))) | (refine TJ.rdL (id := 5) mixed (fun _ => false) [] (by kernel_rfl) (by kernel_rfl) fun K KJ hKJ hK => ?_; simp only [lastL, triv, List.getLast?_cons_cons, List.getLast?_singleton, List.dropLast_cons_cons, List.dropLast_singleton, List.cons_append, List.nil_append]) | (refine TJ.rdL1 (id := 5) mixed (fun _ => false) [] (by kernel_rfl) (by kernel_rfl) fun K KJ hKJ hK => ?_; simp only [lastL, triv, List.getLast?_cons_cons, List.getLast?_singleton, List.dropLast_cons_cons, List.dropLast_singleton, List.cons_append, List.nil_append]) | refine TJ.rs (fun _ => false) fun K hK => ?_ | refine TJ.rs1 (fun _ => false) fun K hK => ?_ | (refine And.intro (by omega) ?_) | refine TJ.cond rfl (fun hcnd => ?_) (fun hcnd => absurd hcnd (by decide)) | refine TJ.cond rfl (fun hcnd => absurd hcnd (by decide)) (fun hcnd => ?_) | refine TJ.seq ?_ | refine TJ.block ?_ | refine TJ.skip ?_ | refine TJ.exit ?_
   refine ⟨(p + 1, _), [], by dsimp only; omega, by dsimp only; omega, ⟨rfl, rfl, ?_⟩, ?_⟩
   ·simp (disch := omega) [wrap64]
   ·dsimp only
    rw [htk]
    simp
  ·repeat' first | (refine aopsD_end (hK _ ?_); clear hK K; have hK := hKJ; clear hKJ; simp only [lastOf, List.getLast?_cons_cons, List.getLast?_singleton, List.length_cons, List.length_nil]) | (refine aopsJ_end (hK _ _ ?_); clear hK K) | (refine aopsJ_end (hK _ _ ?_); clear hK) | (refine aopsD_end (hK _ ?_); clear hK K) | (refine aopsJ_go ?_; simp [hlt, hgt, hj, wj, hj13, hwj]; (try simp (disch := omega) only [wrap64, catLe]); (try (refine J2 ?_ ?_ <;> intro hq <;> try simp [hlt, hgt, hj, wj, hj13, hwj] at hq))) | (refine aopsD_go ?_; simp [hlt, hgt, hj, wj, hj13, hwj]; (try simp (disch := omega) only [wrap64, catLe]); (try (refine gen2 ?_ ?_ <;> intro hq <;> try simp [hlt, hgt, hj, wj, hj13, hwj] at hq))) | (refine aopsF_end (hK _ ?_); clear hK K) | (refine aopsF_go ?_; simp [hlt, hgt, hj, wj, hj13, hwj]; (try simp (disch := omega) only [wrap64, catLe]); (try (refine gen2 ?_ ?_ <;> intro hq <;> try simp [hlt, hgt, hj, wj, hj13, hwj] at hq))) | (refine wpcallJ_pure rfl (k1) ?_; simp [hlt, hgt, hj, wj, hj13, hwj]; (try simp (disch := omega) only [wrap64, catLe]); (try (refine J2 ?_ ?_ <;> intro hq <;> try simp [hlt, hgt, hj, wj, hj13, hwj] at hq))) | (refine wpcall_pure rfl (k1) ?_; simp [hlt, hgt, hj, wj, hj13, hwj]; (try simp (disch := omega) only [wrap64, catLe]); (try (refine gen2 ?_ ?_ <;> intro hq <;> try simp [hlt, hgt, hj, wj, hj13, hwj] at hq))) | (refine wpcallJ_pure rfl (k2) ?_; simp [hlt, hgt, hj, wj, hj13, hwj]; (try simp (disch := omega) only [wrap64, catLe]); (try (refine J2 ?_ ?_ <;> intro hq <;> try simp [hlt, hgt, hj, wj, hj13, hwj] at hq))) | (refine wpcall_pure rfl (k2) ?_; simp [hlt, hgt, hj, wj, hj13, hwj]; (try simp (disch := omega) only [wrap64, catLe]); (try (refine gen2 ?_ ?_ <;> intro hq <;> try simp [hlt, hgt, hj, wj, hj13, hwj] at hq))) | (refine wpcallJ_pure rfl (k3) ?_; simp [hlt, hgt, hj, wj, hj13, hwj]; (try simp (disch := omega) only [wrap64, catLe]); (try (refine J2 ?_ ?_ <;> intro hq <;> try simp [hlt, hgt, hj, wj, hj13, hwj] at hq))) | (refine wpcall_pure rfl (k3) ?_; simp [hlt, hgt, hj, wj, hj13, hwj]; (try simp (disch := omega) only [wrap64, catLe]); (try (refine gen2 ?_ ?_ <;> intro hq <;> try simp [hlt, hgt, hj, wj, hj13, hwj] at hq))) | (refine wpcallJ_mut (L2 := []) ?_ ?_ (hwr D W (by omega)) ?_; (focus (solve | exact .refl _)); (focus (solve | (repeat' first | exact FzVs.nil | apply FzVs.cons | apply FzV.c | apply FzV.agg | exact FzL.nil | apply FzL.cons | exact FzC.d | exact FzC.nil | exact FzC.np | (refine FzC.thaw' ?_ (tyK_dp _ _); (focus (solve | simp))) | (refine FzC.thaw' ?_ (tmK_dp _ _ _); (focus (solve | simp)))))); rintro _ _ ⟨rfl, rfl⟩; simp [hlt, hgt, hj, wj, hj13, hwj]; (try simp (disch := omega) only [wrap64, catLe]); (try (refine J2 ?_ ?_ <;> intro hq <;> try simp [hlt, hgt, hj, wj, hj13, hwj] at hq))) | (refine wpcallJ_mut (L2 := []) ?_ ?_ (hwr (D ++ W) (32 :: I) (by simp; omega)) ?_; (focus (solve | exact .refl _)); (focus (solve | (repeat' first | exact FzVs.nil | apply FzVs.cons | apply FzV.c | apply FzV.agg | exact FzL.nil | apply FzL.cons | exact FzC.d | exact FzC.nil | exact FzC.np | (refine FzC.thaw' ?_ (tyK_dp _ _); (focus (solve | simp))) | (refine FzC.thaw' ?_ (tmK_dp _ _ _); (focus (solve | simp)))))); rintro _ _ ⟨rfl, rfl⟩; simp [hlt, hgt, hj, wj, hj13, hwj]; (try simp (disch := omega) only [wrap64, catLe]); (try (refine J2 ?_ ?_ <;> intro hq <;> try simp [hlt, hgt, hj, wj, hj13, hwj] at hq))) | (refine wpcallJ_mut (L2 := []) ?_ ?_ (hwr (D ++ (W ++ 32 :: I)) [10] (by simp; omega)) ?_; (focus (solve | exact .refl _)); (focus (solve | (repeat' first | exact FzVs.nil | apply FzVs.cons | apply FzV.c | apply FzV.agg | exact FzL.nil | apply FzL.cons | exact FzC.d | exact FzC.nil | exact FzC.np | (refine FzC.thaw' ?_ (tyK_dp _ _); (focus (solve | simp))) | (refine FzC.thaw' ?_ (tmK_dp _ _ _); (focus (solve | simp)))))); rintro _ _ ⟨rfl, rfl⟩; simp [hlt, hgt, hj, wj, hj13, hwj]; (try simp (disch := omega) only [wrap64, catLe]); (try (refine J2 ?_ ?_ <;> intro hq <;> try simp [hlt, hgt, hj, wj, hj13, hwj] at hq))) | (refine TJ.rdL (id := 5) mixed (fun _ => false) [] (by kernel_rfl) (by kernel_rfl) fun K KJ hKJ hK => ?_; simp only [lastL, triv, List.getLast?_cons_cons, List.getLast?_singleton, List.dropLast_cons_cons, List.dropLast_singleton, List.cons_append, List.nil_append]) | (refine TJ.rdL1 (id := 5) mixed (fun _ => false) [] (by kernel_rfl) (by kernel_rfl) fun K KJ hKJ hK => ?_; simp only [lastL, triv, List.getLast?_cons_cons, List.getLast?_singleton, List.dropLast_cons_cons, List.dropLast_singleton, List.cons_append, List.nil_append]) | refine TJ.rs (fun _ => false) fun K hK => ?_ | refine TJ.rs1 (fun _ => false) fun K hK => ?_ | (refine And.intro (by omega) ?_) | refine TJ.cond rfl (fun hcnd => ?_) (fun hcnd => absurd hcnd (by decide)) | refine TJ.cond rfl (fun hcnd => absurd hcnd (by decide)) (fun hcnd => ?_) | refine TJ.seq ?_ | refine TJ.block ?_ | refine TJ.skip ?_ | refine TJ.exit ?_
   refine ⟨(p + 1, _), [], by dsimp only; omega, by dsimp only; omega, ⟨rfl, rfl, ?_⟩, ?_⟩
   ·simp (disch := omega) [wrap64]
   ·dsimp only
    rw [htk]
    simp
 ·have hp' : p = l.length := by omega
  subst hp'
  rw [List.take_length]
  repeat' first | (refine aopsJ_end (hK _ _ ?_); clear hK K) | (refine aopsD_end (hK _ ?_); clear hK K) | (refine aopsF_end (hK _ ?_); clear hK K) | ((first | refine aopsD_go ?_ | refine aopsF_go ?_); simp [hlt]; (try (refine gen2 ?_ ?_ <;> intro hq <;> try simp [hlt] at hq))) | ((first | refine aopsJ_go ?_ | (refine wpcallJ_mut (L2 := []) ?_ ?_ (string_ok pv (opsTextM l) hne) ?_; (focus (solve | exact .refl _)); (focus (solve | (repeat' first | exact FzVs.nil | apply FzVs.cons | apply FzV.c | apply FzV.agg | exact FzL.nil | apply FzL.cons | exact FzC.d | exact FzC.nil | exact FzC.np | (refine FzC.thaw' ?_ (tyK_dp _ _); (focus (solve | simp))) | (refine FzC.thaw' ?_ (tmK_dp _ _ _); (focus (solve | simp)))))); rintro _ _ ⟨rfl, rfl⟩)); simp [hlt]; (try (refine J2 ?_ ?_ <;> intro hq <;> try simp [hlt] at hq))) | (refine TJ.ret (DoneJ.eq (Or.inr rfl) ?_ ?_) <;> simp [Tryz.results25, DV.scal]) | (refine TJ.ret (DoneJ.scal (Or.inr rfl) ?_ ?_ ?_) <;> simp [Tryz.results25]) | refine TJ.seqT (T.rd1 (id := 5) mixed (fun _ => false) [] (by kernel_rfl) fun K hK => ?_) | refine TJ.rs (fun _ => false) fun K hK => ?_ | refine TJ.rs1 (fun _ => false) fun K hK => ?_ | (refine And.intro (by omega) ?_) | refine TJ.cond rfl (fun hcnd => ?_) (fun hcnd => absurd hcnd (by decide)) | refine TJ.cond rfl (fun hcnd => absurd hcnd (by decide)) (fun hcnd => ?_) | refine TJ.seq ?_ | refine TJ.block ?_ | refine TJ.skip ?_ | refine TJ.exit ?_

theorem FormatOps_ok (l : List MOp) (hl : l.length <= 1099511627776) : ACalls Tryz.prog 6 [.l (l.map eOp)] [] (.s (formatOpsM l)) [] [] := by
 have h := OpsValid_ok l hl
 rw [formatOpsM]
 by_cases hv : opsValidM l = true
 ·rw [hv] at h
  rw [if_pos hv]
  obtain ⟨h1, h2, h3⟩ := opsValid_iff.1 hv
  have k := opsText_ok l h2 h3 (opsOk_mem h1 (by omega))
  generalize opsTextM l = A at *
  refine ACalls.of_body Tryz.func6 (by kernel_rfl) rfl (by kernel_rfl) (by simp [Tryz.ntmps6]) (by simp) ?_
  rw [Tryz.ntmps6]
  repeat' first | ((first | refine aops_end (hK _ ?_) | refine aopsD_end (hK _ ?_) | refine aopsF_end (hK _ ?_)); clear hK K) | ((first | refine aops_go ?_ | refine aopsD_go ?_ | refine aopsF_go ?_ | refine wpcall_pure rfl (h) ?_ | refine wpcall_pure rfl (k) ?_); simp; (try (refine gen2 ?_ ?_ <;> intro hq <;> try simp at hq))) | (refine T.ret (Done.data (Or.inr rfl) ?_ ?_) <;> simp [Tryz.results6] <;> omega) | refine T.r0 fun K hK => ?_ | refine T.r1 fun K hK => ?_ | (refine ⟨by omega, ?_⟩) | refine T.ct rfl ?_ | refine T.cf rfl ?_ | refine T.seq ?_ | refine T.block ?_ | refine T.skip ?_ | refine T.exit ?_
 ·rw [if_neg hv]
  rw [Bool.not_eq_true] at hv
  rw [hv] at h
  refine ACalls.of_body Tryz.func6 (by kernel_rfl) rfl (by kernel_rfl) (by simp [Tryz.ntmps6]) (by simp) ?_
  rw [Tryz.ntmps6]
  repeat' first | ((first | refine aops_end (hK _ ?_) | refine aopsD_end (hK _ ?_) | refine aopsF_end (hK _ ?_)); clear hK K) | ((first | refine aops_go ?_ | refine aopsD_go ?_ | refine aopsF_go ?_ | refine wpcall_pure rfl (h) ?_); simp; (try (refine gen2 ?_ ?_ <;> intro hq <;> try simp at hq))) | (refine T.ret (Done.data (Or.inr rfl) ?_ ?_) <;> simp [Tryz.results6] <;> omega) | refine T.r0 fun K hK => ?_ | refine T.r1 fun K hK => ?_ | (refine ⟨by omega, ?_⟩) | refine T.ct rfl ?_ | refine T.cf rfl ?_ | refine T.seq ?_ | refine T.block ?_ | refine T.skip ?_ | refine T.exit ?_

theorem l14Words_ok : ACalls Tryz.prog 31 [] [] (.l (([] :: wordsM).map eW)) [] [] := by
 refine ACalls.of_body Tryz.func31 (by kernel_rfl) rfl (by kernel_rfl) (by simp [Tryz.ntmps31]) (by simp) ?_
 rw [Tryz.ntmps31]
 repeat' first | ((first | refine aops_end (hK _ ?_) | refine aopsD_end (hK _ ?_) | refine aopsF_end (hK _ ?_)); clear hK K) | ((first | refine aops_go ?_ | refine aopsD_go ?_ | refine aopsF_go ?_); simp; (try (refine gen2 ?_ ?_ <;> intro hq <;> try simp at hq))) | (refine T.ret (Done.data (Or.inr rfl) ?_ ?_) <;> simp [Tryz.results31, wordsM] <;> omega) | refine T.r0 fun K hK => ?_ | refine T.r1 fun K hK => ?_ | (refine ⟨by omega, ?_⟩) | refine T.ct rfl ?_ | refine T.cf rfl ?_ | refine T.seq ?_ | refine T.block ?_ | refine T.skip ?_ | refine T.exit ?_

theorem l14Has_ok (k : Int) (h : 1 <= k) : ACalls Tryz.prog 32 [.i k] [] (.b (hasAM k)) [] [] := by
 have hr : hasAM k = (decide (1 <= k) && decide (k <= 4) || decide (k = 9) || decide (k = 10)) := by
  simp only [hasAM]; rw [Bool.eq_iff_iff]; simp only [Bool.and_eq_true, Bool.or_eq_true, decide_eq_true_eq]; omega
 rw [hr]
 refine ACalls.of_body Tryz.func32 (by kernel_rfl) rfl (by kernel_rfl) (by simp [Tryz.ntmps32]) (by simp) ?_
 rw [Tryz.ntmps32]
 repeat' first | ((first | refine aops_end (hK _ ?_) | refine aopsD_end (hK _ ?_) | refine aopsF_end (hK _ ?_)); clear hK K) | ((first | refine aops_go ?_ | refine aopsD_go ?_ | refine aopsF_go ?_); simp [h]; (try (refine gen2 ?_ ?_ <;> intro hq <;> try simp [h] at hq))) | (refine T.ret (Done.data (Or.inr rfl) ?_ ?_) <;> simp [Tryz.results32, *] <;> omega) | refine T.r0 fun K hK => ?_ | refine T.r1 fun K hK => ?_ | (refine ⟨by omega, ?_⟩) | refine T.ct rfl ?_ | refine T.cf rfl ?_ | refine T.seq ?_ | refine T.block ?_ | refine T.skip ?_ | refine T.exit ?_

theorem FormatOpsS_ok (l : List MOp) (hl : l.length <= 1099511627776) : ACalls Tryz.prog 8 [.l (l.map eOp)] [] (.s (formatOpsM l)) [] [] := by
 have h := OpsValidS_ok l hl
 rw [formatOpsM]
 by_cases hv : opsValidM l = true
 rotate_left
 ·rw [if_neg hv]
  rw [Bool.not_eq_true] at hv
  rw [hv] at h
  refine ACalls.of_body Tryz.func8 (by kernel_rfl) rfl (by kernel_rfl) (by simp [Tryz.ntmps8]) (by simp) ?_
  rw [Tryz.ntmps8]
  repeat' first | ((first | refine aops_end (hK _ ?_) | refine aopsD_end (hK _ ?_) | refine aopsF_end (hK _ ?_)); clear hK K) | ((first | refine aops_go ?_ | refine aopsD_go ?_ | refine aopsF_go ?_ | refine wpcall_pure rfl (h) ?_); simp; (try (refine gen2 ?_ ?_ <;> intro hq <;> try simp at hq))) | (refine T.ret (Done.data (Or.inr rfl) ?_ ?_) <;> simp [Tryz.results8] <;> omega) | refine T.rd (id := 7) mixed (fun _ => false) [] (by kernel_rfl) fun K hK => ?_ | refine T.rd1 (id := 7) mixed (fun _ => false) [] (by kernel_rfl) fun K hK => ?_ | refine T.r0 fun K hK => ?_ | refine T.r1 fun K hK => ?_ | (refine ⟨by omega, ?_⟩) | refine T.ct rfl ?_ | refine T.cf rfl ?_ | refine T.seq ?_ | refine T.block ?_ | refine T.skip ?_ | refine T.exit ?_
 rw [hv] at h
 rw [if_pos hv]
 obtain ⟨h1, h2, h3⟩ := opsValid_iff.1 hv
 have ho := opsOk_mem h1 (by omega)
 have hlen : ∀ p, (opsTextM (l.take p)).length <= 1560 := fun p => by
  have h1 := opsText_len (l := l.take p) fun o hm => by have := ho o (List.mem_of_mem_take hm); omega
  have h2 : (l.take p).length <= 120 := by rw [List.length_take]; omega
  omega
 refine ACalls.of_body Tryz.func8 (by kernel_rfl) rfl (by kernel_rfl) (by simp [Tryz.ntmps8]) (by simp) ?_
 rw [Tryz.ntmps8]
 repeat' first | ((first | refine aops_end (hK _ ?_) | refine aopsD_end (hK _ ?_) | refine aopsF_end (hK _ ?_)); clear hK K) | ((first | refine aops_go ?_ | refine aopsD_go ?_ | refine aopsF_go ?_ | refine wpcall_pure rfl (h) ?_); simp; (try (refine gen2 ?_ ?_ <;> intro hq <;> try simp at hq))) | refine T.rd (id := 7) mixed (fun _ => false) [] (by kernel_rfl) fun K hK => ?_ | refine T.rd1 (id := 7) mixed (fun _ => false) [] (by kernel_rfl) fun K hK => ?_ | refine T.r0 fun K hK => ?_ | refine T.r1 fun K hK => ?_ | (refine ⟨by omega, ?_⟩) | refine T.ct rfl ?_ | refine T.cf rfl ?_ | refine T.seq ?_ | refine T.block ?_ | refine T.skip ?_ | refine T.exit ?_
 refine T.loopF (fun p : Nat => ⟨[(0, .l (l.map eOp)), (3, .s (opsTextM (l.take p))), (4, .i p)], [], []⟩) (fun p => l.length + 1 - p) (fun p => p <= l.length) (fun p hi => ?_) 0 (by simp) (by simp [opsTextM])
 by_cases hlt : p < l.length
 ·obtain ⟨u, ht⟩ := get_lt hlt
  have htm : u ∈ l := List.mem_of_getElem? ht
  have hgt : l[p] = u := by rw [List.getElem?_eq_getElem hlt] at ht; exact Option.some.inj ht
  have hdr : l.drop p = u :: l.drop (p + 1) := by rw [List.drop_eq_getElem_cons hlt, hgt]
  obtain ⟨hk1, hk2, ha1, ha2⟩ := ho u htm
  obtain ⟨j, hj⟩ : ∃ j : Nat, u.kind = (j : Int) + 1 := ⟨(u.kind - 1).toNat, by omega⟩
  have hj13 : j < wordsM.length := by rw [wordsM_len]; omega
  have hwj : wordsM[j] = opWord ((j : Int) + 1) := by
   have := wordsM_at (j := j) (by omega)
   rw [List.getElem?_eq_getElem hj13] at this
   exact Option.some.inj this
  have hj0 : ((j : Int) + 1).toNat = j + 1 := by omega
  have hj2 : (0 : Int) <= (j : Int) + 1 := by omega
  have k1 := l14Words_ok
  have k2 := l14Has_ok u.kind hk1
  obtain ⟨m, hm⟩ : ∃ m : Nat, u.a = m := ⟨u.a.toNat, by omega⟩
  have k3 := l18DecN_ok m (by omega)
  have hit : Lib.itoa u.a = Lib.decDigits m := by rw [hm, itoa_nonneg]
  have lw := opWord_len ((j : Int) + 1)
  have li := itoa_len_le (n := u.a) (by omega) (by omega)
  have hd := hlen p
  have htk := opsText_take ht
  have ht2 : opText u = opWord ((j : Int) + 1) ++ ((if hasAM u.kind = true then 32 :: Lib.itoa u.a else []) ++ [10]) := by rw [opText, hj]
  rw [hit] at ht2 li
  rw [hj] at k2 ht2
  rw [ht2] at htk
  generalize hasAM ((j : Int) + 1) = q at k2 htk
  generalize opWord ((j : Int) + 1) = W at *
  generalize opsTextM (l.take p) = D at *
  generalize Lib.decDigits m = I at *
  cases q
  ·repeat' first | ((first | refine aops_end (hK _ ?_) | refine aopsD_end (hK _ ?_) | refine aopsF_end (hK _ ?_)); clear hK K) | ((first | refine aops_go ?_ | refine aopsD_go ?_ | refine aopsF_go ?_ | refine wpcall_pure rfl (k1) ?_ | refine wpcall_pure rfl (k2) ?_ | refine wpcall_pure rfl (k3) ?_); simp [hlt, hgt, hj, hj0, hj2, hj13, hwj, hm]; (try simp (disch := omega) only [wrap64, catLe]); (try (refine gen2 ?_ ?_ <;> intro hq <;> try simp [hlt, hgt, hj, hj0, hj2, hj13, hwj, hm] at hq))) | (refine ⟨p + 1, by dsimp only; omega, by omega, ?_⟩; simp (disch := omega) [wrap64, htk]) | refine T.rd (id := 7) mixed (fun _ => false) [] (by kernel_rfl) fun K hK => ?_ | refine T.rd1 (id := 7) mixed (fun _ => false) [] (by kernel_rfl) fun K hK => ?_ | refine T.r0 fun K hK => ?_ | refine T.r1 fun K hK => ?_ | (refine ⟨by omega, ?_⟩) | refine T.ct rfl ?_ | refine T.cf rfl ?_ | refine T.seq ?_ | refine T.block ?_ | refine T.skip ?_ | refine T.exit ?_
  ·repeat' first | ((first | refine aops_end (hK _ ?_) | refine aopsD_end (hK _ ?_) | refine aopsF_end (hK _ ?_)); clear hK K) | ((first | refine aops_go ?_ | refine aopsD_go ?_ | refine aopsF_go ?_ | refine wpcall_pure rfl (k1) ?_ | refine wpcall_pure rfl (k2) ?_ | refine wpcall_pure rfl (k3) ?_); simp [hlt, hgt, hj, hj0, hj2, hj13, hwj, hm]; (try simp (disch := omega) only [wrap64, catLe]); (try (refine gen2 ?_ ?_ <;> intro hq <;> try simp [hlt, hgt, hj, hj0, hj2, hj13, hwj, hm] at hq))) | (refine ⟨p + 1, by dsimp only; omega, by omega, ?_⟩; simp (disch := omega) [wrap64, htk]) | refine T.rd (id := 7) mixed (fun _ => false) [] (by kernel_rfl) fun K hK => ?_ | refine T.rd1 (id := 7) mixed (fun _ => false) [] (by kernel_rfl) fun K hK => ?_ | refine T.r0 fun K hK => ?_ | refine T.r1 fun K hK => ?_ | (refine ⟨by omega, ?_⟩) | refine T.ct rfl ?_ | refine T.cf rfl ?_ | refine T.seq ?_ | refine T.block ?_ | refine T.skip ?_ | refine T.exit ?_
 ·have hp' : p = l.length := by omega
  subst hp'
  rw [List.take_length]
  generalize opsTextM l = A
  repeat' first | ((first | refine aops_end (hK _ ?_) | refine aopsD_end (hK _ ?_) | refine aopsF_end (hK _ ?_)); clear hK K) | ((first | refine aops_go ?_ | refine aopsD_go ?_ | refine aopsF_go ?_); simp [hlt]; (try (refine gen2 ?_ ?_ <;> intro hq <;> try simp [hlt] at hq))) | (refine T.ret (Done.data (Or.inr rfl) ?_ ?_) <;> simp [Tryz.results8] <;> omega) | refine T.rd (id := 7) mixed (fun _ => false) [] (by kernel_rfl) fun K hK => ?_ | refine T.rd1 (id := 7) mixed (fun _ => false) [] (by kernel_rfl) fun K hK => ?_ | refine T.r0 fun K hK => ?_ | refine T.r1 fun K hK => ?_ | (refine ⟨by omega, ?_⟩) | refine T.ct rfl ?_ | refine T.cf rfl ?_ | refine T.seq ?_ | refine T.block ?_ | refine T.skip ?_ | refine T.exit ?_

end Go.Proofs.YtcmdpggdaiinpaaGreatDoor
