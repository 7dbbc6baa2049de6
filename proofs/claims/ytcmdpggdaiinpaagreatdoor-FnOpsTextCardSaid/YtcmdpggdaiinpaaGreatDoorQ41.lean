/- A part of the library of this seat. -/
import Derived.Test.YtcmdpggdaiinpaaGreatDoorQ40
set_option linter.unusedVariables false
set_option linter.unusedSimpArgs false
namespace Go.Proofs.YtcmdpggdaiinpaaGreatDoor
attribute [-simp] Go.Av.astepJ Go.Av.relC Go.Av.relL Go.Av.relV Go.Av.relVs Go.Av.callJ Go.Av.IT.kind_v Go.Av.IT.kind_b Go.Av.IT.kind_p Go.Av.IT.name_v Go.Av.IT.name_b Go.Av.IT.name_p Go.Av.IT.kids_v Go.Av.IT.kids_b Go.Av.IT.kids_p Go.Av.eIT_len Go.Av.gT_cons Go.Av.sT_cons
open Go Go.Av
attribute [local irreducible] T ACalls TX EX LX Draws Some_ ACallsX eTy eTm MTy.kind MTy.kids MTm.kind MTm.name MTm.num MTm.ty MTm.fr MTm.label MTm.kids
attribute [local simp] eTy_def eTm_def
set_option maxHeartbeats 16000000
set_option maxRecDepth 8000

set_option maxRecDepth 100000 in
theorem sliteIndexByte2 (s : ByteArray) (c : Int) (w : World) :
  Calls Tryz.prog 139 #[.string s, .int .u8 c] w fun e w' => e = .returned (.int .i64 (Lib.indexByte s.data.toList c.toNat.toUInt8)) /\ w' = w := by
 go_enter Tryz.func139, Tryz.ntmps139
 go_wp2
 rw [run_callFunc_extern Tryz.func160 (by kernel_rfl) (by kernel_rfl) (by kernel_rfl) (e := Extern.BytealgIndexByte.indexByte) (by kernel_rfl), Lib.run_indexByteString]
 simp only [Result.andThen]
 rw [Oper.upon_value]
 go_wp2
 go_ret
 exact ⟨rfl, rfl⟩

theorem IndexByte2_ok (s : List UInt8) (c : Int) : ACalls Tryz.prog 139 [.s s, .c (.d (.int .u8 c))] [] (.i (Lib.indexByte s c.toNat.toUInt8)) [] [] := by
 unfold ACalls
 refine ⟨enters (c := (Tryz.f139.body).getD .skip) Tryz.func139 rfl (by kernel_rfl), by simp, fun g w vs hg hI hT hl hv => ?_⟩
 have h0 : 0 < vs.size := by rw [hl]; simp
 have h1 : 1 < vs.size := by rw [hl]; simp
 have e0 := hv 0 _ vs[0] rfl (by simp [h0])
 have e1 := hv 1 _ vs[1] rfl (by simp [h1])
 simp only [RepV, RepE, RepC, RepD] at e0 e1
 have e : vs = #[.string (bs s), .int .u8 c] := by
  apply Array.ext
  ·simpa using hl
  ·intro i hi hi'
   match i with
   | 0 => simpa using e0
   | 1 => simpa using e1
   | i + 2 => exact absurd hi' (by simp)
 subst e
 refine (sliteIndexByte2 (bs s) c w).mono ?_
 rintro e w' ⟨rfl, rfl⟩
 exact ⟨_, g, rfl, by simp [RepV, RepE, RepC, RepD, bs], hI, .refl hT⟩

theorem Index12_ok (s : List UInt8) (c : UInt8) : ACalls Tryz.prog 100 [.s s, .s [c]] [] (.i (Lib.indexByte s c)) [] [] := by
 have h := IndexByte2_ok s c.toNat
 have e : (c.toNat : Int).toNat.toUInt8 = c := by simp
 rw [e] at h
 by_cases hs : s = [c]
 ·subst hs
  refine ACalls.of_body Tryz.func100 (by kernel_rfl) rfl (by kernel_rfl) (by simp [Tryz.ntmps100]) (by simp) ?_
  rw [Tryz.ntmps100]
  repeat' first | ((first | refine aops_end (hK _ ?_) | refine aopsD_end (hK _ ?_) | refine aopsF_end (hK _ ?_)); clear hK K) | ((first | refine aops_go ?_ | refine aopsD_go ?_ | refine aopsF_go ?_ | refine wpcall_pure rfl (h) ?_); simp; (try (refine gen2 ?_ ?_ <;> intro hq <;> try simp at hq))) | (refine T.ret (Done.data (Or.inr rfl) ?_ ?_) <;> simp [Tryz.results100, Lib.indexByte] <;> omega) | refine T.r0 fun K hK => ?_ | refine T.r1 fun K hK => ?_ | (refine ⟨by omega, ?_⟩) | refine T.ct rfl ?_ | refine T.cf rfl ?_ | refine T.seq ?_ | refine T.block ?_ | refine T.skip ?_ | refine T.exit ?_
 ·have hs' : ¬ [c] = s := fun e => hs e.symm
  refine ACalls.of_body Tryz.func100 (by kernel_rfl) rfl (by kernel_rfl) (by simp [Tryz.ntmps100]) (by simp) ?_
  rw [Tryz.ntmps100]
  repeat' first | ((first | refine aops_end (hK _ ?_) | refine aopsD_end (hK _ ?_) | refine aopsF_end (hK _ ?_)); clear hK K) | ((first | refine aops_go ?_ | refine aopsD_go ?_ | refine aopsF_go ?_ | refine wpcall_pure rfl (h) ?_); simp [hs']; (try (refine gen2 ?_ ?_ <;> intro hq <;> try simp [hs'] at hq))) | (refine T.ret (Done.data (Or.inr rfl) ?_ ?_) <;> simp [Tryz.results100] <;> omega) | refine T.r0 fun K hK => ?_ | refine T.r1 fun K hK => ?_ | (refine ⟨by omega, ?_⟩) | refine T.ct rfl ?_ | refine T.cf rfl ?_ | refine T.seq ?_ | refine T.block ?_ | refine T.skip ?_ | refine T.exit ?_

theorem sIndex12_ok (s : List UInt8) (c : UInt8) : ACalls Tryz.prog 99 [.s s, .s [c]] [] (.i (Lib.indexByte s c)) [] [] := by
 have h := Index12_ok s c
 refine ACalls.of_body Tryz.func99 (by kernel_rfl) rfl (by kernel_rfl) (by simp [Tryz.ntmps99]) (by simp) ?_
 rw [Tryz.ntmps99]
 repeat' first | ((first | refine aops_end (hK _ ?_) | refine aopsD_end (hK _ ?_) | refine aopsF_end (hK _ ?_)); clear hK K) | ((first | refine aops_go ?_ | refine aopsD_go ?_ | refine aopsF_go ?_ | refine wpcall_pure rfl (h) ?_); simp; (try (refine gen2 ?_ ?_ <;> intro hq <;> try simp at hq))) | (refine T.ret (Done.data (Or.inr rfl) ?_ ?_) <;> simp [Tryz.results99] <;> omega) | refine T.r0 fun K hK => ?_ | refine T.r1 fun K hK => ?_ | (refine ⟨by omega, ?_⟩) | refine T.ct rfl ?_ | refine T.cf rfl ?_ | refine T.seq ?_ | refine T.block ?_ | refine T.skip ?_ | refine T.exit ?_

set_option maxRecDepth 100000 in
theorem strCount (s : ByteArray) (c : UInt8) (w : World) :
  Calls Tryz.prog 98 #[.string s, .string ⟨#[c]⟩] w fun e w' => e = .returned (.int .i64 (Lib.countByte s.data.toList c)) /\ w' = w := by
 go_enter Tryz.func98, Tryz.ntmps98
 go_wp2
 rw [run_callFunc_extern Tryz.func138 (by kernel_rfl) (by kernel_rfl) (by kernel_rfl) (e := Extern.BytealgCount.count) (by kernel_rfl), Lib.run_countString]
 simp only [Result.andThen]
 rw [Oper.upon_value]
 go_wp2
 go_ret
 exact ⟨rfl, rfl⟩

theorem Count1_ok (s : List UInt8) (c : UInt8) : ACalls Tryz.prog 98 [.s s, .s [c]] [] (.i (s.count c : Nat)) [] [] := by
 unfold ACalls
 refine ⟨enters (c := (Tryz.f98.body).getD .skip) Tryz.func98 rfl (by kernel_rfl), by simp, fun g w vs hg hI hT hl hv => ?_⟩
 have h0 : 0 < vs.size := by rw [hl]; simp
 have h1 : 1 < vs.size := by rw [hl]; simp
 have e0 := hv 0 _ vs[0] rfl (by simp [h0])
 have e1 := hv 1 _ vs[1] rfl (by simp [h1])
 simp only [RepV, RepE, RepC, RepD] at e0 e1
 have e : vs = #[.string (bs s), .string ⟨#[c]⟩] := by
  apply Array.ext
  ·simpa using hl
  ·intro i hi hi'
   match i with
   | 0 => simpa using e0
   | 1 => simpa [bs] using e1
   | i + 2 => exact absurd hi' (by simp)
 subst e
 refine (strCount (bs s) c w).mono ?_
 rintro e w' ⟨rfl, rfl⟩
 exact ⟨_, g, rfl, by simp [RepV, RepE, RepC, RepD, bs, Lib.countByte], hI, .refl hT⟩
end Go.Proofs.YtcmdpggdaiinpaaGreatDoor

namespace Go.Proofs.YtcmdpggdaiinpaaGreatDoor
attribute [-simp] Go.Av.astepJ Go.Av.relC Go.Av.relL Go.Av.relV Go.Av.relVs Go.Av.callJ Go.Av.IT.kind_v Go.Av.IT.kind_b Go.Av.IT.kind_p Go.Av.IT.name_v Go.Av.IT.name_b Go.Av.IT.name_p Go.Av.IT.kids_v Go.Av.IT.kids_b Go.Av.IT.kids_p Go.Av.eIT_len Go.Av.gT_cons Go.Av.sT_cons
open Go Go.Av
attribute [local irreducible] T ACalls TX EX LX Draws Some_ ACallsX eTy eTm MTy.kind MTy.kids MTm.kind MTm.name MTm.num MTm.ty MTm.fr MTm.label MTm.kids
attribute [local simp] eTy_def eTm_def
set_option maxHeartbeats 16000000
set_option maxRecDepth 8000

theorem cutL_cons {c : UInt8} {s : List UInt8} {m : Nat} (h : Lib.indexByte s c = m) : cutL c s = s.take m :: cutL c (s.drop (m + 1)) := by
 obtain ⟨_, h2, h3⟩ := ix_some h
 conv => lhs; rw [h3]
 exact cutL_sep _ h2
theorem cutL_one {c : UInt8} {s x : List UInt8} (h : cutL c s = [x]) : s = x := by
 rcases ix_or s c with q | ⟨m, q⟩
 ·rw [cutL_no (ix_none q)] at h; simpa using h
 ·rw [cutL_cons q] at h
  simp only [List.cons.injEq] at h
  exact absurd h.2 (cutL_ne _ _)

theorem genSplit_ok (s : List UInt8) (c : UInt8) (hs : s.length <= 1099511627776) : ACalls Tryz.prog 60 [.s s, .s [c], .i 0, .i (-1)] [] (.l ((cutL c s).map eW)) [] [] := by
 have h1 := Count1_ok s c
 have hlen := cutL_len c s
 have hcl : s.count c <= s.length := List.count_le_length
 obtain ⟨P, hP⟩ : ∃ P, cutL c s = P := ⟨_, rfl⟩
 rw [hP] at hlen ⊢
 have hn : ((s.count c : Nat) : Int) + 1 = (P.length : Int) := by omega
 have hmin : min (P.length : Int) ((s.length : Int) + 1) = (P.length : Int) := by omega
 have hp0 : 1 <= P.length := by omega
 generalize s.count c = n at *
 have hnm : n = P.length - 1 := by omega
 have hpl : P.length <= 1099511627777 := by omega
 have hmn : ¬ ((s.length : Int) + 1 < P.length) := by omega
 refine ACalls.of_body Tryz.func60 (by kernel_rfl) rfl (by kernel_rfl) (by simp [Tryz.ntmps60]) (by simp) ?_
 rw [Tryz.ntmps60]
 repeat' first | ((first | refine aops_end (hK _ ?_) | refine aopsD_end (hK _ ?_) | refine aopsF_end (hK _ ?_)); clear hK K) | ((first | refine aops_go ?_ | refine aopsD_go ?_ | refine aopsF_go ?_ | refine wpcall_pure rfl (h1) ?_); simp [hn, hmn]; (try simp (disch := omega) only [wrap64]); (try (refine gen2 ?_ ?_ <;> intro hq <;> try simp [hn, hmn] at hq))) | refine T.rs (id := 8) (fun i => i == 1) fun K hK => ?_ | refine T.rs1 (id := 8) (fun i => i == 1) fun K hK => ?_ | refine T.rs (id := 0) (fun _ => false) fun K hK => ?_ | refine T.rs1 (id := 0) (fun _ => false) fun K hK => ?_ | refine T.rs (id := 1) (fun _ => false) fun K hK => ?_ | refine T.rs1 (id := 1) (fun _ => false) fun K hK => ?_ | refine T.rs (id := 2) (fun _ => false) fun K hK => ?_ | refine T.rs1 (id := 2) (fun _ => false) fun K hK => ?_ | refine T.rs (id := 3) (fun _ => false) fun K hK => ?_ | refine T.rs1 (id := 3) (fun _ => false) fun K hK => ?_ | refine T.rs (id := 4) (fun _ => false) fun K hK => ?_ | refine T.rs1 (id := 4) (fun _ => false) fun K hK => ?_ | refine T.rs (id := 5) (fun _ => false) fun K hK => ?_ | refine T.rs1 (id := 5) (fun _ => false) fun K hK => ?_ | refine T.rs (id := 6) (fun _ => false) fun K hK => ?_ | refine T.rs1 (id := 6) (fun _ => false) fun K hK => ?_ | refine T.rs (id := 7) (fun _ => false) fun K hK => ?_ | refine T.rs1 (id := 7) (fun _ => false) fun K hK => ?_ | refine T.rs (id := 9) (fun _ => false) fun K hK => ?_ | refine T.rs1 (id := 9) (fun _ => false) fun K hK => ?_ | refine T.rs (id := 10) (fun _ => false) fun K hK => ?_ | refine T.rs1 (id := 10) (fun _ => false) fun K hK => ?_ | refine T.rs (id := 11) (fun _ => false) fun K hK => ?_ | refine T.rs1 (id := 11) (fun _ => false) fun K hK => ?_ | refine T.rs (id := 12) (fun _ => false) fun K hK => ?_ | refine T.rs1 (id := 12) (fun _ => false) fun K hK => ?_ | refine T.rs (id := 13) (fun _ => false) fun K hK => ?_ | refine T.rs1 (id := 13) (fun _ => false) fun K hK => ?_ | refine T.rs (id := 14) (fun _ => false) fun K hK => ?_ | refine T.rs1 (id := 14) (fun _ => false) fun K hK => ?_ | refine T.rs (id := 15) (fun _ => false) fun K hK => ?_ | refine T.rs1 (id := 15) (fun _ => false) fun K hK => ?_ | refine T.rs (id := 16) (fun _ => false) fun K hK => ?_ | refine T.rs1 (id := 16) (fun _ => false) fun K hK => ?_ | refine T.rs (id := 17) (fun _ => false) fun K hK => ?_ | refine T.rs1 (id := 17) (fun _ => false) fun K hK => ?_ | refine T.rs (id := 18) (fun _ => false) fun K hK => ?_ | refine T.rs1 (id := 18) (fun _ => false) fun K hK => ?_ | (refine ⟨by omega, ?_⟩) | refine T.ct rfl ?_ | refine T.cf rfl ?_ | refine T.seq ?_ | refine T.block ?_ | refine T.skip ?_ | refine T.exit ?_
 refine T.loopK (α := Nat × List UInt8) [1, 2, 3, 8, 9] (fun x => [(0, .s x.2), (10, .i x.1)]) (fun _ => []) (fun _ => []) (fun x _ => [{ sz := 1, ety := 9, rows := fillR eW [.str []] P x.1, wr := true }]) (fun x => P.length + 1 - x.1) (fun x => x.1 < P.length /\ cutL c x.2 = P.drop x.1 /\ x.2.length <= 1099511627776) (by simp; rfl) (fun x hx => ?_) (0, s) ⟨by dsimp only; omega, by simp [hP], hs⟩ (by simp [ups]) (by simp [fillR_zero]) (by simp)
 obtain ⟨i, r⟩ := x
 obtain ⟨hi, hc, hr⟩ := hx
 dsimp only at hi hc hr ⊢
 simp only [ups, List.set_cons_zero, List.set_cons_succ, List.cons_append, List.nil_append, List.append_nil]
 have hd := drop_cons hi
 obtain ⟨y, hy⟩ := get_lt hi
 have hgy : P[i] = y := by rw [List.getElem?_eq_getElem hi] at hy; exact Option.some.inj hy
 rw [hgy] at hd
 have hfl := fillR_len (f := eW) (z := [DV.str []]) (l := P) (Nat.le_of_lt hi)
 have hfa := fillR_at (f := eW) (z := [DV.str []]) (l := P) hi
 have hset := fillR_set' (f := eW) (z := [DV.str []]) hy
 have hi0 : (0 : Int) <= i := by omega
 by_cases hlt : (i : Int) < (P.length : Int) - 1
 ·rcases ix_or r c with q0 | ⟨m, q0⟩
  ·rw [cutL_no (ix_none q0), hd] at hc
   have := congrArg List.length hc
   simp at this
   omega
  ·obtain ⟨hm, _, _⟩ := ix_some q0
   rw [cutL_cons q0, hd] at hc
   simp only [List.cons.injEq] at hc
   obtain ⟨hc1, hc2⟩ := hc
   have k1 := sIndex12_ok r c
   rw [q0] at k1
   rw [<- hc1] at hset
   have hto : ((m : Int) + 1).toNat = m + 1 := by omega
   have hm1 : (m : Int) <= r.length := by omega
   have hm2 : (m : Int) + 1 <= r.length := by omega
   have hm3 : ¬ ((m : Int) < 0) := by omega
   have hm4 : (0 : Int) <= (m : Int) + 1 := by omega
   repeat' first | ((first | refine aops_end (hK _ ?_) | refine aopsD_end (hK _ ?_) | refine aopsF_end (hK _ ?_)); clear hK K) | ((first | refine aops_go ?_ | refine aopsD_go ?_ | refine aopsF_go ?_ | refine wpcall_pure rfl (k1) ?_); simp [hlt, hi, hi0, hfl, hfa, hset, hto, hm1, hm2, hm3, hm4]; (try simp (disch := omega) only [wrap64]); (try (refine gen2 ?_ ?_ <;> intro hq <;> try simp [hlt, hi, hi0, hfl, hfa, hset, hto, hm1, hm2, hm3, hm4] at hq))) | (refine ⟨(i + 1, r.drop (m + 1)), by dsimp only; omega, ⟨by dsimp only; omega, hc2, by simp; omega⟩, ?_⟩; simp (disch := omega) [wrap64, hset]) | refine T.r0 fun K hK => ?_ | refine T.r1 fun K hK => ?_ | (refine ⟨by omega, ?_⟩) | refine T.ct rfl ?_ | refine T.cf rfl ?_ | refine T.seq ?_ | refine T.block ?_ | refine T.skip ?_ | refine T.exit ?_
 ·have hpi : P.length = i + 1 := by omega
  have hdl : P.drop (i + 1) = [] := List.drop_of_length_le (by omega)
  rw [hd, hdl] at hc
  have hry := cutL_one hc
  subst hry
  have hfin : fillR eW [DV.str []] P (i + 1) = P.map eW := by rw [<- hpi]; exact fillR_full
  rw [hfin] at hset
  have hto : ((i : Int) + 1).toNat = i + 1 := by omega
  have hml : (P.map eW).length = P.length := by simp
  have htk : (P.map eW).take (i + 1) = P.map eW := List.take_of_length_le (by omega)
  repeat' first | ((first | refine aops_end (hK _ ?_) | refine aopsD_end (hK _ ?_) | refine aopsF_end (hK _ ?_)); clear hK K) | ((first | refine aops_go ?_ | refine aopsD_go ?_ | refine aopsF_go ?_); simp [hlt, hi, hi0, hfl, hfa, hset, hto, hpi, hml, htk]; (try simp (disch := omega) only [wrap64]); (try (refine gen2 ?_ ?_ <;> intro hq <;> try simp [hlt, hi, hi0, hfl, hfa, hset, hto, hpi, hml, htk] at hq))) | (refine T.ret (Done.data (Or.inr rfl) ?_ ?_) <;> simp [Tryz.results60, htk] <;> omega) | refine T.r0 fun K hK => ?_ | refine T.r1 fun K hK => ?_ | (refine ⟨by omega, ?_⟩) | refine T.ct rfl ?_ | refine T.cf rfl ?_ | refine T.seq ?_ | refine T.block ?_ | refine T.skip ?_ | refine T.exit ?_
end Go.Proofs.YtcmdpggdaiinpaaGreatDoor

namespace Go.Proofs.YtcmdpggdaiinpaaGreatDoor
attribute [-simp] Go.Av.astepJ Go.Av.relC Go.Av.relL Go.Av.relV Go.Av.relVs Go.Av.callJ Go.Av.IT.kind_v Go.Av.IT.kind_b Go.Av.IT.kind_p Go.Av.IT.name_v Go.Av.IT.name_b Go.Av.IT.name_p Go.Av.IT.kids_v Go.Av.IT.kids_b Go.Av.IT.kids_p Go.Av.eIT_len Go.Av.gT_cons Go.Av.sT_cons
open Go Go.Av
attribute [local irreducible] T ACalls TX EX LX Draws Some_ ACallsX eTy eTm MTy.kind MTy.kids MTm.kind MTm.name MTm.num MTm.ty MTm.fr MTm.label MTm.kids
attribute [local simp] eTy_def eTm_def
set_option maxHeartbeats 16000000
set_option maxRecDepth 8000
theorem cut_split {s : List UInt8} {f i : Nat} (h1 : f <= i) (h2 : i <= s.length) : s.drop f = (s.take i).drop f ++ s.drop i := by
 conv => lhs; rw [<- List.take_append_drop i s]
 rw [List.drop_append_of_le_length (by simp; omega)]
theorem take_drop_next {s : List UInt8} {f i : Nat} {x : UInt8} (h1 : f <= i) (hx : s[i]? = some x) : (s.take (i + 1)).drop f = (s.take i).drop f ++ [x] := by
 have hi := (List.getElem?_eq_some_iff.1 hx).1
 rw [List.take_add_one, hx, List.drop_append_of_le_length (by simp; omega)]; rfl

theorem l18Cut_own (s : List UInt8) (c : UInt8) (hs : s.length <= 1099511627776) : ACalls Tryz.prog 39 [.s s, .c (.d (.int .u8 (c.toNat : Int)))] [] (.c (.own 0 (cutL c s).length)) [] [{ sz := 1, ety := 9, rows := (cutL c s).map eW, wr := true }] := by
 have hPl := cutL_len c s
 have hcl : s.count c <= s.length := List.count_le_length
 obtain ⟨P, hP⟩ : ∃ P, cutL c s = P := ⟨_, rfl⟩
 rw [hP] at hPl ⊢
 have hPb : P.length <= 1099511627777 := by omega
 refine ACalls.of_body Tryz.func39 (by kernel_rfl) rfl (by kernel_rfl) (by simp [Tryz.ntmps39]) (by simp) ?_
 rw [Tryz.ntmps39]
 repeat' first | ((first | refine aops_end (hK _ ?_) | refine aopsD_end (hK _ ?_) | refine aopsF_end (hK _ ?_)); clear hK K) | ((first | refine aops_go ?_ | refine aopsD_go ?_ | refine aopsF_go ?_); simp; (try (refine gen2 ?_ ?_ <;> intro hq <;> try simp at hq))) | refine T.rs (id := 1) (fun i => i == 0) fun K hK => ?_ | refine T.rs1 (id := 1) (fun i => i == 0) fun K hK => ?_ | refine T.rs (id := 0) (fun _ => false) fun K hK => ?_ | refine T.rs1 (id := 0) (fun _ => false) fun K hK => ?_ | refine T.rs (id := 2) (fun _ => false) fun K hK => ?_ | refine T.rs1 (id := 2) (fun _ => false) fun K hK => ?_ | refine T.rs (id := 3) (fun _ => false) fun K hK => ?_ | refine T.rs1 (id := 3) (fun _ => false) fun K hK => ?_ | refine T.rs (id := 4) (fun _ => false) fun K hK => ?_ | refine T.rs1 (id := 4) (fun _ => false) fun K hK => ?_ | refine T.rs (id := 6) (fun _ => false) fun K hK => ?_ | refine T.rs1 (id := 6) (fun _ => false) fun K hK => ?_ | refine T.rs (id := 7) (fun _ => false) fun K hK => ?_ | refine T.rs1 (id := 7) (fun _ => false) fun K hK => ?_ | refine T.rs (id := 8) (fun _ => false) fun K hK => ?_ | refine T.rs1 (id := 8) (fun _ => false) fun K hK => ?_ | refine T.rs (id := 5) (fun _ => false) fun K hK => ?_ | refine T.rs1 (id := 5) (fun _ => false) fun K hK => ?_ | refine T.rs (id := 9) (fun _ => false) fun K hK => ?_ | refine T.rs1 (id := 9) (fun _ => false) fun K hK => ?_ | (refine ⟨by omega, ?_⟩) | refine T.ct rfl ?_ | refine T.cf rfl ?_ | refine T.seq ?_ | refine T.block ?_ | refine T.skip ?_ | refine T.exit ?_
 refine T.loopK (α := List (List UInt8) × Nat × Nat) [0, 1, 4] (fun x => [(5, .c (.own 0 x.1.length)), (6, .i x.2.1), (7, .i x.2.2)]) (fun _ => []) (fun _ => []) (fun x _ => [{ sz := 1, ety := 9, rows := x.1.map eW, wr := true }]) (fun x => s.length + 2 - x.2.2) (fun x => (x.2.2 <= s.length /\ x.2.1 <= x.2.2 /\ c ∉ (s.take x.2.2).drop x.2.1 /\ x.1 ++ cutL c (s.drop x.2.1) = P) \/ (x.2.2 = s.length + 1 /\ x.2.1 <= s.length + 1 /\ x.1 = P)) (by simp; rfl) (fun x hx => ?_) ([], 0, 0) (.inl ⟨by simp, by simp, by simp, by simpa using hP⟩) (by simp [ups]) (by simp) (by simp)
 obtain ⟨L, f, i⟩ := x
 dsimp only at hx ⊢
 simp only [ups, List.set_cons_zero, List.set_cons_succ, List.cons_append, List.nil_append, List.append_nil]
 rcases hx with ⟨hi, hf, hno, he⟩ | ⟨hi, hf, he⟩
 ·have hLl : L.length <= P.length := by rw [<- he]; simp
  have hmL : (L.map eW).length = L.length := by simp
  have hsp := cut_split hf hi
  have hil : (i : Int) <= s.length := by omega
  have hfi : (f : Int) <= i := by omega
  by_cases hlt : i < s.length
  ·obtain ⟨x, hx⟩ := get_lt hlt
   have hgt : s[i] = x := by rw [List.getElem?_eq_getElem hlt] at hx; exact Option.some.inj hx
   have hdi : s.drop i = x :: s.drop (i + 1) := by rw [List.drop_eq_getElem_cons hlt, hgt]
   have hne : ¬ (i : Int) = s.length := by omega
   have hne2 : ¬ i = s.length := by omega
   by_cases hc : x = c
   ·subst hc
    rw [hsp, hdi, cutL_sep _ hno] at he
    repeat' first | ((first | refine aops_end (hK _ ?_) | refine aopsD_end (hK _ ?_) | refine aopsF_end (hK _ ?_)); clear hK K) | ((first | refine aops_go ?_ | refine aopsD_go ?_ | refine aopsF_go ?_); simp [hil, hlt, hgt, hne, hne2, hfi, hmL]; (try simp (disch := omega) only [wrap64]); (try (refine gen2 ?_ ?_ <;> intro hq <;> try simp [hil, hlt, hgt, hne, hne2, hfi, hmL] at hq))) | (refine ⟨(L ++ [(s.take i).drop f], i + 1, i + 1), by dsimp only; omega, .inl ⟨by dsimp only; omega, by simp, by simp, by simpa using he⟩, ?_⟩; simp (disch := omega) [wrap64]) | refine T.r0 fun K hK => ?_ | refine T.r1 fun K hK => ?_ | (refine ⟨by omega, ?_⟩) | refine T.ct rfl ?_ | refine T.cf rfl ?_ | refine T.seq ?_ | refine T.block ?_ | refine T.skip ?_ | refine T.exit ?_
   ·have hc' : ¬ x.toNat = c.toNat := fun h => hc (UInt8.toNat_inj.1 h)
    have hc3 : ((x.toNat : Int) == (c.toNat : Int)) = false := by simp only [beq_eq_false_iff_ne, ne_eq]; omega
    have hnx := take_drop_next hf hx
    repeat' first | ((first | refine aops_end (hK _ ?_) | refine aopsD_end (hK _ ?_) | refine aopsF_end (hK _ ?_)); clear hK K) | ((first | refine aops_go ?_ | refine aopsD_go ?_ | refine aopsF_go ?_); simp [hil, hlt, hgt, hne, hne2, hc, hc', hc3]; (try simp (disch := omega) only [wrap64]); (try (refine gen2 ?_ ?_ <;> intro hq <;> try simp [hil, hlt, hgt, hne, hne2, hc, hc', hc3] at hq))) | (refine ⟨(L, f, i + 1), by dsimp only; omega, .inl ⟨by dsimp only; omega, by dsimp only; omega, by rw [hnx]; simp [hno]; exact fun h => hc h.symm, he⟩, ?_⟩; simp (disch := omega) [wrap64]) | refine T.r0 fun K hK => ?_ | refine T.r1 fun K hK => ?_ | (refine ⟨by omega, ?_⟩) | refine T.ct rfl ?_ | refine T.cf rfl ?_ | refine T.seq ?_ | refine T.block ?_ | refine T.skip ?_ | refine T.exit ?_
  ·have hil2 : i = s.length := by omega
   subst hil2
   have hno2 : c ∉ s.drop f := by rw [hsp]; simpa using hno
   rw [cutL_no hno2] at he
   have htk : s.take s.length = s := List.take_length
   repeat' first | ((first | refine aops_end (hK _ ?_) | refine aopsD_end (hK _ ?_) | refine aopsF_end (hK _ ?_)); clear hK K) | ((first | refine aops_go ?_ | refine aopsD_go ?_ | refine aopsF_go ?_); simp [htk, hfi, hmL]; (try simp (disch := omega) only [wrap64]); (try (refine gen2 ?_ ?_ <;> intro hq <;> try simp [htk, hfi, hmL] at hq))) | (refine ⟨(L ++ [s.drop f], s.length + 1, s.length + 1), by dsimp only; omega, .inr ⟨rfl, Nat.le_refl _, he⟩, ?_⟩; simp (disch := omega) [wrap64]) | refine T.r0 fun K hK => ?_ | refine T.r1 fun K hK => ?_ | (refine ⟨by omega, ?_⟩) | refine T.ct rfl ?_ | refine T.cf rfl ?_ | refine T.seq ?_ | refine T.block ?_ | refine T.skip ?_ | refine T.exit ?_
 ·subst he
  have hni : ¬ (i : Int) <= s.length := by omega
  repeat' first | ((first | refine aops_end (hK _ ?_) | refine aopsD_end (hK _ ?_) | refine aopsF_end (hK _ ?_)); clear hK K) | ((first | refine aops_go ?_ | refine aopsD_go ?_ | refine aopsF_go ?_); simp [hni]; (try (refine gen2 ?_ ?_ <;> intro hq <;> try simp [hni] at hq))) | refine T.r0 fun K hK => ?_ | refine T.r1 fun K hK => ?_ | (refine ⟨by omega, ?_⟩) | refine T.ct rfl ?_ | refine T.cf rfl ?_ | refine T.seq ?_ | refine T.block ?_ | refine T.skip ?_ | refine T.exit ?_
  refine T.ret (Done.own1 0 (Or.inr rfl) (ys := [_]) ?_ rfl ?_) <;> simp [resAs, Tryz.results39]

theorem l18Cut_ok (s : List UInt8) (c : UInt8) (hs : s.length <= 1099511627776) : ACalls Tryz.prog 39 [.s s, .c (.d (.int .u8 (c.toNat : Int)))] [] (.l ((cutL c s).map eW)) [] [] := (l18Cut_own s c hs).sealed (by simp)

theorem valL_next {u : List UInt8} {i : Nat} {x : UInt8} (h : u[i]? = some x) : valL (u.take (i + 1)) = 10 * valL (u.take i) + (x.toNat - 48) := by
 rw [List.take_add_one, h, valL, List.foldl_append]; rfl
theorem all_next {u : List UInt8} {i : Nat} {x : UInt8} (h : u[i]? = some x) : (u.take (i + 1)).all isDig = ((u.take i).all isDig && isDig x) := by
 rw [List.take_add_one, h]; simp
theorem all_not {u : List UInt8} {i : Nat} {x : UInt8} (h : u[i]? = some x) (hx : isDig x = false) : u.all isDig = false := by
 rw [List.all_eq_false]
 exact ⟨x, List.mem_of_getElem? h, by simp [hx]⟩
theorem pow_le17 {i : Nat} (h : i <= 17) : 10 ^ i <= 100000000000000000 := Nat.le_trans (Nat.pow_le_pow_right (by omega) h) (by decide)

theorem dig_rd {x : UInt8} (h : isDig x = true) : 48 <= x.toNat /\ x.toNat <= 57 := by simpa [isDig] using h
theorem dig_no {x : UInt8} (h : isDig x = false) : x.toNat < 48 \/ 57 < x.toNat := by
 simp only [isDig, Bool.and_eq_false_iff, decide_eq_false_iff_not] at h; omega

theorem l18Num_neg (x : UInt8) (r : List UInt8) (hs : r.length <= 16) (h48 : ¬ x.toNat = 48) : ACalls Tryz.prog 40 [.s (45 :: x :: r)] [] (.tup [.i (if (x :: r).all isDig = true then (-(valL (x :: r) : Int)) else 0), .b ((x :: r).all isDig)]) [] [] := by
 obtain ⟨u, hu⟩ : ∃ u, u = (x :: r) := ⟨_, rfl⟩
 have hul : u.length <= 17 := by rw [hu]; simp; omega
 have h17 : ¬ (17 : Int) < (r.length : Int) + 1 := by omega
 have h48i : ¬ (x.toNat : Int) = 48 := by omega
 have hc48 : ((x.toNat : Int) == 48) = false := by simp only [beq_eq_false_iff_ne, ne_eq]; omega
 have hA : (0 : Int) < (r.length : Int) + 1 + 1 := by omega
 have hB : ¬ (r.length : Int) + 1 = 0 := by omega
 refine ACalls.of_body Tryz.func40 (by kernel_rfl) rfl (by kernel_rfl) (by simp [Tryz.ntmps40]) (by simp) ?_
 rw [Tryz.ntmps40]
 have hT : ((r.length : Int) + 1 + 1).toNat = r.length + 1 + 1 := by omega
 repeat' first | ((first | refine aops_end (hK _ ?_) | refine aopsD_end (hK _ ?_) | refine aopsF_end (hK _ ?_)); clear hK K) | ((first | refine aops_go ?_ | refine aopsD_go ?_ | refine aopsF_go ?_); simp [h17, h48, h48i, hc48, hA, hB, hT]; (try simp (disch := omega) only [wrap64]); (try (refine gen2 ?_ ?_ <;> intro hq <;> try simp [h17, h48, h48i, hc48, hA, hB, hT] at hq))) | refine T.r0 fun K hK => ?_ | refine T.r1 fun K hK => ?_ | (refine ⟨by omega, ?_⟩) | refine T.ct rfl ?_ | refine T.cf rfl ?_ | refine T.seq ?_ | refine T.block ?_ | refine T.skip ?_ | refine T.exit ?_
 rw [<- hu]
 clear hT hA hB h17 h48 h48i hc48 hs
 refine T.loopK (α := Nat) [0, 4] (fun i => [(2, .i 0), (3, .b false), (5, .i (valL (u.take i) : Nat)), (6, .i i)]) (fun _ => []) (fun _ => []) (fun _ _ => []) (fun i => u.length + 1 - i) (fun i => i <= u.length /\ (u.take i).all isDig = true /\ valL (u.take i) < 10 ^ i) (by simp; rfl) (fun i hi => ?_) 0 ⟨by omega, by simp, by simp [valL]⟩ (by simp) (by simp) (by simp [valL])
 obtain ⟨hi, hal, hvb⟩ := hi
 dsimp only
 simp only [ups, List.set_cons_zero, List.set_cons_succ, List.cons_append, List.nil_append]
 have hp17 := pow_le17 (show i <= 17 by omega)
 by_cases hlt : i < u.length
 ·obtain ⟨y, hy⟩ := get_lt hlt
  have hgt : u[i] = y := by rw [List.getElem?_eq_getElem hlt] at hy; exact Option.some.inj hy
  cases hd : isDig y with
  | false =>
   rw [all_not hy hd]
   simp only [Bool.false_eq_true, if_false]
   rcases dig_no hd with h | h
   ·have h' : (y.toNat : Int) < 48 := by omega
    repeat' first | ((first | refine aops_end (hK _ ?_) | refine aopsD_end (hK _ ?_) | refine aopsF_end (hK _ ?_)); clear hK K) | ((first | refine aops_go ?_ | refine aopsD_go ?_ | refine aopsF_go ?_); simp [hlt, hgt, h, h']; (try simp (disch := omega) only [wrap64]); (try (refine gen2 ?_ ?_ <;> intro hq <;> try simp [hlt, hgt, h, h'] at hq))) | (refine T.ret (Done.tup (Or.inr rfl) ?_) <;> simp [resAs, Tryz.results40] <;> omega) | refine T.r0 fun K hK => ?_ | refine T.r1 fun K hK => ?_ | (refine ⟨by omega, ?_⟩) | refine T.ct rfl ?_ | refine T.cf rfl ?_ | refine T.seq ?_ | refine T.block ?_ | refine T.skip ?_ | refine T.exit ?_
   ·have h1 : ¬ (y.toNat : Int) < 48 := by omega
    have h1n : ¬ y.toNat < 48 := by omega
    have h' : (57 : Int) < (y.toNat : Int) := by omega
    repeat' first | ((first | refine aops_end (hK _ ?_) | refine aopsD_end (hK _ ?_) | refine aopsF_end (hK _ ?_)); clear hK K) | ((first | refine aops_go ?_ | refine aopsD_go ?_ | refine aopsF_go ?_); simp [hlt, hgt, h, h', h1, h1n]; (try simp (disch := omega) only [wrap64]); (try (refine gen2 ?_ ?_ <;> intro hq <;> try simp [hlt, hgt, h, h', h1, h1n] at hq))) | (refine T.ret (Done.tup (Or.inr rfl) ?_) <;> simp [resAs, Tryz.results40] <;> omega) | refine T.r0 fun K hK => ?_ | refine T.r1 fun K hK => ?_ | (refine ⟨by omega, ?_⟩) | refine T.ct rfl ?_ | refine T.cf rfl ?_ | refine T.seq ?_ | refine T.block ?_ | refine T.skip ?_ | refine T.exit ?_
  | true =>
   obtain ⟨d1, d2⟩ := dig_rd hd
   have h1 : ¬ (y.toNat : Int) < 48 := by omega
   have h1n : ¬ y.toNat < 48 := by omega
   have h2 : ¬ (57 : Int) < (y.toNat : Int) := by omega
   have h2n : ¬ 57 < y.toNat := by omega
   have hw8 : IntKind.u8.wrap ((y.toNat : Int) - 48) = ((y.toNat - 48 : Nat) : Int) := by rw [show ((y.toNat : Int) - 48) = ((y.toNat - 48 : Nat) : Int) by omega]; exact wrap8 (by omega)
   have hw64 : IntKind.i64.wrap ((y.toNat - 48 : Nat) : Int) = ((y.toNat - 48 : Nat) : Int) := wrap64 (by omega) (by omega)
   have hvn := valL_next hy
   have han := all_next hy
   rw [hal, hd] at han
   have hpn : 10 ^ (i + 1) = 10 * 10 ^ i := by rw [Nat.pow_succ]; omega
   obtain ⟨V, hV⟩ : ∃ V, valL (u.take i) = V := ⟨_, rfl⟩
   rw [hV] at hvb hvn ⊢
   obtain ⟨z, hz⟩ : ∃ z, y.toNat - 48 = z := ⟨_, rfl⟩
   rw [hz] at hw8 hw64 hvn
   have hw2 : IntKind.i64.wrap ((V : Int) * 10) = (V : Int) * 10 := wrap64 (by omega) (by omega)
   have hw3 : IntKind.i64.wrap ((V : Int) * 10 + (z : Int)) = ((10 * V + z : Nat) : Int) := by rw [wrap64 (by omega) (by omega)]; omega
   repeat' first | ((first | refine aops_end (hK _ ?_) | refine aopsD_end (hK _ ?_) | refine aopsF_end (hK _ ?_)); clear hK K) | ((first | refine aops_go ?_ | refine aopsD_go ?_ | refine aopsF_go ?_); simp [hlt, hgt, h1, h1n, h2, h2n, hw8, hw64, hw2, hw3]; (try simp (disch := omega) only [wrap64]); (try (refine gen2 ?_ ?_ <;> intro hq <;> try simp [hlt, hgt, h1, h1n, h2, h2n, hw8, hw64, hw2, hw3] at hq))) | (refine ⟨i + 1, by dsimp only; omega, ⟨by omega, han, by rw [hvn]; omega⟩, ?_⟩; simp (disch := omega) [wrap64, hvn]) | refine T.r0 fun K hK => ?_ | refine T.r1 fun K hK => ?_ | (refine ⟨by omega, ?_⟩) | refine T.ct rfl ?_ | refine T.cf rfl ?_ | refine T.seq ?_ | refine T.block ?_ | refine T.skip ?_ | refine T.exit ?_
 ·have hiu : i = u.length := by omega
  subst hiu
  rw [List.take_length] at hal hvb ⊢
  rw [hal]
  simp only [if_true]
  obtain ⟨V, hV⟩ : ∃ V, valL u = V := ⟨_, rfl⟩
  rw [hV] at hvb ⊢
  have hw2 : IntKind.i64.wrap (-(V : Int)) = -(V : Int) := wrap64 (by omega) (by omega)
  repeat' first | ((first | refine aops_end (hK _ ?_) | refine aopsD_end (hK _ ?_) | refine aopsF_end (hK _ ?_)); clear hK K) | ((first | refine aops_go ?_ | refine aopsD_go ?_ | refine aopsF_go ?_); simp [hlt, hw2]; (try simp (disch := omega) only [wrap64]); (try (refine gen2 ?_ ?_ <;> intro hq <;> try simp [hlt, hw2] at hq))) | (refine T.ret (Done.tup (Or.inr rfl) ?_) <;> simp [resAs, Tryz.results40] <;> omega) | refine T.r0 fun K hK => ?_ | refine T.r1 fun K hK => ?_ | (refine ⟨by omega, ?_⟩) | refine T.ct rfl ?_ | refine T.cf rfl ?_ | refine T.seq ?_ | refine T.block ?_ | refine T.skip ?_ | refine T.exit ?_

theorem l18Num_pos (x : UInt8) (r : List UInt8) (hs : r.length <= 16) (h48 : ¬ x.toNat = 48) (h45 : ¬ x.toNat = 45) : ACalls Tryz.prog 40 [.s (x :: r)] [] (.tup [.i (if (x :: r).all isDig = true then (valL (x :: r) : Int) else 0), .b ((x :: r).all isDig)]) [] [] := by
 obtain ⟨u, hu⟩ : ∃ u, u = (x :: r) := ⟨_, rfl⟩
 have hul : u.length <= 17 := by rw [hu]; simp; omega
 have h17 : ¬ (17 : Int) < (r.length : Int) + 1 := by omega
 have h48i : ¬ (x.toNat : Int) = 48 := by omega
 have h45i : ¬ (x.toNat : Int) = 45 := by omega
 have hc48 : ((x.toNat : Int) == 48) = false := by simp only [beq_eq_false_iff_ne, ne_eq]; omega
 have hc45 : ((x.toNat : Int) == 45) = false := by simp only [beq_eq_false_iff_ne, ne_eq]; omega
 have hA : (0 : Int) < (r.length : Int) + 1 := by omega
 have hB : ¬ (r.length : Int) + 1 = 0 := by omega
 refine ACalls.of_body Tryz.func40 (by kernel_rfl) rfl (by kernel_rfl) (by simp [Tryz.ntmps40]) (by simp) ?_
 rw [Tryz.ntmps40]
 repeat' first | ((first | refine aops_end (hK _ ?_) | refine aopsD_end (hK _ ?_) | refine aopsF_end (hK _ ?_)); clear hK K) | ((first | refine aops_go ?_ | refine aopsD_go ?_ | refine aopsF_go ?_); simp [h17, h48, h48i, h45, h45i, hc48, hc45, hA, hB]; (try simp (disch := omega) only [wrap64]); (try (refine gen2 ?_ ?_ <;> intro hq <;> try simp [h17, h48, h48i, h45, h45i, hc48, hc45, hA, hB] at hq))) | refine T.r0 fun K hK => ?_ | refine T.r1 fun K hK => ?_ | (refine ⟨by omega, ?_⟩) | refine T.ct rfl ?_ | refine T.cf rfl ?_ | refine T.seq ?_ | refine T.block ?_ | refine T.skip ?_ | refine T.exit ?_
 rw [<- hu]
 clear hA hB h17 h48 h48i hc48 hs h45 h45i hc45
 refine T.loopK (α := Nat) [0, 4] (fun i => [(2, .i 0), (3, .b false), (5, .i (valL (u.take i) : Nat)), (6, .i i)]) (fun _ => []) (fun _ => []) (fun _ _ => []) (fun i => u.length + 1 - i) (fun i => i <= u.length /\ (u.take i).all isDig = true /\ valL (u.take i) < 10 ^ i) (by simp; rfl) (fun i hi => ?_) 0 ⟨by omega, by simp, by simp [valL]⟩ (by simp) (by simp) (by simp [valL])
 obtain ⟨hi, hal, hvb⟩ := hi
 dsimp only
 simp only [ups, List.set_cons_zero, List.set_cons_succ, List.cons_append, List.nil_append]
 have hp17 := pow_le17 (show i <= 17 by omega)
 by_cases hlt : i < u.length
 ·obtain ⟨y, hy⟩ := get_lt hlt
  have hgt : u[i] = y := by rw [List.getElem?_eq_getElem hlt] at hy; exact Option.some.inj hy
  cases hd : isDig y with
  | false =>
   rw [all_not hy hd]
   simp only [Bool.false_eq_true, if_false]
   rcases dig_no hd with h | h
   ·have h' : (y.toNat : Int) < 48 := by omega
    repeat' first | ((first | refine aops_end (hK _ ?_) | refine aopsD_end (hK _ ?_) | refine aopsF_end (hK _ ?_)); clear hK K) | ((first | refine aops_go ?_ | refine aopsD_go ?_ | refine aopsF_go ?_); simp [hlt, hgt, h, h']; (try simp (disch := omega) only [wrap64]); (try (refine gen2 ?_ ?_ <;> intro hq <;> try simp [hlt, hgt, h, h'] at hq))) | (refine T.ret (Done.tup (Or.inr rfl) ?_) <;> simp [resAs, Tryz.results40] <;> omega) | refine T.r0 fun K hK => ?_ | refine T.r1 fun K hK => ?_ | (refine ⟨by omega, ?_⟩) | refine T.ct rfl ?_ | refine T.cf rfl ?_ | refine T.seq ?_ | refine T.block ?_ | refine T.skip ?_ | refine T.exit ?_
   ·have h1 : ¬ (y.toNat : Int) < 48 := by omega
    have h1n : ¬ y.toNat < 48 := by omega
    have h' : (57 : Int) < (y.toNat : Int) := by omega
    repeat' first | ((first | refine aops_end (hK _ ?_) | refine aopsD_end (hK _ ?_) | refine aopsF_end (hK _ ?_)); clear hK K) | ((first | refine aops_go ?_ | refine aopsD_go ?_ | refine aopsF_go ?_); simp [hlt, hgt, h, h', h1, h1n]; (try simp (disch := omega) only [wrap64]); (try (refine gen2 ?_ ?_ <;> intro hq <;> try simp [hlt, hgt, h, h', h1, h1n] at hq))) | (refine T.ret (Done.tup (Or.inr rfl) ?_) <;> simp [resAs, Tryz.results40] <;> omega) | refine T.r0 fun K hK => ?_ | refine T.r1 fun K hK => ?_ | (refine ⟨by omega, ?_⟩) | refine T.ct rfl ?_ | refine T.cf rfl ?_ | refine T.seq ?_ | refine T.block ?_ | refine T.skip ?_ | refine T.exit ?_
  | true =>
   obtain ⟨d1, d2⟩ := dig_rd hd
   have h1 : ¬ (y.toNat : Int) < 48 := by omega
   have h1n : ¬ y.toNat < 48 := by omega
   have h2 : ¬ (57 : Int) < (y.toNat : Int) := by omega
   have h2n : ¬ 57 < y.toNat := by omega
   have hw8 : IntKind.u8.wrap ((y.toNat : Int) - 48) = ((y.toNat - 48 : Nat) : Int) := by rw [show ((y.toNat : Int) - 48) = ((y.toNat - 48 : Nat) : Int) by omega]; exact wrap8 (by omega)
   have hw64 : IntKind.i64.wrap ((y.toNat - 48 : Nat) : Int) = ((y.toNat - 48 : Nat) : Int) := wrap64 (by omega) (by omega)
   have hvn := valL_next hy
   have han := all_next hy
   rw [hal, hd] at han
   have hpn : 10 ^ (i + 1) = 10 * 10 ^ i := by rw [Nat.pow_succ]; omega
   obtain ⟨V, hV⟩ : ∃ V, valL (u.take i) = V := ⟨_, rfl⟩
   rw [hV] at hvb hvn ⊢
   obtain ⟨z, hz⟩ : ∃ z, y.toNat - 48 = z := ⟨_, rfl⟩
   rw [hz] at hw8 hw64 hvn
   have hw2 : IntKind.i64.wrap ((V : Int) * 10) = (V : Int) * 10 := wrap64 (by omega) (by omega)
   have hw3 : IntKind.i64.wrap ((V : Int) * 10 + (z : Int)) = ((10 * V + z : Nat) : Int) := by rw [wrap64 (by omega) (by omega)]; omega
   repeat' first | ((first | refine aops_end (hK _ ?_) | refine aopsD_end (hK _ ?_) | refine aopsF_end (hK _ ?_)); clear hK K) | ((first | refine aops_go ?_ | refine aopsD_go ?_ | refine aopsF_go ?_); simp [hlt, hgt, h1, h1n, h2, h2n, hw8, hw64, hw2, hw3]; (try simp (disch := omega) only [wrap64]); (try (refine gen2 ?_ ?_ <;> intro hq <;> try simp [hlt, hgt, h1, h1n, h2, h2n, hw8, hw64, hw2, hw3] at hq))) | (refine ⟨i + 1, by dsimp only; omega, ⟨by omega, han, by rw [hvn]; omega⟩, ?_⟩; simp (disch := omega) [wrap64, hvn]) | refine T.r0 fun K hK => ?_ | refine T.r1 fun K hK => ?_ | (refine ⟨by omega, ?_⟩) | refine T.ct rfl ?_ | refine T.cf rfl ?_ | refine T.seq ?_ | refine T.block ?_ | refine T.skip ?_ | refine T.exit ?_
 ·have hiu : i = u.length := by omega
  subst hiu
  rw [List.take_length] at hal hvb ⊢
  rw [hal]
  simp only [if_true]
  obtain ⟨V, hV⟩ : ∃ V, valL u = V := ⟨_, rfl⟩
  rw [hV] at hvb ⊢
  have hw2 : IntKind.i64.wrap (-(V : Int)) = -(V : Int) := wrap64 (by omega) (by omega)
  repeat' first | ((first | refine aops_end (hK _ ?_) | refine aopsD_end (hK _ ?_) | refine aopsF_end (hK _ ?_)); clear hK K) | ((first | refine aops_go ?_ | refine aopsD_go ?_ | refine aopsF_go ?_); simp [hlt, hw2]; (try simp (disch := omega) only [wrap64]); (try (refine gen2 ?_ ?_ <;> intro hq <;> try simp [hlt, hw2] at hq))) | (refine T.ret (Done.tup (Or.inr rfl) ?_) <;> simp [resAs, Tryz.results40] <;> omega) | refine T.r0 fun K hK => ?_ | refine T.r1 fun K hK => ?_ | (refine ⟨by omega, ?_⟩) | refine T.ct rfl ?_ | refine T.cf rfl ?_ | refine T.seq ?_ | refine T.block ?_ | refine T.skip ?_ | refine T.exit ?_

theorem l18Num_zero : ACalls Tryz.prog 40 [.s [48]] [] (.tup [.i 0, .b true]) [] [] := by
 refine ACalls.of_body Tryz.func40 (by kernel_rfl) rfl (by kernel_rfl) (by simp [Tryz.ntmps40]) (by simp) ?_
 rw [Tryz.ntmps40]
 repeat' first | ((first | refine aops_end (hK _ ?_) | refine aopsD_end (hK _ ?_) | refine aopsF_end (hK _ ?_)); clear hK K) | ((first | refine aops_go ?_ | refine aopsD_go ?_ | refine aopsF_go ?_); simp; (try simp (disch := omega) only [wrap64]); (try (refine gen2 ?_ ?_ <;> intro hq <;> try simp at hq))) | refine T.r0 fun K hK => ?_ | refine T.r1 fun K hK => ?_ | (refine ⟨by omega, ?_⟩) | refine T.ct rfl ?_ | refine T.cf rfl ?_ | refine T.seq ?_ | refine T.block ?_ | refine T.skip ?_ | refine T.exit ?_
 refine T.loopK (α := Nat) [0, 4] (fun i => [(2, .i 0), (3, .b false), (5, .i 0), (6, .i i)]) (fun _ => []) (fun _ => []) (fun _ _ => []) (fun i => 2 - i) (fun i => i = 0 \/ i = 1) (by simp; rfl) (fun i hi => ?_) 0 (.inl rfl) (by simp) (by simp) (by simp)
 dsimp only
 simp only [ups, List.set_cons_zero, List.set_cons_succ, List.cons_append, List.nil_append]
 have hw8 : IntKind.u8.wrap 0 = 0 := wrap8 (n := 0) (by omega)
 rcases hi with rfl | rfl
 ·repeat' first | ((first | refine aops_end (hK _ ?_) | refine aopsD_end (hK _ ?_) | refine aopsF_end (hK _ ?_)); clear hK K) | ((first | refine aops_go ?_ | refine aopsD_go ?_ | refine aopsF_go ?_); simp [hw8]; (try simp (disch := omega) only [wrap64]); (try (refine gen2 ?_ ?_ <;> intro hq <;> try simp [hw8] at hq))) | (refine ⟨1, by dsimp only; omega, .inr rfl, ?_⟩; simp) | refine T.r0 fun K hK => ?_ | refine T.r1 fun K hK => ?_ | (refine ⟨by omega, ?_⟩) | refine T.ct rfl ?_ | refine T.cf rfl ?_ | refine T.seq ?_ | refine T.block ?_ | refine T.skip ?_ | refine T.exit ?_
 ·repeat' first | ((first | refine aops_end (hK _ ?_) | refine aopsD_end (hK _ ?_) | refine aopsF_end (hK _ ?_)); clear hK K) | ((first | refine aops_go ?_ | refine aopsD_go ?_ | refine aopsF_go ?_); simp; (try simp (disch := omega) only [wrap64]); (try (refine gen2 ?_ ?_ <;> intro hq <;> try simp at hq))) | (refine T.ret (Done.tup (Or.inr rfl) ?_) <;> simp [resAs, Tryz.results40] <;> omega) | refine T.r0 fun K hK => ?_ | refine T.r1 fun K hK => ?_ | (refine ⟨by omega, ?_⟩) | refine T.ct rfl ?_ | refine T.cf rfl ?_ | refine T.seq ?_ | refine T.block ?_ | refine T.skip ?_ | refine T.exit ?_

theorem l18Num_ok (s : List UInt8) (hs : s.length <= 1099511627776) : ACalls Tryz.prog 40 [.s s] [] (.tup [.i ((numS s).getD 0), .b (numS s).isSome]) [] [] := by
 have key : ∀ (P : Prop) [Decidable P] (n : Int), (if P then some n else none).getD 0 = if P then n else 0 := fun P _ n => by split <;> rfl
 have key2 : ∀ (b : Bool) (n : Int), (if b = true then some n else none : Option Int).isSome = b := fun b n => by cases b <;> rfl
 cases s with
 | nil =>
  rw [show numS [] = none from rfl]
  simp only [Option.getD_none, Option.isSome_none]
  refine ACalls.of_body Tryz.func40 (by kernel_rfl) rfl (by kernel_rfl) (by simp [Tryz.ntmps40]) (by simp) ?_
  rw [Tryz.ntmps40]
  repeat' first | ((first | refine aops_end (hK _ ?_) | refine aopsD_end (hK _ ?_) | refine aopsF_end (hK _ ?_)); clear hK K) | ((first | refine aops_go ?_ | refine aopsD_go ?_ | refine aopsF_go ?_); simp; (try simp (disch := omega) only [wrap64]); (try (refine gen2 ?_ ?_ <;> intro hq <;> try simp at hq))) | (refine T.ret (Done.tup (Or.inr rfl) ?_) <;> simp [resAs, Tryz.results40] <;> omega) | refine T.r0 fun K hK => ?_ | refine T.r1 fun K hK => ?_ | (refine ⟨by omega, ?_⟩) | refine T.ct rfl ?_ | refine T.cf rfl ?_ | refine T.seq ?_ | refine T.block ?_ | refine T.skip ?_ | refine T.exit ?_
 | cons y t =>
  by_cases hy : y = 45
  ·subst hy
   rw [numS_neg]
   cases t with
   | nil =>
    simp only [true_or, if_true, Option.getD_none, Option.isSome_none]
    refine ACalls.of_body Tryz.func40 (by kernel_rfl) rfl (by kernel_rfl) (by simp [Tryz.ntmps40]) (by simp) ?_
    rw [Tryz.ntmps40]
    repeat' first | ((first | refine aops_end (hK _ ?_) | refine aopsD_end (hK _ ?_) | refine aopsF_end (hK _ ?_)); clear hK K) | ((first | refine aops_go ?_ | refine aopsD_go ?_ | refine aopsF_go ?_); simp; (try simp (disch := omega) only [wrap64]); (try (refine gen2 ?_ ?_ <;> intro hq <;> try simp at hq))) | (refine T.ret (Done.tup (Or.inr rfl) ?_) <;> simp [resAs, Tryz.results40] <;> omega) | refine T.r0 fun K hK => ?_ | refine T.r1 fun K hK => ?_ | (refine ⟨by omega, ?_⟩) | refine T.ct rfl ?_ | refine T.cf rfl ?_ | refine T.seq ?_ | refine T.block ?_ | refine T.skip ?_ | refine T.exit ?_
   | cons x r =>
    simp only [List.length_cons] at hs
    by_cases h17 : 16 < r.length
    ·rw [if_pos (by simp; omega)]
     simp only [Option.getD_none, Option.isSome_none]
     have h17 : (17 : Int) < (r.length : Int) + 1 := by omega
     have hA : (0 : Int) < (r.length : Int) + 1 + 1 := by omega
     have hB : ¬ (r.length : Int) + 1 = 0 := by omega
     have hT : ((r.length : Int) + 1 + 1).toNat = r.length + 1 + 1 := by omega
     refine ACalls.of_body Tryz.func40 (by kernel_rfl) rfl (by kernel_rfl) (by simp [Tryz.ntmps40]) (by simp) ?_
     rw [Tryz.ntmps40]
     repeat' first | ((first | refine aops_end (hK _ ?_) | refine aopsD_end (hK _ ?_) | refine aopsF_end (hK _ ?_)); clear hK K) | ((first | refine aops_go ?_ | refine aopsD_go ?_ | refine aopsF_go ?_); simp [h17, hA, hB, hT]; (try simp (disch := omega) only [wrap64]); (try (refine gen2 ?_ ?_ <;> intro hq <;> try simp [h17, hA, hB, hT] at hq))) | (refine T.ret (Done.tup (Or.inr rfl) ?_) <;> simp [resAs, Tryz.results40] <;> omega) | refine T.r0 fun K hK => ?_ | refine T.r1 fun K hK => ?_ | (refine ⟨by omega, ?_⟩) | refine T.ct rfl ?_ | refine T.cf rfl ?_ | refine T.seq ?_ | refine T.block ?_ | refine T.skip ?_ | refine T.exit ?_
    by_cases h48 : x = 48
    ·subst h48
     rw [if_pos (by simp)]
     simp only [Option.getD_none, Option.isSome_none]
     have h17 : ¬ (17 : Int) < (r.length : Int) + 1 := by omega
     have hA : (0 : Int) < (r.length : Int) + 1 + 1 := by omega
     have hB : ¬ (r.length : Int) + 1 = 0 := by omega
     have hT : ((r.length : Int) + 1 + 1).toNat = r.length + 1 + 1 := by omega
     by_cases hr : (0 : Int) < r.length
     ·have hC : (1 : Int) < (r.length : Int) + 1 := by omega
      refine ACalls.of_body Tryz.func40 (by kernel_rfl) rfl (by kernel_rfl) (by simp [Tryz.ntmps40]) (by simp) ?_
      rw [Tryz.ntmps40]
      repeat' first | ((first | refine aops_end (hK _ ?_) | refine aopsD_end (hK _ ?_) | refine aopsF_end (hK _ ?_)); clear hK K) | ((first | refine aops_go ?_ | refine aopsD_go ?_ | refine aopsF_go ?_); simp [h17, hA, hB, hT, hC]; (try simp (disch := omega) only [wrap64]); (try (refine gen2 ?_ ?_ <;> intro hq <;> try simp [h17, hA, hB, hT, hC] at hq))) | (refine T.ret (Done.tup (Or.inr rfl) ?_) <;> simp [resAs, Tryz.results40] <;> omega) | refine T.r0 fun K hK => ?_ | refine T.r1 fun K hK => ?_ | (refine ⟨by omega, ?_⟩) | refine T.ct rfl ?_ | refine T.cf rfl ?_ | refine T.seq ?_ | refine T.block ?_ | refine T.skip ?_ | refine T.exit ?_
     ·have hC : ¬ (1 : Int) < (r.length : Int) + 1 := by omega
      refine ACalls.of_body Tryz.func40 (by kernel_rfl) rfl (by kernel_rfl) (by simp [Tryz.ntmps40]) (by simp) ?_
      rw [Tryz.ntmps40]
      repeat' first | ((first | refine aops_end (hK _ ?_) | refine aopsD_end (hK _ ?_) | refine aopsF_end (hK _ ?_)); clear hK K) | ((first | refine aops_go ?_ | refine aopsD_go ?_ | refine aopsF_go ?_); simp [h17, hA, hB, hT, hC]; (try simp (disch := omega) only [wrap64]); (try (refine gen2 ?_ ?_ <;> intro hq <;> try simp [h17, hA, hB, hT, hC] at hq))) | (refine T.ret (Done.tup (Or.inr rfl) ?_) <;> simp [resAs, Tryz.results40] <;> omega) | refine T.r0 fun K hK => ?_ | refine T.r1 fun K hK => ?_ | (refine ⟨by omega, ?_⟩) | refine T.ct rfl ?_ | refine T.cf rfl ?_ | refine T.seq ?_ | refine T.block ?_ | refine T.skip ?_ | refine T.exit ?_
    ·rw [if_neg (by simp [h48]; omega)]
     have := l18Num_neg x r (by omega) (fun e => h48 (UInt8.toNat_inj.1 e))
     rw [key, key2]
     exact this
  ·have h45 : ¬ y.toNat = 45 := fun e => hy (UInt8.toNat_inj.1 e)
   have h45i : ¬ (y.toNat : Int) = 45 := by omega
   have hc45 : ((y.toNat : Int) == 45) = false := by simp only [beq_eq_false_iff_ne, ne_eq]; omega
   rw [numS, if_neg (by simpa using hy)]
   simp only [List.length_cons] at hs
   by_cases h17 : 16 < t.length
   ·rw [if_pos (by simp; omega)]
    simp only [Option.getD_none, Option.isSome_none]
    have h17 : (17 : Int) < (t.length : Int) + 1 := by omega
    have hA : (0 : Int) < (t.length : Int) + 1 := by omega
    have hB : ¬ (t.length : Int) + 1 = 0 := by omega
    refine ACalls.of_body Tryz.func40 (by kernel_rfl) rfl (by kernel_rfl) (by simp [Tryz.ntmps40]) (by simp) ?_
    rw [Tryz.ntmps40]
    repeat' first | ((first | refine aops_end (hK _ ?_) | refine aopsD_end (hK _ ?_) | refine aopsF_end (hK _ ?_)); clear hK K) | ((first | refine aops_go ?_ | refine aopsD_go ?_ | refine aopsF_go ?_); simp [h17, hA, hB, h45, h45i, hc45]; (try simp (disch := omega) only [wrap64]); (try (refine gen2 ?_ ?_ <;> intro hq <;> try simp [h17, hA, hB, h45, h45i, hc45] at hq))) | (refine T.ret (Done.tup (Or.inr rfl) ?_) <;> simp [resAs, Tryz.results40] <;> omega) | refine T.r0 fun K hK => ?_ | refine T.r1 fun K hK => ?_ | (refine ⟨by omega, ?_⟩) | refine T.ct rfl ?_ | refine T.cf rfl ?_ | refine T.seq ?_ | refine T.block ?_ | refine T.skip ?_ | refine T.exit ?_
   by_cases h48 : y = 48
   ·subst h48
    by_cases ht : t = []
    ·subst ht
     rw [show (if ([48] : List UInt8) = [] \/ 17 < ([48] : List UInt8).length \/ (([48] : List UInt8).head? = some 48 /\ 1 < ([48] : List UInt8).length) then none else if ([48] : List UInt8).all isDig = true then some (valL [48] : Int) else none) = some 0 by decide]
     exact l18Num_zero
    ·have htl := List.length_pos_iff.2 ht
     rw [if_pos (by simp; omega)]
     simp only [Option.getD_none, Option.isSome_none]
     have h17 : ¬ (17 : Int) < (t.length : Int) + 1 := by omega
     have hA : (0 : Int) < (t.length : Int) + 1 := by omega
     have hB : ¬ (t.length : Int) + 1 = 0 := by omega
     have hC : (1 : Int) < (t.length : Int) + 1 := by omega
     refine ACalls.of_body Tryz.func40 (by kernel_rfl) rfl (by kernel_rfl) (by simp [Tryz.ntmps40]) (by simp) ?_
     rw [Tryz.ntmps40]
     repeat' first | ((first | refine aops_end (hK _ ?_) | refine aopsD_end (hK _ ?_) | refine aopsF_end (hK _ ?_)); clear hK K) | ((first | refine aops_go ?_ | refine aopsD_go ?_ | refine aopsF_go ?_); simp [h17, hA, hB, hC, ht]; (try simp (disch := omega) only [wrap64]); (try (refine gen2 ?_ ?_ <;> intro hq <;> try simp [h17, hA, hB, hC, ht] at hq))) | (refine T.ret (Done.tup (Or.inr rfl) ?_) <;> simp [resAs, Tryz.results40] <;> omega) | refine T.r0 fun K hK => ?_ | refine T.r1 fun K hK => ?_ | (refine ⟨by omega, ?_⟩) | refine T.ct rfl ?_ | refine T.cf rfl ?_ | refine T.seq ?_ | refine T.block ?_ | refine T.skip ?_ | refine T.exit ?_
   ·rw [if_neg (by simp [h48]; omega)]
    have := l18Num_pos y t (by omega) (fun e => h48 (UInt8.toNat_inj.1 e)) h45
    rw [key, key2]
    exact this
end Go.Proofs.YtcmdpggdaiinpaaGreatDoor
