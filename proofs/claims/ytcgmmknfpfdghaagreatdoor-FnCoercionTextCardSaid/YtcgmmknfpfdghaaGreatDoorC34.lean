/- A part of the library of this seat. -/
import Derived.Test.YtcgmmknfpfdghaaGreatDoorC33
set_option linter.unusedVariables false
set_option linter.unusedSimpArgs false
namespace Go.Proofs.YtcgmmknfpfdghaaGreatDoor
attribute [-simp] Go.Av.IT.kind_v Go.Av.IT.kind_b Go.Av.IT.kind_p Go.Av.IT.name_v Go.Av.IT.name_b Go.Av.IT.name_p Go.Av.IT.kids_v Go.Av.IT.kids_b Go.Av.IT.kids_p Go.Av.eIT_len Go.Av.gT_cons Go.Av.sT_cons
open Go Go.Av
attribute [local irreducible] T ACalls TX EX LX Draws Some_ ACallsX eTy eTm MTy.kind MTy.kids MTm.kind MTm.name MTm.num MTm.ty MTm.fr MTm.label MTm.kids
attribute [local simp] eTy_def eTm_def
set_option maxHeartbeats 16000000
set_option maxRecDepth 8000

theorem l1Bend_ok (b : List Int) (hb : okB b) (p : Nat) (hp : p + 10 <= 1099511627776) (s : List UInt8) (hs : s.length <= 1000000000) (bits : List (List UInt8)) (hb1 : bits ≠ []) (hb2 : bits.length <= 100) (hb3 : ∀ w ∈ bits, w.length <= 10) : Draws Tryz.prog 38 [.s s, .l (strs bits)] b p 10 (RV (fun t : List UInt8 => .s t) noA fun t => t.length <= s.length + 10) := by
 refine Draws.of_body Tryz.func38 (by kernel_rfl) rfl (by kernel_rfl) (by simp [Tryz.ntmps38]) ?_
 rw [Tryz.ntmps38]
 repeat' first | ((first | refine aops_end (hK _ ?_) | refine aopsD_end (hK _ ?_) | refine aopsF_end (hK _ ?_)); clear hK K) | ((first | refine aops_go ?_ | refine aopsD_go ?_ | refine aopsF_go ?_); simp; (try simp (disch := omega) only [wrap64, catLe]); (try (refine gen2 ?_ ?_ <;> intro hq <;> try simp at hq))) | (refine wpcall_dr 0 rfl rfl (pick_ok b hb _ (by omega) 2 (by omega)) (fun x1 p1 hx1 hp1 hp1' => ?_); simp; (try simp (disch := omega) only [wrap64, catLe]); (try (refine gen2 ?_ ?_ <;> intro hq <;> try simp at hq))) | (refine wpcall_dr 0 rfl rfl (pick_ok b hb _ (by omega) s.length (by omega)) (fun r p1 hr hp1 hp1' => ?_); (have hpl : 0 < s.length := List.length_pos_iff.2 (by assumption)); simp) | (refine wpcall_dr 0 rfl rfl (of_ok b hb _ (by omega) bits hb1 (by omega)) (fun w p1 hw hp1 hp1' => ?_); (have hwl := hb3 w hw); simp; (try simp (disch := omega) only [wrap64, catLe])) | refine TX.rdF (id := 4) mixed (fun _ => false) [5, 10] [2] 11 [0] (by kernel_rfl) fun K hK => ?_ | refine TX.rdF1 (id := 4) mixed (fun _ => false) [5, 10] [2] 11 [0] (by kernel_rfl) fun K hK => ?_ | refine TX.rs (fun _ => false) fun K hK => ?_ | refine TX.rs1 (fun _ => false) fun K hK => ?_ | (refine ⟨by omega, ?_⟩) | refine TX.cond rfl (fun hcnd => ?_) (fun hcnd => absurd hcnd (by decide)) | refine TX.cond rfl (fun hcnd => absurd hcnd (by decide)) (fun hcnd => ?_) | refine TX.seq ?_ | refine TX.block ?_ | refine TX.skip ?_ | refine TX.exit ?_ | refine EX.thenN ?_ | refine EX.thenR ?_ | refine EX.thenE ?_ | refine EX.blockN ?_ | refine EX.blockR ?_ | refine EX.blockE ?_ | refine EX.blockO (by simp) ?_ | refine EX.outR ?_ | refine EX.outE ?_
 all_goals (
  refine TX.ret ?_
  repeat' first | refine EX.outR ?_ | refine EX.thenR ?_ | refine EX.blockR ?_ | refine EX.unrR ?_
  apply EX.drA (ks := [])
  case he => exact Or.inr rfl
  case hys => simp [resAs, getAs, Tryz.results38] <;> rfl
  case hv => first | (dsimp only [Av.one]; exact rfl) | dsimp only [Av.one]
  case hx => repeat' first | exact IsT2.var _ | exact IsV.tmv _ | exact IsTm.var _ | exact IsTy.row _ | exact IsTm.row _ | exact IsTys.nil | exact IsTms.nil | exact IsBds.nil | exact IsTys.map _ | exact IsTms.map _ | exact IsBds.map _ | exact IsV.int _ | exact IsV.str _ | exact IsV.bool _ | apply IsV.p2 | apply IsV.p3 | apply IsV.tm | apply IsV.ty | apply IsTm.node | apply IsTy.of | apply IsTys.cons | apply IsTms.cons | apply IsBds.cons | apply IsV.tys | apply IsV.tms | apply IsV.bds | apply IsT2.node | apply IsTys.app | apply IsTms.app | apply IsBds.app | exact IsCos.map _ | exact IsCos.nil | apply IsV.co | apply IsCos.cons | apply IsCos.app | apply IsV.ops | exact IsOps.map _ | exact IsOps.nil | apply IsOps.cons | apply IsOps.app | apply IsOps.set | apply IsOps.take
  case hA => exact rfl
  case hks => simp
  case hV => exact rfl
  case h1 => omega
  case h2 => omega
  case hg => simp <;> omega)

end Go.Proofs.YtcgmmknfpfdghaaGreatDoor

namespace Go.Proofs.YtcgmmknfpfdghaaGreatDoor
attribute [-simp] Go.Av.IT.kind_v Go.Av.IT.kind_b Go.Av.IT.kind_p Go.Av.IT.name_v Go.Av.IT.name_b Go.Av.IT.name_p Go.Av.IT.kids_v Go.Av.IT.kids_b Go.Av.IT.kids_p Go.Av.eIT_len Go.Av.gT_cons Go.Av.sT_cons
open Go Go.Av
attribute [local irreducible] T ACalls TX EX LX Draws Some_ ACallsX eTy eTm MTy.kind MTy.kids MTm.kind MTm.name MTm.num MTm.ty MTm.fr MTm.label MTm.kids
attribute [local simp] eTy_def eTm_def
set_option maxHeartbeats 16000000
set_option maxRecDepth 8000
attribute [local irreducible] MCo.kind MCo.tag MCo.label MCo.kids
attribute [local simp] eCo_def

theorem DrawCoercionValid_ok (b : List Int) (hb : ∀ n ∈ b, 0 <= n /\ n <= 255) : Some_ Tryz.prog 41 [.l (rB b)] (RV aCo noA fun x => nCo x <= 50000000) := by
 obtain ⟨b, p, hb, hp, hc⟩ := l18Open_ok b hb
 refine Some_.of_body Tryz.func41 (by kernel_rfl) rfl (by kernel_rfl) (by simp [Tryz.ntmps41]) ?_
 rw [Tryz.ntmps41]
 repeat' first | ((first | refine aops_end (hK _ ?_) | refine aopsD_end (hK _ ?_) | refine aopsF_end (hK _ ?_)); clear hK K) | ((first | refine aops_go ?_ | refine aopsD_go ?_ | refine aopsF_go ?_); simp; (try simp (disch := omega) only [wrap64]); (try (refine gen2 ?_ ?_ <;> intro hq <;> try simp at hq))) | (refine wpcall_new1 rfl hc ?_; simp [back]) | ((first | (refine wpcall_dr 1 rfl rfl (l6One_ok b hb _ (by omega)) (fun c p1 hc1 hp1 hp1' => ?_); (have hcs := cov24 hc1)) | refine wpcall_dr 1 rfl rfl (l6Mutate_ok b hb _ (by omega) _ (by omega)) (fun c2 p2 hc2 hp2 hp2' => ?_)); simp) | refine TX.rs (fun _ => false) fun K hK => ?_ | refine TX.rs1 (fun _ => false) fun K hK => ?_ | (refine ⟨by omega, ?_⟩) | refine TX.cond rfl (fun hcnd => ?_) (fun hcnd => absurd hcnd (by decide)) | refine TX.cond rfl (fun hcnd => absurd hcnd (by decide)) (fun hcnd => ?_) | refine TX.seq ?_ | refine TX.block ?_ | refine TX.skip ?_ | refine TX.exit ?_ | refine EX.thenN ?_ | refine EX.thenR ?_ | refine EX.thenE ?_ | refine EX.blockN ?_ | refine EX.blockR ?_ | refine EX.blockE ?_ | refine EX.blockO (by simp) ?_ | refine EX.outR ?_ | refine EX.outE ?_
 all_goals (
  refine TX.ret ?_
  repeat' first | refine EX.outR ?_ | refine EX.thenR ?_ | refine EX.blockR ?_ | refine EX.unrR ?_
  apply EX.someA (ks := [])
  case he => exact Or.inr rfl
  case hys => simp [resAs, getAs, Tryz.results41] <;> rfl
  case hv => first | (dsimp only [Av.one]; exact rfl) | dsimp only [Av.one]
  case hx => repeat' first | exact IsT2.var _ | exact IsV.tmv _ | exact IsTm.var _ | exact IsTy.row _ | exact IsTm.row _ | exact IsTys.nil | exact IsTms.nil | exact IsBds.nil | exact IsTys.map _ | exact IsTms.map _ | exact IsBds.map _ | exact IsV.int _ | exact IsV.str _ | exact IsV.bool _ | apply IsV.p2 | apply IsV.p3 | apply IsV.tm | apply IsV.ty | apply IsTm.node | apply IsTy.of | apply IsTys.cons | apply IsTms.cons | apply IsBds.cons | apply IsV.tys | apply IsV.tms | apply IsV.bds | apply IsT2.node | apply IsTys.app | apply IsTms.app | apply IsBds.app | exact IsCos.map _ | exact IsCos.nil | apply IsV.co | apply IsCos.cons | apply IsCos.app | apply IsV.ops | exact IsOps.map _ | exact IsOps.nil | apply IsOps.cons | apply IsOps.app | apply IsOps.set | apply IsOps.take
  case hA => exact rfl
  case hks => simp
  case hg => (try rw [nCo_eta]); omega)

theorem DrawFormatCoercion_ex (b : List Int) (hb : ∀ n ∈ b, 0 <= n /\ n <= 255) : ∃ c, nCo c <= 50000000 /\ ACalls Tryz.prog 14 [.l (rB b)] [] (aCo c) [] [] := by
 obtain ⟨c, hc, d1⟩ := (DrawCoercionValid_ok b hb).elim
 refine ⟨c, hc, ?_⟩
 refine ACalls.of_body Tryz.func14 (by kernel_rfl) rfl (by kernel_rfl) (by simp [Tryz.ntmps14]) (by simp) ?_
 rw [Tryz.ntmps14]
 repeat' first | ((first | refine aops_end (hK _ ?_) | refine aopsD_end (hK _ ?_) | refine aopsF_end (hK _ ?_)); clear hK K) | ((first | refine aops_go ?_ | refine aopsD_go ?_ | refine aopsF_go ?_ | refine wpcall_pure rfl (d1) ?_); simp; (try (refine gen2 ?_ ?_ <;> intro hq <;> try simp at hq))) | (refine T.ret (Done.data (Or.inr rfl) ?_ ?_) <;> simp [Tryz.results14] <;> omega) | refine T.r0 fun K hK => ?_ | refine T.r1 fun K hK => ?_ | (refine ⟨by omega, ?_⟩) | refine T.ct rfl ?_ | refine T.cf rfl ?_ | refine T.seq ?_ | refine T.block ?_ | refine T.skip ?_ | refine T.exit ?_

theorem DrawParseCoercion_ok (b : List Int) (hb : ∀ n ∈ b, 0 <= n /\ n <= 255) : Some_ Tryz.prog 21 [.l (rB b)] (RV (fun t : List UInt8 => .s t) noA fun t => t.length <= 300000000) := by
 obtain ⟨b, p, hb, hp, hc⟩ := l18Open_ok b hb
 refine Some_.of_body Tryz.func21 (by kernel_rfl) rfl (by kernel_rfl) (by simp [Tryz.ntmps21]) ?_
 rw [Tryz.ntmps21]
 repeat' first | ((first | refine aops_end (hK _ ?_) | refine aopsD_end (hK _ ?_) | refine aopsF_end (hK _ ?_)); clear hK K) | ((first | refine aops_go ?_ | refine aopsD_go ?_ | refine aopsF_go ?_); simp; (try simp (disch := omega) only [wrap64]); (try (refine gen2 ?_ ?_ <;> intro hq <;> try simp at hq))) | (refine wpcall_new1 rfl hc ?_; simp [back]) | ((first | (refine wpcall_dr 0 rfl rfl (l6One_ok b hb _ (by omega)) (fun c p1 hc1 hp1 hp1' => ?_); (have hfl := coTextF_le hc1 (by omega))) | refine wpcall_pure rfl (l6Text_ok hc1 (by omega)) ?_ | refine wpcall_dr 0 rfl rfl (l1Bend_ok b hb _ (by omega) _ (by omega) [[], [40], [41], [33], [35], [88], [73], [45], [48]] (by simp) (by simp) (by simp)) (fun t p1 ht hp1 hp1' => ?_)); simp) | refine TX.rs (fun _ => false) fun K hK => ?_ | refine TX.rs1 (fun _ => false) fun K hK => ?_ | (refine ⟨by omega, ?_⟩) | refine TX.cond rfl (fun hcnd => ?_) (fun hcnd => absurd hcnd (by decide)) | refine TX.cond rfl (fun hcnd => absurd hcnd (by decide)) (fun hcnd => ?_) | refine TX.seq ?_ | refine TX.block ?_ | refine TX.skip ?_ | refine TX.exit ?_ | refine EX.thenN ?_ | refine EX.thenR ?_ | refine EX.thenE ?_ | refine EX.blockN ?_ | refine EX.blockR ?_ | refine EX.blockE ?_ | refine EX.blockO (by simp) ?_ | refine EX.outR ?_ | refine EX.outE ?_
 all_goals (
  refine TX.ret ?_
  repeat' first | refine EX.outR ?_ | refine EX.thenR ?_ | refine EX.blockR ?_ | refine EX.unrR ?_
  apply EX.someA (ks := [])
  case he => exact Or.inr rfl
  case hys => simp [resAs, getAs, Tryz.results21] <;> rfl
  case hv => first | (dsimp only [Av.one]; exact rfl) | dsimp only [Av.one]
  case hx => repeat' first | exact IsT2.var _ | exact IsV.tmv _ | exact IsTm.var _ | exact IsTy.row _ | exact IsTm.row _ | exact IsTys.nil | exact IsTms.nil | exact IsBds.nil | exact IsTys.map _ | exact IsTms.map _ | exact IsBds.map _ | exact IsV.int _ | exact IsV.str _ | exact IsV.bool _ | apply IsV.p2 | apply IsV.p3 | apply IsV.tm | apply IsV.ty | apply IsTm.node | apply IsTy.of | apply IsTys.cons | apply IsTms.cons | apply IsBds.cons | apply IsV.tys | apply IsV.tms | apply IsV.bds | apply IsT2.node | apply IsTys.app | apply IsTms.app | apply IsBds.app | exact IsCos.map _ | exact IsCos.nil | apply IsV.co | apply IsCos.cons | apply IsCos.app | apply IsV.ops | exact IsOps.map _ | exact IsOps.nil | apply IsOps.cons | apply IsOps.app | apply IsOps.set | apply IsOps.take
  case hA => exact rfl
  case hks => simp
  case hg => omega)
end Go.Proofs.YtcgmmknfpfdghaaGreatDoor
