/- A part of the library of this seat. -/
import Derived.Test.YtflmjilnecanhaaGreatDoorWW14
set_option linter.unusedVariables false
set_option linter.unusedSimpArgs false
namespace Go.Proofs.YtflmjilnecanhaaGreatDoor
open Go Go.Av
attribute [local irreducible] T ACalls TX EX LX Draws Some_ ACallsX eTy eTm MTy.kind MTy.kids MTm.kind MTm.name MTm.num MTm.ty MTm.fr MTm.label MTm.kids
attribute [local simp] eTy_def eTm_def
set_option maxHeartbeats 16000000
set_option maxRecDepth 8000

end Go.Proofs.YtflmjilnecanhaaGreatDoor

namespace Go.Proofs.YtflmjilnecanhaaGreatDoor
open Go Go.Av
attribute [local irreducible] T ACalls TX EX LX Draws Some_ ACallsX eTy eTm MTy.kind MTy.kids MTm.kind MTm.name MTm.num MTm.ty MTm.fr MTm.label MTm.kids
attribute [local simp] eTy_def eTm_def
set_option maxHeartbeats 16000000
set_option maxRecDepth 8000

def castC (e : MTm) (f t : MTy) (l : Int) : MTm := if sameTy f t = true then e else tCast e f t l
end Go.Proofs.YtflmjilnecanhaaGreatDoor

namespace Go.Proofs.YtflmjilnecanhaaGreatDoor
open Go Go.Av
attribute [local irreducible] T ACalls TX EX LX Draws Some_ ACallsX eTy eTm MTy.kind MTy.kids MTm.kind MTm.name MTm.num MTm.ty MTm.fr MTm.label MTm.kids
attribute [local simp] eTy_def eTm_def
set_option maxHeartbeats 16000000
set_option maxRecDepth 8000

end Go.Proofs.YtflmjilnecanhaaGreatDoor

namespace Go.Proofs.YtflmjilnecanhaaGreatDoor
open Go Go.Av
attribute [local irreducible] T ACalls TX EX LX Draws Some_ ACallsX eTy eTm MTy.kind MTy.kids MTm.kind MTm.name MTm.num MTm.ty MTm.fr MTm.label MTm.kids
attribute [local simp] eTy_def eTm_def
set_option maxHeartbeats 16000000
set_option maxRecDepth 8000

theorem DrawEmbedTerm_ok (b : List Int) (hb : ∀ n ∈ b, 0 <= n /\ n <= 255) : Some_ Tryz.prog 26 [.l (rB b)] (RV aTm noA fun e => nTm e <= 3000000) := by
 obtain ⟨b, p, hb, hp, hc⟩ := l18Open_ok b hb
 refine Some_.of_body Tryz.func26 (by kernel_rfl) rfl (by kernel_rfl) (by simp [Tryz.ntmps26]) ?_
 rw [Tryz.ntmps26]
 repeat' first | ((first | refine aops_end (hK _ ?_) | refine aopsD_end (hK _ ?_) | refine aopsF_end (hK _ ?_)); clear hK K) | ((first | refine aops_go ?_ | refine aopsD_go ?_ | refine aopsF_go ?_); simp; (try simp (disch := omega) only [wrap64]); (try (refine gen fun q hq => ?_; cases q <;> (try simp at hq) <;> (try (have hh : True := hq; clear hh hq))))) | (refine wpcall_dr 1 rfl rfl (pick_ok b hb _ (by omega) 3 (by omega)) (fun x1 p1 hx1 hp1 hp1' => ?_); simp; (try simp (disch := omega) only [wrap64]); (try (refine gen fun q hq => ?_; cases q <;> (try simp at hq) <;> (try (have hh : True := hq; clear hh hq))))) | (refine wpcall_new1 rfl hc ?_; simp [back]) | (refine wpcall_dr 1 rfl rfl (l2Term_ok b hb _ (by omega)) (fun e p1 he hp1 hp1' => ?_); simp) | (refine wpcall_dr 1 rfl rfl (l1DrawT_ok b hb 1 (by omega) _ (by omega)) (fun t p1 ht hp1 hp1' => ?_); simp) | (refine wpcall_dr 1 rfl rfl (num_ok b hb _ (by omega) [2, 3, 3, 4] (by simp) (by simp)) (fun z p1 hz hp1 hp1' => ?_); simp at hz; simp) | (refine wpcall_dr 1 rfl rfl (l3Make5_ok b hb [] (by simp) (by simp) _ (by assumption) _ (by omega) (by omega) _ (by omega)) (fun e p1 he hp1 hp1' => ?_); simp) | (refine wpcall_dr 1 rfl rfl (l2Mutate_ok b hb _ (by omega) _ (by omega)) (fun e3 p3 he3 hp3 hp3' => ?_); simp) | refine TX.rs (fun _ => false) fun K hK => ?_ | refine TX.rs1 (fun _ => false) fun K hK => ?_ | (refine ⟨by omega, ?_⟩) | refine TX.cond rfl (fun hcnd => ?_) (fun hcnd => absurd hcnd (by decide)) | refine TX.cond rfl (fun hcnd => absurd hcnd (by decide)) (fun hcnd => ?_) | refine TX.seq ?_ | refine TX.block ?_ | refine TX.skip ?_ | refine TX.exit ?_ | refine EX.thenN ?_ | refine EX.thenR ?_ | refine EX.thenE ?_ | refine EX.blockN ?_ | refine EX.blockR ?_ | refine EX.blockE ?_ | refine EX.blockO (by simp) ?_ | refine EX.outR ?_ | refine EX.outE ?_
 all_goals (
  refine TX.ret ?_
  repeat' first | refine EX.outR ?_ | refine EX.thenR ?_ | refine EX.blockR ?_ | refine EX.unrR ?_
  apply EX.someA (ks := [])
  case he => exact Or.inr rfl
  case hys => simp [resAs, getAs, Tryz.results26] <;> rfl
  case hv => first | (dsimp only [Av.one]; exact rfl) | dsimp only [Av.one]
  case hx => repeat' first | exact IsT2.var _ | exact IsV.tmv _ | exact IsTm.var _ | exact IsTy.row _ | exact IsTm.row _ | exact IsTys.nil | exact IsTms.nil | exact IsBds.nil | exact IsTys.map _ | exact IsTms.map _ | exact IsBds.map _ | exact IsV.int _ | exact IsV.str _ | exact IsV.bool _ | apply IsV.p2 | apply IsV.p3 | apply IsV.tm | apply IsV.ty | apply IsTm.node | apply IsTy.of | apply IsTys.cons | apply IsTms.cons | apply IsBds.cons | apply IsV.tys | apply IsV.tms | apply IsV.bds | apply IsT2.node | apply IsTys.app | apply IsTms.app | apply IsBds.app
  case hA => exact rfl
  case hks => simp
  case hg => omega)

end Go.Proofs.YtflmjilnecanhaaGreatDoor
