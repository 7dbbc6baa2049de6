/- A part of the library of this seat. -/
import Derived.Test.YtflmjilnecanhaaGreatDoorW5
set_option linter.unusedVariables false
set_option linter.unusedSimpArgs false
namespace Go.Proofs.YtflmjilnecanhaaGreatDoor
attribute [-simp] Go.Av.take_app_len Go.Av.innVs Go.Av.putBack Go.Av.objCells Go.Av.back Go.Av.resVs Go.Av.one Go.Av.freeStepG Go.Av.exA Go.Av.innAsH Go.Av.AV.innH Go.Av.CV.innH Go.Av.innHs Go.Av.AV.outnH Go.Av.CV.outnH
open Go Go.Av
attribute [local irreducible] T ACalls TX EX LX Draws Some_ ACallsX eTy eTm MTy.kind MTy.kids MTm.kind MTm.name MTm.num MTm.ty MTm.fr MTm.label MTm.kids
attribute [local simp] eTy_def eTm_def
set_option maxHeartbeats 16000000
set_option maxRecDepth 8000

theorem l2Closed_ok (b : List Int) (hb : okB b) (p : Nat) (hp : p + 500000 <= 1099511627776) : Draws Tryz.prog 106 [] b p 500000 (RV aTm noA fun e => nTm e <= 500000) := by
 have hnum := l2Num_ok
 refine Draws.of_body Tryz.func106 (by kernel_rfl) rfl (by kernel_rfl) (by simp [Tryz.ntmps106]) ?_
 rw [Tryz.ntmps106]
 repeat' first | (refine aops_end (hK _ ?_); clear hK K) | ((first | refine aops_go ?_ | refine wpcall_pure rfl (hnum _) ?_ | refine wpcall_pure rfl (TermValidS_ok _ (by omega)) ?_); simp; (try simp (disch := omega) only [wrap64]); (try (refine gen fun q hq => ?_; cases q <;> (try simp at hq) <;> (try (have hh : True := hq; clear hh hq))))) | (refine wpcall_dr 0 rfl rfl (num_ok b hb _ (by omega) [4, 3, 5, 4, 2] (by simp) (by simp)) (fun x p1 hx hp1 hp1' => ?_); simp at hx; (have hx2 : x = 4 \/ x = 3 \/ x = 5 \/ x = 2 := by omega); clear hx; rcases hx2 with rfl | rfl | rfl | rfl <;> (simp; (try simp (disch := omega) only [wrap64]))) | (refine wpcall_dr 0 rfl rfl (l2Draw_ok b hb 5 [] _ (by omega) (by simp) (by omega)) (fun x1 p1 hx1 hp1 hp1' => ?_); simp; (try simp (disch := omega) only [wrap64]); (try (refine gen fun q hq => ?_; cases q <;> (try simp at hq) <;> (try (have hh : True := hq; clear hh hq))))) | (refine wpcall_dr 0 rfl rfl (l2Draw_ok b hb 4 [] _ (by omega) (by simp) (by omega)) (fun x1 p1 hx1 hp1 hp1' => ?_); simp; (try simp (disch := omega) only [wrap64]); (try (refine gen fun q hq => ?_; cases q <;> (try simp at hq) <;> (try (have hh : True := hq; clear hh hq))))) | (refine wpcall_dr 0 rfl rfl (l2Draw_ok b hb 3 [] _ (by omega) (by simp) (by omega)) (fun x1 p1 hx1 hp1 hp1' => ?_); simp; (try simp (disch := omega) only [wrap64]); (try (refine gen fun q hq => ?_; cases q <;> (try simp at hq) <;> (try (have hh : True := hq; clear hh hq))))) | (refine wpcall_dr 0 rfl rfl (l2Draw_ok b hb 2 [] _ (by omega) (by simp) (by omega)) (fun x1 p1 hx1 hp1 hp1' => ?_); simp; (try simp (disch := omega) only [wrap64]); (try (refine gen fun q hq => ?_; cases q <;> (try simp at hq) <;> (try (have hh : True := hq; clear hh hq))))) | refine TX.rs (fun _ => false) fun K hK => ?_ | refine TX.cond rfl (fun hcnd => ?_) (fun hcnd => absurd hcnd (by decide)) | refine TX.cond rfl (fun hcnd => absurd hcnd (by decide)) (fun hcnd => ?_) | refine TX.seq ?_ | refine TX.skip ?_ | refine EX.thenN ?_
 all_goals (
  refine TX.ret ?_
  repeat' first | refine EX.outR ?_ | refine EX.thenR ?_ | refine EX.blockR ?_ | refine EX.unrR ?_
  apply EX.drA (ks := [])
  case he => exact Or.inr rfl
  case hys => simp [resAs, getAs, Tryz.results106] <;> rfl
  case hv => first | (dsimp only [Av.one]; exact rfl) | dsimp only [Av.one]
  case hx => repeat' first | exact IsT2.var _ | exact IsV.tmv _ | exact IsTm.var _ | exact IsTy.row _ | exact IsTm.row _ | exact IsTys.nil | exact IsTms.nil | exact IsBds.nil | exact IsTys.map _ | exact IsTms.map _ | exact IsBds.map _ | exact IsV.int _ | exact IsV.str _ | exact IsV.bool _ | apply IsV.p2 | apply IsV.p3 | apply IsV.tm | apply IsV.ty | apply IsTm.node | apply IsTy.of | apply IsTys.cons | apply IsTms.cons | apply IsBds.cons | apply IsV.tys | apply IsV.tms | apply IsV.bds | apply IsT2.node | apply IsTys.app | apply IsTms.app | apply IsBds.app
  case hA => exact rfl
  case hks => simp
  case hV => exact rfl
  case h1 => omega
  case h2 => omega
  case hg => (try simp [nTm_mk, nTy_mk, nTyS, nTmS]) <;> omega)

theorem l2Term_ok (b : List Int) (hb : okB b) (p : Nat) (hp : p + 600000 <= 1099511627776) : Draws Tryz.prog 71 [] b p 600000 (RV aTm noA fun e => nTm e <= 500000) := by
 have hnum := l2Num_ok
 refine Draws.of_body Tryz.func71 (by kernel_rfl) rfl (by kernel_rfl) (by simp [Tryz.ntmps71]) ?_
 rw [Tryz.ntmps71]
 repeat' first | (refine aops_end (hK _ ?_); clear hK K) | ((first | refine aops_go ?_ | refine wpcall_pure rfl (hnum _) ?_ | refine wpcall_pure rfl (TermValidS_ok _ (by omega)) ?_); simp; (try simp (disch := omega) only [wrap64]); (try (refine gen fun q hq => ?_; cases q <;> (try simp at hq) <;> (try (have hh : True := hq; clear hh hq))))) | (refine wpcall_dr 0 rfl rfl (num_ok b hb _ (by omega) [3, 2, 4] (by simp) (by simp)) (fun x p1 hx hp1 hp1' => ?_); simp at hx; (have hx2 : x = 3 \/ x = 2 \/ x = 4 := by omega); clear hx; rcases hx2 with rfl | rfl | rfl <;> (simp; (try simp (disch := omega) only [wrap64]))) | (refine wpcall_dr 0 rfl rfl (pick_ok b hb _ (by omega) 4 (by omega)) (fun x1 p1 hx1 hp1 hp1' => ?_); simp; (try simp (disch := omega) only [wrap64]); (try (refine gen fun q hq => ?_; cases q <;> (try simp at hq) <;> (try (have hh : True := hq; clear hh hq))))) | (refine wpcall_dr 0 rfl rfl (l2Closed_ok b hb _ (by omega)) (fun x1 p1 hx1 hp1 hp1' => ?_); simp; (try simp (disch := omega) only [wrap64]); (try (refine gen fun q hq => ?_; cases q <;> (try simp at hq) <;> (try (have hh : True := hq; clear hh hq))))) | (refine wpcall_dr 0 rfl rfl (l2Draw_ok b hb 4 [120, 122] _ (by omega) (by simp) (by omega)) (fun x1 p1 hx1 hp1 hp1' => ?_); simp; (try simp (disch := omega) only [wrap64]); (try (refine gen fun q hq => ?_; cases q <;> (try simp at hq) <;> (try (have hh : True := hq; clear hh hq))))) | (refine wpcall_dr 0 rfl rfl (l2Draw_ok b hb 3 [120, 122] _ (by omega) (by simp) (by omega)) (fun x1 p1 hx1 hp1 hp1' => ?_); simp; (try simp (disch := omega) only [wrap64]); (try (refine gen fun q hq => ?_; cases q <;> (try simp at hq) <;> (try (have hh : True := hq; clear hh hq))))) | (refine wpcall_dr 0 rfl rfl (l2Draw_ok b hb 2 [120, 122] _ (by omega) (by simp) (by omega)) (fun x1 p1 hx1 hp1 hp1' => ?_); simp; (try simp (disch := omega) only [wrap64]); (try (refine gen fun q hq => ?_; cases q <;> (try simp at hq) <;> (try (have hh : True := hq; clear hh hq))))) | refine TX.rs (fun _ => false) fun K hK => ?_ | refine TX.cond rfl (fun hcnd => ?_) (fun hcnd => absurd hcnd (by decide)) | refine TX.cond rfl (fun hcnd => absurd hcnd (by decide)) (fun hcnd => ?_) | refine TX.seq ?_ | refine TX.skip ?_ | refine EX.thenN ?_
 all_goals (
  refine TX.ret ?_
  repeat' first | refine EX.outR ?_ | refine EX.thenR ?_ | refine EX.blockR ?_ | refine EX.unrR ?_
  apply EX.drA (ks := [])
  case he => exact Or.inr rfl
  case hys => simp [resAs, getAs, Tryz.results71] <;> rfl
  case hv => first | (dsimp only [Av.one]; exact rfl) | dsimp only [Av.one]
  case hx => repeat' first | exact IsT2.var _ | exact IsV.tmv _ | exact IsTm.var _ | exact IsTy.row _ | exact IsTm.row _ | exact IsTys.nil | exact IsTms.nil | exact IsBds.nil | exact IsTys.map _ | exact IsTms.map _ | exact IsBds.map _ | exact IsV.int _ | exact IsV.str _ | exact IsV.bool _ | apply IsV.p2 | apply IsV.p3 | apply IsV.tm | apply IsV.ty | apply IsTm.node | apply IsTy.of | apply IsTys.cons | apply IsTms.cons | apply IsBds.cons | apply IsV.tys | apply IsV.tms | apply IsV.bds | apply IsT2.node | apply IsTys.app | apply IsTms.app | apply IsBds.app
  case hA => exact rfl
  case hks => simp
  case hV => exact rfl
  case h1 => omega
  case h2 => omega
  case hg => (try simp [nTm_mk, nTy_mk, nTyS, nTmS]) <;> omega)

theorem l2Mutate_ok (b : List Int) (hb : okB b) (e : MTm) (hn : nTm e <= 1000000000) (p : Nat) (hp : p + 400 <= 1099511627776) : Draws Tryz.prog 70 [aTm e] b p 400 (RV aTm noA fun u => nTm u <= nTm e + 100) := by
 have hany := l1Any_ok
 have hcp := l2Copy_ok e (by omega)
 have hn2 := hn
 rw [nTm_def] at hn2
 refine Draws.of_body Tryz.func70 (by kernel_rfl) rfl (by kernel_rfl) (by simp [Tryz.ntmps70]) ?_
 rw [Tryz.ntmps70]
 repeat' first | (refine aops_end (hK _ ?_); clear hK K) | ((first | refine aops_go ?_ | refine wpcall_pure rfl (hany) ?_ | refine wpcall_pure rfl (hcp) ?_); simp; (try simp (disch := omega) only [wrap64]); (try (refine gen fun q hq => ?_; cases q <;> (try simp at hq) <;> (try (have hh : True := hq; clear hh hq))))) | (refine wpcall_dr 0 rfl rfl (pick_ok b hb _ (by omega) 50 (by omega)) (fun x1 p1 hx1 hp1 hp1' => ?_); simp; (try simp (disch := omega) only [wrap64]); (try (refine gen fun q hq => ?_; cases q <;> (try simp at hq) <;> (try (have hh : True := hq; clear hh hq))))) | (refine wpcall_dr 0 rfl rfl (num_ok b hb _ (by omega) [0, 15, 1, 6, 14, -1] (by simp) (by simp)) (fun x1 p1 hx1 hp1 hp1' => ?_); simp; (try simp (disch := omega) only [wrap64]); (try (refine gen fun q hq => ?_; cases q <;> (try simp at hq) <;> (try (have hh : True := hq; clear hh hq))))) | (refine wpcall_dr 0 rfl rfl (num_ok b hb _ (by omega) [1000, -1, 9223372036854775807, 5] (by simp) (by simp)) (fun x1 p1 hx1 hp1 hp1' => ?_); simp; (try simp (disch := omega) only [wrap64]); (try (refine gen fun q hq => ?_; cases q <;> (try simp at hq) <;> (try (have hh : True := hq; clear hh hq))))) | (refine wpcall_dr 0 rfl rfl (l1Mutate_ok b hb _ (by omega) _ (by omega)) (fun x1 p1 hx1 hp1 hp1' => ?_); simp; (try simp (disch := omega) only [wrap64]); (try (refine gen fun q hq => ?_; cases q <;> (try simp at hq) <;> (try (have hh : True := hq; clear hh hq))))) | (refine wpcall_dr 0 rfl rfl (of_ok b hb _ (by omega) [[88], [120, 121], [], [120]] (by simp) (by simp)) (fun x p1 hx hp1 hp1' => ?_); (have hxl : x.length <= 2 := by simp at hx; rcases hx with rfl | rfl | rfl | rfl <;> simp); simp) | (refine wpcall_dr 0 rfl rfl (l1Type_ok b hb _ (by omega)) (fun t p1 ht hp1 hp1' => ?_); replace ht := shape4 ht; simp) | refine TX.rs (fun _ => false) fun K hK => ?_ | refine TX.rs1 (fun _ => false) fun K hK => ?_ | refine TX.cond rfl (fun hcnd => ?_) (fun hcnd => absurd hcnd (by decide)) | refine TX.cond rfl (fun hcnd => absurd hcnd (by decide)) (fun hcnd => ?_) | refine TX.seq ?_ | refine TX.block ?_ | refine TX.skip ?_ | refine EX.thenN ?_ | refine EX.blockN ?_
 all_goals (
  refine TX.ret ?_
  repeat' first | refine EX.outR ?_ | refine EX.thenR ?_ | refine EX.blockR ?_ | refine EX.unrR ?_
  apply EX.drA (ks := [])
  case he => exact Or.inr rfl
  case hys => simp [resAs, getAs, Tryz.results70] <;> rfl
  case hv => first | (dsimp only [Av.one]; exact rfl) | dsimp only [Av.one]
  case hx => repeat' first | exact IsT2.var _ | exact IsV.tmv _ | exact IsTm.var _ | exact IsTy.row _ | exact IsTm.row _ | exact IsTys.nil | exact IsTms.nil | exact IsBds.nil | exact IsTys.map _ | exact IsTms.map _ | exact IsBds.map _ | exact IsV.int _ | exact IsV.str _ | exact IsV.bool _ | apply IsV.p2 | apply IsV.p3 | apply IsV.tm | apply IsV.ty | apply IsTm.node | apply IsTy.of | apply IsTys.cons | apply IsTms.cons | apply IsBds.cons | apply IsV.tys | apply IsV.tms | apply IsV.bds | apply IsT2.node | apply IsTys.app | apply IsTms.app | apply IsBds.app
  case hA => exact rfl
  case hks => simp
  case hV => exact rfl
  case h1 => omega
  case h2 => omega
  case hg => simp [nTm_mk, nTy_mk, nTyS, nTm_def] <;> omega)
end Go.Proofs.YtflmjilnecanhaaGreatDoor

namespace Go.Proofs.YtflmjilnecanhaaGreatDoor
attribute [-simp] Go.Av.innVs Go.Av.putBack Go.Av.objCells Go.Av.back Go.Av.resVs Go.Av.one Go.Av.freeStepG Go.Av.exA Go.Av.innAsH Go.Av.AV.innH Go.Av.CV.innH Go.Av.innHs Go.Av.AV.outnH Go.Av.CV.outnH
open Go Go.Av
attribute [local irreducible] T ACalls TX EX LX Draws Some_ ACallsX eTy eTm MTy.kind MTy.kids MTm.kind MTm.name MTm.num MTm.ty MTm.fr MTm.label MTm.kids
attribute [local simp] eTy_def eTm_def
set_option maxHeartbeats 16000000
set_option maxRecDepth 8000

theorem l2NodeR_ok (k : Int) (l : List (List DV)) : ACalls Tryz.prog 147 [.i k, .l l] [] (.agg [.d (.i k), .d (.str []), .d (.i 0), .d (.i 0), .d (.sl []), .d (.i 0), .d (.sl []), .d (.i 0), .d (.sl l)]) [] [] := by
 refine ACalls.of_body Tryz.func147 (by kernel_rfl) rfl (by kernel_rfl) (by simp [Tryz.ntmps147]) (by simp) ?_
 rw [Tryz.ntmps147]
 repeat' first | (refine aops_end (hK _ ?_); clear hK K) | (refine aops_go ?_; simp; (try (refine gen fun q hq => ?_; cases q <;> (try simp at hq) <;> (try (have hh : True := hq; clear hh hq))))) | (refine T.ret (Done.val (Or.inr rfl) ?_) <;> simp [resAs, Tryz.results147] <;> omega) | refine T.r0 fun K hK => ?_

theorem l3Lam_of (b : List Int) (hb : okB b) (ctx : List MBd) (s t : MTy) (hs : nTy s <= 100) (hl : ctx.length <= 1000) (d : Int) (hd : -1000 <= d) (hd' : d <= 1000) (N B p : Nat) (hp : p + N + 1 <= 1099511627776)
  (hm : ∀ (c : UInt8) (p : Nat), p + N <= 1099511627776 -> Draws Tryz.prog 72 [.l (ctx.map eBd ++ [eBd ⟨[c], s⟩]), aTy t, .i d] b p N (RV aTm noA fun e => nTm e <= B)) :
  Draws Tryz.prog 149 [aBds ctx, aTy s, aTy t, .i d] b p (N + 1) (RV aTm noA fun e => nTm e <= B + 102) := by
 have hcp := l1Copy_ok s (by omega)
 refine Draws.of_body Tryz.func149 (by kernel_rfl) rfl (by kernel_rfl) (by simp [Tryz.ntmps149]) ?_
 rw [Tryz.ntmps149]
 repeat' first | ((first | refine aops_end (hK _ ?_) | refine aopsD_end (hK _ ?_)); clear hK K) | ((first | refine aops_go ?_ | refine aopsD_go ?_ | refine wpcall_pure rfl (hcp) ?_ | refine wpcall_pure rfl (l3More_ok ctx _ s (by omega)) ?_); simp; (try simp (disch := omega) only [wrap64]); (try (refine gen fun q hq => ?_; cases q <;> (try simp at hq) <;> (try (have hh : True := hq; clear hh hq))))) | (refine wpcall_dr 0 rfl rfl (hm _ _ (by omega)) (fun x1 p1 hx1 hp1 hp1' => ?_); simp; (try simp (disch := omega) only [wrap64]); (try (refine gen fun q hq => ?_; cases q <;> (try simp at hq) <;> (try (have hh : True := hq; clear hh hq))))) | (refine wpcall_dr 0 rfl rfl (of_ok b hb _ (by omega) [[120], [121], [122], [102]] (by simp) (by simp)) (fun x p1 hx hp1 hp1' => ?_); (obtain ⟨c, rfl⟩ : ∃ c, x = [c] := by simp at hx; rcases hx with rfl | rfl | rfl | rfl <;> exact ⟨_, rfl⟩); simp) | refine TX.rd (id := 2) mixed (fun _ => false) [10, 13] (by kernel_rfl) fun K hK => ?_ | refine TX.rs (fun _ => false) fun K hK => ?_
 have hn2 := nTy_def s
 all_goals (
  refine TX.ret ?_
  repeat' first | refine EX.outR ?_ | refine EX.thenR ?_ | refine EX.blockR ?_ | refine EX.unrR ?_
  apply EX.drA (ks := [])
  case he => exact Or.inr rfl
  case hys => simp [resAs, getAs, Tryz.results149] <;> rfl
  case hv => first | (dsimp only [Av.one]; exact rfl) | dsimp only [Av.one]
  case hx => repeat' first | exact IsT2.var _ | exact IsV.tmv _ | exact IsTm.var _ | exact IsTy.row _ | exact IsTm.row _ | exact IsTys.nil | exact IsTms.nil | exact IsBds.nil | exact IsTys.map _ | exact IsTms.map _ | exact IsBds.map _ | exact IsV.int _ | exact IsV.str _ | exact IsV.bool _ | apply IsV.p2 | apply IsV.p3 | apply IsV.tm | apply IsV.ty | apply IsTm.node | apply IsTy.of | apply IsTys.cons | apply IsTms.cons | apply IsBds.cons | apply IsV.tys | apply IsV.tms | apply IsV.bds | apply IsT2.node | apply IsTys.app | apply IsTms.app | apply IsBds.app
  case hA => exact rfl
  case hks => simp
  case hV => exact rfl
  case h1 => omega
  case h2 => omega
  case hg => simp [nTm_mk, nTy_mk, nTyS, nTmS, *] <;> omega)

theorem l3Make_core (b : List Int) (hb : okB b) (ctx : List MBd) (hl : ctx.length <= 1000) (hct : ∀ u ∈ ctx, u.name.length <= 10 /\ nTy u.ty <= 1000) (t : MTy) (hts : shapeTy 4 t = true) (d : Int) (hd : -1000 <= d) (hd' : d <= 1000) (N B p : Nat) (hp : p + 3 * N + 3000 <= 1099511627776)
  (h1 : 1 < d -> ∀ (t' : MTy), shapeTy 4 t' = true -> ∀ p, p + N <= 1099511627776 -> Draws Tryz.prog 72 [aBds ctx, aTy t', .i (d - 1)] b p N (RV aTm noA fun e => nTm e <= B))
  (h1L : 1 < d -> ∀ (s t' : MTy), shapeTy 4 s = true -> shapeTy 4 t' = true -> ∀ p, p + N <= 1099511627776 -> Draws Tryz.prog 149 [aBds ctx, aTy s, aTy t', .i (d - 1)] b p N (RV aTm noA fun e => nTm e <= B))
  (h2 : ∀ u ∈ t.kids, ∀ p, p + N <= 1099511627776 -> Draws Tryz.prog 72 [aBds ctx, aTy u, .i (d - 1)] b p N (RV aTm noA fun e => nTm e <= B))
  (h2L : ∀ u ∈ t.kids, ∀ v ∈ t.kids, ∀ p, p + N <= 1099511627776 -> Draws Tryz.prog 149 [aBds ctx, aTy u, aTy v, .i (d - 1)] b p N (RV aTm noA fun e => nTm e <= B)) :
  Draws Tryz.prog 72 [aBds ctx, aTy t, .i d] b p (3 * N + 3000) (RV aTm noA fun e => nTm e <= 3 * B + 100) := by
 have hnt := shape4 hts
 have hblI := fun p hp => l1Blur_ok b hb 4 intT p shape_int hp
 simp only [aTy, MTy.kind_mk, MTy.kids_mk, List.map_nil] at hblI
 have hint := l3Int_ok
 have hbool := l3Bool_ok
 have hany := l1Any_ok
 have hnum := l2Num_ok
 have hnode := l2NodeR_ok
 refine Draws.of_body Tryz.func72 (by kernel_rfl) rfl (by kernel_rfl) (by simp [Tryz.ntmps72]) ?_
 rw [Tryz.ntmps72]
 repeat' first | (refine aops_end (hK _ ?_); clear hK K) | (refine aops_go ?_; simp; (try simp (disch := omega) only [wrap64]); (try (refine gen fun q hq => ?_; cases q <;> (try simp at hq) <;> (try (have hh : True := hq; clear hh hq))))) | refine TX.rs (fun _ => false) fun K hK => ?_ | refine TX.seq ?_ | refine TX.block ?_
 refine TX.loopF (fun x : Nat × Nat × List (List CV) => ⟨[(0, .c (.ptr 0 0)), (1, aBds ctx), (3, .i d), (6, .c (.ptr 1 0)), (8, .c (.ptr 2 0)), (9, .i ((x.1 : Int) - 1))], (rd b x.2.1).map CV.d :: (aTy t).cells :: [.d (.i 0), .d (.str []), .d (.i 0), .d (.i 0), .nil, .d (.i 0), .nil, .d (.i 0), .nil] :: x.2.2, []⟩) (fun x => x.1) (fun x => x.1 <= ctx.length /\ p <= x.2.1 /\ x.2.1 + x.1 <= p + ctx.length) (fun x hx => ?_) (ctx.length, p, []) (by simp) (by simp)
 obtain ⟨j, q1, G⟩ := x
 obtain ⟨hj, hq1, hq2⟩ := hx
 dsimp only at hj hq1 hq2 ⊢
 cases j with
 | succ k =>
  have hk : k < ctx.length := by omega
  have e1 : ((k : Int) + 1 - 1) = k := by omega
  have e2 : ¬ ((k : Int) < 0) := by omega
  obtain ⟨u, ht⟩ := get_lt hk
  have htm : u ∈ ctx := List.mem_of_getElem? ht
  have hgt : ctx[k] = u := by rw [List.getElem?_eq_getElem hk] at ht; exact Option.some.inj ht
  have hdr : ctx.drop k = u :: ctx.drop (k + 1) := by rw [List.drop_eq_getElem_cons hk, hgt]
  have hu := hct u htm
  have hlk := l3Look_ok ctx u.name (by omega) (fun v hv => by have := hct v hv; omega)
  cases hr : lookM ctx u.name with
  | none =>
   rw [hr] at hlk
   dsimp only at hlk
   have hv := TypeValidS_ok zeroT (by simp [nTy_mk, nTyS])
   rw [shape_zero] at hv
   repeat' first | (refine aops_end (hK _ ?_); clear hK K) | ((first | refine aops_go ?_ | refine wpcall_pure rfl (hlk) ?_ | (refine wpcall_pure ?_ (hv) ?_; (focus (solve | simp [hk, hgt, e1, e2, eBd])))); simp [hk, hgt, e1, e2, eBd]; (try simp (disch := omega) only [wrap64]); (try (refine gen fun q hq => ?_; cases q <;> (try simp [hk, hgt, e1, e2, eBd] at hq) <;> (try (have hh : True := hq; clear hh hq))))) | (refine wpcall_dr 0 rfl rfl (pick_ok b hb _ (by omega) 3 (by omega)) (fun x1 p1 hx1 hp1 hp1' => ?_); simp [hk, hgt, e1, e2, eBd]; (try simp (disch := omega) only [wrap64]); (try (refine gen fun q hq => ?_; cases q <;> (try simp [hk, hgt, e1, e2, eBd] at hq) <;> (try (have hh : True := hq; clear hh hq))))) | (refine EX.next (k, _, _) (by dsimp only; omega) ⟨by dsimp only; omega, by dsimp only; omega, by dsimp only; omega⟩ ⟨rfl, rfl, ?_⟩; simp (disch := omega) [wrap64]) | refine TX.rs (fun _ => false) fun K hK => ?_ | refine TX.rs1 (fun _ => false) fun K hK => ?_ | refine TX.cond rfl (fun hcnd => ?_) (fun hcnd => absurd hcnd (by decide)) | refine TX.cond rfl (fun hcnd => absurd hcnd (by decide)) (fun hcnd => ?_) | refine TX.seq ?_ | refine TX.block ?_ | refine TX.skip ?_ | refine EX.thenN ?_ | refine EX.blockN ?_
  | some tu =>
   rw [hr] at hlk
   dsimp only at hlk
   obtain ⟨bd, hbm, rfl, _⟩ := look_mem hr
   have hbt := hct bd hbm
   have hv := TypeValidS_ok bd.ty (by omega)
   cases hvv : shapeTy 4 bd.ty with
   | false =>
    rw [hvv] at hv
    repeat' first | (refine aops_end (hK _ ?_); clear hK K) | ((first | refine aops_go ?_ | refine wpcall_pure rfl (hlk) ?_ | refine wpcall_pure rfl (hv) ?_); simp [hk, hgt, e1, e2, eBd]; (try simp (disch := omega) only [wrap64]); (try (refine gen fun q hq => ?_; cases q <;> (try simp [hk, hgt, e1, e2, eBd] at hq) <;> (try (have hh : True := hq; clear hh hq))))) | (refine wpcall_dr 0 rfl rfl (pick_ok b hb _ (by omega) 3 (by omega)) (fun x1 p1 hx1 hp1 hp1' => ?_); simp [hk, hgt, e1, e2, eBd]; (try simp (disch := omega) only [wrap64]); (try (refine gen fun q hq => ?_; cases q <;> (try simp [hk, hgt, e1, e2, eBd] at hq) <;> (try (have hh : True := hq; clear hh hq))))) | (refine EX.next (k, _, _) (by dsimp only; omega) ⟨by dsimp only; omega, by dsimp only; omega, by dsimp only; omega⟩ ⟨rfl, rfl, ?_⟩; simp (disch := omega) [wrap64]) | refine TX.rs (fun _ => false) fun K hK => ?_ | refine TX.rs1 (fun _ => false) fun K hK => ?_ | refine TX.cond rfl (fun hcnd => ?_) (fun hcnd => absurd hcnd (by decide)) | refine TX.cond rfl (fun hcnd => absurd hcnd (by decide)) (fun hcnd => ?_) | refine TX.seq ?_ | refine TX.block ?_ | refine TX.skip ?_ | refine EX.thenN ?_ | refine EX.blockN ?_
   | true =>
    rw [hvv] at hv
    have hcc := l1Consistent_ok 4 bd.ty t (by omega) hvv hts
    cases hcv : consTy bd.ty t with
    | false =>
     rw [hcv] at hcc
     repeat' first | (refine aops_end (hK _ ?_); clear hK K) | ((first | refine aops_go ?_ | refine wpcall_pure rfl (hlk) ?_ | refine wpcall_pure rfl (hv) ?_ | refine wpcall_pure rfl (hcc) ?_); simp [hk, hgt, e1, e2, eBd]; (try simp (disch := omega) only [wrap64]); (try (refine gen fun q hq => ?_; cases q <;> (try simp [hk, hgt, e1, e2, eBd] at hq) <;> (try (have hh : True := hq; clear hh hq))))) | (refine wpcall_dr 0 rfl rfl (pick_ok b hb _ (by omega) 3 (by omega)) (fun x1 p1 hx1 hp1 hp1' => ?_); simp [hk, hgt, e1, e2, eBd]; (try simp (disch := omega) only [wrap64]); (try (refine gen fun q hq => ?_; cases q <;> (try simp [hk, hgt, e1, e2, eBd] at hq) <;> (try (have hh : True := hq; clear hh hq))))) | (refine EX.next (k, _, _) (by dsimp only; omega) ⟨by dsimp only; omega, by dsimp only; omega, by dsimp only; omega⟩ ⟨rfl, rfl, ?_⟩; simp (disch := omega) [wrap64]) | refine TX.rs (fun _ => false) fun K hK => ?_ | refine TX.rs1 (fun _ => false) fun K hK => ?_ | refine TX.cond rfl (fun hcnd => ?_) (fun hcnd => absurd hcnd (by decide)) | refine TX.cond rfl (fun hcnd => absurd hcnd (by decide)) (fun hcnd => ?_) | refine TX.seq ?_ | refine TX.block ?_ | refine TX.skip ?_ | refine EX.thenN ?_ | refine EX.blockN ?_
    | true =>
     rw [hcv] at hcc
     repeat' first | (refine aops_end (hK _ ?_); clear hK K) | ((first | refine aops_go ?_ | refine wpcall_pure rfl (hlk) ?_ | refine wpcall_pure rfl (hv) ?_ | refine wpcall_pure rfl (hcc) ?_); simp [hk, hgt, e1, e2, eBd]; (try simp (disch := omega) only [wrap64]); (try (refine gen fun q hq => ?_; cases q <;> (try simp [hk, hgt, e1, e2, eBd] at hq) <;> (try (have hh : True := hq; clear hh hq))))) | (refine wpcall_dr 0 rfl rfl (pick_ok b hb _ (by omega) 3 (by omega)) (fun x1 p1 hx1 hp1 hp1' => ?_); simp [hk, hgt, e1, e2, eBd]; (try simp (disch := omega) only [wrap64]); (try (refine gen fun q hq => ?_; cases q <;> (try simp [hk, hgt, e1, e2, eBd] at hq) <;> (try (have hh : True := hq; clear hh hq))))) | (refine EX.next (k, _, _) (by dsimp only; omega) ⟨by dsimp only; omega, by dsimp only; omega, by dsimp only; omega⟩ ⟨rfl, rfl, ?_⟩; simp (disch := omega) [wrap64]) | refine TX.rs (fun _ => false) fun K hK => ?_ | refine TX.rs1 (fun _ => false) fun K hK => ?_ | refine TX.cond rfl (fun hcnd => ?_) (fun hcnd => absurd hcnd (by decide)) | refine TX.cond rfl (fun hcnd => absurd hcnd (by decide)) (fun hcnd => ?_) | refine TX.seq ?_ | refine TX.block ?_ | refine TX.skip ?_ | refine EX.thenN ?_ | refine EX.blockN ?_
     all_goals (
      refine TX.ret ?_
      repeat' first | refine EX.outR ?_ | refine EX.thenR ?_ | refine EX.blockR ?_ | refine EX.unrR ?_
      apply EX.drA (ks := [])
      case he => exact Or.inr rfl
      case hys => simp [resAs, getAs, Tryz.results72] <;> rfl
      case hv => first | (dsimp only [Av.one]; exact rfl) | dsimp only [Av.one]
      case hx => repeat' first | exact IsT2.var _ | exact IsV.tmv _ | exact IsTm.var _ | exact IsTy.row _ | exact IsTm.row _ | exact IsTys.nil | exact IsTms.nil | exact IsBds.nil | exact IsTys.map _ | exact IsTms.map _ | exact IsBds.map _ | exact IsV.int _ | exact IsV.str _ | exact IsV.bool _ | apply IsV.p2 | apply IsV.p3 | apply IsV.tm | apply IsV.ty | apply IsTm.node | apply IsTy.of | apply IsTys.cons | apply IsTms.cons | apply IsBds.cons | apply IsV.tys | apply IsV.tms | apply IsV.bds | apply IsT2.node | apply IsTys.app | apply IsTms.app | apply IsBds.app
      case hA => exact rfl
      case hks => simp
      case hV => exact rfl
      case h1 => omega
      case h2 => omega
      case hg => (try simp [nTm_mk, nTy_mk, nTyS, nTmS]) <;> omega)
 | zero => 
  obtain ⟨tk, tl⟩ := t
  obtain ⟨_, _, hkk, hkl, hks⟩ := shapeTy_kids hts
  simp only [MTy.kids_mk, MTy.kind_mk] at hkk hkl hks h2 h2L
  cases tl with
  | nil =>
   have hk4 : ¬ tk = 4 := fun h => by rw [h] at hkk; simp [tyKids] at hkk
   have hk5 : ¬ tk = 5 := fun h => by rw [h] at hkk; simp [tyKids] at hkk
   by_cases hdp : 1 < d
   ·have h1' := h1 hdp
    have h1L' := h1L hdp
    have h1b := h1' boolT shape_bool
    have h1i := h1' intT shape_int
    simp only [aTy, MTy.kind_mk, MTy.kids_mk, List.map_nil] at h1b h1i
    have hcp := l1Copy_ok (.mk tk []) (by omega)
    have hbl := fun p hp => l1Blur_ok b hb 4 (.mk tk []) p hts hp
    simp only [aTy, MTy.kind_mk, MTy.kids_mk, List.map_cons, List.map_nil, eTy_def] at hcp hbl
    have h1t := h1' (.mk tk []) hts
    have h1Lt := fun a ha => h1L' a (.mk tk []) ha hts
    simp only [aTy, MTy.kind_mk, MTy.kids_mk, List.map_cons, List.map_nil, eTy_def] at h1t h1Lt
    repeat' first | ((first | refine aops_end (hK _ ?_) | refine aopsD_end (hK _ ?_) | refine aopsF_end (hK _ ?_)); clear hK K) | ((first | refine aops_go ?_ | refine aopsD_go ?_ | refine aopsF_go ?_ | refine wpcall_pure rfl (hcp) ?_ | refine wpcall_pure rfl (hint) ?_ | refine wpcall_pure rfl (hbool) ?_ | refine wpcall_pure rfl (hany) ?_ | refine wpcall_pure rfl (hnum _) ?_ | refine wpcall_pure rfl (hnode _ _) ?_); simp [hdp, hk4, hk5]; (try simp (disch := omega) only [wrap64]); (try (refine gen fun q hq => ?_; cases q <;> (try simp [hdp, hk4, hk5] at hq) <;> (try (have hh : True := hq; clear hh hq))))) | (refine wpcall_dr 0 rfl rfl (pick_ok b hb _ (by omega) 9 (by omega)) (fun x1 p1 hx1 hp1 hp1' => ?_); simp [hdp, hk4, hk5]; (try simp (disch := omega) only [wrap64]); (try (refine gen fun q hq => ?_; cases q <;> (try simp [hdp, hk4, hk5] at hq) <;> (try (have hh : True := hq; clear hh hq))))) | (refine wpcall_dr 0 rfl rfl (pick_ok b hb _ (by omega) 3 (by omega)) (fun x1 p1 hx1 hp1 hp1' => ?_); simp [hdp, hk4, hk5]; (try simp (disch := omega) only [wrap64]); (try (refine gen fun q hq => ?_; cases q <;> (try simp [hdp, hk4, hk5] at hq) <;> (try (have hh : True := hq; clear hh hq))))) | (refine wpcall_dr 0 rfl rfl (pick_ok b hb _ (by omega) 2 (by omega)) (fun x1 p1 hx1 hp1 hp1' => ?_); simp [hdp, hk4, hk5]; (try simp (disch := omega) only [wrap64]); (try (refine gen fun q hq => ?_; cases q <;> (try simp [hdp, hk4, hk5] at hq) <;> (try (have hh : True := hq; clear hh hq))))) | (refine wpcall_dr 0 rfl rfl (l1DrawT_ok b hb 1 (by omega) _ (by omega)) (fun x1 p1 hx1 hp1 hp1' => ?_); simp [hdp, hk4, hk5]; (try simp (disch := omega) only [wrap64]); (try (refine gen fun q hq => ?_; cases q <;> (try simp [hdp, hk4, hk5] at hq) <;> (try (have hh : True := hq; clear hh hq))))) | (refine wpcall_dr 0 rfl rfl (l1DrawT_ok b hb 2 (by omega) _ (by omega)) (fun x1 p1 hx1 hp1 hp1' => ?_); simp [hdp, hk4, hk5]; (try simp (disch := omega) only [wrap64]); (try (refine gen fun q hq => ?_; cases q <;> (try simp [hdp, hk4, hk5] at hq) <;> (try (have hh : True := hq; clear hh hq))))) | (refine wpcall_dr 0 rfl rfl (hbl _ (by omega)) (fun x1 p1 hx1 hp1 hp1' => ?_); simp [hdp, hk4, hk5]; (try simp (disch := omega) only [wrap64]); (try (refine gen fun q hq => ?_; cases q <;> (try simp [hdp, hk4, hk5] at hq) <;> (try (have hh : True := hq; clear hh hq))))) | (refine wpcall_dr 0 rfl rfl (hblI _ (by omega)) (fun x1 p1 hx1 hp1 hp1' => ?_); simp [hdp, hk4, hk5]; (try simp (disch := omega) only [wrap64]); (try (refine gen fun q hq => ?_; cases q <;> (try simp [hdp, hk4, hk5] at hq) <;> (try (have hh : True := hq; clear hh hq))))) | (refine wpcall_dr 0 rfl rfl (l1Blur_ok b hb 4 _ _ (by assumption) (by omega)) (fun x1 p1 hx1 hp1 hp1' => ?_); simp [hdp, hk4, hk5]; (try simp (disch := omega) only [wrap64]); (try (refine gen fun q hq => ?_; cases q <;> (try simp [hdp, hk4, hk5] at hq) <;> (try (have hh : True := hq; clear hh hq))))) | (refine wpcall_dr 0 rfl rfl (num_ok b hb _ (by omega) [1, 2, 0, 999, 5] (by simp) (by simp)) (fun x1 p1 hx1 hp1 hp1' => ?_); simp [hdp, hk4, hk5]; (try simp (disch := omega) only [wrap64]); (try (refine gen fun q hq => ?_; cases q <;> (try simp [hdp, hk4, hk5] at hq) <;> (try (have hh : True := hq; clear hh hq))))) | (refine wpcall_dr 0 rfl rfl (h1b _ (by omega)) (fun x1 p1 hx1 hp1 hp1' => ?_); simp [hdp, hk4, hk5]; (try simp (disch := omega) only [wrap64]); (try (refine gen fun q hq => ?_; cases q <;> (try simp [hdp, hk4, hk5] at hq) <;> (try (have hh : True := hq; clear hh hq))))) | (refine wpcall_dr 0 rfl rfl (h1i _ (by omega)) (fun x1 p1 hx1 hp1 hp1' => ?_); simp [hdp, hk4, hk5]; (try simp (disch := omega) only [wrap64]); (try (refine gen fun q hq => ?_; cases q <;> (try simp [hdp, hk4, hk5] at hq) <;> (try (have hh : True := hq; clear hh hq))))) | (refine wpcall_dr 0 rfl rfl (h1t _ (by omega)) (fun x1 p1 hx1 hp1 hp1' => ?_); simp [hdp, hk4, hk5]; (try simp (disch := omega) only [wrap64]); (try (refine gen fun q hq => ?_; cases q <;> (try simp [hdp, hk4, hk5] at hq) <;> (try (have hh : True := hq; clear hh hq))))) | (refine wpcall_dr 0 rfl rfl (h1' _ (by assumption) _ (by omega)) (fun x1 p1 hx1 hp1 hp1' => ?_); simp [hdp, hk4, hk5]; (try simp (disch := omega) only [wrap64]); (try (refine gen fun q hq => ?_; cases q <;> (try simp [hdp, hk4, hk5] at hq) <;> (try (have hh : True := hq; clear hh hq))))) | (refine wpcall_dr 0 rfl rfl (h1Lt _ (by assumption) _ (by omega)) (fun x1 p1 hx1 hp1 hp1' => ?_); simp [hdp, hk4, hk5]; (try simp (disch := omega) only [wrap64]); (try (refine gen fun q hq => ?_; cases q <;> (try simp [hdp, hk4, hk5] at hq) <;> (try (have hh : True := hq; clear hh hq))))) | refine TX.rd (id := 10) mixed (fun _ => false) [6, 9, 12] (by kernel_rfl) fun K hK => ?_ | refine TX.rdF (id := 12) mixed (fun _ => false) [5, 11, 17, 20] [8, 14] 12 [0] (by kernel_rfl) fun K hK => ?_ | refine TX.rdF (id := 15) mixed (fun _ => false) [6, 11, 14, 17] [10] 7 [0] (by kernel_rfl) fun K hK => ?_ | refine TX.rs (fun _ => false) fun K hK => ?_ | refine TX.cond rfl (fun hcnd => ?_) (fun hcnd => absurd hcnd (by decide)) | refine TX.cond rfl (fun hcnd => absurd hcnd (by decide)) (fun hcnd => ?_) | refine TX.seq ?_ | refine TX.block ?_ | refine TX.skip ?_ | refine TX.exit ?_ | refine EX.thenN ?_ | refine EX.thenE ?_ | refine EX.blockN ?_ | refine EX.blockE ?_ | refine EX.outE ?_
    all_goals (
     refine TX.ret ?_
     repeat' first | refine EX.outR ?_ | refine EX.thenR ?_ | refine EX.blockR ?_ | refine EX.unrR ?_
     apply EX.drA (ks := [])
     case he => exact Or.inr rfl
     case hys => simp [resAs, getAs, Tryz.results72] <;> rfl
     case hv => first | (dsimp only [Av.one]; exact rfl) | dsimp only [Av.one]
     case hx => repeat' first | exact IsT2.var _ | exact IsV.tmv _ | exact IsTm.var _ | exact IsTy.row _ | exact IsTm.row _ | exact IsTys.nil | exact IsTms.nil | exact IsBds.nil | exact IsTys.map _ | exact IsTms.map _ | exact IsBds.map _ | exact IsV.int _ | exact IsV.str _ | exact IsV.bool _ | apply IsV.p2 | apply IsV.p3 | apply IsV.tm | apply IsV.ty | apply IsTm.node | apply IsTy.of | apply IsTys.cons | apply IsTms.cons | apply IsBds.cons | apply IsV.tys | apply IsV.tms | apply IsV.bds | apply IsT2.node | apply IsTys.app | apply IsTms.app | apply IsBds.app
     case hA => exact rfl
     case hks => simp
     case hV => exact rfl
     case h1 => omega
     case h2 => omega
     case hg => (try simp [nTm_mk, nTy_mk, nTyS, nTmS]) <;> omega)
   ·have hcp := l1Copy_ok (.mk tk []) (by omega)
    have hbl := fun p hp => l1Blur_ok b hb 4 (.mk tk []) p hts hp
    simp only [aTy, MTy.kind_mk, MTy.kids_mk, List.map_cons, List.map_nil, eTy_def] at hcp hbl
    repeat' first | (refine aops_end (hK _ ?_); clear hK K) | ((first | refine aops_go ?_ | refine wpcall_pure rfl (hany) ?_ | refine wpcall_pure rfl (hnum _) ?_); simp [hdp, hk4, hk5]; (try simp (disch := omega) only [wrap64]); (try (refine gen fun q hq => ?_; cases q <;> (try simp [hdp, hk4, hk5] at hq) <;> (try (have hh : True := hq; clear hh hq))))) | (refine wpcall_dr 0 rfl rfl (pick_ok b hb _ (by omega) 3 (by omega)) (fun x1 p1 hx1 hp1 hp1' => ?_); simp [hdp, hk4, hk5]; (try simp (disch := omega) only [wrap64]); (try (refine gen fun q hq => ?_; cases q <;> (try simp [hdp, hk4, hk5] at hq) <;> (try (have hh : True := hq; clear hh hq))))) | (refine wpcall_dr 0 rfl rfl (num_ok b hb _ (by omega) [1, 2, 0, 999, 5] (by simp) (by simp)) (fun x1 p1 hx1 hp1 hp1' => ?_); simp [hdp, hk4, hk5]; (try simp (disch := omega) only [wrap64]); (try (refine gen fun q hq => ?_; cases q <;> (try simp [hdp, hk4, hk5] at hq) <;> (try (have hh : True := hq; clear hh hq))))) | refine TX.rs (fun _ => false) fun K hK => ?_ | refine TX.cond rfl (fun hcnd => ?_) (fun hcnd => absurd hcnd (by decide)) | refine TX.cond rfl (fun hcnd => absurd hcnd (by decide)) (fun hcnd => ?_) | refine TX.seq ?_ | refine TX.block ?_ | refine TX.skip ?_ | refine TX.exit ?_ | refine EX.thenN ?_ | refine EX.thenE ?_ | refine EX.blockN ?_ | refine EX.blockE ?_ | refine EX.outE ?_
    all_goals (
     refine TX.ret ?_
     repeat' first | refine EX.outR ?_ | refine EX.thenR ?_ | refine EX.blockR ?_ | refine EX.unrR ?_
     apply EX.drA (ks := [])
     case he => exact Or.inr rfl
     case hys => simp [resAs, getAs, Tryz.results72] <;> rfl
     case hv => first | (dsimp only [Av.one]; exact rfl) | dsimp only [Av.one]
     case hx => repeat' first | exact IsT2.var _ | exact IsV.tmv _ | exact IsTm.var _ | exact IsTy.row _ | exact IsTm.row _ | exact IsTys.nil | exact IsTms.nil | exact IsBds.nil | exact IsTys.map _ | exact IsTms.map _ | exact IsBds.map _ | exact IsV.int _ | exact IsV.str _ | exact IsV.bool _ | apply IsV.p2 | apply IsV.p3 | apply IsV.tm | apply IsV.ty | apply IsTm.node | apply IsTy.of | apply IsTys.cons | apply IsTms.cons | apply IsBds.cons | apply IsV.tys | apply IsV.tms | apply IsV.bds | apply IsT2.node | apply IsTys.app | apply IsTms.app | apply IsBds.app
     case hA => exact rfl
     case hks => simp
     case hV => exact rfl
     case h1 => omega
     case h2 => omega
     case hg => (try simp [nTm_mk, nTy_mk, nTyS, nTmS]) <;> omega)
  | cons s tl =>
   cases tl with
   | nil =>
    exfalso
    simp only [tyKids] at hkk
    split at hkk
    ·simp at hkk
    ·split at hkk <;> simp at hkk
   | cons v tl =>
    cases tl with
    | cons _ _ => exact absurd hkl (by simp)
    | nil =>
     have hnt2 := hnt
     simp only [nTy_mk, nTyS] at hnt2
     have h2a := h2 s (by simp)
     have h2b := h2 v (by simp)
     have h2c := h2L s (by simp) v (by simp)
     by_cases hdp : 1 < d
     ·have h1' := h1 hdp
      have h1L' := h1L hdp
      have h1b := h1' boolT shape_bool
      have h1i := h1' intT shape_int
      simp only [aTy, MTy.kind_mk, MTy.kids_mk, List.map_nil] at h1b h1i
      have hcp := l1Copy_ok (.mk tk [s, v]) (by omega)
      have hbl := fun p hp => l1Blur_ok b hb 4 (.mk tk [s, v]) p hts hp
      simp only [aTy, MTy.kind_mk, MTy.kids_mk, List.map_cons, List.map_nil, eTy_def] at hcp hbl
      have h1t := h1' (.mk tk [s, v]) hts
      have h1Lt := fun a ha => h1L' a (.mk tk [s, v]) ha hts
      simp only [aTy, MTy.kind_mk, MTy.kids_mk, List.map_cons, List.map_nil, eTy_def] at h1t h1Lt
      repeat' first | ((first | refine aops_end (hK _ ?_) | refine aopsD_end (hK _ ?_) | refine aopsF_end (hK _ ?_)); clear hK K) | ((first | refine aops_go ?_ | refine aopsD_go ?_ | refine aopsF_go ?_ | refine wpcall_pure rfl (hcp) ?_ | refine wpcall_pure rfl (hint) ?_ | refine wpcall_pure rfl (hbool) ?_ | refine wpcall_pure rfl (hany) ?_ | refine wpcall_pure rfl (hnum _) ?_ | refine wpcall_pure rfl (hnode _ _) ?_); simp [hdp]; (try simp (disch := omega) only [wrap64]); (try (refine gen fun q hq => ?_; cases q <;> (try simp [hdp] at hq) <;> (try (have hh : True := hq; clear hh hq))))) | (refine wpcall_dr 0 rfl rfl (pick_ok b hb _ (by omega) 9 (by omega)) (fun x1 p1 hx1 hp1 hp1' => ?_); simp [hdp]; (try simp (disch := omega) only [wrap64]); (try (refine gen fun q hq => ?_; cases q <;> (try simp [hdp] at hq) <;> (try (have hh : True := hq; clear hh hq))))) | (refine wpcall_dr 0 rfl rfl (pick_ok b hb _ (by omega) 3 (by omega)) (fun x1 p1 hx1 hp1 hp1' => ?_); simp [hdp]; (try simp (disch := omega) only [wrap64]); (try (refine gen fun q hq => ?_; cases q <;> (try simp [hdp] at hq) <;> (try (have hh : True := hq; clear hh hq))))) | (refine wpcall_dr 0 rfl rfl (pick_ok b hb _ (by omega) 2 (by omega)) (fun x1 p1 hx1 hp1 hp1' => ?_); simp [hdp]; (try simp (disch := omega) only [wrap64]); (try (refine gen fun q hq => ?_; cases q <;> (try simp [hdp] at hq) <;> (try (have hh : True := hq; clear hh hq))))) | (refine wpcall_dr 0 rfl rfl (l1DrawT_ok b hb 1 (by omega) _ (by omega)) (fun x1 p1 hx1 hp1 hp1' => ?_); simp [hdp]; (try simp (disch := omega) only [wrap64]); (try (refine gen fun q hq => ?_; cases q <;> (try simp [hdp] at hq) <;> (try (have hh : True := hq; clear hh hq))))) | (refine wpcall_dr 0 rfl rfl (l1DrawT_ok b hb 2 (by omega) _ (by omega)) (fun x1 p1 hx1 hp1 hp1' => ?_); simp [hdp]; (try simp (disch := omega) only [wrap64]); (try (refine gen fun q hq => ?_; cases q <;> (try simp [hdp] at hq) <;> (try (have hh : True := hq; clear hh hq))))) | (refine wpcall_dr 0 rfl rfl (hbl _ (by omega)) (fun x1 p1 hx1 hp1 hp1' => ?_); simp [hdp]; (try simp (disch := omega) only [wrap64]); (try (refine gen fun q hq => ?_; cases q <;> (try simp [hdp] at hq) <;> (try (have hh : True := hq; clear hh hq))))) | (refine wpcall_dr 0 rfl rfl (hblI _ (by omega)) (fun x1 p1 hx1 hp1 hp1' => ?_); simp [hdp]; (try simp (disch := omega) only [wrap64]); (try (refine gen fun q hq => ?_; cases q <;> (try simp [hdp] at hq) <;> (try (have hh : True := hq; clear hh hq))))) | (refine wpcall_dr 0 rfl rfl (l1Blur_ok b hb 4 _ _ (by assumption) (by omega)) (fun x1 p1 hx1 hp1 hp1' => ?_); simp [hdp]; (try simp (disch := omega) only [wrap64]); (try (refine gen fun q hq => ?_; cases q <;> (try simp [hdp] at hq) <;> (try (have hh : True := hq; clear hh hq))))) | (refine wpcall_dr 0 rfl rfl (num_ok b hb _ (by omega) [1, 2, 0, 999, 5] (by simp) (by simp)) (fun x1 p1 hx1 hp1 hp1' => ?_); simp [hdp]; (try simp (disch := omega) only [wrap64]); (try (refine gen fun q hq => ?_; cases q <;> (try simp [hdp] at hq) <;> (try (have hh : True := hq; clear hh hq))))) | (refine wpcall_dr 0 rfl rfl (h2a _ (by omega)) (fun x1 p1 hx1 hp1 hp1' => ?_); simp [hdp]; (try simp (disch := omega) only [wrap64]); (try (refine gen fun q hq => ?_; cases q <;> (try simp [hdp] at hq) <;> (try (have hh : True := hq; clear hh hq))))) | (refine wpcall_dr 0 rfl rfl (h2b _ (by omega)) (fun x1 p1 hx1 hp1 hp1' => ?_); simp [hdp]; (try simp (disch := omega) only [wrap64]); (try (refine gen fun q hq => ?_; cases q <;> (try simp [hdp] at hq) <;> (try (have hh : True := hq; clear hh hq))))) | (refine wpcall_dr 0 rfl rfl (h2c _ (by omega)) (fun x1 p1 hx1 hp1 hp1' => ?_); simp [hdp]; (try simp (disch := omega) only [wrap64]); (try (refine gen fun q hq => ?_; cases q <;> (try simp [hdp] at hq) <;> (try (have hh : True := hq; clear hh hq))))) | (refine wpcall_dr 0 rfl rfl (h1b _ (by omega)) (fun x1 p1 hx1 hp1 hp1' => ?_); simp [hdp]; (try simp (disch := omega) only [wrap64]); (try (refine gen fun q hq => ?_; cases q <;> (try simp [hdp] at hq) <;> (try (have hh : True := hq; clear hh hq))))) | (refine wpcall_dr 0 rfl rfl (h1i _ (by omega)) (fun x1 p1 hx1 hp1 hp1' => ?_); simp [hdp]; (try simp (disch := omega) only [wrap64]); (try (refine gen fun q hq => ?_; cases q <;> (try simp [hdp] at hq) <;> (try (have hh : True := hq; clear hh hq))))) | (refine wpcall_dr 0 rfl rfl (h1t _ (by omega)) (fun x1 p1 hx1 hp1 hp1' => ?_); simp [hdp]; (try simp (disch := omega) only [wrap64]); (try (refine gen fun q hq => ?_; cases q <;> (try simp [hdp] at hq) <;> (try (have hh : True := hq; clear hh hq))))) | (refine wpcall_dr 0 rfl rfl (h1' _ (by assumption) _ (by omega)) (fun x1 p1 hx1 hp1 hp1' => ?_); simp [hdp]; (try simp (disch := omega) only [wrap64]); (try (refine gen fun q hq => ?_; cases q <;> (try simp [hdp] at hq) <;> (try (have hh : True := hq; clear hh hq))))) | (refine wpcall_dr 0 rfl rfl (h1Lt _ (by assumption) _ (by omega)) (fun x1 p1 hx1 hp1 hp1' => ?_); simp [hdp]; (try simp (disch := omega) only [wrap64]); (try (refine gen fun q hq => ?_; cases q <;> (try simp [hdp] at hq) <;> (try (have hh : True := hq; clear hh hq))))) | refine TX.rd (id := 10) mixed (fun _ => false) [6, 9, 12] (by kernel_rfl) fun K hK => ?_ | refine TX.rdF (id := 12) mixed (fun _ => false) [5, 11, 17, 20] [8, 14] 12 [0] (by kernel_rfl) fun K hK => ?_ | refine TX.rdF (id := 15) mixed (fun _ => false) [6, 11, 14, 17] [10] 7 [0] (by kernel_rfl) fun K hK => ?_ | refine TX.rd (id := 24) mixed (fun _ => false) [12, 13] (by kernel_rfl) fun K hK => ?_ | refine TX.rdF (id := 26) mixed (fun _ => false) [8, 17, 20] [12, 13, 14] 9 [0] (by kernel_rfl) fun K hK => ?_ | refine TX.rs (fun _ => false) fun K hK => ?_ | refine TX.cond rfl (fun hcnd => ?_) (fun hcnd => absurd hcnd (by decide)) | refine TX.cond rfl (fun hcnd => absurd hcnd (by decide)) (fun hcnd => ?_) | refine TX.seq ?_ | refine TX.block ?_ | refine TX.skip ?_ | refine TX.exit ?_ | refine EX.thenN ?_ | refine EX.thenE ?_ | refine EX.blockN ?_ | refine EX.blockE ?_ | refine EX.outE ?_
      all_goals (
       refine TX.ret ?_
       repeat' first | refine EX.outR ?_ | refine EX.thenR ?_ | refine EX.blockR ?_ | refine EX.unrR ?_
       apply EX.drA (ks := [])
       case he => exact Or.inr rfl
       case hys => simp [resAs, getAs, Tryz.results72] <;> rfl
       case hv => first | (dsimp only [Av.one]; exact rfl) | dsimp only [Av.one]
       case hx => repeat' first | exact IsT2.var _ | exact IsV.tmv _ | exact IsTm.var _ | exact IsTy.row _ | exact IsTm.row _ | exact IsTys.nil | exact IsTms.nil | exact IsBds.nil | exact IsTys.map _ | exact IsTms.map _ | exact IsBds.map _ | exact IsV.int _ | exact IsV.str _ | exact IsV.bool _ | apply IsV.p2 | apply IsV.p3 | apply IsV.tm | apply IsV.ty | apply IsTm.node | apply IsTy.of | apply IsTys.cons | apply IsTms.cons | apply IsBds.cons | apply IsV.tys | apply IsV.tms | apply IsV.bds | apply IsT2.node | apply IsTys.app | apply IsTms.app | apply IsBds.app
       case hA => exact rfl
       case hks => simp
       case hV => exact rfl
       case h1 => omega
       case h2 => omega
       case hg => (try simp [nTm_mk, nTy_mk, nTyS, nTmS]) <;> omega)
     ·have hcp := l1Copy_ok (.mk tk [s, v]) (by omega)
      have hbl := fun p hp => l1Blur_ok b hb 4 (.mk tk [s, v]) p hts hp
      simp only [aTy, MTy.kind_mk, MTy.kids_mk, List.map_cons, List.map_nil, eTy_def] at hcp hbl
      repeat' first | ((first | refine aops_end (hK _ ?_) | refine aopsD_end (hK _ ?_) | refine aopsF_end (hK _ ?_)); clear hK K) | ((first | refine aops_go ?_ | refine aopsD_go ?_ | refine aopsF_go ?_ | refine wpcall_pure rfl (hany) ?_ | refine wpcall_pure rfl (hnum _) ?_ | refine wpcall_pure rfl (hnode _ _) ?_); simp [hdp]; (try simp (disch := omega) only [wrap64]); (try (refine gen fun q hq => ?_; cases q <;> (try simp [hdp] at hq) <;> (try (have hh : True := hq; clear hh hq))))) | (refine wpcall_dr 0 rfl rfl (pick_ok b hb _ (by omega) 3 (by omega)) (fun x1 p1 hx1 hp1 hp1' => ?_); simp [hdp]; (try simp (disch := omega) only [wrap64]); (try (refine gen fun q hq => ?_; cases q <;> (try simp [hdp] at hq) <;> (try (have hh : True := hq; clear hh hq))))) | (refine wpcall_dr 0 rfl rfl (num_ok b hb _ (by omega) [1, 2, 0, 999, 5] (by simp) (by simp)) (fun x1 p1 hx1 hp1 hp1' => ?_); simp [hdp]; (try simp (disch := omega) only [wrap64]); (try (refine gen fun q hq => ?_; cases q <;> (try simp [hdp] at hq) <;> (try (have hh : True := hq; clear hh hq))))) | (refine wpcall_dr 0 rfl rfl (h2a _ (by omega)) (fun x1 p1 hx1 hp1 hp1' => ?_); simp [hdp]; (try simp (disch := omega) only [wrap64]); (try (refine gen fun q hq => ?_; cases q <;> (try simp [hdp] at hq) <;> (try (have hh : True := hq; clear hh hq))))) | (refine wpcall_dr 0 rfl rfl (h2b _ (by omega)) (fun x1 p1 hx1 hp1 hp1' => ?_); simp [hdp]; (try simp (disch := omega) only [wrap64]); (try (refine gen fun q hq => ?_; cases q <;> (try simp [hdp] at hq) <;> (try (have hh : True := hq; clear hh hq))))) | (refine wpcall_dr 0 rfl rfl (h2c _ (by omega)) (fun x1 p1 hx1 hp1 hp1' => ?_); simp [hdp]; (try simp (disch := omega) only [wrap64]); (try (refine gen fun q hq => ?_; cases q <;> (try simp [hdp] at hq) <;> (try (have hh : True := hq; clear hh hq))))) | refine TX.rd (id := 24) mixed (fun _ => false) [12, 13] (by kernel_rfl) fun K hK => ?_ | refine TX.rdF (id := 26) mixed (fun _ => false) [8, 17, 20] [12, 13, 14] 9 [0] (by kernel_rfl) fun K hK => ?_ | refine TX.rs (fun _ => false) fun K hK => ?_ | refine TX.cond rfl (fun hcnd => ?_) (fun hcnd => absurd hcnd (by decide)) | refine TX.cond rfl (fun hcnd => absurd hcnd (by decide)) (fun hcnd => ?_) | refine TX.seq ?_ | refine TX.block ?_ | refine TX.skip ?_ | refine TX.exit ?_ | refine EX.thenN ?_ | refine EX.thenE ?_ | refine EX.blockN ?_ | refine EX.blockE ?_ | refine EX.outE ?_
      all_goals (
       refine TX.ret ?_
       repeat' first | refine EX.outR ?_ | refine EX.thenR ?_ | refine EX.blockR ?_ | refine EX.unrR ?_
       apply EX.drA (ks := [])
       case he => exact Or.inr rfl
       case hys => simp [resAs, getAs, Tryz.results72] <;> rfl
       case hv => first | (dsimp only [Av.one]; exact rfl) | dsimp only [Av.one]
       case hx => repeat' first | exact IsT2.var _ | exact IsV.tmv _ | exact IsTm.var _ | exact IsTy.row _ | exact IsTm.row _ | exact IsTys.nil | exact IsTms.nil | exact IsBds.nil | exact IsTys.map _ | exact IsTms.map _ | exact IsBds.map _ | exact IsV.int _ | exact IsV.str _ | exact IsV.bool _ | apply IsV.p2 | apply IsV.p3 | apply IsV.tm | apply IsV.ty | apply IsTm.node | apply IsTy.of | apply IsTys.cons | apply IsTms.cons | apply IsBds.cons | apply IsV.tys | apply IsV.tms | apply IsV.bds | apply IsT2.node | apply IsTys.app | apply IsTms.app | apply IsBds.app
       case hA => exact rfl
       case hks => simp
       case hV => exact rfl
       case h1 => omega
       case h2 => omega
       case hg => (try simp [nTm_mk, nTy_mk, nTyS, nTmS]) <;> omega)
end Go.Proofs.YtflmjilnecanhaaGreatDoor

namespace Go.Proofs.YtflmjilnecanhaaGreatDoor
attribute [-simp] Go.Av.innVs Go.Av.putBack Go.Av.objCells Go.Av.back Go.Av.resVs Go.Av.one Go.Av.freeStepG Go.Av.exA Go.Av.innAsH Go.Av.AV.innH Go.Av.CV.innH Go.Av.innHs Go.Av.AV.outnH Go.Av.CV.outnH
open Go Go.Av
attribute [local irreducible] T ACalls TX EX LX Draws Some_ ACallsX eTy eTm MTy.kind MTy.kids MTm.kind MTm.name MTm.num MTm.ty MTm.fr MTm.label MTm.kids
attribute [local simp] eTy_def eTm_def
set_option maxHeartbeats 16000000
set_option maxRecDepth 8000

def mkN : Nat -> Nat | 0 => 0 | m + 1 => 3 * (mkN m + 1) + 3000
def mkB : Nat -> Nat | 0 => 0 | m + 1 => 3 * (mkB m + 102) + 100

theorem shapeTy_le {m n : Nat} {t : MTy} (h : m <= n) (ht : shapeTy m t = true) : shapeTy n t = true := by
 induction n with
 | zero => have : m = 0 := by omega
           subst this; exact ht
 | succ n ih =>
  by_cases e : m = n + 1
  ·subst e; exact ht
  ·exact shapeTy_mono (ih (by omega))

theorem l3Make_ok (b : List Int) (hb : okB b) : ∀ (k : Nat) (ctx : List MBd) (t : MTy) (d : Int) (p : Nat), ctx.length + k <= 900 -> (∀ u ∈ ctx, u.name.length <= 10 /\ nTy u.ty <= 1000) -> -900 + (k : Int) <= d -> d <= 900 ->
  ((d <= 1 /\ k <= 4 /\ shapeTy k t = true) \/ (shapeTy 4 t = true /\ d <= (k : Int) - 3 /\ 4 <= k)) -> p + mkN k <= 1099511627776 -> Draws Tryz.prog 72 [aBds ctx, aTy t, .i d] b p (mkN k) (RV aTm noA fun e => nTm e <= mkB k) := by
 intro k
 induction k with
 | zero =>
  intro ctx t d p _ _ _ _ h _
  rcases h with ⟨_, _, h⟩ | ⟨_, _, h⟩
  ·simp [shapeTy] at h
  ·omega
 | succ k ih =>
  intro ctx t d p hl hct hd hd' h hp
  have hts : shapeTy 4 t = true := by
   rcases h with ⟨_, h1, h2⟩ | ⟨h, _, _⟩
   ·exact shapeTy_le (by omega) h2
   ·exact h
  have hN : mkN (k + 1) = 3 * (mkN k + 1) + 3000 := rfl
  have hB : mkB (k + 1) = 3 * (mkB k + 102) + 100 := rfl
  rw [hN] at hp ⊢
  rw [hB]
  have hlam : ∀ (s u : MTy), shapeTy 4 s = true -> ((d - 1 <= 1 /\ k <= 4 /\ shapeTy k u = true) \/ (shapeTy 4 u = true /\ d - 1 <= (k : Int) - 3 /\ 4 <= k)) -> ∀ p, p + (mkN k + 1) <= 1099511627776 -> Draws Tryz.prog 149 [aBds ctx, aTy s, aTy u, .i (d - 1)] b p (mkN k + 1) (RV aTm noA fun e => nTm e <= mkB k + 102) := by
   intro s u hs hu p hp
   have hs4 := shape4 hs
   refine l3Lam_of b hb ctx s u (by omega) (by omega) (d - 1) (by omega) (by omega) (mkN k) (mkB k) p (by omega) fun c q hq => ?_
   have := ih (ctx ++ [⟨[c], s⟩]) u (d - 1) q (by simp; omega) (by
    intro v hv
    rcases List.mem_append.1 hv with hv | hv
    ·exact hct v hv
    ·simp at hv; subst hv; exact ⟨by simp, by show nTy s <= 1000; omega⟩) (by omega) (by omega) hu hq
   rw [aBds, List.map_append] at this
   exact this
  have hkid : ∀ u ∈ t.kids, (d - 1 <= 1 /\ k <= 4 /\ shapeTy k u = true) \/ (shapeTy 4 u = true /\ d - 1 <= (k : Int) - 3 /\ 4 <= k) := by
   intro u hu
   rcases h with ⟨h1, h2, h3⟩ | ⟨h1, h2, h3⟩
   ·obtain ⟨e, he, _, _, hs⟩ := shapeTy_kids h3
    obtain rfl : k = e := by omega
    exact .inl ⟨by omega, by omega, hs u hu⟩
   ·obtain ⟨e, he, _, _, hs⟩ := shapeTy_kids h1
    obtain rfl : e = 3 := by omega
    by_cases hk : k = 3
    ·subst hk; exact .inl ⟨by omega, by omega, hs u hu⟩
    ·exact .inr ⟨shapeTy_le (by omega) (hs u hu), by omega, by omega⟩
  have hk4 : ∀ u ∈ t.kids, shapeTy 4 u = true := by
   intro u hu
   obtain ⟨e, he, _, _, hs⟩ := shapeTy_kids hts
   exact shapeTy_le (by omega) (hs u hu)
  refine (l3Make_core b hb ctx (by omega) hct t hts d (by omega) (by omega) (mkN k + 1) (mkB k + 102) p (by omega) ?_ ?_ ?_ ?_).mono (by omega) (fun _ h => h)
  ·intro h1d t' ht' q hq
   have hk3 : 4 <= k := by
    rcases h with ⟨h1, _, _⟩ | ⟨_, h2, h3⟩
    ·omega
    ·omega
   refine (ih ctx t' (d - 1) q (by omega) hct (by omega) (by omega) (.inr ⟨ht', ?_, hk3⟩) (by omega)).mono (by omega) (fun e h => by omega)
   rcases h with ⟨h1, _, _⟩ | ⟨_, h2, _⟩ <;> omega
  ·intro h1d s t' hs ht' q hq
   have hk3 : 4 <= k := by
    rcases h with ⟨h1, _, _⟩ | ⟨_, h2, h3⟩
    ·omega
    ·omega
   refine hlam s t' hs (.inr ⟨ht', ?_, hk3⟩) q hq
   rcases h with ⟨h1, _, _⟩ | ⟨_, h2, _⟩ <;> omega
  ·intro u hu q hq
   exact (ih ctx u (d - 1) q (by omega) hct (by omega) (by omega) (hkid u hu) (by omega)).mono (by omega) (fun e h => by omega)
  ·intro u hu v hv q hq
   exact hlam u v (hk4 u hu) (hkid v hv) q hq

theorem l3Make5_ok (b : List Int) (hb : okB b) (ctx : List MBd) (hl : ctx.length <= 100) (hct : ∀ u ∈ ctx, u.name.length <= 10 /\ nTy u.ty <= 1000) (t : MTy) (ht : shapeTy 4 t = true) (d : Int) (hd : 1 <= d) (hd' : d <= 5) (p : Nat) (hp : p + 9849840 <= 1099511627776) :
  Draws Tryz.prog 72 [aBds ctx, aTy t, .i d] b p 9849840 (RV aTm noA fun e => nTm e <= 2000000) :=
 (l3Make_ok b hb 8 ctx t d p (by omega) hct (by omega) (by omega) (.inr ⟨ht, by omega, by omega⟩) hp).mono (by decide) (fun e h => Nat.le_trans h (by decide))

theorem l3Typed_ok (b : List Int) (hb : okB b) (p : Nat) (hp : p + 60000000 <= 1099511627776) : Draws Tryz.prog 105 [] b p 60000000 (RV aTm noA fun e => nTm e <= 2000000) := by
 obtain ⟨N, hN⟩ : ∃ N : Nat, N = 9900000 := ⟨_, rfl⟩
 have hN4 : N * 4 = 39600000 := by rw [hN]
 refine Draws.of_body Tryz.func105 (by kernel_rfl) rfl (by kernel_rfl) (by simp [Tryz.ntmps105]) ?_
 rw [Tryz.ntmps105]
 repeat' first | (refine aops_end (hK _ ?_); clear hK K) | (refine aops_go ?_; simp; (try simp (disch := omega) only [wrap64]); (try (refine gen fun q hq => ?_; cases q <;> (try simp at hq) <;> (try (have hh : True := hq; clear hh hq))))) | refine TX.rs (fun _ => false) fun K hK => ?_ | refine TX.seq ?_ | refine TX.block ?_
 refine TX.loopF (fun x : Nat × Nat × List (List CV) => ⟨[(0, .c (.ptr 0 0)), (2, .c (.ptr 1 0)), (3, .i x.1)], (rd b x.2.1).map CV.d :: [.d (.i 0), .d (.str []), .d (.i 0), .d (.i 0), .nil, .d (.i 0), .nil, .d (.i 0), .nil] :: x.2.2, []⟩) (fun x => 4 - x.1) (fun x => x.1 <= 4 /\ p <= x.2.1 /\ x.2.1 <= p + N * x.1) (fun x hx => ?_) (0, p, []) (by simp) (by simp)
 obtain ⟨j, q1, G⟩ := x
 obtain ⟨hj, hq1, hq2⟩ := hx
 dsimp only at hj hq1 hq2 ⊢
 have hNj : N * j <= 39600000 := by have := Nat.mul_le_mul_left N hj; omega
 have hNs : N * (j + 1) = N * j + N := Nat.mul_succ N j
 generalize N * j = M at hNj hNs hq2
 generalize hM2 : N * (j + 1) = M2 at hNs
 clear hN4
 by_cases hlt : j < 4
 ·have h1 : (j : Int) < 4 := by omega
  repeat' first | (refine aops_end (hK _ ?_); clear hK K) | (refine aops_go ?_; simp [h1]; (try simp (disch := omega) only [wrap64]); (try (refine gen fun q hq => ?_; cases q <;> (try simp [h1] at hq) <;> (try (have hh : True := hq; clear hh hq))))) | (refine wpcall_dr 0 rfl rfl (num_ok b hb _ (by omega) [1, 2, 2, 3] (by simp) (by simp)) (fun y p1 hy hp1 hp1' => ?_); simp at hy; simp) | (refine wpcall_dr 0 rfl rfl (l1DrawT_ok b hb _ (by omega) _ (by omega)) (fun t p1 ht hp1 hp1' => ?_); simp) | (refine wpcall_dr 0 rfl rfl (num_ok b hb _ (by omega) [4, 3, 5, 4] (by simp) (by simp)) (fun z p1 hz hp1 hp1' => ?_); simp at hz; simp) | (refine wpcall_dr 0 rfl rfl (l3Make5_ok b hb [] (by simp) (by simp) _ (by assumption) _ (by omega) (by omega) _ (by omega)) (fun e p1 he hp1 hp1' => ?_); simp) | (refine wpcall_pure rfl (TypeOfS_ok _ (by omega)) ?_; cases typeInM [] e <;> simp) | (refine EX.next (j + 1, p1, G ++ [(aTm e).cells, [.d (.i 0), .d (.sl [])]]) (by dsimp only; omega) ?_ ⟨by simp, rfl, ?_⟩; (exact ⟨by show j + 1 <= 4; omega, by show p <= p1; omega, by show p1 <= p + N * (j + 1); rw [hM2]; omega⟩); simp (disch := omega) [wrap64]) | refine TX.rs (fun _ => false) fun K hK => ?_ | refine TX.rs1 (fun _ => false) fun K hK => ?_ | refine TX.cond rfl (fun hcnd => ?_) (fun hcnd => absurd hcnd (by decide)) | refine TX.cond rfl (fun hcnd => absurd hcnd (by decide)) (fun hcnd => ?_) | refine TX.seq ?_ | refine TX.block ?_ | refine TX.skip ?_ | refine EX.thenN ?_ | refine EX.blockN ?_
  all_goals (
   refine TX.ret ?_
   repeat' first | refine EX.outR ?_ | refine EX.thenR ?_ | refine EX.blockR ?_ | refine EX.unrR ?_
   apply EX.drA (ks := [])
   case he => exact Or.inr rfl
   case hys => simp [resAs, getAs, Tryz.results105] <;> rfl
   case hv => first | (dsimp only [Av.one]; exact rfl) | dsimp only [Av.one]
   case hx => repeat' first | exact IsT2.var _ | exact IsV.tmv _ | exact IsTm.var _ | exact IsTy.row _ | exact IsTm.row _ | exact IsTys.nil | exact IsTms.nil | exact IsBds.nil | exact IsTys.map _ | exact IsTms.map _ | exact IsBds.map _ | exact IsV.int _ | exact IsV.str _ | exact IsV.bool _ | apply IsV.p2 | apply IsV.p3 | apply IsV.tm | apply IsV.ty | apply IsTm.node | apply IsTy.of | apply IsTys.cons | apply IsTms.cons | apply IsBds.cons | apply IsV.tys | apply IsV.tms | apply IsV.bds | apply IsT2.node | apply IsTys.app | apply IsTms.app | apply IsBds.app
   case hA => exact rfl
   case hks => simp
   case hV => exact rfl
   case h1 => omega
   case h2 => omega
   case hg => omega)
 ·have h1 : ¬ (j : Int) < 4 := by omega
  repeat' first | (refine aops_end (hK _ ?_); clear hK K) | (refine aops_go ?_; simp [h1]; (try simp (disch := omega) only [wrap64]); (try (refine gen fun q hq => ?_; cases q <;> (try simp [h1] at hq) <;> (try (have hh : True := hq; clear hh hq))))) | (refine wpcall_dr 0 rfl rfl (l2Closed_ok b hb _ (by omega)) (fun x1 p1 hx1 hp1 hp1' => ?_); simp [h1]; (try simp (disch := omega) only [wrap64]); (try (refine gen fun q hq => ?_; cases q <;> (try simp [h1] at hq) <;> (try (have hh : True := hq; clear hh hq))))) | refine TX.rs (fun _ => false) fun K hK => ?_ | refine TX.cond rfl (fun hcnd => absurd hcnd (by decide)) (fun hcnd => ?_) | refine TX.seq ?_ | refine TX.exit ?_ | refine EX.thenN ?_ | refine EX.thenE ?_ | refine EX.blockE ?_ | refine EX.outE ?_
  all_goals (
   refine TX.ret ?_
   repeat' first | refine EX.outR ?_ | refine EX.thenR ?_ | refine EX.blockR ?_ | refine EX.unrR ?_
   apply EX.drA (ks := [])
   case he => exact Or.inr rfl
   case hys => simp [resAs, getAs, Tryz.results105] <;> rfl
   case hv => first | (dsimp only [Av.one]; exact rfl) | dsimp only [Av.one]
   case hx => repeat' first | exact IsT2.var _ | exact IsV.tmv _ | exact IsTm.var _ | exact IsTy.row _ | exact IsTm.row _ | exact IsTys.nil | exact IsTms.nil | exact IsBds.nil | exact IsTys.map _ | exact IsTms.map _ | exact IsBds.map _ | exact IsV.int _ | exact IsV.str _ | exact IsV.bool _ | apply IsV.p2 | apply IsV.p3 | apply IsV.tm | apply IsV.ty | apply IsTm.node | apply IsTy.of | apply IsTys.cons | apply IsTms.cons | apply IsBds.cons | apply IsV.tys | apply IsV.tms | apply IsV.bds | apply IsT2.node | apply IsTys.app | apply IsTms.app | apply IsBds.app
   case hA => exact rfl
   case hks => simp
   case hV => exact rfl
   case h1 => omega
   case h2 => omega
   case hg => omega)
end Go.Proofs.YtflmjilnecanhaaGreatDoor

namespace Go.Proofs.YtflmjilnecanhaaGreatDoor
attribute [-simp] Go.Av.innVs Go.Av.putBack Go.Av.objCells Go.Av.back Go.Av.resVs Go.Av.one Go.Av.freeStepG Go.Av.exA Go.Av.innAsH Go.Av.AV.innH Go.Av.CV.innH Go.Av.innHs Go.Av.AV.outnH Go.Av.CV.outnH
open Go Go.Av
attribute [local irreducible] T ACalls TX EX LX Draws Some_ ACallsX eTy eTm MTy.kind MTy.kids MTm.kind MTm.name MTm.num MTm.ty MTm.fr MTm.label MTm.kids
attribute [local simp] eTy_def eTm_def
set_option maxHeartbeats 16000000
set_option maxRecDepth 8000

theorem DrawTypeOf_ok (b : List Int) (hb : ∀ n ∈ b, 0 <= n /\ n <= 255) : Some_ Tryz.prog 99 [.l (rB b)] (RV aTm noA fun e => nTm e <= 3000000) := by
 obtain ⟨b, p, hb, hp, hc⟩ := l18Open_ok b hb
 refine Some_.of_body Tryz.func99 (by kernel_rfl) rfl (by kernel_rfl) (by simp [Tryz.ntmps99]) ?_
 rw [Tryz.ntmps99]
 repeat' first | (refine aops_end (hK _ ?_); clear hK K) | (refine aops_go ?_; simp; (try simp (disch := omega) only [wrap64]); (try (refine gen fun q hq => ?_; cases q <;> (try simp at hq) <;> (try (have hh : True := hq; clear hh hq))))) | (refine wpcall_dr 1 rfl rfl (pick_ok b hb _ (by omega) 4 (by omega)) (fun x1 p1 hx1 hp1 hp1' => ?_); simp; (try simp (disch := omega) only [wrap64]); (try (refine gen fun q hq => ?_; cases q <;> (try simp at hq) <;> (try (have hh : True := hq; clear hh hq))))) | (refine wpcall_dr 1 rfl rfl (l2Closed_ok b hb _ (by omega)) (fun x1 p1 hx1 hp1 hp1' => ?_); simp; (try simp (disch := omega) only [wrap64]); (try (refine gen fun q hq => ?_; cases q <;> (try simp at hq) <;> (try (have hh : True := hq; clear hh hq))))) | (refine wpcall_dr 1 rfl rfl (l3Typed_ok b hb _ (by omega)) (fun x1 p1 hx1 hp1 hp1' => ?_); simp; (try simp (disch := omega) only [wrap64]); (try (refine gen fun q hq => ?_; cases q <;> (try simp at hq) <;> (try (have hh : True := hq; clear hh hq))))) | (refine wpcall_dr 1 rfl rfl (l2Mutate_ok b hb _ (by omega) _ (by omega)) (fun x1 p1 hx1 hp1 hp1' => ?_); simp; (try simp (disch := omega) only [wrap64]); (try (refine gen fun q hq => ?_; cases q <;> (try simp at hq) <;> (try (have hh : True := hq; clear hh hq))))) | (refine wpcall_new1 rfl hc ?_; simp [back]) | refine TX.rs (fun _ => false) fun K hK => ?_ | refine TX.cond rfl (fun hcnd => ?_) (fun hcnd => absurd hcnd (by decide)) | refine TX.cond rfl (fun hcnd => absurd hcnd (by decide)) (fun hcnd => ?_) | refine TX.seq ?_ | refine TX.skip ?_ | refine EX.thenN ?_
 all_goals (
  refine TX.ret ?_
  repeat' first | refine EX.outR ?_ | refine EX.thenR ?_ | refine EX.blockR ?_ | refine EX.unrR ?_
  apply EX.someA (ks := [])
  case he => exact Or.inr rfl
  case hys => simp [resAs, getAs, Tryz.results99] <;> rfl
  case hv => first | (dsimp only [Av.one]; exact rfl) | dsimp only [Av.one]
  case hx => repeat' first | exact IsT2.var _ | exact IsV.tmv _ | exact IsTm.var _ | exact IsTy.row _ | exact IsTm.row _ | exact IsTys.nil | exact IsTms.nil | exact IsBds.nil | exact IsTys.map _ | exact IsTms.map _ | exact IsBds.map _ | exact IsV.int _ | exact IsV.str _ | exact IsV.bool _ | apply IsV.p2 | apply IsV.p3 | apply IsV.tm | apply IsV.ty | apply IsTm.node | apply IsTy.of | apply IsTys.cons | apply IsTms.cons | apply IsBds.cons | apply IsV.tys | apply IsV.tms | apply IsV.bds | apply IsT2.node | apply IsTys.app | apply IsTms.app | apply IsBds.app
  case hA => exact rfl
  case hks => simp
  case hg => omega)

end Go.Proofs.YtflmjilnecanhaaGreatDoor
