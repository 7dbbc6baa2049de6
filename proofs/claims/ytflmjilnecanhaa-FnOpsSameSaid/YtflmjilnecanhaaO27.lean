/- A part of the library of this seat. -/
import Derived.Test.YtflmjilnecanhaaO26
set_option linter.unusedVariables false
set_option linter.unusedSimpArgs false
namespace Go.Proofs.Ytflmjilnecanhaa
open Go Go.Av
attribute [local irreducible] T ACalls TX EX LX Draws Some_ ACallsX eTy eTm MTy.kind MTy.kids MTm.kind MTm.name MTm.num MTm.ty MTm.fr MTm.label MTm.kids
attribute [local simp] eTy_def eTm_def
set_option maxHeartbeats 16000000
set_option maxRecDepth 8000
attribute [local irreducible] TJ FCalls compM

theorem CompileTermS_tree (e : MTm) (l : List MOp) (hn : nTm e <= 1073741824) (hl : compileM e = some l) : FCalls Try.prog 9 [aTm e] [] fun r L' => ∃ v, r = .tup [.c (.d (.raw v)), .b true] /\ L' = [(opK 53 l, v)] := by
 have h1 := TermValidS_ok e (by omega)
 rw [compileM] at hl
 cases hv : termValidM e with
 | false => rw [hv] at hl; simp at hl
 | true =>
  rw [hv] at h1 hl
  obtain ⟨hv1, hv2⟩ := termValidM_iff.1 hv
  have h2 := l2Free_ok e hv1 [] [] (by simp; omega) (by simp; omega)
  have hnm := sfree_names hv
  simp only [true_and] at hl
  by_cases hf : namesM e = []
  ·rw [if_pos hf] at hl
   rw [hnm.2 hf] at h2
   have h3 := l4Bare_ok 14 e 12 hv1 hn
   have hba := BaV.of hv1 [] ((names_nil hv1).1 hf)
   have hnb := (bare_valid hv1 (.inr rfl)).2.2
   have h4 := FCalls.of_own (l14Compile_own (mapM bareG e) [] hba (by simp; omega)) (by simp) (mk_op (compM [] (mapM bareG e)))
   dsimp only at h4
   simp only [<- opK_unf] at h4
   have hcl := comp_len (mapM bareG e) []
   have h5 := OpsValidS2_ok (compM [] (mapM bareG e)) (by omega)
   generalize mapM bareG e = B at *
   generalize compM [] B = C at *
   cases ho : opsValidM C <;> rw [ho] at h5 hl
   ·simp at hl
   ·simp at hl
    subst hl
    refine FCalls.of_body Try.func9 (by kernel_rfl) rfl (by kernel_rfl) (by simp [Try.ntmps9]) ?_
    rw [Try.ntmps9]
    repeat' first | (refine aopsJ_end (hK _ _ ?_); clear hK K) | (refine aopsD_end (hK _ ?_); clear hK K) | (refine aopsJ_go ?_; simp; (try first | (refine OpsJ.gen fun q hq => ?_; cases q <;> (try simp at hq) <;> (try (have hh : True := hq; clear hh hq))))) | (refine aopsD_go ?_; simp; (try first | (refine OpsD.gen fun q hq => ?_; cases q <;> (try simp at hq) <;> (try (have hh : True := hq; clear hh hq))))) | (refine aopsF_end (hK _ ?_); clear hK K) | (refine aopsF_go ?_; simp; (try first | (refine OpsF.gen fun q hq => ?_; cases q <;> (try simp at hq) <;> (try (have hh : True := hq; clear hh hq))))) | (refine wpcallJ_pure rfl (h1) ?_; simp; (try first | (refine OpsJ.gen fun q hq => ?_; cases q <;> (try simp at hq) <;> (try (have hh : True := hq; clear hh hq))))) | (refine wpcall_pure rfl (h1) ?_; simp; (try first | (refine OpsD.gen fun q hq => ?_; cases q <;> (try simp at hq) <;> (try (have hh : True := hq; clear hh hq))) | (refine OpsF.gen fun q hq => ?_; cases q <;> (try simp at hq) <;> (try (have hh : True := hq; clear hh hq))))) | (refine wpcallJ_pure rfl (h2) ?_; simp; (try first | (refine OpsJ.gen fun q hq => ?_; cases q <;> (try simp at hq) <;> (try (have hh : True := hq; clear hh hq))))) | (refine wpcall_pure rfl (h2) ?_; simp; (try first | (refine OpsD.gen fun q hq => ?_; cases q <;> (try simp at hq) <;> (try (have hh : True := hq; clear hh hq))) | (refine OpsF.gen fun q hq => ?_; cases q <;> (try simp at hq) <;> (try (have hh : True := hq; clear hh hq))))) | (refine wpcallJ_pure rfl (h3) ?_; simp; (try first | (refine OpsJ.gen fun q hq => ?_; cases q <;> (try simp at hq) <;> (try (have hh : True := hq; clear hh hq))))) | (refine wpcall_pure rfl (h3) ?_; simp; (try first | (refine OpsD.gen fun q hq => ?_; cases q <;> (try simp at hq) <;> (try (have hh : True := hq; clear hh hq))) | (refine OpsF.gen fun q hq => ?_; cases q <;> (try simp at hq) <;> (try (have hh : True := hq; clear hh hq))))) | (refine wpcallJ_scal ?_ (h5) rfl ?_; (focus (solve | (repeat' first | exact FzVs.nil | apply FzVs.cons | apply FzV.c | apply FzV.agg | exact FzL.nil | apply FzL.cons | exact FzC.d | exact FzC.nil | exact FzC.np | exact FzC.fn | (refine FzC.thaw' ?_ (opK_dp 53 _); (focus (solve | simp))) | (refine FzC.thaw' ?_ (tyK_dp 39 _); (focus (solve | simp [tTm]))) | (refine FzC.thaw' ?_ (tmK_dp 39 42 _); (focus (solve | simp [tTm])))))); simp; (try first | (refine OpsJ.gen fun q hq => ?_; cases q <;> (try simp at hq) <;> (try (have hh : True := hq; clear hh hq))))) | (refine wpcallJ_new ?_ (h4) ?_; (focus (solve | (repeat' first | exact FzVs.nil | apply FzVs.cons | apply FzV.c | apply FzV.agg | exact FzL.nil | apply FzL.cons | exact FzC.d | exact FzC.nil | exact FzC.np | exact FzC.fn | (refine FzC.thaw' ?_ (opK_dp 53 _); (focus (solve | simp))) | (refine FzC.thaw' ?_ (tyK_dp 39 _); (focus (solve | simp [tTm]))) | (refine FzC.thaw' ?_ (tmK_dp 39 42 _); (focus (solve | simp [tTm])))))); rintro _ _ ⟨v, rfl, rfl⟩; simp; (try first | (refine OpsJ.gen fun q hq => ?_; cases q <;> (try simp at hq) <;> (try (have hh : True := hq; clear hh hq))))) | refine TJ.rs (fun _ => false) fun K hK => ?_ | refine TJ.rs1 (fun _ => false) fun K hK => ?_ | (refine And.intro (by omega) ?_) | refine TJ.cond rfl (fun hcnd => ?_) (fun hcnd => absurd hcnd (by decide)) | refine TJ.cond rfl (fun hcnd => absurd hcnd (by decide)) (fun hcnd => ?_) | refine TJ.seq ?_ | refine TJ.block ?_ | refine TJ.skip ?_ | refine TJ.exit ?_
    refine TJ.ret ?_; (repeat first | refine ThenJ.ret ?_ | refine InBlockJ.ret ?_); refine (DoneJ.tup (rs := [.c (.d (.raw v)), .b true]) (rs' := [.c (.d (.raw v)), .b true]) (Or.inr rfl) (by simp [Try.results9]) (by simp [DV.scal]) (M := []) (by simp) ⟨v, rfl, rfl⟩)
  ·rw [if_neg hf] at hl; simp at hl

theorem compS_cases (e : MTm) (hn : nTm e <= 1073741824) : ACalls Try.prog 9 [aTm e] [] (.tup [.l [], .b false]) [] [] \/
  ∃ l : List MOp, 1 <= l.length /\ l.length <= 120 /\ ACalls Try.prog 9 [aTm e] [] (.tup [.c (.own 0 l.length), .b true]) [] [{ sz := 2, ety := 53, rows := l.map eOp, wr := true }] := by
 cases hc : compileM e with
 | none =>
  have h := CompileTermS_ok e hn
  rw [hc] at h
  exact .inl h
 | some l =>
  have h := CompileTermS_tree e l hn hc
  refine .inr ⟨l, ?_, ?_, ?_⟩
  ·rw [compileM] at hc
   split at hc
   ·split at hc
    ·rename_i ho; cases hc; exact (opsValid_iff.1 ho).2.1
    ·cases hc
   ·cases hc
  ·have := compile_small e
   rw [hc] at this
   exact this
  ·simp only [opK_unf] at h
   exact ACalls.of_tree2 h (opRows_scal l) (fun ds Lc hmk => mk_op_inv hmk)

theorem wpsplit {s : St} {f : FuncId} {xs : List AV} {K : AV -> List (List CV) -> List Arr -> Prop} {A : Prop} {C : List MOp -> Prop} (h : A \/ ∃ l : List MOp, 1 <= l.length /\ l.length <= 120 /\ C l) (h1 : A -> wpcall Try.prog s f xs K) (h2 : ∀ l : List MOp, 1 <= l.length -> l.length <= 120 -> C l -> wpcall Try.prog s f xs K) : wpcall Try.prog s f xs K := by
 rcases h with h | ⟨l, h3, h4, h5⟩
 ·exact h1 h
 ·exact h2 l h3 h4 h5

def aOps (l : List MOp) : AV := .l (l.map eOp)
def IsOps (rs : List (List DV)) (x : List MOp) : Prop := rs = x.map eOp
theorem IsV.ops {rs : List (List DV)} {x : List MOp} (h : IsOps rs x) : IsV aOps (.c (.d (.sl rs))) x := by rw [IsV, h]; rfl
theorem IsOps.map (x : List MOp) : IsOps (x.map eOp) x := rfl
theorem IsOps.nil : IsOps [] [] := rfl
theorem IsOps.app {a c : List (List DV)} {x y : List MOp} (h : IsOps a x) (h' : IsOps c y) : IsOps (a ++ c) (x ++ y) := by rw [IsOps, h, h', List.map_append]
theorem IsOps.cons {k n : Int} {a : List (List DV)} {x : List MOp} (h : IsOps a x) : IsOps ([.int .i64 k, .int .i64 n] :: a) (⟨k, n⟩ :: x) := by rw [IsOps, h] <;> rfl
theorem IsOps.set {k n : Int} {i : Nat} {a : List (List DV)} {x : List MOp} (h : IsOps a x) : IsOps (a.set i [.int .i64 k, .int .i64 n]) (x.set i ⟨k, n⟩) := by rw [IsOps, h, List.map_set] <;> rfl
theorem IsOps.take {i : Nat} {a : List (List DV)} {x : List MOp} (h : IsOps a x) : IsOps (a.take i) (x.take i) := by rw [IsOps, h, List.map_take]

theorem l14Draw_ok (b : List Int) (hb : okB b) (p : Nat) (hp : p + 61000000 <= 1099511627776) : Draws Try.prog 18 [] b p 61000000 (RV aOps noA fun l => l.length <= 121) := by
 refine Draws.of_body Try.func18 (by kernel_rfl) rfl (by kernel_rfl) (by simp [Try.ntmps18]) ?_
 rw [Try.ntmps18]
 repeat' first | ((first | refine aops_end (hK _ ?_) | refine aopsD_end (hK _ ?_) | refine aopsF_end (hK _ ?_)); clear hK K) | ((first | refine aops_go ?_ | refine aopsD_go ?_ | refine aopsF_go ?_); simp; (try simp (disch := omega) only [wrap64]); (try (refine gen fun q hq => ?_; cases q <;> (try simp at hq) <;> (try (have hh : True := hq; clear hh hq))))) | (refine wpcall_pure rfl (hcc) ?_; simp; (try simp (disch := omega) only [wrap64]); (try (refine gen fun q hq => ?_; cases q <;> (try simp at hq) <;> (try (have hh : True := hq; clear hh hq))))) | (refine wpcall_dr 0 rfl rfl (pick_ok b hb _ (by omega) 3 (by omega)) (fun x1 p1 hx1 hp1 hp1' => ?_); simp; (try simp (disch := omega) only [wrap64]); (try (refine gen fun q hq => ?_; cases q <;> (try simp at hq) <;> (try (have hh : True := hq; clear hh hq))))) | (refine wpcall_dr 0 rfl rfl (pick_ok b hb _ (by omega) 15 (by omega)) (fun x1 p1 hx1 hp1 hp1' => ?_); simp; (try simp (disch := omega) only [wrap64]); (try (refine gen fun q hq => ?_; cases q <;> (try simp at hq) <;> (try (have hh : True := hq; clear hh hq))))) | (refine wpcall_dr 0 rfl rfl (pick_ok b hb _ (by omega) 16 (by omega)) (fun x1 p1 hx1 hp1 hp1' => ?_); simp; (try simp (disch := omega) only [wrap64]); (try (refine gen fun q hq => ?_; cases q <;> (try simp at hq) <;> (try (have hh : True := hq; clear hh hq))))) | (refine wpcall_dr 0 rfl rfl (pick_ok b hb _ (by omega) 1 (by omega)) (fun x1 p1 hx1 hp1 hp1' => ?_); simp; (try simp (disch := omega) only [wrap64]); (try (refine gen fun q hq => ?_; cases q <;> (try simp at hq) <;> (try (have hh : True := hq; clear hh hq))))) | (refine wpcall_dr 0 rfl rfl (pick_ok b hb _ (by omega) l.length (by omega)) (fun x1 p1 hx1 hp1 hp1' => ?_); simp; (try simp (disch := omega) only [wrap64]); (try (refine gen fun q hq => ?_; cases q <;> (try simp at hq) <;> (try (have hh : True := hq; clear hh hq))))) | (refine wpcall_dr 0 rfl rfl (num_ok b hb _ (by omega) [0, 1, 2, 1000, -1, 9223372036854775807] (by simp) (by simp)) (fun x1 p1 hx1 hp1 hp1' => ?_); simp; (try simp (disch := omega) only [wrap64]); (try (refine gen fun q hq => ?_; cases q <;> (try simp at hq) <;> (try (have hh : True := hq; clear hh hq))))) | (refine wpcall_dr 0 rfl rfl (num_ok b hb _ (by omega) [7, 6, 5, 12] (by simp) (by simp)) (fun x1 p1 hx1 hp1 hp1' => ?_); simp; (try simp (disch := omega) only [wrap64]); (try (refine gen fun q hq => ?_; cases q <;> (try simp at hq) <;> (try (have hh : True := hq; clear hh hq))))) | (refine wpcall_own rfl (hco) ?_; simp; (try simp (disch := omega) only [wrap64]); (try (refine gen fun q hq => ?_; cases q <;> (try simp at hq) <;> (try (have hh : True := hq; clear hh hq))))) | (refine wpcall_dr 0 rfl rfl (l3Typed_ok b hb _ (by omega)) (fun e p1 he hp1 hp1' => ?_); simp) | (refine wpcall_dr 0 rfl rfl (l2Closed_ok b hb _ (by omega)) (fun e2 p1 he2 hp1 hp1' => ?_); simp) | (refine wpsplit (f := 9) (compS_cases e2 (by omega)) (fun hcc => ?_) (fun l hl1 hl2 hco => ?_)) | (refine wpsplit (f := 9) (compS_cases e (by omega)) (fun hcc => ?_) (fun l hl1 hl2 hco => ?_)) | ((rw [List.getElem?_eq_getElem (by first | assumption | omega | (simp; omega))]; simp)) | refine TX.rs (id := 6) (fun i => i == 1) fun K hK => ?_ | refine TX.rs1 (id := 6) (fun i => i == 1) fun K hK => ?_ | refine TX.rs (id := 0) (fun _ => false) fun K hK => ?_ | refine TX.rs1 (id := 0) (fun _ => false) fun K hK => ?_ | refine TX.rs (id := 1) (fun _ => false) fun K hK => ?_ | refine TX.rs1 (id := 1) (fun _ => false) fun K hK => ?_ | refine TX.rs (id := 2) (fun _ => false) fun K hK => ?_ | refine TX.rs1 (id := 2) (fun _ => false) fun K hK => ?_ | refine TX.rs (id := 3) (fun _ => false) fun K hK => ?_ | refine TX.rs1 (id := 3) (fun _ => false) fun K hK => ?_ | refine TX.rs (id := 4) (fun _ => false) fun K hK => ?_ | refine TX.rs1 (id := 4) (fun _ => false) fun K hK => ?_ | refine TX.rs (id := 5) (fun _ => false) fun K hK => ?_ | refine TX.rs1 (id := 5) (fun _ => false) fun K hK => ?_ | refine TX.rs (id := 7) (fun _ => false) fun K hK => ?_ | refine TX.rs1 (id := 7) (fun _ => false) fun K hK => ?_ | refine TX.rs (id := 8) (fun _ => false) fun K hK => ?_ | refine TX.rs1 (id := 8) (fun _ => false) fun K hK => ?_ | refine TX.rs (id := 9) (fun _ => false) fun K hK => ?_ | refine TX.rs1 (id := 9) (fun _ => false) fun K hK => ?_ | refine TX.rs (id := 10) (fun _ => false) fun K hK => ?_ | refine TX.rs1 (id := 10) (fun _ => false) fun K hK => ?_ | refine TX.rs (id := 11) (fun _ => false) fun K hK => ?_ | refine TX.rs1 (id := 11) (fun _ => false) fun K hK => ?_ | refine TX.rs (id := 12) (fun _ => false) fun K hK => ?_ | refine TX.rs1 (id := 12) (fun _ => false) fun K hK => ?_ | refine TX.rs (id := 13) (fun _ => false) fun K hK => ?_ | refine TX.rs1 (id := 13) (fun _ => false) fun K hK => ?_ | refine TX.rs (id := 14) (fun _ => false) fun K hK => ?_ | refine TX.rs1 (id := 14) (fun _ => false) fun K hK => ?_ | refine TX.rs (id := 15) (fun _ => false) fun K hK => ?_ | refine TX.rs1 (id := 15) (fun _ => false) fun K hK => ?_ | (refine ⟨by omega, ?_⟩) | refine TX.cond rfl (fun hcnd => ?_) (fun hcnd => absurd hcnd (by decide)) | refine TX.cond rfl (fun hcnd => absurd hcnd (by decide)) (fun hcnd => ?_) | refine TX.seq ?_ | refine TX.block ?_ | refine TX.skip ?_ | refine TX.exit ?_ | refine EX.thenN ?_ | refine EX.thenR ?_ | refine EX.thenE ?_ | refine EX.blockN ?_ | refine EX.blockR ?_ | refine EX.blockE ?_ | refine EX.blockO (by simp) ?_ | refine EX.outR ?_ | refine EX.outE ?_
 all_goals (
  refine TX.ret ?_
  repeat' first | refine EX.outR ?_ | refine EX.thenR ?_ | refine EX.blockR ?_ | refine EX.unrR ?_
  apply EX.drA (ks := [])
  case he => exact Or.inr rfl
  case hys => simp [resAs, getAs, Try.results18] <;> rfl
  case hv => first | (dsimp only [Av.one]; exact rfl) | dsimp only [Av.one]
  case hx => repeat' first | exact IsT2.var _ | exact IsV.tmv _ | exact IsTm.var _ | exact IsTy.row _ | exact IsTm.row _ | exact IsTys.nil | exact IsTms.nil | exact IsBds.nil | exact IsTys.map _ | exact IsTms.map _ | exact IsBds.map _ | exact IsV.int _ | exact IsV.str _ | exact IsV.bool _ | apply IsV.p2 | apply IsV.p3 | apply IsV.tm | apply IsV.ty | apply IsTm.node | apply IsTy.of | apply IsTys.cons | apply IsTms.cons | apply IsBds.cons | apply IsV.tys | apply IsV.tms | apply IsV.bds | apply IsT2.node | apply IsTys.app | apply IsTms.app | apply IsBds.app | exact IsCos.map _ | exact IsCos.nil | apply IsV.co | apply IsCos.cons | apply IsCos.app | apply IsV.ops | exact IsOps.map _ | exact IsOps.nil | apply IsOps.cons | apply IsOps.app | apply IsOps.set | apply IsOps.take
  case hA => exact rfl
  case hks => simp
  case hV => exact rfl
  case h1 => omega
  case h2 => omega
  case hg => first | omega | (simp <;> omega) | (simp [List.length_take] <;> omega))

theorem DrawOpsSame_ok (b : List Int) (hb : ∀ n ∈ b, 0 <= n /\ n <= 255) : Some_ Try.prog 5 [.l (rB b)] (RV (fun x : List MOp × List MOp => .tup [aOps x.1, aOps x.2]) noA fun x => x.1.length <= 121 /\ x.2.length <= 121) := by
 obtain ⟨b, p, hb, hp, hc⟩ := l18Open_ok b hb
 refine Some_.of_body Try.func5 (by kernel_rfl) rfl (by kernel_rfl) (by simp [Try.ntmps5]) ?_
 rw [Try.ntmps5]
 repeat' first | ((first | refine aops_end (hK _ ?_) | refine aopsD_end (hK _ ?_) | refine aopsF_end (hK _ ?_)); clear hK K) | ((first | refine aops_go ?_ | refine aopsD_go ?_ | refine aopsF_go ?_); simp; (try simp (disch := omega) only [wrap64]); (try (refine gen fun q hq => ?_; cases q <;> (try simp at hq) <;> (try (have hh : True := hq; clear hh hq))))) | (refine wpcall_dr 0 rfl rfl (pick_ok b hb _ (by omega) 2 (by omega)) (fun x1 p1 hx1 hp1 hp1' => ?_); simp; (try simp (disch := omega) only [wrap64]); (try (refine gen fun q hq => ?_; cases q <;> (try simp at hq) <;> (try (have hh : True := hq; clear hh hq))))) | (refine wpcall_new1 rfl hc ?_; simp [back]) | (refine wpcall_dr 0 rfl rfl (l14Draw_ok b hb _ (by omega)) (fun l p1 hl hp1 hp1' => ?_); simp [aOps]) | ((rw [List.getElem?_eq_getElem (by first | assumption | omega | (simp; omega))]; simp)) | refine TX.rs (id := 5) (fun i => i == 0) fun K hK => ?_ | refine TX.rs1 (id := 5) (fun i => i == 0) fun K hK => ?_ | refine TX.rs (id := 0) (fun _ => false) fun K hK => ?_ | refine TX.rs1 (id := 0) (fun _ => false) fun K hK => ?_ | refine TX.rs (id := 1) (fun _ => false) fun K hK => ?_ | refine TX.rs1 (id := 1) (fun _ => false) fun K hK => ?_ | refine TX.rs (id := 2) (fun _ => false) fun K hK => ?_ | refine TX.rs1 (id := 2) (fun _ => false) fun K hK => ?_ | refine TX.rs (id := 3) (fun _ => false) fun K hK => ?_ | refine TX.rs1 (id := 3) (fun _ => false) fun K hK => ?_ | refine TX.rs (id := 4) (fun _ => false) fun K hK => ?_ | refine TX.rs1 (id := 4) (fun _ => false) fun K hK => ?_ | refine TX.rs (id := 6) (fun _ => false) fun K hK => ?_ | refine TX.rs1 (id := 6) (fun _ => false) fun K hK => ?_ | refine TX.rs (id := 7) (fun _ => false) fun K hK => ?_ | refine TX.rs1 (id := 7) (fun _ => false) fun K hK => ?_ | refine TX.rs (id := 8) (fun _ => false) fun K hK => ?_ | refine TX.rs1 (id := 8) (fun _ => false) fun K hK => ?_ | (refine ⟨by omega, ?_⟩) | refine TX.cond rfl (fun hcnd => ?_) (fun hcnd => absurd hcnd (by decide)) | refine TX.cond rfl (fun hcnd => absurd hcnd (by decide)) (fun hcnd => ?_) | refine TX.seq ?_ | refine TX.block ?_ | refine TX.skip ?_ | refine TX.exit ?_ | refine EX.thenN ?_ | refine EX.thenR ?_ | refine EX.thenE ?_ | refine EX.blockN ?_ | refine EX.blockR ?_ | refine EX.blockE ?_ | refine EX.blockO (by simp) ?_ | refine EX.outR ?_ | refine EX.outE ?_
 all_goals (
  refine TX.ret ?_
  repeat' first | refine EX.outR ?_ | refine EX.thenR ?_ | refine EX.blockR ?_ | refine EX.unrR ?_
  apply EX.someA (ks := [])
  case he => exact Or.inr rfl
  case hys => simp [resAs, getAs, Try.results5] <;> rfl
  case hv => first | (dsimp only [Av.one]; exact rfl) | dsimp only [Av.one]
  case hx => repeat' first | exact IsT2.var _ | exact IsV.tmv _ | exact IsTm.var _ | exact IsTy.row _ | exact IsTm.row _ | exact IsTys.nil | exact IsTms.nil | exact IsBds.nil | exact IsTys.map _ | exact IsTms.map _ | exact IsBds.map _ | exact IsV.int _ | exact IsV.str _ | exact IsV.bool _ | apply IsV.p2 | apply IsV.p3 | apply IsV.tm | apply IsV.ty | apply IsTm.node | apply IsTy.of | apply IsTys.cons | apply IsTms.cons | apply IsBds.cons | apply IsV.tys | apply IsV.tms | apply IsV.bds | apply IsT2.node | apply IsTys.app | apply IsTms.app | apply IsBds.app | exact IsCos.map _ | exact IsCos.nil | apply IsV.co | apply IsCos.cons | apply IsCos.app | apply IsV.ops | exact IsOps.map _ | exact IsOps.nil | apply IsOps.cons | apply IsOps.app | apply IsOps.set | apply IsOps.take
  case hA => exact rfl
  case hks => simp
  case hg => first | omega | (simp <;> omega))

end Go.Proofs.Ytflmjilnecanhaa

namespace Go.Proofs.Ytflmjilnecanhaa
open Go Go.Av
attribute [local irreducible] T ACalls TX EX LX Draws Some_ ACallsX eTy eTm MTy.kind MTy.kids MTm.kind MTm.name MTm.num MTm.ty MTm.fr MTm.label MTm.kids
attribute [local simp] eTy_def eTm_def
set_option maxHeartbeats 16000000
set_option maxRecDepth 8000

theorem lawOpsSame_ok (b : List Int) (hb : ∀ n ∈ b, 0 <= n /\ n <= 255) : ACalls Try.prog 3 [.l (rB b)] [] (.b true) [] [] := by
 by_cases h1 : (1048576 : Int) < b.length
 ·refine ACalls.of_body Try.func3 (by kernel_rfl) rfl (by kernel_rfl) (by simp [Try.ntmps3]) (by simp) ?_
  rw [Try.ntmps3]
  repeat' first | ((first | refine aops_end (hK _ ?_) | refine aopsD_end (hK _ ?_) | refine aopsF_end (hK _ ?_)); clear hK K) | ((first | refine aops_go ?_ | refine aopsD_go ?_ | refine aopsF_go ?_); simp [h1, rB_len]; (try (refine gen fun q hq => ?_; cases q <;> (try simp [h1, rB_len] at hq) <;> (try (have hh : True := hq; clear hh hq))))) | (refine T.ret (Done.data (Or.inr rfl) ?_ ?_) <;> simp [Try.results3] <;> omega) | refine T.r0 fun K hK => ?_ | refine T.r1 fun K hK => ?_ | (refine ⟨by omega, ?_⟩) | refine T.ct rfl ?_ | refine T.cf rfl ?_ | refine T.seq ?_ | refine T.block ?_ | refine T.skip ?_ | refine T.exit ?_
 obtain ⟨x, hx, d1⟩ := (DrawOpsSame_ok b hb).elim
 obtain ⟨l, m⟩ := x
 dsimp only at hx d1
 have k1 := OpsSame_ok l m (by omega)
 have k2 := OpsSameS_ok l m (by omega)
 have k3 := OpsSame_ok m l (by omega)
 have k4 := OpsSame_ok l l (by omega)
 rw [show decide (m = l) = decide (l = m) by simp only [eq_comm]] at k3
 rw [decide_eq_true rfl] at k4
 generalize decide (l = m) = q at *
 simp only [aOps] at d1
 cases q
 ·refine ACalls.of_body Try.func3 (by kernel_rfl) rfl (by kernel_rfl) (by simp [Try.ntmps3]) (by simp) ?_
  rw [Try.ntmps3]
  repeat' first | ((first | refine aops_end (hK _ ?_) | refine aopsD_end (hK _ ?_) | refine aopsF_end (hK _ ?_)); clear hK K) | ((first | refine aops_go ?_ | refine aopsD_go ?_ | refine aopsF_go ?_); simp [h1, rB_len]; (try (refine gen fun q hq => ?_; cases q <;> (try simp [h1, rB_len] at hq) <;> (try (have hh : True := hq; clear hh hq))))) | (refine wpcall_pure rfl (d1) ?_; simp [h1, rB_len]; (try (refine gen fun q hq => ?_; cases q <;> (try simp [h1, rB_len] at hq) <;> (try (have hh : True := hq; clear hh hq))))) | (refine wpcall_pure rfl (k1) ?_; simp [h1, rB_len]; (try (refine gen fun q hq => ?_; cases q <;> (try simp [h1, rB_len] at hq) <;> (try (have hh : True := hq; clear hh hq))))) | (refine wpcall_pure rfl (k2) ?_; simp [h1, rB_len]; (try (refine gen fun q hq => ?_; cases q <;> (try simp [h1, rB_len] at hq) <;> (try (have hh : True := hq; clear hh hq))))) | (refine wpcall_pure rfl (k3) ?_; simp [h1, rB_len]; (try (refine gen fun q hq => ?_; cases q <;> (try simp [h1, rB_len] at hq) <;> (try (have hh : True := hq; clear hh hq))))) | (refine wpcall_pure rfl (k4) ?_; simp [h1, rB_len]; (try (refine gen fun q hq => ?_; cases q <;> (try simp [h1, rB_len] at hq) <;> (try (have hh : True := hq; clear hh hq))))) | (refine T.ret (Done.data (Or.inr rfl) ?_ ?_) <;> simp [Try.results3] <;> omega) | refine T.r0 fun K hK => ?_ | refine T.r1 fun K hK => ?_ | (refine ⟨by omega, ?_⟩) | refine T.ct rfl ?_ | refine T.cf rfl ?_ | refine T.seq ?_ | refine T.block ?_ | refine T.skip ?_ | refine T.exit ?_
 ·refine ACalls.of_body Try.func3 (by kernel_rfl) rfl (by kernel_rfl) (by simp [Try.ntmps3]) (by simp) ?_
  rw [Try.ntmps3]
  repeat' first | ((first | refine aops_end (hK _ ?_) | refine aopsD_end (hK _ ?_) | refine aopsF_end (hK _ ?_)); clear hK K) | ((first | refine aops_go ?_ | refine aopsD_go ?_ | refine aopsF_go ?_); simp [h1, rB_len]; (try (refine gen fun q hq => ?_; cases q <;> (try simp [h1, rB_len] at hq) <;> (try (have hh : True := hq; clear hh hq))))) | (refine wpcall_pure rfl (d1) ?_; simp [h1, rB_len]; (try (refine gen fun q hq => ?_; cases q <;> (try simp [h1, rB_len] at hq) <;> (try (have hh : True := hq; clear hh hq))))) | (refine wpcall_pure rfl (k1) ?_; simp [h1, rB_len]; (try (refine gen fun q hq => ?_; cases q <;> (try simp [h1, rB_len] at hq) <;> (try (have hh : True := hq; clear hh hq))))) | (refine wpcall_pure rfl (k2) ?_; simp [h1, rB_len]; (try (refine gen fun q hq => ?_; cases q <;> (try simp [h1, rB_len] at hq) <;> (try (have hh : True := hq; clear hh hq))))) | (refine wpcall_pure rfl (k3) ?_; simp [h1, rB_len]; (try (refine gen fun q hq => ?_; cases q <;> (try simp [h1, rB_len] at hq) <;> (try (have hh : True := hq; clear hh hq))))) | (refine wpcall_pure rfl (k4) ?_; simp [h1, rB_len]; (try (refine gen fun q hq => ?_; cases q <;> (try simp [h1, rB_len] at hq) <;> (try (have hh : True := hq; clear hh hq))))) | (refine T.ret (Done.data (Or.inr rfl) ?_ ?_) <;> simp [Try.results3] <;> omega) | refine T.r0 fun K hK => ?_ | refine T.r1 fun K hK => ?_ | (refine ⟨by omega, ?_⟩) | refine T.ct rfl ?_ | refine T.cf rfl ?_ | refine T.seq ?_ | refine T.block ?_ | refine T.skip ?_ | refine T.exit ?_
end Go.Proofs.Ytflmjilnecanhaa
