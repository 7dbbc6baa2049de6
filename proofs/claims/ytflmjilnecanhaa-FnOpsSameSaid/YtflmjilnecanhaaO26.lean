/- A part of the library of this seat. -/
import Derived.Test.YtflmjilnecanhaaO25
set_option linter.unusedVariables false
set_option linter.unusedSimpArgs false
namespace Go.Proofs.Ytflmjilnecanhaa
open Go Go.Av
attribute [local irreducible] T ACalls TX EX LX Draws Some_ ACallsX eTy eTm MTy.kind MTy.kids MTm.kind MTm.name MTm.num MTm.ty MTm.fr MTm.label MTm.kids
attribute [local simp] eTy_def eTm_def
set_option maxHeartbeats 16000000
set_option maxRecDepth 8000
attribute [local irreducible] TJ FCalls lastUp

theorem lastByte_ok (s : List UInt8) (c : UInt8) (hs : s.length <= 1099511627776) : ACalls Try.prog 74 [.s s, .c (.d (.int .u8 (c.toNat : Int)))] [] (.i (lastIx s c)) [] [] := by
 refine ACalls.of_body Try.func74 (by kernel_rfl) rfl (by kernel_rfl) (by simp [Try.ntmps74]) (by simp) ?_
 rw [Try.ntmps74]
 repeat' first | ((first | refine aops_end (hK _ ?_) | refine aopsD_end (hK _ ?_) | refine aopsF_end (hK _ ?_)); clear hK K) | ((first | refine aops_go ?_ | refine aopsD_go ?_ | refine aopsF_go ?_); simp; (try simp (disch := omega) only [wrap64]); (try (refine gen fun q hq => ?_; cases q <;> (try simp at hq) <;> (try (have hh : True := hq; clear hh hq))))) | refine T.r0 fun K hK => ?_ | refine T.r1 fun K hK => ?_ | (refine ⟨by omega, ?_⟩) | refine T.ct rfl ?_ | refine T.cf rfl ?_ | refine T.seq ?_ | refine T.block ?_ | refine T.skip ?_ | refine T.exit ?_
 refine T.loopK (α := Nat) [0, 1] (fun p => [(4, .i 0), (5, .i ((p : Int) - 1))]) (fun _ => []) (fun _ => []) (fun _ A => A) (fun p => p) (fun p => p <= s.length /\ lastUp s c p = lastIx s c) (by simp; rfl) (fun p hx => ?_) s.length ⟨by omega, rfl⟩ (by simp) (by simp) (by simp (disch := omega) [wrap64])
 obtain ⟨hp, he⟩ := hx
 dsimp only
 simp only [ups, List.set_cons_zero, List.set_cons_succ, List.cons_append, List.nil_append]
 cases p with
 | zero =>
  rw [<- he, lastUp]
  repeat' first | ((first | refine aops_end (hK _ ?_) | refine aopsD_end (hK _ ?_) | refine aopsF_end (hK _ ?_)); clear hK K) | ((first | refine aops_go ?_ | refine aopsD_go ?_ | refine aopsF_go ?_); simp; (try simp (disch := omega) only [wrap64]); (try (refine gen fun q hq => ?_; cases q <;> (try simp at hq) <;> (try (have hh : True := hq; clear hh hq))))) | (refine T.ret (Done.data (Or.inr rfl) ?_ ?_) <;> simp [Try.results74] <;> omega) | refine T.r0 fun K hK => ?_ | refine T.r1 fun K hK => ?_ | (refine ⟨by omega, ?_⟩) | refine T.ct rfl ?_ | refine T.cf rfl ?_ | refine T.seq ?_ | refine T.block ?_ | refine T.skip ?_ | refine T.exit ?_
 | succ p =>
  have hlt : p < s.length := by omega
  obtain ⟨x, hx⟩ := get_lt hlt
  have hgt : s[p] = x := by rw [List.getElem?_eq_getElem hlt] at hx; exact Option.some.inj hx
  rw [lastUp, hx] at he
  have hge : (0 : Int) <= p := by omega
  have hpp : ((p + 1 : Nat) : Int) - 1 = p := by omega
  rw [hpp]
  by_cases hc : x = c
  ·subst hc
   rw [if_pos rfl] at he
   rw [<- he]
   repeat' first | ((first | refine aops_end (hK _ ?_) | refine aopsD_end (hK _ ?_) | refine aopsF_end (hK _ ?_)); clear hK K) | ((first | refine aops_go ?_ | refine aopsD_go ?_ | refine aopsF_go ?_); simp [hlt, hge, hgt]; (try simp (disch := omega) only [wrap64]); (try (refine gen fun q hq => ?_; cases q <;> (try simp [hlt, hge, hgt] at hq) <;> (try (have hh : True := hq; clear hh hq))))) | (refine T.ret (Done.data (Or.inr rfl) ?_ ?_) <;> simp [Try.results74] <;> omega) | refine T.r0 fun K hK => ?_ | refine T.r1 fun K hK => ?_ | (refine ⟨by omega, ?_⟩) | refine T.ct rfl ?_ | refine T.cf rfl ?_ | refine T.seq ?_ | refine T.block ?_ | refine T.skip ?_ | refine T.exit ?_
  ·rw [if_neg (by simpa using hc)] at he
   have hc' : ¬ x.toNat = c.toNat := fun h => hc (UInt8.toNat_inj.1 h)
   have hc3 : ((x.toNat : Int) == (c.toNat : Int)) = false := by simp only [beq_eq_false_iff_ne, ne_eq]; omega
   repeat' first | ((first | refine aops_end (hK _ ?_) | refine aopsD_end (hK _ ?_) | refine aopsF_end (hK _ ?_)); clear hK K) | ((first | refine aops_go ?_ | refine aopsD_go ?_ | refine aopsF_go ?_); simp [hlt, hge, hgt, hc, hc', hc3]; (try simp (disch := omega) only [wrap64]); (try (refine gen fun q hq => ?_; cases q <;> (try simp [hlt, hge, hgt, hc, hc', hc3] at hq) <;> (try (have hh : True := hq; clear hh hq))))) | (refine ⟨p, by dsimp only; omega, ⟨by omega, he⟩, ?_⟩; simp (disch := omega) [wrap64]) | refine T.r0 fun K hK => ?_ | refine T.r1 fun K hK => ?_ | (refine ⟨by omega, ?_⟩) | refine T.ct rfl ?_ | refine T.cf rfl ?_ | refine T.seq ?_ | refine T.block ?_ | refine T.skip ?_ | refine T.exit ?_

theorem lastIndex_ok (s : List UInt8) (c : UInt8) (hs : s.length <= 1099511627776) : ACalls Try.prog 55 [.s s, .s [c]] [] (.i (lastIx s c)) [] [] := by
 have h := lastByte_ok s c hs
 refine ACalls.of_body Try.func55 (by kernel_rfl) rfl (by kernel_rfl) (by simp [Try.ntmps55]) (by simp) ?_
 rw [Try.ntmps55]
 repeat' first | ((first | refine aops_end (hK _ ?_) | refine aopsD_end (hK _ ?_) | refine aopsF_end (hK _ ?_)); clear hK K) | ((first | refine aops_go ?_ | refine aopsD_go ?_ | refine aopsF_go ?_); simp; (try (refine gen fun q hq => ?_; cases q <;> (try simp at hq) <;> (try (have hh : True := hq; clear hh hq))))) | (refine wpcall_pure rfl (h) ?_; simp; (try (refine gen fun q hq => ?_; cases q <;> (try simp at hq) <;> (try (have hh : True := hq; clear hh hq))))) | (refine T.ret (Done.data (Or.inr rfl) ?_ ?_) <;> simp [Try.results55] <;> omega) | refine T.r0 fun K hK => ?_ | refine T.r1 fun K hK => ?_ | (refine ⟨by omega, ?_⟩) | refine T.ct rfl ?_ | refine T.cf rfl ?_ | refine T.seq ?_ | refine T.block ?_ | refine T.skip ?_ | refine T.exit ?_

def growRen : Go.Shelf.Ren := ⟨fun n => match n with | 4 => 76 | _ => 0, fun n => match n with | 0 => 0 | 3 => 3 | 4 => 4 | 9 => 9 | 20 => 20 | 22 => 23 | 25 => 53 | _ => 0, fun n => n⟩
theorem growLays : Go.Proofs.Lays8.n4 Try.prog growRen where
 mixed := mixed
 f4 := ⟨"slices.Grow[[]loop.example/gradual/impl.Op,loop.example/gradual/impl.Op]", by kernel_rfl, by kernel_rfl⟩
 t0 := by kernel_rfl
 a0 := by intro w; kernel_rfl
 z0 := by intro w; kernel_rfl
 v0 := by intro w; kernel_rfl
 t3 := by kernel_rfl
 a3 := by intro w; kernel_rfl
 z3 := by intro w; kernel_rfl
 v3 := by intro w; kernel_rfl
 t4 := by kernel_rfl
 a4 := by intro w; kernel_rfl
 z4 := by intro w; kernel_rfl
 v4 := by intro w; kernel_rfl
 t9 := by kernel_rfl
 a9 := by intro w; kernel_rfl
 z9 := by intro w; kernel_rfl
 v9 := by intro w; kernel_rfl
 t20 := by kernel_rfl
 a20 := by intro w; kernel_rfl
 z20 := by intro w; kernel_rfl
 v20 := by intro w; kernel_rfl
 t22 := by kernel_rfl
 a22 := by intro w; kernel_rfl
 z22 := by intro w; kernel_rfl
 v22 := by intro w; kernel_rfl

theorem grow_ok (n : Nat) (hn : n <= 1099511627776) : FCalls Try.prog 76 [.c .nil, .i n] [] fun r L' => ∃ v, r = .c (.d (.raw v)) /\ L' = [(opK 53 [], v)] := by
 obtain ⟨i0, hi, hsz, hby, hzz⟩ := td_info td_opy
 obtain ⟨z, hz, hc⟩ := hzz _ rfl
 have hzs : z.cells.size = 2 := by have := cvsOf_len hc; simpa using this
 dsimp only at hsz hby
 have h := grow_contract growLays (enters Try.func76 (by kernel_rfl) rfl) i0 z hi hz (by omega) (by omega) n (by rw [hby]; omega) (by omega)
 rw [hsz] at h
 exact h

def eOpS (l : List MOp) : List DV := [.sl (l.map eOp)]
theorem concat_tree (ls : List (List MOp)) (h1 : ls.length <= 1000) (h2 : ∀ l ∈ ls, l.length <= 1000000) : FCalls Try.prog 56 [.l (ls.map eOpS)] [] fun r L' => ∃ v, r = .c (.d (.raw v)) /\ L' = [(opK 53 ls.flatten, v)] := by
 have hlen : ∀ p, ((ls.take p).flatten).length <= 1000000000 := fun p => by
  have hs : ∀ (m : List (List MOp)), (∀ l ∈ m, l.length <= 1000000) -> m.flatten.length <= m.length * 1000000 := by
   intro m
   induction m with
   | nil => simp
   | cons a r ih => intro h; have e1 := h a (by simp); have e2 := ih (fun l hl => h l (by simp [hl])); rw [List.flatten_cons, List.length_append, List.length_cons]; omega
  have e1 := hs (ls.take p) (fun l hl => h2 l (List.mem_of_mem_take hl))
  have e2 : (ls.take p).length <= 1000 := by rw [List.length_take]; omega
  have e3 := Nat.mul_le_mul_right 1000000 e2
  omega
 have hgr := fun n hn => grow_ok n hn
 refine FCalls.of_body Try.func56 (by kernel_rfl) rfl (by kernel_rfl) (by simp [Try.ntmps56]) ?_
 rw [Try.ntmps56]
 repeat' first | (refine aopsJ_end (hK _ _ ?_); clear hK K) | (refine aopsD_end (hK _ ?_); clear hK K) | (refine aopsJ_go ?_; simp; (try first | (refine OpsJ.gen fun q hq => ?_; cases q <;> (try simp at hq) <;> (try (have hh : True := hq; clear hh hq))))) | (refine aopsD_go ?_; simp; (try first | (refine OpsD.gen fun q hq => ?_; cases q <;> (try simp at hq) <;> (try (have hh : True := hq; clear hh hq))))) | (refine aopsF_end (hK _ ?_); clear hK K) | (refine aopsF_go ?_; simp; (try first | (refine OpsF.gen fun q hq => ?_; cases q <;> (try simp at hq) <;> (try (have hh : True := hq; clear hh hq))))) | refine TJ.rs (fun _ => false) fun K hK => ?_ | refine TJ.rs1 (fun _ => false) fun K hK => ?_ | (refine And.intro (by omega) ?_) | refine TJ.cond rfl (fun hcnd => ?_) (fun hcnd => absurd hcnd (by decide)) | refine TJ.cond rfl (fun hcnd => absurd hcnd (by decide)) (fun hcnd => ?_) | refine TJ.seq ?_ | refine TJ.block ?_ | refine TJ.skip ?_ | refine TJ.exit ?_
 refine TJ.loopK (α := Nat) [0, 2, 9, 10] (fun p => [(3, .i ((ls.take p).flatten).length), (11, .i p)]) (fun _ => []) (fun _ => []) (fun _ A => A) (fun _ => []) (fun p => ls.length + 1 - p) (fun p => p <= ls.length) (by simp; rfl) (fun p hp => ?_) 0 (by simp) (by simp) (by simp) (by simp) (M := []) (by simp)
 dsimp only at hp ⊢
 simp only [ups, List.set_cons_zero, List.set_cons_succ, List.cons_append, List.nil_append]
 by_cases hlt : p < ls.length
 ·obtain ⟨u, hu⟩ := get_lt hlt
  have hum : u ∈ ls := List.mem_of_getElem? hu
  have hgt : ls[p] = u := by rw [List.getElem?_eq_getElem hlt] at hu; exact Option.some.inj hu
  have hul := h2 u hum
  have hl1 := hlen p
  have htk : ((ls.take (p + 1)).flatten).length = ((ls.take p).flatten).length + u.length := by rw [take_succ_of hu]; simp
  generalize ((ls.take p).flatten).length = n at *
  have hneg : ¬ ((n : Int) + u.length < 0) := by omega
  repeat' first | (refine aopsJ_end (hK _ _ ?_); clear hK K) | (refine aopsD_end (hK _ ?_); clear hK K) | (refine aopsJ_go ?_; simp [hlt, hgt, hneg, eOpS]; (try simp (disch := omega) only [wrap64]); (try first | (refine OpsJ.gen fun q hq => ?_; cases q <;> (try simp [hlt, hgt, hneg, eOpS] at hq) <;> (try (have hh : True := hq; clear hh hq))))) | (refine aopsD_go ?_; simp [hlt, hgt, hneg, eOpS]; (try simp (disch := omega) only [wrap64]); (try first | (refine OpsD.gen fun q hq => ?_; cases q <;> (try simp [hlt, hgt, hneg, eOpS] at hq) <;> (try (have hh : True := hq; clear hh hq))))) | (refine aopsF_end (hK _ ?_); clear hK K) | (refine aopsF_go ?_; simp [hlt, hgt, hneg, eOpS]; (try simp (disch := omega) only [wrap64]); (try first | (refine OpsF.gen fun q hq => ?_; cases q <;> (try simp [hlt, hgt, hneg, eOpS] at hq) <;> (try (have hh : True := hq; clear hh hq))))) | refine TJ.rs (fun _ => false) fun K hK => ?_ | refine TJ.rs1 (fun _ => false) fun K hK => ?_ | (refine And.intro (by omega) ?_) | refine TJ.cond rfl (fun hcnd => ?_) (fun hcnd => absurd hcnd (by decide)) | refine TJ.cond rfl (fun hcnd => absurd hcnd (by decide)) (fun hcnd => ?_) | refine TJ.seq ?_ | refine TJ.block ?_ | refine TJ.skip ?_ | refine TJ.exit ?_
  refine ⟨p + 1, [], by dsimp only; omega, by dsimp only; omega, ?_, by simp⟩
  simp (disch := omega) [wrap64, htk]
 ·have hp' : p = ls.length := by omega
  subst hp'
  have hl1 := hlen ls.length
  rw [List.take_length] at hl1 ⊢
  obtain ⟨N, hN⟩ : ∃ N, N = ls.flatten.length := ⟨_, rfl⟩
  rw [<- hN] at hl1 ⊢
  have hg := hgr N (by omega)
  clear hN
  repeat' first | (refine aopsJ_end (hK _ _ ?_); clear hK K) | (refine aopsD_end (hK _ ?_); clear hK K) | (refine aopsJ_go ?_; simp [hlt]; (try first | (refine OpsJ.gen fun q hq => ?_; cases q <;> (try simp [hlt] at hq) <;> (try (have hh : True := hq; clear hh hq))))) | (refine aopsD_go ?_; simp [hlt]; (try first | (refine OpsD.gen fun q hq => ?_; cases q <;> (try simp [hlt] at hq) <;> (try (have hh : True := hq; clear hh hq))))) | (refine aopsF_end (hK _ ?_); clear hK K) | (refine aopsF_go ?_; simp [hlt]; (try first | (refine OpsF.gen fun q hq => ?_; cases q <;> (try simp [hlt] at hq) <;> (try (have hh : True := hq; clear hh hq))))) | (refine wpcallJ_new ?_ (hg) ?_; (focus (solve | (repeat' first | exact FzVs.nil | apply FzVs.cons | apply FzV.c | apply FzV.agg | exact FzL.nil | apply FzL.cons | exact FzC.d | exact FzC.nil | exact FzC.np | exact FzC.fn | exact FzC.nilk | (refine FzC.thaw' ?_ (tyK_dp 39 _); (focus (solve | simp [tTm]))) | (refine FzC.thaw' ?_ (tmK_dp 39 42 _); (focus (solve | simp [tTm])))))); rintro _ _ ⟨v, rfl, rfl⟩; simp [hlt]; (try first | (refine OpsJ.gen fun q hq => ?_; cases q <;> (try simp [hlt] at hq) <;> (try (have hh : True := hq; clear hh hq))))) | refine TJ.rs (id := 0) (fun _ => false) fun K hK => ?_ | refine TJ.rs1 (id := 0) (fun _ => false) fun K hK => ?_ | refine TJ.rs (id := 1) (fun _ => false) fun K hK => ?_ | refine TJ.rs1 (id := 1) (fun _ => false) fun K hK => ?_ | refine TJ.rs (id := 2) (fun _ => false) fun K hK => ?_ | refine TJ.rs1 (id := 2) (fun _ => false) fun K hK => ?_ | refine TJ.rs (id := 3) (fun _ => false) fun K hK => ?_ | refine TJ.rs1 (id := 3) (fun _ => false) fun K hK => ?_ | refine TJ.rs (id := 4) (fun _ => false) fun K hK => ?_ | refine TJ.rs1 (id := 4) (fun _ => false) fun K hK => ?_ | refine TJ.rs (id := 5) (fun _ => false) fun K hK => ?_ | refine TJ.rs1 (id := 5) (fun _ => false) fun K hK => ?_ | refine TJ.rs (id := 6) (fun _ => false) fun K hK => ?_ | refine TJ.rs1 (id := 6) (fun _ => false) fun K hK => ?_ | refine TJ.rs (id := 7) (fun _ => false) fun K hK => ?_ | refine TJ.rs1 (id := 7) (fun _ => false) fun K hK => ?_ | refine TJ.rs (id := 8) (fun _ => false) fun K hK => ?_ | refine TJ.rs1 (id := 8) (fun _ => false) fun K hK => ?_ | refine TJ.rs (id := 9) (fun _ => false) fun K hK => ?_ | refine TJ.rs1 (id := 9) (fun _ => false) fun K hK => ?_ | (refine And.intro (by omega) ?_) | refine TJ.cond rfl (fun hcnd => ?_) (fun hcnd => absurd hcnd (by decide)) | refine TJ.cond rfl (fun hcnd => absurd hcnd (by decide)) (fun hcnd => ?_) | refine TJ.seq ?_ | refine TJ.block ?_ | refine TJ.skip ?_ | refine TJ.exit ?_
  rw [opK_unf]
  refine TJ.openTree 6 (ety := 53) (sz := 2) (n := 0) (cs := opRows []) (v := v) (L2 := []) (by simp) (by exact .refl _) (opRows_scal []) fun ds Lc hmk hdl => ?_
  obtain ⟨hch, rfl⟩ := mk_op_inv (l := []) hmk
  rw [show chunks 2 0 ds = [] from rfl]
  clear hmk hdl hch
  repeat' first | (refine aopsJ_end (hK _ _ ?_); clear hK K) | (refine aopsD_end (hK _ ?_); clear hK K) | (refine aopsJ_go ?_; simp; (try first | (refine OpsJ.gen fun q hq => ?_; cases q <;> (try simp at hq) <;> (try (have hh : True := hq; clear hh hq))))) | (refine aopsD_go ?_; simp; (try first | (refine OpsD.gen fun q hq => ?_; cases q <;> (try simp at hq) <;> (try (have hh : True := hq; clear hh hq))))) | (refine aopsF_end (hK _ ?_); clear hK K) | (refine aopsF_go ?_; simp; (try first | (refine OpsF.gen fun q hq => ?_; cases q <;> (try simp at hq) <;> (try (have hh : True := hq; clear hh hq))))) | refine TJ.rs (fun _ => false) fun K hK => ?_ | refine TJ.rs1 (fun _ => false) fun K hK => ?_ | (refine And.intro (by omega) ?_) | refine TJ.cond rfl (fun hcnd => ?_) (fun hcnd => absurd hcnd (by decide)) | refine TJ.cond rfl (fun hcnd => absurd hcnd (by decide)) (fun hcnd => ?_) | refine TJ.seq ?_ | refine TJ.block ?_ | refine TJ.skip ?_ | refine TJ.exit ?_
  refine TJ.loopK (α := Nat) [2, 25, 26] (fun p => [(6, .c (.own 0 ((ls.take p).flatten).length)), (27, .i p)]) (fun _ => []) (fun _ => []) (fun p _ => [{ sz := 2, ety := 53, rows := ((ls.take p).flatten).map eOp, wr := true }]) (fun _ => []) (fun p => ls.length + 1 - p) (fun p => p <= ls.length) (by simp; rfl) (fun p hp => ?_) 0 (by simp) (by simp) (by simp) (by simp) (M := []) (by simp)
  dsimp only at hp ⊢
  simp only [ups, List.set_cons_zero, List.set_cons_succ, List.cons_append, List.nil_append]
  by_cases hlt2 : p < ls.length
  ·obtain ⟨u, hu⟩ := get_lt hlt2
   have hum : u ∈ ls := List.mem_of_getElem? hu
   have hgt : ls[p] = u := by rw [List.getElem?_eq_getElem hlt2] at hu; exact Option.some.inj hu
   have hul := h2 u hum
   have hl2 := hlen p
   have htk : ((ls.take (p + 1)).flatten) = ((ls.take p).flatten) ++ u := by rw [take_succ_of hu]; simp
   generalize ((ls.take p).flatten) = n at *
   have hb1 : n.length + u.length <= 4611686018427387904 := by omega
   repeat' first | (refine aopsJ_end (hK _ _ ?_); clear hK K) | (refine aopsD_end (hK _ ?_); clear hK K) | (refine aopsJ_go ?_; simp [hlt2, hgt, eOpS, hb1]; (try simp (disch := omega) only [wrap64]); (try first | (refine OpsJ.gen fun q hq => ?_; cases q <;> (try simp [hlt2, hgt, eOpS, hb1] at hq) <;> (try (have hh : True := hq; clear hh hq))))) | (refine aopsD_go ?_; simp [hlt2, hgt, eOpS, hb1]; (try simp (disch := omega) only [wrap64]); (try first | (refine OpsD.gen fun q hq => ?_; cases q <;> (try simp [hlt2, hgt, eOpS, hb1] at hq) <;> (try (have hh : True := hq; clear hh hq))))) | (refine aopsF_end (hK _ ?_); clear hK K) | (refine aopsF_go ?_; simp [hlt2, hgt, eOpS, hb1]; (try simp (disch := omega) only [wrap64]); (try first | (refine OpsF.gen fun q hq => ?_; cases q <;> (try simp [hlt2, hgt, eOpS, hb1] at hq) <;> (try (have hh : True := hq; clear hh hq))))) | (refine ⟨by omega, by omega, ?_⟩) | refine TJ.rs (fun _ => false) fun K hK => ?_ | refine TJ.rs1 (fun _ => false) fun K hK => ?_ | (refine And.intro (by omega) ?_) | refine TJ.cond rfl (fun hcnd => ?_) (fun hcnd => absurd hcnd (by decide)) | refine TJ.cond rfl (fun hcnd => absurd hcnd (by decide)) (fun hcnd => ?_) | refine TJ.seq ?_ | refine TJ.block ?_ | refine TJ.skip ?_ | refine TJ.exit ?_
   refine ⟨p + 1, [], by dsimp only; omega, by dsimp only; omega, ?_, by simp⟩
   simp (disch := omega) [wrap64, htk]
  ·have hp2 : p = ls.length := by omega
   subst hp2
   rw [List.take_length]
   generalize ls.flatten = Z at *
   repeat' first | (refine aopsJ_end (hK _ _ ?_); clear hK K) | (refine aopsD_end (hK _ ?_); clear hK K) | (refine aopsJ_go ?_; simp [hlt2]; (try first | (refine OpsJ.gen fun q hq => ?_; cases q <;> (try simp [hlt2] at hq) <;> (try (have hh : True := hq; clear hh hq))))) | (refine aopsD_go ?_; simp [hlt2]; (try first | (refine OpsD.gen fun q hq => ?_; cases q <;> (try simp [hlt2] at hq) <;> (try (have hh : True := hq; clear hh hq))))) | (refine aopsF_end (hK _ ?_); clear hK K) | (refine aopsF_go ?_; simp [hlt2]; (try first | (refine OpsF.gen fun q hq => ?_; cases q <;> (try simp [hlt2] at hq) <;> (try (have hh : True := hq; clear hh hq))))) | refine TJ.rs (fun _ => false) fun K hK => ?_ | refine TJ.rs1 (fun _ => false) fun K hK => ?_ | (refine And.intro (by omega) ?_) | refine TJ.cond rfl (fun hcnd => ?_) (fun hcnd => absurd hcnd (by decide)) | refine TJ.cond rfl (fun hcnd => absurd hcnd (by decide)) (fun hcnd => ?_) | refine TJ.seq ?_ | refine TJ.block ?_ | refine TJ.skip ?_ | refine TJ.exit ?_
   refine TJ.ret (DoneJ.ownR (k := 0) (n := Z.length) (rs := [.c (.own 0 Z.length)]) (rs' := fun v => [.c (.d (.raw v))]) (Or.inr rfl) (by simp [Try.results56]) rfl rfl (by simp) (mk_op Z) (L2 := []) (by simp) (fun v => by simp [DV.scal]) (fun v => ⟨[(opK 53 Z, v)], [], by rw [opK_unf]; simp, v, rfl, rfl⟩))
theorem concat_own (ls : List (List MOp)) (h1 : ls.length <= 1000) (h2 : ∀ l ∈ ls, l.length <= 1000000) : ACalls Try.prog 56 [.l (ls.map eOpS)] [] (.c (.own 0 ls.flatten.length)) [] [{ sz := 2, ety := 53, rows := ls.flatten.map eOp, wr := true }] :=
 ACalls.of_tree (by have h := concat_tree ls h1 h2; simp only [opK_unf] at h; exact h) (opRows_scal _) (fun ds Lc hmk => mk_op_inv hmk)

theorem one_own (k a : Int) : ACalls Try.prog 54 [.i k, .i a] [] (.c (.own 0 1)) [] [{ sz := 2, ety := 53, rows := [[.i k, .i a]], wr := true }] := by
 refine ACalls.of_body Try.func54 (by kernel_rfl) rfl (by kernel_rfl) (by simp [Try.ntmps54]) (by simp) ?_
 rw [Try.ntmps54]
 repeat' first | ((first | refine aops_end (hK _ ?_) | refine aopsD_end (hK _ ?_) | refine aopsF_end (hK _ ?_)); clear hK K) | ((first | refine aops_go ?_ | refine aopsD_go ?_ | refine aopsF_go ?_); simp; (try (refine gen fun q hq => ?_; cases q <;> (try simp at hq) <;> (try (have hh : True := hq; clear hh hq))))) | refine T.rs (id := 1) (fun i => i == 3) fun K hK => ?_ | refine T.rs1 (id := 1) (fun i => i == 3) fun K hK => ?_ | refine T.rs (id := 0) (fun _ => false) fun K hK => ?_ | refine T.rs1 (id := 0) (fun _ => false) fun K hK => ?_ | (refine ⟨by omega, ?_⟩) | refine T.ct rfl ?_ | refine T.cf rfl ?_ | refine T.seq ?_ | refine T.block ?_ | refine T.skip ?_ | refine T.exit ?_
 all_goals (refine T.ret (Done.own1 0 (Or.inr rfl) (ys := [_]) ?_ rfl ?_) <;> simp [resAs, Try.results54])
theorem one_ok (k a : Int) : ACalls Try.prog 54 [.i k, .i a] [] (.l (([⟨k, a⟩] : List MOp).map eOp)) [] [] := (one_own k a).sealed (by simp)
end Go.Proofs.Ytflmjilnecanhaa

namespace Go.Proofs.Ytflmjilnecanhaa
open Go Go.Av
attribute [local irreducible] T ACalls TX EX LX Draws Some_ ACallsX eTy eTm MTy.kind MTy.kids MTm.kind MTm.name MTm.num MTm.ty MTm.fr MTm.label MTm.kids
attribute [local simp] eTy_def eTm_def
set_option maxHeartbeats 16000000
set_option maxRecDepth 8000
attribute [local irreducible] TJ FCalls lastUp lastIx compM

theorem compile_lam (e : MTm) (names : List UInt8) (h5 : e.kind = 5) (hn : names.length <= 1000000) (hnl : e.name.length <= 1000) (hd : BaHead names e) (hl : e.kids.length <= 3) (hsm : ∀ u ∈ e.kids, (compM (names ++ e.name) u).length <= 1000000)
  (ih : ∀ u ∈ e.kids, ACalls Try.prog 32 [aTm u, .s (names ++ e.name)] [] (.l ((compM (names ++ e.name) u).map eOp)) [] []) :
  ACalls Try.prog 32 [aTm e, .s names] [] (.c (.own 0 (opNode e.kind (names.length - 1 - lastIx names (e.name.headD 0)) e.num (e.kids.map (compM (names ++ e.name)))).length)) [] [{ sz := 2, ety := 53, rows := (opNode e.kind (names.length - 1 - lastIx names (e.name.headD 0)) e.num (e.kids.map (compM (names ++ e.name)))).map eOp, wr := true }] := by
 have hnm : names.length + e.name.length <= 4611686018427387904 := by omega
 refine ACalls.of_body Try.func32 (by kernel_rfl) rfl (by kernel_rfl) (by simp [Try.ntmps32]) (by simp) ?_
 rw [Try.ntmps32]
 repeat' first | ((first | refine aops_end (hK _ ?_) | refine aopsD_end (hK _ ?_) | refine aopsF_end (hK _ ?_)); clear hK K) | ((first | refine aops_go ?_ | refine aopsD_go ?_ | refine aopsF_go ?_); simp [h5, hnm]; (try (refine gen fun q hq => ?_; cases q <;> (try simp [h5, hnm] at hq) <;> (try (have hh : True := hq; clear hh hq))))) | refine T.rd (id := 23) mixed (fun _ => false) [] (by kernel_rfl) fun K hK => ?_ | refine T.rd1 (id := 23) mixed (fun _ => false) [] (by kernel_rfl) fun K hK => ?_ | refine T.rd (id := 25) mixed (fun _ => false) [] (by kernel_rfl) fun K hK => ?_ | refine T.rd1 (id := 25) mixed (fun _ => false) [] (by kernel_rfl) fun K hK => ?_ | refine T.r0 fun K hK => ?_ | refine T.r1 fun K hK => ?_ | (refine ⟨by omega, ?_⟩) | refine T.ct rfl ?_ | refine T.cf rfl ?_ | refine T.seq ?_ | refine T.block ?_ | refine T.skip ?_ | refine T.exit ?_
 refine T.ownify 5 1 23 (by simp) ?_
 refine T.loopK (α := Nat × List (List CV)) [1, 2, 4, 6, 20, 21] (fun x => [(5, .c (.own 0 x.1)), (22, .i x.1)]) (fun _ => []) (fun x => x.2) (fun x _ => [{ sz := 1, ety := 23, rows := (e.kids.take x.1).map fun u => eOpS (compM (names ++ e.name) u), wr := true }]) (fun x => e.kids.length + 1 - x.1) (fun x => x.1 <= e.kids.length) (by simp; rfl) (fun x hx => ?_) (0, []) (by simp) (by simp) (by simp) (by simp)
 obtain ⟨p, G⟩ := x
 dsimp only at hx ⊢
 simp only [ups, List.set_cons_zero, List.set_cons_succ, List.cons_append, List.nil_append]
 by_cases hlt : p < e.kids.length
 ·obtain ⟨u, ht⟩ := get_lt hlt
  have htm : u ∈ e.kids := List.mem_of_getElem? ht
  have hgt : e.kids[p] = u := by rw [List.getElem?_eq_getElem hlt] at ht; exact Option.some.inj ht
  have hdr : e.kids.drop p = u :: e.kids.drop (p + 1) := by rw [List.drop_eq_getElem_cons hlt, hgt]
  have hu := ih u htm
  have hmin : min p e.kids.length = p := by omega
  have htk := take_succ_of ht
  generalize hcu : compM (names ++ e.name) u = cu at *
  repeat' first | ((first | refine aops_end (hK _ ?_) | refine aopsD_end (hK _ ?_) | refine aopsF_end (hK _ ?_)); clear hK K) | ((first | refine aops_go ?_ | refine aopsD_go ?_ | refine aopsF_go ?_); simp [hlt, hgt, hmin]; (try simp (disch := omega) only [wrap64]); (try (refine gen fun q hq => ?_; cases q <;> (try simp [hlt, hgt, hmin] at hq) <;> (try (have hh : True := hq; clear hh hq))))) | (refine wpcall_pure rfl (hu) ?_; simp [hlt, hgt, hmin]; (try simp (disch := omega) only [wrap64]); (try (refine gen fun q hq => ?_; cases q <;> (try simp [hlt, hgt, hmin] at hq) <;> (try (have hh : True := hq; clear hh hq))))) | (refine ⟨by omega, by omega, ?_⟩) | refine T.rd (id := 23) mixed (fun _ => false) [] (by kernel_rfl) fun K hK => ?_ | refine T.rd1 (id := 23) mixed (fun _ => false) [] (by kernel_rfl) fun K hK => ?_ | refine T.rd (id := 25) mixed (fun _ => false) [] (by kernel_rfl) fun K hK => ?_ | refine T.rd1 (id := 25) mixed (fun _ => false) [] (by kernel_rfl) fun K hK => ?_ | refine T.r0 fun K hK => ?_ | refine T.r1 fun K hK => ?_ | (refine ⟨by omega, ?_⟩) | refine T.ct rfl ?_ | refine T.cf rfl ?_ | refine T.seq ?_ | refine T.block ?_ | refine T.skip ?_ | refine T.exit ?_
  refine ⟨(p + 1, _), by dsimp only; omega, by dsimp only; omega, rfl, ?_, ?_⟩
  ·simp [htk, eOpS, hcu]
  ·simp (disch := omega) [wrap64]
 ·have hp' : p = e.kids.length := by omega
  subst hp'
  rw [List.take_length]
  refine T.seal 5 0 e.kids.length (r := { sz := 1, ety := 23, rows := e.kids.map fun u => eOpS (compM (names ++ e.name) u), wr := true }) (by simp) (by simp) (by simp) ?_
  obtain ⟨c, b, hnm1, hkids⟩ := hd.lam h5
  have hb := hsm b (by rw [hkids]; simp)
  rw [hkids] at hlt ⊢
  simp only [List.map_cons, List.map_nil, opNode, h5]
  generalize compM (names ++ e.name) b = B at *
  have ho1 := one_ok 4 (B.length + 1)
  have ho2 := one_ok 5 0
  have hc3 := concat_own [[⟨4, B.length + 1⟩], B, [⟨5, 0⟩]] (by simp) (by intro l hl; simp at hl; rcases hl with rfl | rfl | rfl <;> (try simp) <;> (try omega))
  repeat' first | ((first | refine aops_end (hK _ ?_) | refine aopsD_end (hK _ ?_) | refine aopsF_end (hK _ ?_)); clear hK K) | ((first | refine aops_go ?_ | refine aopsD_go ?_ | refine aopsF_go ?_); simp [hlt, h5, eOpS]; (try simp (disch := omega) only [wrap64]); (try (refine gen fun q hq => ?_; cases q <;> (try simp [hlt, h5, eOpS] at hq) <;> (try (have hh : True := hq; clear hh hq))))) | (refine wpcall_pure rfl (ho1) ?_; simp [hlt, h5, eOpS]; (try simp (disch := omega) only [wrap64]); (try (refine gen fun q hq => ?_; cases q <;> (try simp [hlt, h5, eOpS] at hq) <;> (try (have hh : True := hq; clear hh hq))))) | (refine wpcall_pure rfl (ho2) ?_; simp [hlt, h5, eOpS]; (try simp (disch := omega) only [wrap64]); (try (refine gen fun q hq => ?_; cases q <;> (try simp [hlt, h5, eOpS] at hq) <;> (try (have hh : True := hq; clear hh hq))))) | (refine wpcall_own rfl (hc3) ?_; simp [hlt, h5, eOpS]; (try simp (disch := omega) only [wrap64]); (try (refine gen fun q hq => ?_; cases q <;> (try simp [hlt, h5, eOpS] at hq) <;> (try (have hh : True := hq; clear hh hq))))) | refine T.rd (id := 23) mixed (fun _ => false) [13] (by kernel_rfl) fun K hK => ?_ | refine T.rd1 (id := 23) mixed (fun _ => false) [13] (by kernel_rfl) fun K hK => ?_ | refine T.rd (id := 25) mixed (fun _ => false) [] (by kernel_rfl) fun K hK => ?_ | refine T.rd1 (id := 25) mixed (fun _ => false) [] (by kernel_rfl) fun K hK => ?_ | refine T.r0 fun K hK => ?_ | refine T.r1 fun K hK => ?_ | (refine ⟨by omega, ?_⟩) | refine T.ct rfl ?_ | refine T.cf rfl ?_ | refine T.seq ?_ | refine T.block ?_ | refine T.skip ?_ | refine T.exit ?_
  all_goals (refine T.ret (Done.own1 1 (Or.inr rfl) (ys := [_]) ?_ rfl ?_) <;> simp [resAs, Try.results32])

theorem compile_var (e : MTm) (names : List UInt8) (h5 : e.kind = 1) (hn : names.length <= 1000000) (hnl : e.name.length <= 1000) (hd : BaHead names e) (hl : e.kids.length <= 3) (hsm : ∀ u ∈ e.kids, (compM (names) u).length <= 1000000)
  (ih : ∀ u ∈ e.kids, ACalls Try.prog 32 [aTm u, .s (names)] [] (.l ((compM (names) u).map eOp)) [] []) :
  ACalls Try.prog 32 [aTm e, .s names] [] (.c (.own 0 (opNode e.kind (names.length - 1 - lastIx names (e.name.headD 0)) e.num (e.kids.map (compM (names)))).length)) [] [{ sz := 2, ety := 53, rows := (opNode e.kind (names.length - 1 - lastIx names (e.name.headD 0)) e.num (e.kids.map (compM (names)))).map eOp, wr := true }] := by
 have hnm : names.length + e.name.length <= 4611686018427387904 := by omega
 refine ACalls.of_body Try.func32 (by kernel_rfl) rfl (by kernel_rfl) (by simp [Try.ntmps32]) (by simp) ?_
 rw [Try.ntmps32]
 repeat' first | ((first | refine aops_end (hK _ ?_) | refine aopsD_end (hK _ ?_) | refine aopsF_end (hK _ ?_)); clear hK K) | ((first | refine aops_go ?_ | refine aopsD_go ?_ | refine aopsF_go ?_); simp [h5, hnm]; (try (refine gen fun q hq => ?_; cases q <;> (try simp [h5, hnm] at hq) <;> (try (have hh : True := hq; clear hh hq))))) | refine T.rd (id := 23) mixed (fun _ => false) [] (by kernel_rfl) fun K hK => ?_ | refine T.rd1 (id := 23) mixed (fun _ => false) [] (by kernel_rfl) fun K hK => ?_ | refine T.rd (id := 25) mixed (fun _ => false) [] (by kernel_rfl) fun K hK => ?_ | refine T.rd1 (id := 25) mixed (fun _ => false) [] (by kernel_rfl) fun K hK => ?_ | refine T.r0 fun K hK => ?_ | refine T.r1 fun K hK => ?_ | (refine ⟨by omega, ?_⟩) | refine T.ct rfl ?_ | refine T.cf rfl ?_ | refine T.seq ?_ | refine T.block ?_ | refine T.skip ?_ | refine T.exit ?_
 refine T.ownify 5 1 23 (by simp) ?_
 refine T.loopK (α := Nat × List (List CV)) [1, 2, 4, 6, 20, 21] (fun x => [(5, .c (.own 0 x.1)), (22, .i x.1)]) (fun _ => []) (fun x => x.2) (fun x _ => [{ sz := 1, ety := 23, rows := (e.kids.take x.1).map fun u => eOpS (compM (names) u), wr := true }]) (fun x => e.kids.length + 1 - x.1) (fun x => x.1 <= e.kids.length) (by simp; rfl) (fun x hx => ?_) (0, []) (by simp) (by simp) (by simp) (by simp)
 obtain ⟨p, G⟩ := x
 dsimp only at hx ⊢
 simp only [ups, List.set_cons_zero, List.set_cons_succ, List.cons_append, List.nil_append]
 by_cases hlt : p < e.kids.length
 ·obtain ⟨u, ht⟩ := get_lt hlt
  have htm : u ∈ e.kids := List.mem_of_getElem? ht
  have hgt : e.kids[p] = u := by rw [List.getElem?_eq_getElem hlt] at ht; exact Option.some.inj ht
  have hdr : e.kids.drop p = u :: e.kids.drop (p + 1) := by rw [List.drop_eq_getElem_cons hlt, hgt]
  have hu := ih u htm
  have hmin : min p e.kids.length = p := by omega
  have htk := take_succ_of ht
  generalize hcu : compM (names) u = cu at *
  repeat' first | ((first | refine aops_end (hK _ ?_) | refine aopsD_end (hK _ ?_) | refine aopsF_end (hK _ ?_)); clear hK K) | ((first | refine aops_go ?_ | refine aopsD_go ?_ | refine aopsF_go ?_); simp [hlt, hgt, hmin]; (try simp (disch := omega) only [wrap64]); (try (refine gen fun q hq => ?_; cases q <;> (try simp [hlt, hgt, hmin] at hq) <;> (try (have hh : True := hq; clear hh hq))))) | (refine wpcall_pure rfl (hu) ?_; simp [hlt, hgt, hmin]; (try simp (disch := omega) only [wrap64]); (try (refine gen fun q hq => ?_; cases q <;> (try simp [hlt, hgt, hmin] at hq) <;> (try (have hh : True := hq; clear hh hq))))) | (refine ⟨by omega, by omega, ?_⟩) | refine T.rd (id := 23) mixed (fun _ => false) [] (by kernel_rfl) fun K hK => ?_ | refine T.rd1 (id := 23) mixed (fun _ => false) [] (by kernel_rfl) fun K hK => ?_ | refine T.rd (id := 25) mixed (fun _ => false) [] (by kernel_rfl) fun K hK => ?_ | refine T.rd1 (id := 25) mixed (fun _ => false) [] (by kernel_rfl) fun K hK => ?_ | refine T.r0 fun K hK => ?_ | refine T.r1 fun K hK => ?_ | (refine ⟨by omega, ?_⟩) | refine T.ct rfl ?_ | refine T.cf rfl ?_ | refine T.seq ?_ | refine T.block ?_ | refine T.skip ?_ | refine T.exit ?_
  refine ⟨(p + 1, _), by dsimp only; omega, by dsimp only; omega, rfl, ?_, ?_⟩
  ·simp [htk, eOpS, hcu]
  ·simp (disch := omega) [wrap64]
 ·have hp' : p = e.kids.length := by omega
  subst hp'
  rw [List.take_length]
  refine T.seal 5 0 e.kids.length (r := { sz := 1, ety := 23, rows := e.kids.map fun u => eOpS (compM (names) u), wr := true }) (by simp) (by simp) (by simp) ?_
  obtain ⟨c, hnm1, hcn, hkids⟩ := hd.var h5
  have hli := lastIndex_ok names c (by omega)
  have hlb : -1 <= lastIx names c /\ lastIx names c < names.length := by rw [lastIx]; exact lastUp_bound names c names.length
  rw [hkids] at hlt ⊢
  rw [hnm1]
  simp only [List.map_nil, opNode, h5, if_true, List.headD_cons]
  have ho := one_own 3 (names.length - 1 - lastIx names c)
  generalize lastIx names c = ix at *
  repeat' first | ((first | refine aops_end (hK _ ?_) | refine aopsD_end (hK _ ?_) | refine aopsF_end (hK _ ?_)); clear hK K) | ((first | refine aops_go ?_ | refine aopsD_go ?_ | refine aopsF_go ?_); simp [hlt, h5, hnm1]; (try simp (disch := omega) only [wrap64]); (try (refine gen fun q hq => ?_; cases q <;> (try simp [hlt, h5, hnm1] at hq) <;> (try (have hh : True := hq; clear hh hq))))) | (refine wpcall_pure rfl (hli) ?_; simp [hlt, h5, hnm1]; (try simp (disch := omega) only [wrap64]); (try (refine gen fun q hq => ?_; cases q <;> (try simp [hlt, h5, hnm1] at hq) <;> (try (have hh : True := hq; clear hh hq))))) | (refine wpcall_own rfl (ho) ?_; simp [hlt, h5, hnm1]; (try simp (disch := omega) only [wrap64]); (try (refine gen fun q hq => ?_; cases q <;> (try simp [hlt, h5, hnm1] at hq) <;> (try (have hh : True := hq; clear hh hq))))) | refine T.rd (id := 23) mixed (fun _ => false) [] (by kernel_rfl) fun K hK => ?_ | refine T.rd1 (id := 23) mixed (fun _ => false) [] (by kernel_rfl) fun K hK => ?_ | refine T.rd (id := 25) mixed (fun _ => false) [] (by kernel_rfl) fun K hK => ?_ | refine T.rd1 (id := 25) mixed (fun _ => false) [] (by kernel_rfl) fun K hK => ?_ | refine T.r0 fun K hK => ?_ | refine T.r1 fun K hK => ?_ | (refine ⟨by omega, ?_⟩) | refine T.ct rfl ?_ | refine T.cf rfl ?_ | refine T.seq ?_ | refine T.block ?_ | refine T.skip ?_ | refine T.exit ?_
  all_goals (refine T.ret (Done.own1 1 (Or.inr rfl) (ys := [_]) ?_ rfl ?_) <;> simp [resAs, Try.results32])

theorem compile_num (e : MTm) (names : List UInt8) (h5 : e.kind = 2) (hn : names.length <= 1000000) (hnl : e.name.length <= 1000) (hd : BaHead names e) (hl : e.kids.length <= 3) (hsm : ∀ u ∈ e.kids, (compM (names) u).length <= 1000000)
  (ih : ∀ u ∈ e.kids, ACalls Try.prog 32 [aTm u, .s (names)] [] (.l ((compM (names) u).map eOp)) [] []) :
  ACalls Try.prog 32 [aTm e, .s names] [] (.c (.own 0 (opNode e.kind (names.length - 1 - lastIx names (e.name.headD 0)) e.num (e.kids.map (compM (names)))).length)) [] [{ sz := 2, ety := 53, rows := (opNode e.kind (names.length - 1 - lastIx names (e.name.headD 0)) e.num (e.kids.map (compM (names)))).map eOp, wr := true }] := by
 have hnm : names.length + e.name.length <= 4611686018427387904 := by omega
 refine ACalls.of_body Try.func32 (by kernel_rfl) rfl (by kernel_rfl) (by simp [Try.ntmps32]) (by simp) ?_
 rw [Try.ntmps32]
 repeat' first | ((first | refine aops_end (hK _ ?_) | refine aopsD_end (hK _ ?_) | refine aopsF_end (hK _ ?_)); clear hK K) | ((first | refine aops_go ?_ | refine aopsD_go ?_ | refine aopsF_go ?_); simp [h5, hnm]; (try (refine gen fun q hq => ?_; cases q <;> (try simp [h5, hnm] at hq) <;> (try (have hh : True := hq; clear hh hq))))) | refine T.rd (id := 23) mixed (fun _ => false) [] (by kernel_rfl) fun K hK => ?_ | refine T.rd1 (id := 23) mixed (fun _ => false) [] (by kernel_rfl) fun K hK => ?_ | refine T.rd (id := 25) mixed (fun _ => false) [] (by kernel_rfl) fun K hK => ?_ | refine T.rd1 (id := 25) mixed (fun _ => false) [] (by kernel_rfl) fun K hK => ?_ | refine T.r0 fun K hK => ?_ | refine T.r1 fun K hK => ?_ | (refine ⟨by omega, ?_⟩) | refine T.ct rfl ?_ | refine T.cf rfl ?_ | refine T.seq ?_ | refine T.block ?_ | refine T.skip ?_ | refine T.exit ?_
 refine T.ownify 5 1 23 (by simp) ?_
 refine T.loopK (α := Nat × List (List CV)) [1, 2, 4, 6, 20, 21] (fun x => [(5, .c (.own 0 x.1)), (22, .i x.1)]) (fun _ => []) (fun x => x.2) (fun x _ => [{ sz := 1, ety := 23, rows := (e.kids.take x.1).map fun u => eOpS (compM (names) u), wr := true }]) (fun x => e.kids.length + 1 - x.1) (fun x => x.1 <= e.kids.length) (by simp; rfl) (fun x hx => ?_) (0, []) (by simp) (by simp) (by simp) (by simp)
 obtain ⟨p, G⟩ := x
 dsimp only at hx ⊢
 simp only [ups, List.set_cons_zero, List.set_cons_succ, List.cons_append, List.nil_append]
 by_cases hlt : p < e.kids.length
 ·obtain ⟨u, ht⟩ := get_lt hlt
  have htm : u ∈ e.kids := List.mem_of_getElem? ht
  have hgt : e.kids[p] = u := by rw [List.getElem?_eq_getElem hlt] at ht; exact Option.some.inj ht
  have hdr : e.kids.drop p = u :: e.kids.drop (p + 1) := by rw [List.drop_eq_getElem_cons hlt, hgt]
  have hu := ih u htm
  have hmin : min p e.kids.length = p := by omega
  have htk := take_succ_of ht
  generalize hcu : compM (names) u = cu at *
  repeat' first | ((first | refine aops_end (hK _ ?_) | refine aopsD_end (hK _ ?_) | refine aopsF_end (hK _ ?_)); clear hK K) | ((first | refine aops_go ?_ | refine aopsD_go ?_ | refine aopsF_go ?_); simp [hlt, hgt, hmin]; (try simp (disch := omega) only [wrap64]); (try (refine gen fun q hq => ?_; cases q <;> (try simp [hlt, hgt, hmin] at hq) <;> (try (have hh : True := hq; clear hh hq))))) | (refine wpcall_pure rfl (hu) ?_; simp [hlt, hgt, hmin]; (try simp (disch := omega) only [wrap64]); (try (refine gen fun q hq => ?_; cases q <;> (try simp [hlt, hgt, hmin] at hq) <;> (try (have hh : True := hq; clear hh hq))))) | (refine ⟨by omega, by omega, ?_⟩) | refine T.rd (id := 23) mixed (fun _ => false) [] (by kernel_rfl) fun K hK => ?_ | refine T.rd1 (id := 23) mixed (fun _ => false) [] (by kernel_rfl) fun K hK => ?_ | refine T.rd (id := 25) mixed (fun _ => false) [] (by kernel_rfl) fun K hK => ?_ | refine T.rd1 (id := 25) mixed (fun _ => false) [] (by kernel_rfl) fun K hK => ?_ | refine T.r0 fun K hK => ?_ | refine T.r1 fun K hK => ?_ | (refine ⟨by omega, ?_⟩) | refine T.ct rfl ?_ | refine T.cf rfl ?_ | refine T.seq ?_ | refine T.block ?_ | refine T.skip ?_ | refine T.exit ?_
  refine ⟨(p + 1, _), by dsimp only; omega, by dsimp only; omega, rfl, ?_, ?_⟩
  ·simp [htk, eOpS, hcu]
  ·simp (disch := omega) [wrap64]
 ·have hp' : p = e.kids.length := by omega
  subst hp'
  rw [List.take_length]
  refine T.seal 5 0 e.kids.length (r := { sz := 1, ety := 23, rows := e.kids.map fun u => eOpS (compM (names) u), wr := true }) (by simp) (by simp) (by simp) ?_
  have hkids := hd.leaf (by omega)
  rw [hkids] at hlt ⊢
  simp [opNode, h5]
  have ho := one_own 1 e.num
  repeat' first | ((first | refine aops_end (hK _ ?_) | refine aopsD_end (hK _ ?_) | refine aopsF_end (hK _ ?_)); clear hK K) | ((first | refine aops_go ?_ | refine aopsD_go ?_ | refine aopsF_go ?_); simp [hlt, h5]; (try simp (disch := omega) only [wrap64]); (try (refine gen fun q hq => ?_; cases q <;> (try simp [hlt, h5] at hq) <;> (try (have hh : True := hq; clear hh hq))))) | (refine wpcall_own rfl (ho) ?_; simp [hlt, h5]; (try simp (disch := omega) only [wrap64]); (try (refine gen fun q hq => ?_; cases q <;> (try simp [hlt, h5] at hq) <;> (try (have hh : True := hq; clear hh hq))))) | refine T.rd (id := 23) mixed (fun _ => false) [] (by kernel_rfl) fun K hK => ?_ | refine T.rd1 (id := 23) mixed (fun _ => false) [] (by kernel_rfl) fun K hK => ?_ | refine T.rd (id := 25) mixed (fun _ => false) [] (by kernel_rfl) fun K hK => ?_ | refine T.rd1 (id := 25) mixed (fun _ => false) [] (by kernel_rfl) fun K hK => ?_ | refine T.r0 fun K hK => ?_ | refine T.r1 fun K hK => ?_ | (refine ⟨by omega, ?_⟩) | refine T.ct rfl ?_ | refine T.cf rfl ?_ | refine T.seq ?_ | refine T.block ?_ | refine T.skip ?_ | refine T.exit ?_
  all_goals (refine T.ret (Done.own1 1 (Or.inr rfl) (ys := [_]) ?_ rfl ?_) <;> simp [resAs, Try.results32])

theorem compile_tru (e : MTm) (names : List UInt8) (h5 : e.kind = 3) (hn : names.length <= 1000000) (hnl : e.name.length <= 1000) (hd : BaHead names e) (hl : e.kids.length <= 3) (hsm : ∀ u ∈ e.kids, (compM (names) u).length <= 1000000)
  (ih : ∀ u ∈ e.kids, ACalls Try.prog 32 [aTm u, .s (names)] [] (.l ((compM (names) u).map eOp)) [] []) :
  ACalls Try.prog 32 [aTm e, .s names] [] (.c (.own 0 (opNode e.kind (names.length - 1 - lastIx names (e.name.headD 0)) e.num (e.kids.map (compM (names)))).length)) [] [{ sz := 2, ety := 53, rows := (opNode e.kind (names.length - 1 - lastIx names (e.name.headD 0)) e.num (e.kids.map (compM (names)))).map eOp, wr := true }] := by
 have hnm : names.length + e.name.length <= 4611686018427387904 := by omega
 refine ACalls.of_body Try.func32 (by kernel_rfl) rfl (by kernel_rfl) (by simp [Try.ntmps32]) (by simp) ?_
 rw [Try.ntmps32]
 repeat' first | ((first | refine aops_end (hK _ ?_) | refine aopsD_end (hK _ ?_) | refine aopsF_end (hK _ ?_)); clear hK K) | ((first | refine aops_go ?_ | refine aopsD_go ?_ | refine aopsF_go ?_); simp [h5, hnm]; (try (refine gen fun q hq => ?_; cases q <;> (try simp [h5, hnm] at hq) <;> (try (have hh : True := hq; clear hh hq))))) | refine T.rd (id := 23) mixed (fun _ => false) [] (by kernel_rfl) fun K hK => ?_ | refine T.rd1 (id := 23) mixed (fun _ => false) [] (by kernel_rfl) fun K hK => ?_ | refine T.rd (id := 25) mixed (fun _ => false) [] (by kernel_rfl) fun K hK => ?_ | refine T.rd1 (id := 25) mixed (fun _ => false) [] (by kernel_rfl) fun K hK => ?_ | refine T.r0 fun K hK => ?_ | refine T.r1 fun K hK => ?_ | (refine ⟨by omega, ?_⟩) | refine T.ct rfl ?_ | refine T.cf rfl ?_ | refine T.seq ?_ | refine T.block ?_ | refine T.skip ?_ | refine T.exit ?_
 refine T.ownify 5 1 23 (by simp) ?_
 refine T.loopK (α := Nat × List (List CV)) [1, 2, 4, 6, 20, 21] (fun x => [(5, .c (.own 0 x.1)), (22, .i x.1)]) (fun _ => []) (fun x => x.2) (fun x _ => [{ sz := 1, ety := 23, rows := (e.kids.take x.1).map fun u => eOpS (compM (names) u), wr := true }]) (fun x => e.kids.length + 1 - x.1) (fun x => x.1 <= e.kids.length) (by simp; rfl) (fun x hx => ?_) (0, []) (by simp) (by simp) (by simp) (by simp)
 obtain ⟨p, G⟩ := x
 dsimp only at hx ⊢
 simp only [ups, List.set_cons_zero, List.set_cons_succ, List.cons_append, List.nil_append]
 by_cases hlt : p < e.kids.length
 ·obtain ⟨u, ht⟩ := get_lt hlt
  have htm : u ∈ e.kids := List.mem_of_getElem? ht
  have hgt : e.kids[p] = u := by rw [List.getElem?_eq_getElem hlt] at ht; exact Option.some.inj ht
  have hdr : e.kids.drop p = u :: e.kids.drop (p + 1) := by rw [List.drop_eq_getElem_cons hlt, hgt]
  have hu := ih u htm
  have hmin : min p e.kids.length = p := by omega
  have htk := take_succ_of ht
  generalize hcu : compM (names) u = cu at *
  repeat' first | ((first | refine aops_end (hK _ ?_) | refine aopsD_end (hK _ ?_) | refine aopsF_end (hK _ ?_)); clear hK K) | ((first | refine aops_go ?_ | refine aopsD_go ?_ | refine aopsF_go ?_); simp [hlt, hgt, hmin]; (try simp (disch := omega) only [wrap64]); (try (refine gen fun q hq => ?_; cases q <;> (try simp [hlt, hgt, hmin] at hq) <;> (try (have hh : True := hq; clear hh hq))))) | (refine wpcall_pure rfl (hu) ?_; simp [hlt, hgt, hmin]; (try simp (disch := omega) only [wrap64]); (try (refine gen fun q hq => ?_; cases q <;> (try simp [hlt, hgt, hmin] at hq) <;> (try (have hh : True := hq; clear hh hq))))) | (refine ⟨by omega, by omega, ?_⟩) | refine T.rd (id := 23) mixed (fun _ => false) [] (by kernel_rfl) fun K hK => ?_ | refine T.rd1 (id := 23) mixed (fun _ => false) [] (by kernel_rfl) fun K hK => ?_ | refine T.rd (id := 25) mixed (fun _ => false) [] (by kernel_rfl) fun K hK => ?_ | refine T.rd1 (id := 25) mixed (fun _ => false) [] (by kernel_rfl) fun K hK => ?_ | refine T.r0 fun K hK => ?_ | refine T.r1 fun K hK => ?_ | (refine ⟨by omega, ?_⟩) | refine T.ct rfl ?_ | refine T.cf rfl ?_ | refine T.seq ?_ | refine T.block ?_ | refine T.skip ?_ | refine T.exit ?_
  refine ⟨(p + 1, _), by dsimp only; omega, by dsimp only; omega, rfl, ?_, ?_⟩
  ·simp [htk, eOpS, hcu]
  ·simp (disch := omega) [wrap64]
 ·have hp' : p = e.kids.length := by omega
  subst hp'
  rw [List.take_length]
  refine T.seal 5 0 e.kids.length (r := { sz := 1, ety := 23, rows := e.kids.map fun u => eOpS (compM (names) u), wr := true }) (by simp) (by simp) (by simp) ?_
  have hkids := hd.leaf (by omega)
  rw [hkids] at hlt ⊢
  simp [opNode, h5]
  have ho := one_own 2 1
  repeat' first | ((first | refine aops_end (hK _ ?_) | refine aopsD_end (hK _ ?_) | refine aopsF_end (hK _ ?_)); clear hK K) | ((first | refine aops_go ?_ | refine aopsD_go ?_ | refine aopsF_go ?_); simp [hlt, h5]; (try simp (disch := omega) only [wrap64]); (try (refine gen fun q hq => ?_; cases q <;> (try simp [hlt, h5] at hq) <;> (try (have hh : True := hq; clear hh hq))))) | (refine wpcall_own rfl (ho) ?_; simp [hlt, h5]; (try simp (disch := omega) only [wrap64]); (try (refine gen fun q hq => ?_; cases q <;> (try simp [hlt, h5] at hq) <;> (try (have hh : True := hq; clear hh hq))))) | refine T.rd (id := 23) mixed (fun _ => false) [] (by kernel_rfl) fun K hK => ?_ | refine T.rd1 (id := 23) mixed (fun _ => false) [] (by kernel_rfl) fun K hK => ?_ | refine T.rd (id := 25) mixed (fun _ => false) [] (by kernel_rfl) fun K hK => ?_ | refine T.rd1 (id := 25) mixed (fun _ => false) [] (by kernel_rfl) fun K hK => ?_ | refine T.r0 fun K hK => ?_ | refine T.r1 fun K hK => ?_ | (refine ⟨by omega, ?_⟩) | refine T.ct rfl ?_ | refine T.cf rfl ?_ | refine T.seq ?_ | refine T.block ?_ | refine T.skip ?_ | refine T.exit ?_
  all_goals (refine T.ret (Done.own1 1 (Or.inr rfl) (ys := [_]) ?_ rfl ?_) <;> simp [resAs, Try.results32])

theorem compile_fls (e : MTm) (names : List UInt8) (h5 : e.kind = 4) (hn : names.length <= 1000000) (hnl : e.name.length <= 1000) (hd : BaHead names e) (hl : e.kids.length <= 3) (hsm : ∀ u ∈ e.kids, (compM (names) u).length <= 1000000)
  (ih : ∀ u ∈ e.kids, ACalls Try.prog 32 [aTm u, .s (names)] [] (.l ((compM (names) u).map eOp)) [] []) :
  ACalls Try.prog 32 [aTm e, .s names] [] (.c (.own 0 (opNode e.kind (names.length - 1 - lastIx names (e.name.headD 0)) e.num (e.kids.map (compM (names)))).length)) [] [{ sz := 2, ety := 53, rows := (opNode e.kind (names.length - 1 - lastIx names (e.name.headD 0)) e.num (e.kids.map (compM (names)))).map eOp, wr := true }] := by
 have hnm : names.length + e.name.length <= 4611686018427387904 := by omega
 refine ACalls.of_body Try.func32 (by kernel_rfl) rfl (by kernel_rfl) (by simp [Try.ntmps32]) (by simp) ?_
 rw [Try.ntmps32]
 repeat' first | ((first | refine aops_end (hK _ ?_) | refine aopsD_end (hK _ ?_) | refine aopsF_end (hK _ ?_)); clear hK K) | ((first | refine aops_go ?_ | refine aopsD_go ?_ | refine aopsF_go ?_); simp [h5, hnm]; (try (refine gen fun q hq => ?_; cases q <;> (try simp [h5, hnm] at hq) <;> (try (have hh : True := hq; clear hh hq))))) | refine T.rd (id := 23) mixed (fun _ => false) [] (by kernel_rfl) fun K hK => ?_ | refine T.rd1 (id := 23) mixed (fun _ => false) [] (by kernel_rfl) fun K hK => ?_ | refine T.rd (id := 25) mixed (fun _ => false) [] (by kernel_rfl) fun K hK => ?_ | refine T.rd1 (id := 25) mixed (fun _ => false) [] (by kernel_rfl) fun K hK => ?_ | refine T.r0 fun K hK => ?_ | refine T.r1 fun K hK => ?_ | (refine ⟨by omega, ?_⟩) | refine T.ct rfl ?_ | refine T.cf rfl ?_ | refine T.seq ?_ | refine T.block ?_ | refine T.skip ?_ | refine T.exit ?_
 refine T.ownify 5 1 23 (by simp) ?_
 refine T.loopK (α := Nat × List (List CV)) [1, 2, 4, 6, 20, 21] (fun x => [(5, .c (.own 0 x.1)), (22, .i x.1)]) (fun _ => []) (fun x => x.2) (fun x _ => [{ sz := 1, ety := 23, rows := (e.kids.take x.1).map fun u => eOpS (compM (names) u), wr := true }]) (fun x => e.kids.length + 1 - x.1) (fun x => x.1 <= e.kids.length) (by simp; rfl) (fun x hx => ?_) (0, []) (by simp) (by simp) (by simp) (by simp)
 obtain ⟨p, G⟩ := x
 dsimp only at hx ⊢
 simp only [ups, List.set_cons_zero, List.set_cons_succ, List.cons_append, List.nil_append]
 by_cases hlt : p < e.kids.length
 ·obtain ⟨u, ht⟩ := get_lt hlt
  have htm : u ∈ e.kids := List.mem_of_getElem? ht
  have hgt : e.kids[p] = u := by rw [List.getElem?_eq_getElem hlt] at ht; exact Option.some.inj ht
  have hdr : e.kids.drop p = u :: e.kids.drop (p + 1) := by rw [List.drop_eq_getElem_cons hlt, hgt]
  have hu := ih u htm
  have hmin : min p e.kids.length = p := by omega
  have htk := take_succ_of ht
  generalize hcu : compM (names) u = cu at *
  repeat' first | ((first | refine aops_end (hK _ ?_) | refine aopsD_end (hK _ ?_) | refine aopsF_end (hK _ ?_)); clear hK K) | ((first | refine aops_go ?_ | refine aopsD_go ?_ | refine aopsF_go ?_); simp [hlt, hgt, hmin]; (try simp (disch := omega) only [wrap64]); (try (refine gen fun q hq => ?_; cases q <;> (try simp [hlt, hgt, hmin] at hq) <;> (try (have hh : True := hq; clear hh hq))))) | (refine wpcall_pure rfl (hu) ?_; simp [hlt, hgt, hmin]; (try simp (disch := omega) only [wrap64]); (try (refine gen fun q hq => ?_; cases q <;> (try simp [hlt, hgt, hmin] at hq) <;> (try (have hh : True := hq; clear hh hq))))) | (refine ⟨by omega, by omega, ?_⟩) | refine T.rd (id := 23) mixed (fun _ => false) [] (by kernel_rfl) fun K hK => ?_ | refine T.rd1 (id := 23) mixed (fun _ => false) [] (by kernel_rfl) fun K hK => ?_ | refine T.rd (id := 25) mixed (fun _ => false) [] (by kernel_rfl) fun K hK => ?_ | refine T.rd1 (id := 25) mixed (fun _ => false) [] (by kernel_rfl) fun K hK => ?_ | refine T.r0 fun K hK => ?_ | refine T.r1 fun K hK => ?_ | (refine ⟨by omega, ?_⟩) | refine T.ct rfl ?_ | refine T.cf rfl ?_ | refine T.seq ?_ | refine T.block ?_ | refine T.skip ?_ | refine T.exit ?_
  refine ⟨(p + 1, _), by dsimp only; omega, by dsimp only; omega, rfl, ?_, ?_⟩
  ·simp [htk, eOpS, hcu]
  ·simp (disch := omega) [wrap64]
 ·have hp' : p = e.kids.length := by omega
  subst hp'
  rw [List.take_length]
  refine T.seal 5 0 e.kids.length (r := { sz := 1, ety := 23, rows := e.kids.map fun u => eOpS (compM (names) u), wr := true }) (by simp) (by simp) (by simp) ?_
  have hkids := hd.leaf (by omega)
  rw [hkids] at hlt ⊢
  simp [opNode, h5]
  have ho := one_own 2 0
  repeat' first | ((first | refine aops_end (hK _ ?_) | refine aopsD_end (hK _ ?_) | refine aopsF_end (hK _ ?_)); clear hK K) | ((first | refine aops_go ?_ | refine aopsD_go ?_ | refine aopsF_go ?_); simp [hlt, h5]; (try simp (disch := omega) only [wrap64]); (try (refine gen fun q hq => ?_; cases q <;> (try simp [hlt, h5] at hq) <;> (try (have hh : True := hq; clear hh hq))))) | (refine wpcall_own rfl (ho) ?_; simp [hlt, h5]; (try simp (disch := omega) only [wrap64]); (try (refine gen fun q hq => ?_; cases q <;> (try simp [hlt, h5] at hq) <;> (try (have hh : True := hq; clear hh hq))))) | refine T.rd (id := 23) mixed (fun _ => false) [] (by kernel_rfl) fun K hK => ?_ | refine T.rd1 (id := 23) mixed (fun _ => false) [] (by kernel_rfl) fun K hK => ?_ | refine T.rd (id := 25) mixed (fun _ => false) [] (by kernel_rfl) fun K hK => ?_ | refine T.rd1 (id := 25) mixed (fun _ => false) [] (by kernel_rfl) fun K hK => ?_ | refine T.r0 fun K hK => ?_ | refine T.r1 fun K hK => ?_ | (refine ⟨by omega, ?_⟩) | refine T.ct rfl ?_ | refine T.cf rfl ?_ | refine T.seq ?_ | refine T.block ?_ | refine T.skip ?_ | refine T.exit ?_
  all_goals (refine T.ret (Done.own1 1 (Or.inr rfl) (ys := [_]) ?_ rfl ?_) <;> simp [resAs, Try.results32])

theorem compile_ite (e : MTm) (names : List UInt8) (h5 : e.kind = 9) (hn : names.length <= 1000000) (hnl : e.name.length <= 1000) (hd : BaHead names e) (hl : e.kids.length <= 3) (hsm : ∀ u ∈ e.kids, (compM (names) u).length <= 1000000)
  (ih : ∀ u ∈ e.kids, ACalls Try.prog 32 [aTm u, .s (names)] [] (.l ((compM (names) u).map eOp)) [] []) :
  ACalls Try.prog 32 [aTm e, .s names] [] (.c (.own 0 (opNode e.kind (names.length - 1 - lastIx names (e.name.headD 0)) e.num (e.kids.map (compM (names)))).length)) [] [{ sz := 2, ety := 53, rows := (opNode e.kind (names.length - 1 - lastIx names (e.name.headD 0)) e.num (e.kids.map (compM (names)))).map eOp, wr := true }] := by
 have hnm : names.length + e.name.length <= 4611686018427387904 := by omega
 refine ACalls.of_body Try.func32 (by kernel_rfl) rfl (by kernel_rfl) (by simp [Try.ntmps32]) (by simp) ?_
 rw [Try.ntmps32]
 repeat' first | ((first | refine aops_end (hK _ ?_) | refine aopsD_end (hK _ ?_) | refine aopsF_end (hK _ ?_)); clear hK K) | ((first | refine aops_go ?_ | refine aopsD_go ?_ | refine aopsF_go ?_); simp [h5, hnm]; (try (refine gen fun q hq => ?_; cases q <;> (try simp [h5, hnm] at hq) <;> (try (have hh : True := hq; clear hh hq))))) | refine T.rd (id := 23) mixed (fun _ => false) [] (by kernel_rfl) fun K hK => ?_ | refine T.rd1 (id := 23) mixed (fun _ => false) [] (by kernel_rfl) fun K hK => ?_ | refine T.rd (id := 25) mixed (fun _ => false) [] (by kernel_rfl) fun K hK => ?_ | refine T.rd1 (id := 25) mixed (fun _ => false) [] (by kernel_rfl) fun K hK => ?_ | refine T.r0 fun K hK => ?_ | refine T.r1 fun K hK => ?_ | (refine ⟨by omega, ?_⟩) | refine T.ct rfl ?_ | refine T.cf rfl ?_ | refine T.seq ?_ | refine T.block ?_ | refine T.skip ?_ | refine T.exit ?_
 refine T.ownify 5 1 23 (by simp) ?_
 refine T.loopK (α := Nat × List (List CV)) [1, 2, 4, 6, 20, 21] (fun x => [(5, .c (.own 0 x.1)), (22, .i x.1)]) (fun _ => []) (fun x => x.2) (fun x _ => [{ sz := 1, ety := 23, rows := (e.kids.take x.1).map fun u => eOpS (compM (names) u), wr := true }]) (fun x => e.kids.length + 1 - x.1) (fun x => x.1 <= e.kids.length) (by simp; rfl) (fun x hx => ?_) (0, []) (by simp) (by simp) (by simp) (by simp)
 obtain ⟨p, G⟩ := x
 dsimp only at hx ⊢
 simp only [ups, List.set_cons_zero, List.set_cons_succ, List.cons_append, List.nil_append]
 by_cases hlt : p < e.kids.length
 ·obtain ⟨u, ht⟩ := get_lt hlt
  have htm : u ∈ e.kids := List.mem_of_getElem? ht
  have hgt : e.kids[p] = u := by rw [List.getElem?_eq_getElem hlt] at ht; exact Option.some.inj ht
  have hdr : e.kids.drop p = u :: e.kids.drop (p + 1) := by rw [List.drop_eq_getElem_cons hlt, hgt]
  have hu := ih u htm
  have hmin : min p e.kids.length = p := by omega
  have htk := take_succ_of ht
  generalize hcu : compM (names) u = cu at *
  repeat' first | ((first | refine aops_end (hK _ ?_) | refine aopsD_end (hK _ ?_) | refine aopsF_end (hK _ ?_)); clear hK K) | ((first | refine aops_go ?_ | refine aopsD_go ?_ | refine aopsF_go ?_); simp [hlt, hgt, hmin]; (try simp (disch := omega) only [wrap64]); (try (refine gen fun q hq => ?_; cases q <;> (try simp [hlt, hgt, hmin] at hq) <;> (try (have hh : True := hq; clear hh hq))))) | (refine wpcall_pure rfl (hu) ?_; simp [hlt, hgt, hmin]; (try simp (disch := omega) only [wrap64]); (try (refine gen fun q hq => ?_; cases q <;> (try simp [hlt, hgt, hmin] at hq) <;> (try (have hh : True := hq; clear hh hq))))) | (refine ⟨by omega, by omega, ?_⟩) | refine T.rd (id := 23) mixed (fun _ => false) [] (by kernel_rfl) fun K hK => ?_ | refine T.rd1 (id := 23) mixed (fun _ => false) [] (by kernel_rfl) fun K hK => ?_ | refine T.rd (id := 25) mixed (fun _ => false) [] (by kernel_rfl) fun K hK => ?_ | refine T.rd1 (id := 25) mixed (fun _ => false) [] (by kernel_rfl) fun K hK => ?_ | refine T.r0 fun K hK => ?_ | refine T.r1 fun K hK => ?_ | (refine ⟨by omega, ?_⟩) | refine T.ct rfl ?_ | refine T.cf rfl ?_ | refine T.seq ?_ | refine T.block ?_ | refine T.skip ?_ | refine T.exit ?_
  refine ⟨(p + 1, _), by dsimp only; omega, by dsimp only; omega, rfl, ?_, ?_⟩
  ·simp [htk, eOpS, hcu]
  ·simp (disch := omega) [wrap64]
 ·have hp' : p = e.kids.length := by omega
  subst hp'
  rw [List.take_length]
  refine T.seal 5 0 e.kids.length (r := { sz := 1, ety := 23, rows := e.kids.map fun u => eOpS (compM (names) u), wr := true }) (by simp) (by simp) (by simp) ?_
  obtain ⟨a, b, c, hkids⟩ := hd.ite h5
  have ha := hsm a (by rw [hkids]; simp)
  have hb := hsm b (by rw [hkids]; simp)
  have hc := hsm c (by rw [hkids]; simp)
  rw [hkids] at hlt ⊢
  simp only [List.map_cons, List.map_nil, opNode, h5]
  generalize compM names a = A1 at *
  generalize compM names b = B1 at *
  generalize compM names c = C1 at *
  have ho1 := one_ok 9 (B1.length + 1)
  have ho2 := one_ok 10 C1.length
  have hc3 := concat_own [A1, [⟨9, B1.length + 1⟩], B1, [⟨10, C1.length⟩], C1] (by simp) (by intro l hl; simp at hl; rcases hl with rfl | rfl | rfl | rfl | rfl <;> (try simp) <;> (try omega))
  repeat' first | ((first | refine aops_end (hK _ ?_) | refine aopsD_end (hK _ ?_) | refine aopsF_end (hK _ ?_)); clear hK K) | ((first | refine aops_go ?_ | refine aopsD_go ?_ | refine aopsF_go ?_); simp [hlt, h5, eOpS]; (try simp (disch := omega) only [wrap64]); (try (refine gen fun q hq => ?_; cases q <;> (try simp [hlt, h5, eOpS] at hq) <;> (try (have hh : True := hq; clear hh hq))))) | (refine wpcall_pure rfl (ho1) ?_; simp [hlt, h5, eOpS]; (try simp (disch := omega) only [wrap64]); (try (refine gen fun q hq => ?_; cases q <;> (try simp [hlt, h5, eOpS] at hq) <;> (try (have hh : True := hq; clear hh hq))))) | (refine wpcall_pure rfl (ho2) ?_; simp [hlt, h5, eOpS]; (try simp (disch := omega) only [wrap64]); (try (refine gen fun q hq => ?_; cases q <;> (try simp [hlt, h5, eOpS] at hq) <;> (try (have hh : True := hq; clear hh hq))))) | (refine wpcall_own rfl (hc3) ?_; simp [hlt, h5, eOpS]; (try simp (disch := omega) only [wrap64]); (try (refine gen fun q hq => ?_; cases q <;> (try simp [hlt, h5, eOpS] at hq) <;> (try (have hh : True := hq; clear hh hq))))) | refine T.rd (id := 23) mixed (fun _ => false) [] (by kernel_rfl) fun K hK => ?_ | refine T.rd1 (id := 23) mixed (fun _ => false) [] (by kernel_rfl) fun K hK => ?_ | refine T.rd (id := 25) mixed (fun _ => false) [23] (by kernel_rfl) fun K hK => ?_ | refine T.rd1 (id := 25) mixed (fun _ => false) [23] (by kernel_rfl) fun K hK => ?_ | refine T.r0 fun K hK => ?_ | refine T.r1 fun K hK => ?_ | (refine ⟨by omega, ?_⟩) | refine T.ct rfl ?_ | refine T.cf rfl ?_ | refine T.seq ?_ | refine T.block ?_ | refine T.skip ?_ | refine T.exit ?_
  all_goals (refine T.ret (Done.own1 1 (Or.inr rfl) (ys := [_]) ?_ rfl ?_) <;> simp [resAs, Try.results32])

theorem compile_app (e : MTm) (names : List UInt8) (h5 : e.kind = 6) (hn : names.length <= 1000000) (hnl : e.name.length <= 1000) (hd : BaHead names e) (hl : e.kids.length <= 3) (hsm : ∀ u ∈ e.kids, (compM (names) u).length <= 1000000)
  (ih : ∀ u ∈ e.kids, ACalls Try.prog 32 [aTm u, .s (names)] [] (.l ((compM (names) u).map eOp)) [] []) :
  ACalls Try.prog 32 [aTm e, .s names] [] (.c (.own 0 (opNode e.kind (names.length - 1 - lastIx names (e.name.headD 0)) e.num (e.kids.map (compM (names)))).length)) [] [{ sz := 2, ety := 53, rows := (opNode e.kind (names.length - 1 - lastIx names (e.name.headD 0)) e.num (e.kids.map (compM (names)))).map eOp, wr := true }] := by
 have hnm : names.length + e.name.length <= 4611686018427387904 := by omega
 refine ACalls.of_body Try.func32 (by kernel_rfl) rfl (by kernel_rfl) (by simp [Try.ntmps32]) (by simp) ?_
 rw [Try.ntmps32]
 repeat' first | ((first | refine aops_end (hK _ ?_) | refine aopsD_end (hK _ ?_) | refine aopsF_end (hK _ ?_)); clear hK K) | ((first | refine aops_go ?_ | refine aopsD_go ?_ | refine aopsF_go ?_); simp [h5, hnm]; (try (refine gen fun q hq => ?_; cases q <;> (try simp [h5, hnm] at hq) <;> (try (have hh : True := hq; clear hh hq))))) | refine T.rd (id := 23) mixed (fun _ => false) [] (by kernel_rfl) fun K hK => ?_ | refine T.rd1 (id := 23) mixed (fun _ => false) [] (by kernel_rfl) fun K hK => ?_ | refine T.rd (id := 25) mixed (fun _ => false) [] (by kernel_rfl) fun K hK => ?_ | refine T.rd1 (id := 25) mixed (fun _ => false) [] (by kernel_rfl) fun K hK => ?_ | refine T.r0 fun K hK => ?_ | refine T.r1 fun K hK => ?_ | (refine ⟨by omega, ?_⟩) | refine T.ct rfl ?_ | refine T.cf rfl ?_ | refine T.seq ?_ | refine T.block ?_ | refine T.skip ?_ | refine T.exit ?_
 refine T.ownify 5 1 23 (by simp) ?_
 refine T.loopK (α := Nat × List (List CV)) [1, 2, 4, 6, 20, 21] (fun x => [(5, .c (.own 0 x.1)), (22, .i x.1)]) (fun _ => []) (fun x => x.2) (fun x _ => [{ sz := 1, ety := 23, rows := (e.kids.take x.1).map fun u => eOpS (compM (names) u), wr := true }]) (fun x => e.kids.length + 1 - x.1) (fun x => x.1 <= e.kids.length) (by simp; rfl) (fun x hx => ?_) (0, []) (by simp) (by simp) (by simp) (by simp)
 obtain ⟨p, G⟩ := x
 dsimp only at hx ⊢
 simp only [ups, List.set_cons_zero, List.set_cons_succ, List.cons_append, List.nil_append]
 by_cases hlt : p < e.kids.length
 ·obtain ⟨u, ht⟩ := get_lt hlt
  have htm : u ∈ e.kids := List.mem_of_getElem? ht
  have hgt : e.kids[p] = u := by rw [List.getElem?_eq_getElem hlt] at ht; exact Option.some.inj ht
  have hdr : e.kids.drop p = u :: e.kids.drop (p + 1) := by rw [List.drop_eq_getElem_cons hlt, hgt]
  have hu := ih u htm
  have hmin : min p e.kids.length = p := by omega
  have htk := take_succ_of ht
  generalize hcu : compM (names) u = cu at *
  repeat' first | ((first | refine aops_end (hK _ ?_) | refine aopsD_end (hK _ ?_) | refine aopsF_end (hK _ ?_)); clear hK K) | ((first | refine aops_go ?_ | refine aopsD_go ?_ | refine aopsF_go ?_); simp [hlt, hgt, hmin]; (try simp (disch := omega) only [wrap64]); (try (refine gen fun q hq => ?_; cases q <;> (try simp [hlt, hgt, hmin] at hq) <;> (try (have hh : True := hq; clear hh hq))))) | (refine wpcall_pure rfl (hu) ?_; simp [hlt, hgt, hmin]; (try simp (disch := omega) only [wrap64]); (try (refine gen fun q hq => ?_; cases q <;> (try simp [hlt, hgt, hmin] at hq) <;> (try (have hh : True := hq; clear hh hq))))) | (refine ⟨by omega, by omega, ?_⟩) | refine T.rd (id := 23) mixed (fun _ => false) [] (by kernel_rfl) fun K hK => ?_ | refine T.rd1 (id := 23) mixed (fun _ => false) [] (by kernel_rfl) fun K hK => ?_ | refine T.rd (id := 25) mixed (fun _ => false) [] (by kernel_rfl) fun K hK => ?_ | refine T.rd1 (id := 25) mixed (fun _ => false) [] (by kernel_rfl) fun K hK => ?_ | refine T.r0 fun K hK => ?_ | refine T.r1 fun K hK => ?_ | (refine ⟨by omega, ?_⟩) | refine T.ct rfl ?_ | refine T.cf rfl ?_ | refine T.seq ?_ | refine T.block ?_ | refine T.skip ?_ | refine T.exit ?_
  refine ⟨(p + 1, _), by dsimp only; omega, by dsimp only; omega, rfl, ?_, ?_⟩
  ·simp [htk, eOpS, hcu]
  ·simp (disch := omega) [wrap64]
 ·have hp' : p = e.kids.length := by omega
  subst hp'
  rw [List.take_length]
  refine T.seal 5 0 e.kids.length (r := { sz := 1, ety := 23, rows := e.kids.map fun u => eOpS (compM (names) u), wr := true }) (by simp) (by simp) (by simp) ?_
  have hc2 := concat_own (e.kids.map (compM names)) (by rw [List.length_map]; omega) (fun l hl => by obtain ⟨u, hu, rfl⟩ := List.mem_map.1 hl; exact hsm u hu)
  rw [show (e.kids.map fun u => eOpS (compM names u)) = (e.kids.map (compM names)).map eOpS by rw [List.map_map]; rfl]
  have hfl : (e.kids.map (compM names)).flatten.length <= 4000000 := by
   have hs : ∀ (m : List (List MOp)), (∀ l ∈ m, l.length <= 1000000) -> m.flatten.length <= m.length * 1000000 := by
    intro m
    induction m with
    | nil => simp
    | cons a r ih => intro h; have e1 := h a (by simp); have e2 := ih (fun l hl => h l (by simp [hl])); rw [List.flatten_cons, List.length_append, List.length_cons]; omega
   have := hs (e.kids.map (compM names)) (fun l hl => by obtain ⟨u, hu, rfl⟩ := List.mem_map.1 hl; exact hsm u hu)
   rw [List.length_map] at this; omega
  generalize e.kids.map (compM names) = cs at *
  rw [show opNode e.kind (names.length - 1 - lastIx names (e.name.headD 0)) e.num cs = cs.flatten ++ [⟨6, 0⟩] by simp [opNode, lastOp, h5]]
  generalize cs.flatten = fl at *
  repeat' first | ((first | refine aops_end (hK _ ?_) | refine aopsD_end (hK _ ?_) | refine aopsF_end (hK _ ?_)); clear hK K) | ((first | refine aops_go ?_ | refine aopsD_go ?_ | refine aopsF_go ?_); simp [hlt, h5]; (try simp (disch := omega) only [wrap64]); (try (refine gen fun q hq => ?_; cases q <;> (try simp [hlt, h5] at hq) <;> (try (have hh : True := hq; clear hh hq))))) | (refine wpcall_own rfl (hc2) ?_; simp [hlt, h5]; (try simp (disch := omega) only [wrap64]); (try (refine gen fun q hq => ?_; cases q <;> (try simp [hlt, h5] at hq) <;> (try (have hh : True := hq; clear hh hq))))) | (refine ⟨by omega, by omega, ?_⟩) | refine T.rd (id := 23) mixed (fun _ => false) [] (by kernel_rfl) fun K hK => ?_ | refine T.rd1 (id := 23) mixed (fun _ => false) [] (by kernel_rfl) fun K hK => ?_ | refine T.rd (id := 25) mixed (fun _ => false) [] (by kernel_rfl) fun K hK => ?_ | refine T.rd1 (id := 25) mixed (fun _ => false) [] (by kernel_rfl) fun K hK => ?_ | refine T.r0 fun K hK => ?_ | refine T.r1 fun K hK => ?_ | (refine ⟨by omega, ?_⟩) | refine T.ct rfl ?_ | refine T.cf rfl ?_ | refine T.seq ?_ | refine T.block ?_ | refine T.skip ?_ | refine T.exit ?_
  all_goals (refine T.ret (Done.own1 1 (Or.inr rfl) (ys := [_]) ?_ rfl ?_) <;> simp [resAs, Try.results32])

theorem compile_add (e : MTm) (names : List UInt8) (h5 : e.kind = 7) (hn : names.length <= 1000000) (hnl : e.name.length <= 1000) (hd : BaHead names e) (hl : e.kids.length <= 3) (hsm : ∀ u ∈ e.kids, (compM (names) u).length <= 1000000)
  (ih : ∀ u ∈ e.kids, ACalls Try.prog 32 [aTm u, .s (names)] [] (.l ((compM (names) u).map eOp)) [] []) :
  ACalls Try.prog 32 [aTm e, .s names] [] (.c (.own 0 (opNode e.kind (names.length - 1 - lastIx names (e.name.headD 0)) e.num (e.kids.map (compM (names)))).length)) [] [{ sz := 2, ety := 53, rows := (opNode e.kind (names.length - 1 - lastIx names (e.name.headD 0)) e.num (e.kids.map (compM (names)))).map eOp, wr := true }] := by
 have hnm : names.length + e.name.length <= 4611686018427387904 := by omega
 refine ACalls.of_body Try.func32 (by kernel_rfl) rfl (by kernel_rfl) (by simp [Try.ntmps32]) (by simp) ?_
 rw [Try.ntmps32]
 repeat' first | ((first | refine aops_end (hK _ ?_) | refine aopsD_end (hK _ ?_) | refine aopsF_end (hK _ ?_)); clear hK K) | ((first | refine aops_go ?_ | refine aopsD_go ?_ | refine aopsF_go ?_); simp [h5, hnm]; (try (refine gen fun q hq => ?_; cases q <;> (try simp [h5, hnm] at hq) <;> (try (have hh : True := hq; clear hh hq))))) | refine T.rd (id := 23) mixed (fun _ => false) [] (by kernel_rfl) fun K hK => ?_ | refine T.rd1 (id := 23) mixed (fun _ => false) [] (by kernel_rfl) fun K hK => ?_ | refine T.rd (id := 25) mixed (fun _ => false) [] (by kernel_rfl) fun K hK => ?_ | refine T.rd1 (id := 25) mixed (fun _ => false) [] (by kernel_rfl) fun K hK => ?_ | refine T.r0 fun K hK => ?_ | refine T.r1 fun K hK => ?_ | (refine ⟨by omega, ?_⟩) | refine T.ct rfl ?_ | refine T.cf rfl ?_ | refine T.seq ?_ | refine T.block ?_ | refine T.skip ?_ | refine T.exit ?_
 refine T.ownify 5 1 23 (by simp) ?_
 refine T.loopK (α := Nat × List (List CV)) [1, 2, 4, 6, 20, 21] (fun x => [(5, .c (.own 0 x.1)), (22, .i x.1)]) (fun _ => []) (fun x => x.2) (fun x _ => [{ sz := 1, ety := 23, rows := (e.kids.take x.1).map fun u => eOpS (compM (names) u), wr := true }]) (fun x => e.kids.length + 1 - x.1) (fun x => x.1 <= e.kids.length) (by simp; rfl) (fun x hx => ?_) (0, []) (by simp) (by simp) (by simp) (by simp)
 obtain ⟨p, G⟩ := x
 dsimp only at hx ⊢
 simp only [ups, List.set_cons_zero, List.set_cons_succ, List.cons_append, List.nil_append]
 by_cases hlt : p < e.kids.length
 ·obtain ⟨u, ht⟩ := get_lt hlt
  have htm : u ∈ e.kids := List.mem_of_getElem? ht
  have hgt : e.kids[p] = u := by rw [List.getElem?_eq_getElem hlt] at ht; exact Option.some.inj ht
  have hdr : e.kids.drop p = u :: e.kids.drop (p + 1) := by rw [List.drop_eq_getElem_cons hlt, hgt]
  have hu := ih u htm
  have hmin : min p e.kids.length = p := by omega
  have htk := take_succ_of ht
  generalize hcu : compM (names) u = cu at *
  repeat' first | ((first | refine aops_end (hK _ ?_) | refine aopsD_end (hK _ ?_) | refine aopsF_end (hK _ ?_)); clear hK K) | ((first | refine aops_go ?_ | refine aopsD_go ?_ | refine aopsF_go ?_); simp [hlt, hgt, hmin]; (try simp (disch := omega) only [wrap64]); (try (refine gen fun q hq => ?_; cases q <;> (try simp [hlt, hgt, hmin] at hq) <;> (try (have hh : True := hq; clear hh hq))))) | (refine wpcall_pure rfl (hu) ?_; simp [hlt, hgt, hmin]; (try simp (disch := omega) only [wrap64]); (try (refine gen fun q hq => ?_; cases q <;> (try simp [hlt, hgt, hmin] at hq) <;> (try (have hh : True := hq; clear hh hq))))) | (refine ⟨by omega, by omega, ?_⟩) | refine T.rd (id := 23) mixed (fun _ => false) [] (by kernel_rfl) fun K hK => ?_ | refine T.rd1 (id := 23) mixed (fun _ => false) [] (by kernel_rfl) fun K hK => ?_ | refine T.rd (id := 25) mixed (fun _ => false) [] (by kernel_rfl) fun K hK => ?_ | refine T.rd1 (id := 25) mixed (fun _ => false) [] (by kernel_rfl) fun K hK => ?_ | refine T.r0 fun K hK => ?_ | refine T.r1 fun K hK => ?_ | (refine ⟨by omega, ?_⟩) | refine T.ct rfl ?_ | refine T.cf rfl ?_ | refine T.seq ?_ | refine T.block ?_ | refine T.skip ?_ | refine T.exit ?_
  refine ⟨(p + 1, _), by dsimp only; omega, by dsimp only; omega, rfl, ?_, ?_⟩
  ·simp [htk, eOpS, hcu]
  ·simp (disch := omega) [wrap64]
 ·have hp' : p = e.kids.length := by omega
  subst hp'
  rw [List.take_length]
  refine T.seal 5 0 e.kids.length (r := { sz := 1, ety := 23, rows := e.kids.map fun u => eOpS (compM (names) u), wr := true }) (by simp) (by simp) (by simp) ?_
  have hc2 := concat_own (e.kids.map (compM names)) (by rw [List.length_map]; omega) (fun l hl => by obtain ⟨u, hu, rfl⟩ := List.mem_map.1 hl; exact hsm u hu)
  rw [show (e.kids.map fun u => eOpS (compM names u)) = (e.kids.map (compM names)).map eOpS by rw [List.map_map]; rfl]
  have hfl : (e.kids.map (compM names)).flatten.length <= 4000000 := by
   have hs : ∀ (m : List (List MOp)), (∀ l ∈ m, l.length <= 1000000) -> m.flatten.length <= m.length * 1000000 := by
    intro m
    induction m with
    | nil => simp
    | cons a r ih => intro h; have e1 := h a (by simp); have e2 := ih (fun l hl => h l (by simp [hl])); rw [List.flatten_cons, List.length_append, List.length_cons]; omega
   have := hs (e.kids.map (compM names)) (fun l hl => by obtain ⟨u, hu, rfl⟩ := List.mem_map.1 hl; exact hsm u hu)
   rw [List.length_map] at this; omega
  generalize e.kids.map (compM names) = cs at *
  rw [show opNode e.kind (names.length - 1 - lastIx names (e.name.headD 0)) e.num cs = cs.flatten ++ [⟨7, 0⟩] by simp [opNode, lastOp, h5]]
  generalize cs.flatten = fl at *
  repeat' first | ((first | refine aops_end (hK _ ?_) | refine aopsD_end (hK _ ?_) | refine aopsF_end (hK _ ?_)); clear hK K) | ((first | refine aops_go ?_ | refine aopsD_go ?_ | refine aopsF_go ?_); simp [hlt, h5]; (try simp (disch := omega) only [wrap64]); (try (refine gen fun q hq => ?_; cases q <;> (try simp [hlt, h5] at hq) <;> (try (have hh : True := hq; clear hh hq))))) | (refine wpcall_own rfl (hc2) ?_; simp [hlt, h5]; (try simp (disch := omega) only [wrap64]); (try (refine gen fun q hq => ?_; cases q <;> (try simp [hlt, h5] at hq) <;> (try (have hh : True := hq; clear hh hq))))) | (refine ⟨by omega, by omega, ?_⟩) | refine T.rd (id := 23) mixed (fun _ => false) [] (by kernel_rfl) fun K hK => ?_ | refine T.rd1 (id := 23) mixed (fun _ => false) [] (by kernel_rfl) fun K hK => ?_ | refine T.rd (id := 25) mixed (fun _ => false) [] (by kernel_rfl) fun K hK => ?_ | refine T.rd1 (id := 25) mixed (fun _ => false) [] (by kernel_rfl) fun K hK => ?_ | refine T.r0 fun K hK => ?_ | refine T.r1 fun K hK => ?_ | (refine ⟨by omega, ?_⟩) | refine T.ct rfl ?_ | refine T.cf rfl ?_ | refine T.seq ?_ | refine T.block ?_ | refine T.skip ?_ | refine T.exit ?_
  all_goals (refine T.ret (Done.own1 1 (Or.inr rfl) (ys := [_]) ?_ rfl ?_) <;> simp [resAs, Try.results32])

theorem compile_less (e : MTm) (names : List UInt8) (h5 : e.kind = 8) (hn : names.length <= 1000000) (hnl : e.name.length <= 1000) (hd : BaHead names e) (hl : e.kids.length <= 3) (hsm : ∀ u ∈ e.kids, (compM (names) u).length <= 1000000)
  (ih : ∀ u ∈ e.kids, ACalls Try.prog 32 [aTm u, .s (names)] [] (.l ((compM (names) u).map eOp)) [] []) :
  ACalls Try.prog 32 [aTm e, .s names] [] (.c (.own 0 (opNode e.kind (names.length - 1 - lastIx names (e.name.headD 0)) e.num (e.kids.map (compM (names)))).length)) [] [{ sz := 2, ety := 53, rows := (opNode e.kind (names.length - 1 - lastIx names (e.name.headD 0)) e.num (e.kids.map (compM (names)))).map eOp, wr := true }] := by
 have hnm : names.length + e.name.length <= 4611686018427387904 := by omega
 refine ACalls.of_body Try.func32 (by kernel_rfl) rfl (by kernel_rfl) (by simp [Try.ntmps32]) (by simp) ?_
 rw [Try.ntmps32]
 repeat' first | ((first | refine aops_end (hK _ ?_) | refine aopsD_end (hK _ ?_) | refine aopsF_end (hK _ ?_)); clear hK K) | ((first | refine aops_go ?_ | refine aopsD_go ?_ | refine aopsF_go ?_); simp [h5, hnm]; (try (refine gen fun q hq => ?_; cases q <;> (try simp [h5, hnm] at hq) <;> (try (have hh : True := hq; clear hh hq))))) | refine T.rd (id := 23) mixed (fun _ => false) [] (by kernel_rfl) fun K hK => ?_ | refine T.rd1 (id := 23) mixed (fun _ => false) [] (by kernel_rfl) fun K hK => ?_ | refine T.rd (id := 25) mixed (fun _ => false) [] (by kernel_rfl) fun K hK => ?_ | refine T.rd1 (id := 25) mixed (fun _ => false) [] (by kernel_rfl) fun K hK => ?_ | refine T.r0 fun K hK => ?_ | refine T.r1 fun K hK => ?_ | (refine ⟨by omega, ?_⟩) | refine T.ct rfl ?_ | refine T.cf rfl ?_ | refine T.seq ?_ | refine T.block ?_ | refine T.skip ?_ | refine T.exit ?_
 refine T.ownify 5 1 23 (by simp) ?_
 refine T.loopK (α := Nat × List (List CV)) [1, 2, 4, 6, 20, 21] (fun x => [(5, .c (.own 0 x.1)), (22, .i x.1)]) (fun _ => []) (fun x => x.2) (fun x _ => [{ sz := 1, ety := 23, rows := (e.kids.take x.1).map fun u => eOpS (compM (names) u), wr := true }]) (fun x => e.kids.length + 1 - x.1) (fun x => x.1 <= e.kids.length) (by simp; rfl) (fun x hx => ?_) (0, []) (by simp) (by simp) (by simp) (by simp)
 obtain ⟨p, G⟩ := x
 dsimp only at hx ⊢
 simp only [ups, List.set_cons_zero, List.set_cons_succ, List.cons_append, List.nil_append]
 by_cases hlt : p < e.kids.length
 ·obtain ⟨u, ht⟩ := get_lt hlt
  have htm : u ∈ e.kids := List.mem_of_getElem? ht
  have hgt : e.kids[p] = u := by rw [List.getElem?_eq_getElem hlt] at ht; exact Option.some.inj ht
  have hdr : e.kids.drop p = u :: e.kids.drop (p + 1) := by rw [List.drop_eq_getElem_cons hlt, hgt]
  have hu := ih u htm
  have hmin : min p e.kids.length = p := by omega
  have htk := take_succ_of ht
  generalize hcu : compM (names) u = cu at *
  repeat' first | ((first | refine aops_end (hK _ ?_) | refine aopsD_end (hK _ ?_) | refine aopsF_end (hK _ ?_)); clear hK K) | ((first | refine aops_go ?_ | refine aopsD_go ?_ | refine aopsF_go ?_); simp [hlt, hgt, hmin]; (try simp (disch := omega) only [wrap64]); (try (refine gen fun q hq => ?_; cases q <;> (try simp [hlt, hgt, hmin] at hq) <;> (try (have hh : True := hq; clear hh hq))))) | (refine wpcall_pure rfl (hu) ?_; simp [hlt, hgt, hmin]; (try simp (disch := omega) only [wrap64]); (try (refine gen fun q hq => ?_; cases q <;> (try simp [hlt, hgt, hmin] at hq) <;> (try (have hh : True := hq; clear hh hq))))) | (refine ⟨by omega, by omega, ?_⟩) | refine T.rd (id := 23) mixed (fun _ => false) [] (by kernel_rfl) fun K hK => ?_ | refine T.rd1 (id := 23) mixed (fun _ => false) [] (by kernel_rfl) fun K hK => ?_ | refine T.rd (id := 25) mixed (fun _ => false) [] (by kernel_rfl) fun K hK => ?_ | refine T.rd1 (id := 25) mixed (fun _ => false) [] (by kernel_rfl) fun K hK => ?_ | refine T.r0 fun K hK => ?_ | refine T.r1 fun K hK => ?_ | (refine ⟨by omega, ?_⟩) | refine T.ct rfl ?_ | refine T.cf rfl ?_ | refine T.seq ?_ | refine T.block ?_ | refine T.skip ?_ | refine T.exit ?_
  refine ⟨(p + 1, _), by dsimp only; omega, by dsimp only; omega, rfl, ?_, ?_⟩
  ·simp [htk, eOpS, hcu]
  ·simp (disch := omega) [wrap64]
 ·have hp' : p = e.kids.length := by omega
  subst hp'
  rw [List.take_length]
  refine T.seal 5 0 e.kids.length (r := { sz := 1, ety := 23, rows := e.kids.map fun u => eOpS (compM (names) u), wr := true }) (by simp) (by simp) (by simp) ?_
  have hc2 := concat_own (e.kids.map (compM names)) (by rw [List.length_map]; omega) (fun l hl => by obtain ⟨u, hu, rfl⟩ := List.mem_map.1 hl; exact hsm u hu)
  rw [show (e.kids.map fun u => eOpS (compM names u)) = (e.kids.map (compM names)).map eOpS by rw [List.map_map]; rfl]
  have hfl : (e.kids.map (compM names)).flatten.length <= 4000000 := by
   have hs : ∀ (m : List (List MOp)), (∀ l ∈ m, l.length <= 1000000) -> m.flatten.length <= m.length * 1000000 := by
    intro m
    induction m with
    | nil => simp
    | cons a r ih => intro h; have e1 := h a (by simp); have e2 := ih (fun l hl => h l (by simp [hl])); rw [List.flatten_cons, List.length_append, List.length_cons]; omega
   have := hs (e.kids.map (compM names)) (fun l hl => by obtain ⟨u, hu, rfl⟩ := List.mem_map.1 hl; exact hsm u hu)
   rw [List.length_map] at this; omega
  generalize e.kids.map (compM names) = cs at *
  rw [show opNode e.kind (names.length - 1 - lastIx names (e.name.headD 0)) e.num cs = cs.flatten ++ [⟨8, 0⟩] by simp [opNode, lastOp, h5]]
  generalize cs.flatten = fl at *
  repeat' first | ((first | refine aops_end (hK _ ?_) | refine aopsD_end (hK _ ?_) | refine aopsF_end (hK _ ?_)); clear hK K) | ((first | refine aops_go ?_ | refine aopsD_go ?_ | refine aopsF_go ?_); simp [hlt, h5]; (try simp (disch := omega) only [wrap64]); (try (refine gen fun q hq => ?_; cases q <;> (try simp [hlt, h5] at hq) <;> (try (have hh : True := hq; clear hh hq))))) | (refine wpcall_own rfl (hc2) ?_; simp [hlt, h5]; (try simp (disch := omega) only [wrap64]); (try (refine gen fun q hq => ?_; cases q <;> (try simp [hlt, h5] at hq) <;> (try (have hh : True := hq; clear hh hq))))) | (refine ⟨by omega, by omega, ?_⟩) | refine T.rd (id := 23) mixed (fun _ => false) [] (by kernel_rfl) fun K hK => ?_ | refine T.rd1 (id := 23) mixed (fun _ => false) [] (by kernel_rfl) fun K hK => ?_ | refine T.rd (id := 25) mixed (fun _ => false) [] (by kernel_rfl) fun K hK => ?_ | refine T.rd1 (id := 25) mixed (fun _ => false) [] (by kernel_rfl) fun K hK => ?_ | refine T.r0 fun K hK => ?_ | refine T.r1 fun K hK => ?_ | (refine ⟨by omega, ?_⟩) | refine T.ct rfl ?_ | refine T.cf rfl ?_ | refine T.seq ?_ | refine T.block ?_ | refine T.skip ?_ | refine T.exit ?_
  all_goals (refine T.ret (Done.own1 1 (Or.inr rfl) (ys := [_]) ?_ rfl ?_) <;> simp [resAs, Try.results32])

theorem compile_pair (e : MTm) (names : List UInt8) (h5 : e.kind = 10) (hn : names.length <= 1000000) (hnl : e.name.length <= 1000) (hd : BaHead names e) (hl : e.kids.length <= 3) (hsm : ∀ u ∈ e.kids, (compM (names) u).length <= 1000000)
  (ih : ∀ u ∈ e.kids, ACalls Try.prog 32 [aTm u, .s (names)] [] (.l ((compM (names) u).map eOp)) [] []) :
  ACalls Try.prog 32 [aTm e, .s names] [] (.c (.own 0 (opNode e.kind (names.length - 1 - lastIx names (e.name.headD 0)) e.num (e.kids.map (compM (names)))).length)) [] [{ sz := 2, ety := 53, rows := (opNode e.kind (names.length - 1 - lastIx names (e.name.headD 0)) e.num (e.kids.map (compM (names)))).map eOp, wr := true }] := by
 have hnm : names.length + e.name.length <= 4611686018427387904 := by omega
 refine ACalls.of_body Try.func32 (by kernel_rfl) rfl (by kernel_rfl) (by simp [Try.ntmps32]) (by simp) ?_
 rw [Try.ntmps32]
 repeat' first | ((first | refine aops_end (hK _ ?_) | refine aopsD_end (hK _ ?_) | refine aopsF_end (hK _ ?_)); clear hK K) | ((first | refine aops_go ?_ | refine aopsD_go ?_ | refine aopsF_go ?_); simp [h5, hnm]; (try (refine gen fun q hq => ?_; cases q <;> (try simp [h5, hnm] at hq) <;> (try (have hh : True := hq; clear hh hq))))) | refine T.rd (id := 23) mixed (fun _ => false) [] (by kernel_rfl) fun K hK => ?_ | refine T.rd1 (id := 23) mixed (fun _ => false) [] (by kernel_rfl) fun K hK => ?_ | refine T.rd (id := 25) mixed (fun _ => false) [] (by kernel_rfl) fun K hK => ?_ | refine T.rd1 (id := 25) mixed (fun _ => false) [] (by kernel_rfl) fun K hK => ?_ | refine T.r0 fun K hK => ?_ | refine T.r1 fun K hK => ?_ | (refine ⟨by omega, ?_⟩) | refine T.ct rfl ?_ | refine T.cf rfl ?_ | refine T.seq ?_ | refine T.block ?_ | refine T.skip ?_ | refine T.exit ?_
 refine T.ownify 5 1 23 (by simp) ?_
 refine T.loopK (α := Nat × List (List CV)) [1, 2, 4, 6, 20, 21] (fun x => [(5, .c (.own 0 x.1)), (22, .i x.1)]) (fun _ => []) (fun x => x.2) (fun x _ => [{ sz := 1, ety := 23, rows := (e.kids.take x.1).map fun u => eOpS (compM (names) u), wr := true }]) (fun x => e.kids.length + 1 - x.1) (fun x => x.1 <= e.kids.length) (by simp; rfl) (fun x hx => ?_) (0, []) (by simp) (by simp) (by simp) (by simp)
 obtain ⟨p, G⟩ := x
 dsimp only at hx ⊢
 simp only [ups, List.set_cons_zero, List.set_cons_succ, List.cons_append, List.nil_append]
 by_cases hlt : p < e.kids.length
 ·obtain ⟨u, ht⟩ := get_lt hlt
  have htm : u ∈ e.kids := List.mem_of_getElem? ht
  have hgt : e.kids[p] = u := by rw [List.getElem?_eq_getElem hlt] at ht; exact Option.some.inj ht
  have hdr : e.kids.drop p = u :: e.kids.drop (p + 1) := by rw [List.drop_eq_getElem_cons hlt, hgt]
  have hu := ih u htm
  have hmin : min p e.kids.length = p := by omega
  have htk := take_succ_of ht
  generalize hcu : compM (names) u = cu at *
  repeat' first | ((first | refine aops_end (hK _ ?_) | refine aopsD_end (hK _ ?_) | refine aopsF_end (hK _ ?_)); clear hK K) | ((first | refine aops_go ?_ | refine aopsD_go ?_ | refine aopsF_go ?_); simp [hlt, hgt, hmin]; (try simp (disch := omega) only [wrap64]); (try (refine gen fun q hq => ?_; cases q <;> (try simp [hlt, hgt, hmin] at hq) <;> (try (have hh : True := hq; clear hh hq))))) | (refine wpcall_pure rfl (hu) ?_; simp [hlt, hgt, hmin]; (try simp (disch := omega) only [wrap64]); (try (refine gen fun q hq => ?_; cases q <;> (try simp [hlt, hgt, hmin] at hq) <;> (try (have hh : True := hq; clear hh hq))))) | (refine ⟨by omega, by omega, ?_⟩) | refine T.rd (id := 23) mixed (fun _ => false) [] (by kernel_rfl) fun K hK => ?_ | refine T.rd1 (id := 23) mixed (fun _ => false) [] (by kernel_rfl) fun K hK => ?_ | refine T.rd (id := 25) mixed (fun _ => false) [] (by kernel_rfl) fun K hK => ?_ | refine T.rd1 (id := 25) mixed (fun _ => false) [] (by kernel_rfl) fun K hK => ?_ | refine T.r0 fun K hK => ?_ | refine T.r1 fun K hK => ?_ | (refine ⟨by omega, ?_⟩) | refine T.ct rfl ?_ | refine T.cf rfl ?_ | refine T.seq ?_ | refine T.block ?_ | refine T.skip ?_ | refine T.exit ?_
  refine ⟨(p + 1, _), by dsimp only; omega, by dsimp only; omega, rfl, ?_, ?_⟩
  ·simp [htk, eOpS, hcu]
  ·simp (disch := omega) [wrap64]
 ·have hp' : p = e.kids.length := by omega
  subst hp'
  rw [List.take_length]
  refine T.seal 5 0 e.kids.length (r := { sz := 1, ety := 23, rows := e.kids.map fun u => eOpS (compM (names) u), wr := true }) (by simp) (by simp) (by simp) ?_
  have hc2 := concat_own (e.kids.map (compM names)) (by rw [List.length_map]; omega) (fun l hl => by obtain ⟨u, hu, rfl⟩ := List.mem_map.1 hl; exact hsm u hu)
  rw [show (e.kids.map fun u => eOpS (compM names u)) = (e.kids.map (compM names)).map eOpS by rw [List.map_map]; rfl]
  have hfl : (e.kids.map (compM names)).flatten.length <= 4000000 := by
   have hs : ∀ (m : List (List MOp)), (∀ l ∈ m, l.length <= 1000000) -> m.flatten.length <= m.length * 1000000 := by
    intro m
    induction m with
    | nil => simp
    | cons a r ih => intro h; have e1 := h a (by simp); have e2 := ih (fun l hl => h l (by simp [hl])); rw [List.flatten_cons, List.length_append, List.length_cons]; omega
   have := hs (e.kids.map (compM names)) (fun l hl => by obtain ⟨u, hu, rfl⟩ := List.mem_map.1 hl; exact hsm u hu)
   rw [List.length_map] at this; omega
  generalize e.kids.map (compM names) = cs at *
  rw [show opNode e.kind (names.length - 1 - lastIx names (e.name.headD 0)) e.num cs = cs.flatten ++ [⟨11, 0⟩] by simp [opNode, lastOp, h5]]
  generalize cs.flatten = fl at *
  repeat' first | ((first | refine aops_end (hK _ ?_) | refine aopsD_end (hK _ ?_) | refine aopsF_end (hK _ ?_)); clear hK K) | ((first | refine aops_go ?_ | refine aopsD_go ?_ | refine aopsF_go ?_); simp [hlt, h5]; (try simp (disch := omega) only [wrap64]); (try (refine gen fun q hq => ?_; cases q <;> (try simp [hlt, h5] at hq) <;> (try (have hh : True := hq; clear hh hq))))) | (refine wpcall_own rfl (hc2) ?_; simp [hlt, h5]; (try simp (disch := omega) only [wrap64]); (try (refine gen fun q hq => ?_; cases q <;> (try simp [hlt, h5] at hq) <;> (try (have hh : True := hq; clear hh hq))))) | (refine ⟨by omega, by omega, ?_⟩) | refine T.rd (id := 23) mixed (fun _ => false) [] (by kernel_rfl) fun K hK => ?_ | refine T.rd1 (id := 23) mixed (fun _ => false) [] (by kernel_rfl) fun K hK => ?_ | refine T.rd (id := 25) mixed (fun _ => false) [] (by kernel_rfl) fun K hK => ?_ | refine T.rd1 (id := 25) mixed (fun _ => false) [] (by kernel_rfl) fun K hK => ?_ | refine T.r0 fun K hK => ?_ | refine T.r1 fun K hK => ?_ | (refine ⟨by omega, ?_⟩) | refine T.ct rfl ?_ | refine T.cf rfl ?_ | refine T.seq ?_ | refine T.block ?_ | refine T.skip ?_ | refine T.exit ?_
  all_goals (refine T.ret (Done.own1 1 (Or.inr rfl) (ys := [_]) ?_ rfl ?_) <;> simp [resAs, Try.results32])

theorem compile_fst (e : MTm) (names : List UInt8) (h5 : e.kind = 11) (hn : names.length <= 1000000) (hnl : e.name.length <= 1000) (hd : BaHead names e) (hl : e.kids.length <= 3) (hsm : ∀ u ∈ e.kids, (compM (names) u).length <= 1000000)
  (ih : ∀ u ∈ e.kids, ACalls Try.prog 32 [aTm u, .s (names)] [] (.l ((compM (names) u).map eOp)) [] []) :
  ACalls Try.prog 32 [aTm e, .s names] [] (.c (.own 0 (opNode e.kind (names.length - 1 - lastIx names (e.name.headD 0)) e.num (e.kids.map (compM (names)))).length)) [] [{ sz := 2, ety := 53, rows := (opNode e.kind (names.length - 1 - lastIx names (e.name.headD 0)) e.num (e.kids.map (compM (names)))).map eOp, wr := true }] := by
 have hnm : names.length + e.name.length <= 4611686018427387904 := by omega
 refine ACalls.of_body Try.func32 (by kernel_rfl) rfl (by kernel_rfl) (by simp [Try.ntmps32]) (by simp) ?_
 rw [Try.ntmps32]
 repeat' first | ((first | refine aops_end (hK _ ?_) | refine aopsD_end (hK _ ?_) | refine aopsF_end (hK _ ?_)); clear hK K) | ((first | refine aops_go ?_ | refine aopsD_go ?_ | refine aopsF_go ?_); simp [h5, hnm]; (try (refine gen fun q hq => ?_; cases q <;> (try simp [h5, hnm] at hq) <;> (try (have hh : True := hq; clear hh hq))))) | refine T.rd (id := 23) mixed (fun _ => false) [] (by kernel_rfl) fun K hK => ?_ | refine T.rd1 (id := 23) mixed (fun _ => false) [] (by kernel_rfl) fun K hK => ?_ | refine T.rd (id := 25) mixed (fun _ => false) [] (by kernel_rfl) fun K hK => ?_ | refine T.rd1 (id := 25) mixed (fun _ => false) [] (by kernel_rfl) fun K hK => ?_ | refine T.r0 fun K hK => ?_ | refine T.r1 fun K hK => ?_ | (refine ⟨by omega, ?_⟩) | refine T.ct rfl ?_ | refine T.cf rfl ?_ | refine T.seq ?_ | refine T.block ?_ | refine T.skip ?_ | refine T.exit ?_
 refine T.ownify 5 1 23 (by simp) ?_
 refine T.loopK (α := Nat × List (List CV)) [1, 2, 4, 6, 20, 21] (fun x => [(5, .c (.own 0 x.1)), (22, .i x.1)]) (fun _ => []) (fun x => x.2) (fun x _ => [{ sz := 1, ety := 23, rows := (e.kids.take x.1).map fun u => eOpS (compM (names) u), wr := true }]) (fun x => e.kids.length + 1 - x.1) (fun x => x.1 <= e.kids.length) (by simp; rfl) (fun x hx => ?_) (0, []) (by simp) (by simp) (by simp) (by simp)
 obtain ⟨p, G⟩ := x
 dsimp only at hx ⊢
 simp only [ups, List.set_cons_zero, List.set_cons_succ, List.cons_append, List.nil_append]
 by_cases hlt : p < e.kids.length
 ·obtain ⟨u, ht⟩ := get_lt hlt
  have htm : u ∈ e.kids := List.mem_of_getElem? ht
  have hgt : e.kids[p] = u := by rw [List.getElem?_eq_getElem hlt] at ht; exact Option.some.inj ht
  have hdr : e.kids.drop p = u :: e.kids.drop (p + 1) := by rw [List.drop_eq_getElem_cons hlt, hgt]
  have hu := ih u htm
  have hmin : min p e.kids.length = p := by omega
  have htk := take_succ_of ht
  generalize hcu : compM (names) u = cu at *
  repeat' first | ((first | refine aops_end (hK _ ?_) | refine aopsD_end (hK _ ?_) | refine aopsF_end (hK _ ?_)); clear hK K) | ((first | refine aops_go ?_ | refine aopsD_go ?_ | refine aopsF_go ?_); simp [hlt, hgt, hmin]; (try simp (disch := omega) only [wrap64]); (try (refine gen fun q hq => ?_; cases q <;> (try simp [hlt, hgt, hmin] at hq) <;> (try (have hh : True := hq; clear hh hq))))) | (refine wpcall_pure rfl (hu) ?_; simp [hlt, hgt, hmin]; (try simp (disch := omega) only [wrap64]); (try (refine gen fun q hq => ?_; cases q <;> (try simp [hlt, hgt, hmin] at hq) <;> (try (have hh : True := hq; clear hh hq))))) | (refine ⟨by omega, by omega, ?_⟩) | refine T.rd (id := 23) mixed (fun _ => false) [] (by kernel_rfl) fun K hK => ?_ | refine T.rd1 (id := 23) mixed (fun _ => false) [] (by kernel_rfl) fun K hK => ?_ | refine T.rd (id := 25) mixed (fun _ => false) [] (by kernel_rfl) fun K hK => ?_ | refine T.rd1 (id := 25) mixed (fun _ => false) [] (by kernel_rfl) fun K hK => ?_ | refine T.r0 fun K hK => ?_ | refine T.r1 fun K hK => ?_ | (refine ⟨by omega, ?_⟩) | refine T.ct rfl ?_ | refine T.cf rfl ?_ | refine T.seq ?_ | refine T.block ?_ | refine T.skip ?_ | refine T.exit ?_
  refine ⟨(p + 1, _), by dsimp only; omega, by dsimp only; omega, rfl, ?_, ?_⟩
  ·simp [htk, eOpS, hcu]
  ·simp (disch := omega) [wrap64]
 ·have hp' : p = e.kids.length := by omega
  subst hp'
  rw [List.take_length]
  refine T.seal 5 0 e.kids.length (r := { sz := 1, ety := 23, rows := e.kids.map fun u => eOpS (compM (names) u), wr := true }) (by simp) (by simp) (by simp) ?_
  have hc2 := concat_own (e.kids.map (compM names)) (by rw [List.length_map]; omega) (fun l hl => by obtain ⟨u, hu, rfl⟩ := List.mem_map.1 hl; exact hsm u hu)
  rw [show (e.kids.map fun u => eOpS (compM names u)) = (e.kids.map (compM names)).map eOpS by rw [List.map_map]; rfl]
  have hfl : (e.kids.map (compM names)).flatten.length <= 4000000 := by
   have hs : ∀ (m : List (List MOp)), (∀ l ∈ m, l.length <= 1000000) -> m.flatten.length <= m.length * 1000000 := by
    intro m
    induction m with
    | nil => simp
    | cons a r ih => intro h; have e1 := h a (by simp); have e2 := ih (fun l hl => h l (by simp [hl])); rw [List.flatten_cons, List.length_append, List.length_cons]; omega
   have := hs (e.kids.map (compM names)) (fun l hl => by obtain ⟨u, hu, rfl⟩ := List.mem_map.1 hl; exact hsm u hu)
   rw [List.length_map] at this; omega
  generalize e.kids.map (compM names) = cs at *
  rw [show opNode e.kind (names.length - 1 - lastIx names (e.name.headD 0)) e.num cs = cs.flatten ++ [⟨12, 0⟩] by simp [opNode, lastOp, h5]]
  generalize cs.flatten = fl at *
  repeat' first | ((first | refine aops_end (hK _ ?_) | refine aopsD_end (hK _ ?_) | refine aopsF_end (hK _ ?_)); clear hK K) | ((first | refine aops_go ?_ | refine aopsD_go ?_ | refine aopsF_go ?_); simp [hlt, h5]; (try simp (disch := omega) only [wrap64]); (try (refine gen fun q hq => ?_; cases q <;> (try simp [hlt, h5] at hq) <;> (try (have hh : True := hq; clear hh hq))))) | (refine wpcall_own rfl (hc2) ?_; simp [hlt, h5]; (try simp (disch := omega) only [wrap64]); (try (refine gen fun q hq => ?_; cases q <;> (try simp [hlt, h5] at hq) <;> (try (have hh : True := hq; clear hh hq))))) | (refine ⟨by omega, by omega, ?_⟩) | refine T.rd (id := 23) mixed (fun _ => false) [] (by kernel_rfl) fun K hK => ?_ | refine T.rd1 (id := 23) mixed (fun _ => false) [] (by kernel_rfl) fun K hK => ?_ | refine T.rd (id := 25) mixed (fun _ => false) [] (by kernel_rfl) fun K hK => ?_ | refine T.rd1 (id := 25) mixed (fun _ => false) [] (by kernel_rfl) fun K hK => ?_ | refine T.r0 fun K hK => ?_ | refine T.r1 fun K hK => ?_ | (refine ⟨by omega, ?_⟩) | refine T.ct rfl ?_ | refine T.cf rfl ?_ | refine T.seq ?_ | refine T.block ?_ | refine T.skip ?_ | refine T.exit ?_
  all_goals (refine T.ret (Done.own1 1 (Or.inr rfl) (ys := [_]) ?_ rfl ?_) <;> simp [resAs, Try.results32])

theorem compile_snd (e : MTm) (names : List UInt8) (h5 : e.kind = 12) (hn : names.length <= 1000000) (hnl : e.name.length <= 1000) (hd : BaHead names e) (hl : e.kids.length <= 3) (hsm : ∀ u ∈ e.kids, (compM (names) u).length <= 1000000)
  (ih : ∀ u ∈ e.kids, ACalls Try.prog 32 [aTm u, .s (names)] [] (.l ((compM (names) u).map eOp)) [] []) :
  ACalls Try.prog 32 [aTm e, .s names] [] (.c (.own 0 (opNode e.kind (names.length - 1 - lastIx names (e.name.headD 0)) e.num (e.kids.map (compM (names)))).length)) [] [{ sz := 2, ety := 53, rows := (opNode e.kind (names.length - 1 - lastIx names (e.name.headD 0)) e.num (e.kids.map (compM (names)))).map eOp, wr := true }] := by
 have hnm : names.length + e.name.length <= 4611686018427387904 := by omega
 refine ACalls.of_body Try.func32 (by kernel_rfl) rfl (by kernel_rfl) (by simp [Try.ntmps32]) (by simp) ?_
 rw [Try.ntmps32]
 repeat' first | ((first | refine aops_end (hK _ ?_) | refine aopsD_end (hK _ ?_) | refine aopsF_end (hK _ ?_)); clear hK K) | ((first | refine aops_go ?_ | refine aopsD_go ?_ | refine aopsF_go ?_); simp [h5, hnm]; (try (refine gen fun q hq => ?_; cases q <;> (try simp [h5, hnm] at hq) <;> (try (have hh : True := hq; clear hh hq))))) | refine T.rd (id := 23) mixed (fun _ => false) [] (by kernel_rfl) fun K hK => ?_ | refine T.rd1 (id := 23) mixed (fun _ => false) [] (by kernel_rfl) fun K hK => ?_ | refine T.rd (id := 25) mixed (fun _ => false) [] (by kernel_rfl) fun K hK => ?_ | refine T.rd1 (id := 25) mixed (fun _ => false) [] (by kernel_rfl) fun K hK => ?_ | refine T.r0 fun K hK => ?_ | refine T.r1 fun K hK => ?_ | (refine ⟨by omega, ?_⟩) | refine T.ct rfl ?_ | refine T.cf rfl ?_ | refine T.seq ?_ | refine T.block ?_ | refine T.skip ?_ | refine T.exit ?_
 refine T.ownify 5 1 23 (by simp) ?_
 refine T.loopK (α := Nat × List (List CV)) [1, 2, 4, 6, 20, 21] (fun x => [(5, .c (.own 0 x.1)), (22, .i x.1)]) (fun _ => []) (fun x => x.2) (fun x _ => [{ sz := 1, ety := 23, rows := (e.kids.take x.1).map fun u => eOpS (compM (names) u), wr := true }]) (fun x => e.kids.length + 1 - x.1) (fun x => x.1 <= e.kids.length) (by simp; rfl) (fun x hx => ?_) (0, []) (by simp) (by simp) (by simp) (by simp)
 obtain ⟨p, G⟩ := x
 dsimp only at hx ⊢
 simp only [ups, List.set_cons_zero, List.set_cons_succ, List.cons_append, List.nil_append]
 by_cases hlt : p < e.kids.length
 ·obtain ⟨u, ht⟩ := get_lt hlt
  have htm : u ∈ e.kids := List.mem_of_getElem? ht
  have hgt : e.kids[p] = u := by rw [List.getElem?_eq_getElem hlt] at ht; exact Option.some.inj ht
  have hdr : e.kids.drop p = u :: e.kids.drop (p + 1) := by rw [List.drop_eq_getElem_cons hlt, hgt]
  have hu := ih u htm
  have hmin : min p e.kids.length = p := by omega
  have htk := take_succ_of ht
  generalize hcu : compM (names) u = cu at *
  repeat' first | ((first | refine aops_end (hK _ ?_) | refine aopsD_end (hK _ ?_) | refine aopsF_end (hK _ ?_)); clear hK K) | ((first | refine aops_go ?_ | refine aopsD_go ?_ | refine aopsF_go ?_); simp [hlt, hgt, hmin]; (try simp (disch := omega) only [wrap64]); (try (refine gen fun q hq => ?_; cases q <;> (try simp [hlt, hgt, hmin] at hq) <;> (try (have hh : True := hq; clear hh hq))))) | (refine wpcall_pure rfl (hu) ?_; simp [hlt, hgt, hmin]; (try simp (disch := omega) only [wrap64]); (try (refine gen fun q hq => ?_; cases q <;> (try simp [hlt, hgt, hmin] at hq) <;> (try (have hh : True := hq; clear hh hq))))) | (refine ⟨by omega, by omega, ?_⟩) | refine T.rd (id := 23) mixed (fun _ => false) [] (by kernel_rfl) fun K hK => ?_ | refine T.rd1 (id := 23) mixed (fun _ => false) [] (by kernel_rfl) fun K hK => ?_ | refine T.rd (id := 25) mixed (fun _ => false) [] (by kernel_rfl) fun K hK => ?_ | refine T.rd1 (id := 25) mixed (fun _ => false) [] (by kernel_rfl) fun K hK => ?_ | refine T.r0 fun K hK => ?_ | refine T.r1 fun K hK => ?_ | (refine ⟨by omega, ?_⟩) | refine T.ct rfl ?_ | refine T.cf rfl ?_ | refine T.seq ?_ | refine T.block ?_ | refine T.skip ?_ | refine T.exit ?_
  refine ⟨(p + 1, _), by dsimp only; omega, by dsimp only; omega, rfl, ?_, ?_⟩
  ·simp [htk, eOpS, hcu]
  ·simp (disch := omega) [wrap64]
 ·have hp' : p = e.kids.length := by omega
  subst hp'
  rw [List.take_length]
  refine T.seal 5 0 e.kids.length (r := { sz := 1, ety := 23, rows := e.kids.map fun u => eOpS (compM (names) u), wr := true }) (by simp) (by simp) (by simp) ?_
  have hc2 := concat_own (e.kids.map (compM names)) (by rw [List.length_map]; omega) (fun l hl => by obtain ⟨u, hu, rfl⟩ := List.mem_map.1 hl; exact hsm u hu)
  rw [show (e.kids.map fun u => eOpS (compM names u)) = (e.kids.map (compM names)).map eOpS by rw [List.map_map]; rfl]
  have hfl : (e.kids.map (compM names)).flatten.length <= 4000000 := by
   have hs : ∀ (m : List (List MOp)), (∀ l ∈ m, l.length <= 1000000) -> m.flatten.length <= m.length * 1000000 := by
    intro m
    induction m with
    | nil => simp
    | cons a r ih => intro h; have e1 := h a (by simp); have e2 := ih (fun l hl => h l (by simp [hl])); rw [List.flatten_cons, List.length_append, List.length_cons]; omega
   have := hs (e.kids.map (compM names)) (fun l hl => by obtain ⟨u, hu, rfl⟩ := List.mem_map.1 hl; exact hsm u hu)
   rw [List.length_map] at this; omega
  generalize e.kids.map (compM names) = cs at *
  rw [show opNode e.kind (names.length - 1 - lastIx names (e.name.headD 0)) e.num cs = cs.flatten ++ [⟨13, 0⟩] by simp [opNode, lastOp, h5]]
  generalize cs.flatten = fl at *
  repeat' first | ((first | refine aops_end (hK _ ?_) | refine aopsD_end (hK _ ?_) | refine aopsF_end (hK _ ?_)); clear hK K) | ((first | refine aops_go ?_ | refine aopsD_go ?_ | refine aopsF_go ?_); simp [hlt, h5]; (try simp (disch := omega) only [wrap64]); (try (refine gen fun q hq => ?_; cases q <;> (try simp [hlt, h5] at hq) <;> (try (have hh : True := hq; clear hh hq))))) | (refine wpcall_own rfl (hc2) ?_; simp [hlt, h5]; (try simp (disch := omega) only [wrap64]); (try (refine gen fun q hq => ?_; cases q <;> (try simp [hlt, h5] at hq) <;> (try (have hh : True := hq; clear hh hq))))) | (refine ⟨by omega, by omega, ?_⟩) | refine T.rd (id := 23) mixed (fun _ => false) [] (by kernel_rfl) fun K hK => ?_ | refine T.rd1 (id := 23) mixed (fun _ => false) [] (by kernel_rfl) fun K hK => ?_ | refine T.rd (id := 25) mixed (fun _ => false) [] (by kernel_rfl) fun K hK => ?_ | refine T.rd1 (id := 25) mixed (fun _ => false) [] (by kernel_rfl) fun K hK => ?_ | refine T.r0 fun K hK => ?_ | refine T.r1 fun K hK => ?_ | (refine ⟨by omega, ?_⟩) | refine T.ct rfl ?_ | refine T.cf rfl ?_ | refine T.seq ?_ | refine T.block ?_ | refine T.skip ?_ | refine T.exit ?_
  all_goals (refine T.ret (Done.own1 1 (Or.inr rfl) (ys := [_]) ?_ rfl ?_) <;> simp [resAs, Try.results32])

end Go.Proofs.Ytflmjilnecanhaa

namespace Go.Proofs.Ytflmjilnecanhaa
open Go Go.Av
attribute [local irreducible] T ACalls TX EX LX Draws Some_ ACallsX eTy eTm MTy.kind MTy.kids MTm.kind MTm.name MTm.num MTm.ty MTm.fr MTm.label MTm.kids
attribute [local simp] eTy_def eTm_def
set_option maxHeartbeats 16000000
set_option maxRecDepth 8000
attribute [local irreducible] TJ FCalls lastUp lastIx compM

theorem compile_own : ∀ (e : MTm) (names : List UInt8), BaV names e -> names.length + nodesM e <= 1000 -> ACalls Try.prog 32 [aTm e, .s (names)] [] (.c (.own 0 (compM (names) e).length)) [] [{ sz := 2, ety := 53, rows := (compM (names) e).map eOp, wr := true }] := by
 intro e
 induction e using MTm.ind with
 | h e ih =>
  intro names hb hn
  have hd := hb.head
  have hnd : nodesM e = 1 + nodesS e.kids := by rw [nodesM_def, nodesS_sum]
  have hnl := hd.nlen
  have hin : (if e.kind = 5 then names ++ e.name else names).length <= names.length + 1 := by split <;> simp; omega
  have hsm : ∀ u ∈ e.kids, (compM (if e.kind = 5 then names ++ e.name else names) u).length <= 1000000 := fun u hu => by
   have := comp_len u (if e.kind = 5 then names ++ e.name else names)
   have := nodesS_mem hu
   omega
  have ih' : ∀ u ∈ e.kids, ACalls Try.prog 32 [aTm u, .s (if e.kind = 5 then names ++ e.name else names)] [] (.l ((compM (if e.kind = 5 then names ++ e.name else names) u).map eOp)) [] [] := fun u hu =>
   (ih u hu _ (hd.kids u hu) (by have := nodesS_mem hu; omega)).sealed (by simp)
  rw [compM_def]
  have hk := hd.kind
  rcases (by omega : e.kind = 5 \/ e.kind = 1 \/ e.kind = 2 \/ e.kind = 3 \/ e.kind = 4 \/ e.kind = 9 \/ e.kind = 6 \/ e.kind = 7 \/ e.kind = 8 \/ e.kind = 10 \/ e.kind = 11 \/ e.kind = 12) with h | h | h | h | h | h | h | h | h | h | h | h
  ·rw [if_pos h] at ih' hsm ⊢
   exact compile_lam e names h (by omega) (by omega) hd hd.len hsm ih'
  ·rw [if_neg (by omega)] at ih' hsm ⊢
   exact compile_var e names h (by omega) (by omega) hd hd.len hsm ih'
  ·rw [if_neg (by omega)] at ih' hsm ⊢
   exact compile_num e names h (by omega) (by omega) hd hd.len hsm ih'
  ·rw [if_neg (by omega)] at ih' hsm ⊢
   exact compile_tru e names h (by omega) (by omega) hd hd.len hsm ih'
  ·rw [if_neg (by omega)] at ih' hsm ⊢
   exact compile_fls e names h (by omega) (by omega) hd hd.len hsm ih'
  ·rw [if_neg (by omega)] at ih' hsm ⊢
   exact compile_ite e names h (by omega) (by omega) hd hd.len hsm ih'
  ·rw [if_neg (by omega)] at ih' hsm ⊢
   exact compile_app e names h (by omega) (by omega) hd hd.len hsm ih'
  ·rw [if_neg (by omega)] at ih' hsm ⊢
   exact compile_add e names h (by omega) (by omega) hd hd.len hsm ih'
  ·rw [if_neg (by omega)] at ih' hsm ⊢
   exact compile_less e names h (by omega) (by omega) hd hd.len hsm ih'
  ·rw [if_neg (by omega)] at ih' hsm ⊢
   exact compile_pair e names h (by omega) (by omega) hd hd.len hsm ih'
  ·rw [if_neg (by omega)] at ih' hsm ⊢
   exact compile_fst e names h (by omega) (by omega) hd hd.len hsm ih'
  ·rw [if_neg (by omega)] at ih' hsm ⊢
   exact compile_snd e names h (by omega) (by omega) hd hd.len hsm ih'
theorem l14Index_ok (s : List UInt8) (c : UInt8) (hs : s.length <= 1099511627776) (hc : c ∈ s) : ACalls Try.prog 48 [.s s, .s [c]] [] (.i (s.length - 1 - lastIx s c)) [] [] := by
 have hpos := lastIx_pos hc
 refine ACalls.of_body Try.func48 (by kernel_rfl) rfl (by kernel_rfl) (by simp [Try.ntmps48]) (by simp) ?_
 rw [Try.ntmps48]
 repeat' first | ((first | refine aops_end (hK _ ?_) | refine aopsD_end (hK _ ?_) | refine aopsF_end (hK _ ?_)); clear hK K) | ((first | refine aops_go ?_ | refine aopsD_go ?_ | refine aopsF_go ?_); simp; (try simp (disch := omega) only [wrap64]); (try (refine gen fun q hq => ?_; cases q <;> (try simp at hq) <;> (try (have hh : True := hq; clear hh hq))))) | refine T.r0 fun K hK => ?_ | refine T.r1 fun K hK => ?_ | (refine ⟨by omega, ?_⟩) | refine T.ct rfl ?_ | refine T.cf rfl ?_ | refine T.seq ?_ | refine T.block ?_ | refine T.skip ?_ | refine T.exit ?_
 refine T.loopK (α := Nat) [0, 1] (fun p => [(4, .i 0), (5, .i ((p : Int) - 1))]) (fun _ => []) (fun _ => []) (fun _ A => A) (fun p => p) (fun p => p <= s.length /\ lastUp s c p = lastIx s c) (by simp; rfl) (fun p hx => ?_) s.length ⟨by omega, by rw [lastIx]⟩ (by simp) (by simp) (by simp (disch := omega) [wrap64])
 obtain ⟨hp, he⟩ := hx
 dsimp only
 simp only [ups, List.set_cons_zero, List.set_cons_succ, List.cons_append, List.nil_append]
 cases p with
 | zero => rw [lastUp] at he; omega
 | succ p =>
  have hlt : p < s.length := by omega
  have hsl := slice_one hlt
  obtain ⟨x, hx⟩ := get_lt hlt
  have hgt : s[p] = x := by rw [List.getElem?_eq_getElem hlt] at hx; exact Option.some.inj hx
  rw [hgt] at hsl
  rw [lastUp, hx] at he
  have hge : (0 : Int) <= p := by omega
  have hpp : ((p + 1 : Nat) : Int) - 1 = p := by omega
  have hto : ((p : Int) + 1).toNat = p + 1 := by omega
  have hk1 : (p : Int) <= p + 1 := by omega
  have hk2 : (p : Int) + 1 <= s.length := by omega
  rw [hpp]
  by_cases hc : x = c
  ·subst hc
   rw [if_pos rfl] at he
   rw [<- he]
   repeat' first | ((first | refine aops_end (hK _ ?_) | refine aopsD_end (hK _ ?_) | refine aopsF_end (hK _ ?_)); clear hK K) | ((first | refine aops_go ?_ | refine aopsD_go ?_ | refine aopsF_go ?_); simp [hlt, hge, hto, hsl, hk2]; (try simp (disch := omega) only [wrap64]); (try (refine gen fun q hq => ?_; cases q <;> (try simp [hlt, hge, hto, hsl, hk2] at hq) <;> (try (have hh : True := hq; clear hh hq))))) | (refine T.ret (Done.data (Or.inr rfl) ?_ ?_) <;> simp [Try.results48] <;> omega) | refine T.r0 fun K hK => ?_ | refine T.r1 fun K hK => ?_ | (refine ⟨by omega, ?_⟩) | refine T.ct rfl ?_ | refine T.cf rfl ?_ | refine T.seq ?_ | refine T.block ?_ | refine T.skip ?_ | refine T.exit ?_
  ·rw [if_neg (by simpa using hc)] at he
   repeat' first | ((first | refine aops_end (hK _ ?_) | refine aopsD_end (hK _ ?_) | refine aopsF_end (hK _ ?_)); clear hK K) | ((first | refine aops_go ?_ | refine aopsD_go ?_ | refine aopsF_go ?_); simp [hlt, hge, hto, hsl, hk2, hc]; (try simp (disch := omega) only [wrap64]); (try (refine gen fun q hq => ?_; cases q <;> (try simp [hlt, hge, hto, hsl, hk2, hc] at hq) <;> (try (have hh : True := hq; clear hh hq))))) | (refine ⟨p, by dsimp only; omega, ⟨by omega, he⟩, ?_⟩; simp (disch := omega) [wrap64]) | refine T.r0 fun K hK => ?_ | refine T.r1 fun K hK => ?_ | (refine ⟨by omega, ?_⟩) | refine T.ct rfl ?_ | refine T.cf rfl ?_ | refine T.seq ?_ | refine T.block ?_ | refine T.skip ?_ | refine T.exit ?_

theorem l14Compile_lam (e : MTm) (names : List UInt8) (h5 : e.kind = 5) (hn : names.length <= 1000000) (hd : BaHead names e) (hsm : ∀ u ∈ e.kids, (compM (names ++ e.name) u).length <= 1000000)
  (ih : ∀ u ∈ e.kids, ACalls Try.prog 25 [aTm u, .s (names ++ e.name)] [] (.c (.own 0 (compM (names ++ e.name) u).length)) [] [{ sz := 2, ety := 53, rows := (compM (names ++ e.name) u).map eOp, wr := true }]) :
  ACalls Try.prog 25 [aTm e, .s names] [] (.c (.own 0 (opNode e.kind (names.length - 1 - lastIx names (e.name.headD 0)) e.num (e.kids.map (compM (names ++ e.name)))).length)) [] [{ sz := 2, ety := 53, rows := (opNode e.kind (names.length - 1 - lastIx names (e.name.headD 0)) e.num (e.kids.map (compM (names ++ e.name)))).map eOp, wr := true }] := by
 have hnl := hd.nlen
 have hnm : names.length + e.name.length <= 4611686018427387904 := by omega
 obtain ⟨c, b, hnm1, hkids⟩ := hd.lam h5
 have hb := hsm b (by rw [hkids]; simp)
 have hB := ih b (by rw [hkids]; simp)
 rw [hkids]
 simp only [List.map_cons, List.map_nil, opNode, h5]
 generalize compM (names ++ e.name) b = B at *
 refine ACalls.of_body Try.func25 (by kernel_rfl) rfl (by kernel_rfl) (by simp [Try.ntmps25]) (by simp) ?_
 rw [Try.ntmps25]
 repeat' first | ((first | refine aops_end (hK _ ?_) | refine aopsD_end (hK _ ?_) | refine aopsF_end (hK _ ?_)); clear hK K) | ((first | refine aops_go ?_ | refine aopsD_go ?_ | refine aopsF_go ?_); simp [h5, hkids, hnm]; (try simp (disch := omega) only [wrap64]); (try (refine gen fun q hq => ?_; cases q <;> (try simp [h5, hkids, hnm] at hq) <;> (try (have hh : True := hq; clear hh hq))))) | (refine wpcall_own rfl (hB) ?_; simp [h5, hkids, hnm]; (try simp (disch := omega) only [wrap64]); (try (refine gen fun q hq => ?_; cases q <;> (try simp [h5, hkids, hnm] at hq) <;> (try (have hh : True := hq; clear hh hq))))) | (refine ⟨by omega, by omega, ?_⟩) | (refine ⟨by rintro r (⟨a, _, rfl⟩ | rfl) <;> rfl, by omega, ?_⟩) | refine T.rdF (id := 11) mixed (fun _ => false) [8, 11] [9, 10] 9 [] (by kernel_rfl) fun K hK => ?_ | refine T.rdF1 (id := 11) mixed (fun _ => false) [8, 11] [9, 10] 9 [] (by kernel_rfl) fun K hK => ?_ | refine T.rs (id := 12) (fun i => i == 3) fun K hK => ?_ | refine T.rs1 (id := 12) (fun i => i == 3) fun K hK => ?_ | refine T.rs (id := 0) (fun _ => false) fun K hK => ?_ | refine T.rs1 (id := 0) (fun _ => false) fun K hK => ?_ | refine T.rs (id := 1) (fun _ => false) fun K hK => ?_ | refine T.rs1 (id := 1) (fun _ => false) fun K hK => ?_ | refine T.rs (id := 2) (fun _ => false) fun K hK => ?_ | refine T.rs1 (id := 2) (fun _ => false) fun K hK => ?_ | refine T.rs (id := 3) (fun _ => false) fun K hK => ?_ | refine T.rs1 (id := 3) (fun _ => false) fun K hK => ?_ | refine T.rs (id := 4) (fun _ => false) fun K hK => ?_ | refine T.rs1 (id := 4) (fun _ => false) fun K hK => ?_ | refine T.rs (id := 5) (fun _ => false) fun K hK => ?_ | refine T.rs1 (id := 5) (fun _ => false) fun K hK => ?_ | refine T.rs (id := 6) (fun _ => false) fun K hK => ?_ | refine T.rs1 (id := 6) (fun _ => false) fun K hK => ?_ | refine T.rs (id := 7) (fun _ => false) fun K hK => ?_ | refine T.rs1 (id := 7) (fun _ => false) fun K hK => ?_ | refine T.rs (id := 8) (fun _ => false) fun K hK => ?_ | refine T.rs1 (id := 8) (fun _ => false) fun K hK => ?_ | refine T.rs (id := 9) (fun _ => false) fun K hK => ?_ | refine T.rs1 (id := 9) (fun _ => false) fun K hK => ?_ | refine T.rs (id := 10) (fun _ => false) fun K hK => ?_ | refine T.rs1 (id := 10) (fun _ => false) fun K hK => ?_ | refine T.rs (id := 13) (fun _ => false) fun K hK => ?_ | refine T.rs1 (id := 13) (fun _ => false) fun K hK => ?_ | refine T.rs (id := 14) (fun _ => false) fun K hK => ?_ | refine T.rs1 (id := 14) (fun _ => false) fun K hK => ?_ | refine T.rs (id := 15) (fun _ => false) fun K hK => ?_ | refine T.rs1 (id := 15) (fun _ => false) fun K hK => ?_ | refine T.rs (id := 16) (fun _ => false) fun K hK => ?_ | refine T.rs1 (id := 16) (fun _ => false) fun K hK => ?_ | refine T.rs (id := 17) (fun _ => false) fun K hK => ?_ | refine T.rs1 (id := 17) (fun _ => false) fun K hK => ?_ | refine T.rs (id := 18) (fun _ => false) fun K hK => ?_ | refine T.rs1 (id := 18) (fun _ => false) fun K hK => ?_ | refine T.rs (id := 19) (fun _ => false) fun K hK => ?_ | refine T.rs1 (id := 19) (fun _ => false) fun K hK => ?_ | refine T.rs (id := 20) (fun _ => false) fun K hK => ?_ | refine T.rs1 (id := 20) (fun _ => false) fun K hK => ?_ | refine T.rs (id := 21) (fun _ => false) fun K hK => ?_ | refine T.rs1 (id := 21) (fun _ => false) fun K hK => ?_ | refine T.rs (id := 23) (fun _ => false) fun K hK => ?_ | refine T.rs1 (id := 23) (fun _ => false) fun K hK => ?_ | refine T.rs (id := 22) (fun _ => false) fun K hK => ?_ | refine T.rs1 (id := 22) (fun _ => false) fun K hK => ?_ | refine T.rs (id := 24) (fun _ => false) fun K hK => ?_ | refine T.rs1 (id := 24) (fun _ => false) fun K hK => ?_ | refine T.rs (id := 25) (fun _ => false) fun K hK => ?_ | refine T.rs1 (id := 25) (fun _ => false) fun K hK => ?_ | refine T.rs (id := 26) (fun _ => false) fun K hK => ?_ | refine T.rs1 (id := 26) (fun _ => false) fun K hK => ?_ | refine T.rs (id := 27) (fun _ => false) fun K hK => ?_ | refine T.rs1 (id := 27) (fun _ => false) fun K hK => ?_ | refine T.rs (id := 28) (fun _ => false) fun K hK => ?_ | refine T.rs1 (id := 28) (fun _ => false) fun K hK => ?_ | refine T.rs (id := 29) (fun _ => false) fun K hK => ?_ | refine T.rs1 (id := 29) (fun _ => false) fun K hK => ?_ | refine T.rs (id := 30) (fun _ => false) fun K hK => ?_ | refine T.rs1 (id := 30) (fun _ => false) fun K hK => ?_ | refine T.rs (id := 31) (fun _ => false) fun K hK => ?_ | refine T.rs1 (id := 31) (fun _ => false) fun K hK => ?_ | refine T.rs (id := 32) (fun _ => false) fun K hK => ?_ | refine T.rs1 (id := 32) (fun _ => false) fun K hK => ?_ | refine T.rs (id := 33) (fun _ => false) fun K hK => ?_ | refine T.rs1 (id := 33) (fun _ => false) fun K hK => ?_ | refine T.rs (id := 34) (fun _ => false) fun K hK => ?_ | refine T.rs1 (id := 34) (fun _ => false) fun K hK => ?_ | refine T.rs (id := 35) (fun _ => false) fun K hK => ?_ | refine T.rs1 (id := 35) (fun _ => false) fun K hK => ?_ | (refine ⟨by omega, ?_⟩) | refine T.ct rfl ?_ | refine T.cf rfl ?_ | refine T.seq ?_ | refine T.block ?_ | refine T.skip ?_ | refine T.exit ?_
 all_goals (refine T.ret (Done.own1 1 (Or.inr rfl) (ys := [_]) ?_ rfl ?_) <;> simp [resAs, Try.results25, show 1 + (B.length + 1) = B.length + 1 + 1 by omega])

theorem l14Compile_var (e : MTm) (names : List UInt8) (h5 : e.kind = 1) (hn : names.length <= 1000000) (hd : BaHead names e) (hsm : ∀ u ∈ e.kids, (compM (names) u).length <= 1000000)
  (ih : ∀ u ∈ e.kids, ACalls Try.prog 25 [aTm u, .s (names)] [] (.c (.own 0 (compM (names) u).length)) [] [{ sz := 2, ety := 53, rows := (compM (names) u).map eOp, wr := true }]) :
  ACalls Try.prog 25 [aTm e, .s names] [] (.c (.own 0 (opNode e.kind (names.length - 1 - lastIx names (e.name.headD 0)) e.num (e.kids.map (compM (names)))).length)) [] [{ sz := 2, ety := 53, rows := (opNode e.kind (names.length - 1 - lastIx names (e.name.headD 0)) e.num (e.kids.map (compM (names)))).map eOp, wr := true }] := by
 have hnl := hd.nlen
 have hnm : names.length + e.name.length <= 4611686018427387904 := by omega
 obtain ⟨c, hnm1, hcn, hkids⟩ := hd.var h5
 have hli := l14Index_ok names c (by omega) hcn
 rw [hnm1]
 simp only [opNode, h5, if_true, List.headD_cons]
 generalize (names.length : Int) - 1 - lastIx names c = ix at *
 refine ACalls.of_body Try.func25 (by kernel_rfl) rfl (by kernel_rfl) (by simp [Try.ntmps25]) (by simp) ?_
 rw [Try.ntmps25]
 repeat' first | ((first | refine aops_end (hK _ ?_) | refine aopsD_end (hK _ ?_) | refine aopsF_end (hK _ ?_)); clear hK K) | ((first | refine aops_go ?_ | refine aopsD_go ?_ | refine aopsF_go ?_); simp [h5, hnm1]; (try simp (disch := omega) only [wrap64]); (try (refine gen fun q hq => ?_; cases q <;> (try simp [h5, hnm1] at hq) <;> (try (have hh : True := hq; clear hh hq))))) | (refine wpcall_pure rfl (hli) ?_; simp [h5, hnm1]; (try simp (disch := omega) only [wrap64]); (try (refine gen fun q hq => ?_; cases q <;> (try simp [h5, hnm1] at hq) <;> (try (have hh : True := hq; clear hh hq))))) | refine T.rs (id := 3) (fun i => i == 5) fun K hK => ?_ | refine T.rs1 (id := 3) (fun i => i == 5) fun K hK => ?_ | refine T.rd (id := 11) mixed (fun _ => false) [11] (by kernel_rfl) fun K hK => ?_ | refine T.rd1 (id := 11) mixed (fun _ => false) [11] (by kernel_rfl) fun K hK => ?_ | refine T.rs (id := 0) (fun _ => false) fun K hK => ?_ | refine T.rs1 (id := 0) (fun _ => false) fun K hK => ?_ | refine T.rs (id := 1) (fun _ => false) fun K hK => ?_ | refine T.rs1 (id := 1) (fun _ => false) fun K hK => ?_ | refine T.rs (id := 2) (fun _ => false) fun K hK => ?_ | refine T.rs1 (id := 2) (fun _ => false) fun K hK => ?_ | refine T.rs (id := 4) (fun _ => false) fun K hK => ?_ | refine T.rs1 (id := 4) (fun _ => false) fun K hK => ?_ | refine T.rs (id := 5) (fun _ => false) fun K hK => ?_ | refine T.rs1 (id := 5) (fun _ => false) fun K hK => ?_ | refine T.rs (id := 6) (fun _ => false) fun K hK => ?_ | refine T.rs1 (id := 6) (fun _ => false) fun K hK => ?_ | refine T.rs (id := 7) (fun _ => false) fun K hK => ?_ | refine T.rs1 (id := 7) (fun _ => false) fun K hK => ?_ | refine T.rs (id := 8) (fun _ => false) fun K hK => ?_ | refine T.rs1 (id := 8) (fun _ => false) fun K hK => ?_ | refine T.rs (id := 9) (fun _ => false) fun K hK => ?_ | refine T.rs1 (id := 9) (fun _ => false) fun K hK => ?_ | refine T.rs (id := 10) (fun _ => false) fun K hK => ?_ | refine T.rs1 (id := 10) (fun _ => false) fun K hK => ?_ | refine T.rs (id := 12) (fun _ => false) fun K hK => ?_ | refine T.rs1 (id := 12) (fun _ => false) fun K hK => ?_ | refine T.rs (id := 13) (fun _ => false) fun K hK => ?_ | refine T.rs1 (id := 13) (fun _ => false) fun K hK => ?_ | refine T.rs (id := 14) (fun _ => false) fun K hK => ?_ | refine T.rs1 (id := 14) (fun _ => false) fun K hK => ?_ | refine T.rs (id := 15) (fun _ => false) fun K hK => ?_ | refine T.rs1 (id := 15) (fun _ => false) fun K hK => ?_ | refine T.rs (id := 16) (fun _ => false) fun K hK => ?_ | refine T.rs1 (id := 16) (fun _ => false) fun K hK => ?_ | refine T.rs (id := 17) (fun _ => false) fun K hK => ?_ | refine T.rs1 (id := 17) (fun _ => false) fun K hK => ?_ | refine T.rs (id := 18) (fun _ => false) fun K hK => ?_ | refine T.rs1 (id := 18) (fun _ => false) fun K hK => ?_ | refine T.rs (id := 19) (fun _ => false) fun K hK => ?_ | refine T.rs1 (id := 19) (fun _ => false) fun K hK => ?_ | refine T.rs (id := 20) (fun _ => false) fun K hK => ?_ | refine T.rs1 (id := 20) (fun _ => false) fun K hK => ?_ | refine T.rs (id := 21) (fun _ => false) fun K hK => ?_ | refine T.rs1 (id := 21) (fun _ => false) fun K hK => ?_ | refine T.rs (id := 23) (fun _ => false) fun K hK => ?_ | refine T.rs1 (id := 23) (fun _ => false) fun K hK => ?_ | refine T.rs (id := 22) (fun _ => false) fun K hK => ?_ | refine T.rs1 (id := 22) (fun _ => false) fun K hK => ?_ | refine T.rs (id := 24) (fun _ => false) fun K hK => ?_ | refine T.rs1 (id := 24) (fun _ => false) fun K hK => ?_ | refine T.rs (id := 25) (fun _ => false) fun K hK => ?_ | refine T.rs1 (id := 25) (fun _ => false) fun K hK => ?_ | refine T.rs (id := 26) (fun _ => false) fun K hK => ?_ | refine T.rs1 (id := 26) (fun _ => false) fun K hK => ?_ | refine T.rs (id := 27) (fun _ => false) fun K hK => ?_ | refine T.rs1 (id := 27) (fun _ => false) fun K hK => ?_ | refine T.rs (id := 28) (fun _ => false) fun K hK => ?_ | refine T.rs1 (id := 28) (fun _ => false) fun K hK => ?_ | refine T.rs (id := 29) (fun _ => false) fun K hK => ?_ | refine T.rs1 (id := 29) (fun _ => false) fun K hK => ?_ | refine T.rs (id := 30) (fun _ => false) fun K hK => ?_ | refine T.rs1 (id := 30) (fun _ => false) fun K hK => ?_ | refine T.rs (id := 31) (fun _ => false) fun K hK => ?_ | refine T.rs1 (id := 31) (fun _ => false) fun K hK => ?_ | refine T.rs (id := 32) (fun _ => false) fun K hK => ?_ | refine T.rs1 (id := 32) (fun _ => false) fun K hK => ?_ | refine T.rs (id := 33) (fun _ => false) fun K hK => ?_ | refine T.rs1 (id := 33) (fun _ => false) fun K hK => ?_ | refine T.rs (id := 34) (fun _ => false) fun K hK => ?_ | refine T.rs1 (id := 34) (fun _ => false) fun K hK => ?_ | refine T.rs (id := 35) (fun _ => false) fun K hK => ?_ | refine T.rs1 (id := 35) (fun _ => false) fun K hK => ?_ | (refine ⟨by omega, ?_⟩) | refine T.ct rfl ?_ | refine T.cf rfl ?_ | refine T.seq ?_ | refine T.block ?_ | refine T.skip ?_ | refine T.exit ?_
 all_goals (refine T.ret (Done.own1 0 (Or.inr rfl) (ys := [_]) ?_ rfl ?_) <;> simp [resAs, Try.results25])

theorem l14Compile_num (e : MTm) (names : List UInt8) (h5 : e.kind = 2) (hn : names.length <= 1000000) (hd : BaHead names e) (hsm : ∀ u ∈ e.kids, (compM (names) u).length <= 1000000)
  (ih : ∀ u ∈ e.kids, ACalls Try.prog 25 [aTm u, .s (names)] [] (.c (.own 0 (compM (names) u).length)) [] [{ sz := 2, ety := 53, rows := (compM (names) u).map eOp, wr := true }]) :
  ACalls Try.prog 25 [aTm e, .s names] [] (.c (.own 0 (opNode e.kind (names.length - 1 - lastIx names (e.name.headD 0)) e.num (e.kids.map (compM (names)))).length)) [] [{ sz := 2, ety := 53, rows := (opNode e.kind (names.length - 1 - lastIx names (e.name.headD 0)) e.num (e.kids.map (compM (names)))).map eOp, wr := true }] := by
 have hnl := hd.nlen
 have hnm : names.length + e.name.length <= 4611686018427387904 := by omega
 simp [opNode, h5]
 refine ACalls.of_body Try.func25 (by kernel_rfl) rfl (by kernel_rfl) (by simp [Try.ntmps25]) (by simp) ?_
 rw [Try.ntmps25]
 repeat' first | ((first | refine aops_end (hK _ ?_) | refine aopsD_end (hK _ ?_) | refine aopsF_end (hK _ ?_)); clear hK K) | ((first | refine aops_go ?_ | refine aopsD_go ?_ | refine aopsF_go ?_); simp [h5]; (try simp (disch := omega) only [wrap64]); (try (refine gen fun q hq => ?_; cases q <;> (try simp [h5] at hq) <;> (try (have hh : True := hq; clear hh hq))))) | refine T.rs (id := 5) (fun i => i == 3) fun K hK => ?_ | refine T.rs1 (id := 5) (fun i => i == 3) fun K hK => ?_ | refine T.rd (id := 11) mixed (fun _ => false) [11] (by kernel_rfl) fun K hK => ?_ | refine T.rd1 (id := 11) mixed (fun _ => false) [11] (by kernel_rfl) fun K hK => ?_ | refine T.rs (id := 0) (fun _ => false) fun K hK => ?_ | refine T.rs1 (id := 0) (fun _ => false) fun K hK => ?_ | refine T.rs (id := 1) (fun _ => false) fun K hK => ?_ | refine T.rs1 (id := 1) (fun _ => false) fun K hK => ?_ | refine T.rs (id := 2) (fun _ => false) fun K hK => ?_ | refine T.rs1 (id := 2) (fun _ => false) fun K hK => ?_ | refine T.rs (id := 3) (fun _ => false) fun K hK => ?_ | refine T.rs1 (id := 3) (fun _ => false) fun K hK => ?_ | refine T.rs (id := 4) (fun _ => false) fun K hK => ?_ | refine T.rs1 (id := 4) (fun _ => false) fun K hK => ?_ | refine T.rs (id := 6) (fun _ => false) fun K hK => ?_ | refine T.rs1 (id := 6) (fun _ => false) fun K hK => ?_ | refine T.rs (id := 7) (fun _ => false) fun K hK => ?_ | refine T.rs1 (id := 7) (fun _ => false) fun K hK => ?_ | refine T.rs (id := 8) (fun _ => false) fun K hK => ?_ | refine T.rs1 (id := 8) (fun _ => false) fun K hK => ?_ | refine T.rs (id := 9) (fun _ => false) fun K hK => ?_ | refine T.rs1 (id := 9) (fun _ => false) fun K hK => ?_ | refine T.rs (id := 10) (fun _ => false) fun K hK => ?_ | refine T.rs1 (id := 10) (fun _ => false) fun K hK => ?_ | refine T.rs (id := 12) (fun _ => false) fun K hK => ?_ | refine T.rs1 (id := 12) (fun _ => false) fun K hK => ?_ | refine T.rs (id := 13) (fun _ => false) fun K hK => ?_ | refine T.rs1 (id := 13) (fun _ => false) fun K hK => ?_ | refine T.rs (id := 14) (fun _ => false) fun K hK => ?_ | refine T.rs1 (id := 14) (fun _ => false) fun K hK => ?_ | refine T.rs (id := 15) (fun _ => false) fun K hK => ?_ | refine T.rs1 (id := 15) (fun _ => false) fun K hK => ?_ | refine T.rs (id := 16) (fun _ => false) fun K hK => ?_ | refine T.rs1 (id := 16) (fun _ => false) fun K hK => ?_ | refine T.rs (id := 17) (fun _ => false) fun K hK => ?_ | refine T.rs1 (id := 17) (fun _ => false) fun K hK => ?_ | refine T.rs (id := 18) (fun _ => false) fun K hK => ?_ | refine T.rs1 (id := 18) (fun _ => false) fun K hK => ?_ | refine T.rs (id := 19) (fun _ => false) fun K hK => ?_ | refine T.rs1 (id := 19) (fun _ => false) fun K hK => ?_ | refine T.rs (id := 20) (fun _ => false) fun K hK => ?_ | refine T.rs1 (id := 20) (fun _ => false) fun K hK => ?_ | refine T.rs (id := 21) (fun _ => false) fun K hK => ?_ | refine T.rs1 (id := 21) (fun _ => false) fun K hK => ?_ | refine T.rs (id := 23) (fun _ => false) fun K hK => ?_ | refine T.rs1 (id := 23) (fun _ => false) fun K hK => ?_ | refine T.rs (id := 22) (fun _ => false) fun K hK => ?_ | refine T.rs1 (id := 22) (fun _ => false) fun K hK => ?_ | refine T.rs (id := 24) (fun _ => false) fun K hK => ?_ | refine T.rs1 (id := 24) (fun _ => false) fun K hK => ?_ | refine T.rs (id := 25) (fun _ => false) fun K hK => ?_ | refine T.rs1 (id := 25) (fun _ => false) fun K hK => ?_ | refine T.rs (id := 26) (fun _ => false) fun K hK => ?_ | refine T.rs1 (id := 26) (fun _ => false) fun K hK => ?_ | refine T.rs (id := 27) (fun _ => false) fun K hK => ?_ | refine T.rs1 (id := 27) (fun _ => false) fun K hK => ?_ | refine T.rs (id := 28) (fun _ => false) fun K hK => ?_ | refine T.rs1 (id := 28) (fun _ => false) fun K hK => ?_ | refine T.rs (id := 29) (fun _ => false) fun K hK => ?_ | refine T.rs1 (id := 29) (fun _ => false) fun K hK => ?_ | refine T.rs (id := 30) (fun _ => false) fun K hK => ?_ | refine T.rs1 (id := 30) (fun _ => false) fun K hK => ?_ | refine T.rs (id := 31) (fun _ => false) fun K hK => ?_ | refine T.rs1 (id := 31) (fun _ => false) fun K hK => ?_ | refine T.rs (id := 32) (fun _ => false) fun K hK => ?_ | refine T.rs1 (id := 32) (fun _ => false) fun K hK => ?_ | refine T.rs (id := 33) (fun _ => false) fun K hK => ?_ | refine T.rs1 (id := 33) (fun _ => false) fun K hK => ?_ | refine T.rs (id := 34) (fun _ => false) fun K hK => ?_ | refine T.rs1 (id := 34) (fun _ => false) fun K hK => ?_ | refine T.rs (id := 35) (fun _ => false) fun K hK => ?_ | refine T.rs1 (id := 35) (fun _ => false) fun K hK => ?_ | (refine ⟨by omega, ?_⟩) | refine T.ct rfl ?_ | refine T.cf rfl ?_ | refine T.seq ?_ | refine T.block ?_ | refine T.skip ?_ | refine T.exit ?_
 all_goals (refine T.ret (Done.own1 0 (Or.inr rfl) (ys := [_]) ?_ rfl ?_) <;> simp [resAs, Try.results25])

theorem l14Compile_tru (e : MTm) (names : List UInt8) (h5 : e.kind = 3) (hn : names.length <= 1000000) (hd : BaHead names e) (hsm : ∀ u ∈ e.kids, (compM (names) u).length <= 1000000)
  (ih : ∀ u ∈ e.kids, ACalls Try.prog 25 [aTm u, .s (names)] [] (.c (.own 0 (compM (names) u).length)) [] [{ sz := 2, ety := 53, rows := (compM (names) u).map eOp, wr := true }]) :
  ACalls Try.prog 25 [aTm e, .s names] [] (.c (.own 0 (opNode e.kind (names.length - 1 - lastIx names (e.name.headD 0)) e.num (e.kids.map (compM (names)))).length)) [] [{ sz := 2, ety := 53, rows := (opNode e.kind (names.length - 1 - lastIx names (e.name.headD 0)) e.num (e.kids.map (compM (names)))).map eOp, wr := true }] := by
 have hnl := hd.nlen
 have hnm : names.length + e.name.length <= 4611686018427387904 := by omega
 simp [opNode, h5]
 refine ACalls.of_body Try.func25 (by kernel_rfl) rfl (by kernel_rfl) (by simp [Try.ntmps25]) (by simp) ?_
 rw [Try.ntmps25]
 repeat' first | ((first | refine aops_end (hK _ ?_) | refine aopsD_end (hK _ ?_) | refine aopsF_end (hK _ ?_)); clear hK K) | ((first | refine aops_go ?_ | refine aopsD_go ?_ | refine aopsF_go ?_); simp [h5]; (try simp (disch := omega) only [wrap64]); (try (refine gen fun q hq => ?_; cases q <;> (try simp [h5] at hq) <;> (try (have hh : True := hq; clear hh hq))))) | refine T.rs (id := 7) (fun i => i == 1) fun K hK => ?_ | refine T.rs1 (id := 7) (fun i => i == 1) fun K hK => ?_ | refine T.rd (id := 11) mixed (fun _ => false) [11] (by kernel_rfl) fun K hK => ?_ | refine T.rd1 (id := 11) mixed (fun _ => false) [11] (by kernel_rfl) fun K hK => ?_ | refine T.rs (id := 0) (fun _ => false) fun K hK => ?_ | refine T.rs1 (id := 0) (fun _ => false) fun K hK => ?_ | refine T.rs (id := 1) (fun _ => false) fun K hK => ?_ | refine T.rs1 (id := 1) (fun _ => false) fun K hK => ?_ | refine T.rs (id := 2) (fun _ => false) fun K hK => ?_ | refine T.rs1 (id := 2) (fun _ => false) fun K hK => ?_ | refine T.rs (id := 3) (fun _ => false) fun K hK => ?_ | refine T.rs1 (id := 3) (fun _ => false) fun K hK => ?_ | refine T.rs (id := 4) (fun _ => false) fun K hK => ?_ | refine T.rs1 (id := 4) (fun _ => false) fun K hK => ?_ | refine T.rs (id := 5) (fun _ => false) fun K hK => ?_ | refine T.rs1 (id := 5) (fun _ => false) fun K hK => ?_ | refine T.rs (id := 6) (fun _ => false) fun K hK => ?_ | refine T.rs1 (id := 6) (fun _ => false) fun K hK => ?_ | refine T.rs (id := 8) (fun _ => false) fun K hK => ?_ | refine T.rs1 (id := 8) (fun _ => false) fun K hK => ?_ | refine T.rs (id := 9) (fun _ => false) fun K hK => ?_ | refine T.rs1 (id := 9) (fun _ => false) fun K hK => ?_ | refine T.rs (id := 10) (fun _ => false) fun K hK => ?_ | refine T.rs1 (id := 10) (fun _ => false) fun K hK => ?_ | refine T.rs (id := 12) (fun _ => false) fun K hK => ?_ | refine T.rs1 (id := 12) (fun _ => false) fun K hK => ?_ | refine T.rs (id := 13) (fun _ => false) fun K hK => ?_ | refine T.rs1 (id := 13) (fun _ => false) fun K hK => ?_ | refine T.rs (id := 14) (fun _ => false) fun K hK => ?_ | refine T.rs1 (id := 14) (fun _ => false) fun K hK => ?_ | refine T.rs (id := 15) (fun _ => false) fun K hK => ?_ | refine T.rs1 (id := 15) (fun _ => false) fun K hK => ?_ | refine T.rs (id := 16) (fun _ => false) fun K hK => ?_ | refine T.rs1 (id := 16) (fun _ => false) fun K hK => ?_ | refine T.rs (id := 17) (fun _ => false) fun K hK => ?_ | refine T.rs1 (id := 17) (fun _ => false) fun K hK => ?_ | refine T.rs (id := 18) (fun _ => false) fun K hK => ?_ | refine T.rs1 (id := 18) (fun _ => false) fun K hK => ?_ | refine T.rs (id := 19) (fun _ => false) fun K hK => ?_ | refine T.rs1 (id := 19) (fun _ => false) fun K hK => ?_ | refine T.rs (id := 20) (fun _ => false) fun K hK => ?_ | refine T.rs1 (id := 20) (fun _ => false) fun K hK => ?_ | refine T.rs (id := 21) (fun _ => false) fun K hK => ?_ | refine T.rs1 (id := 21) (fun _ => false) fun K hK => ?_ | refine T.rs (id := 23) (fun _ => false) fun K hK => ?_ | refine T.rs1 (id := 23) (fun _ => false) fun K hK => ?_ | refine T.rs (id := 22) (fun _ => false) fun K hK => ?_ | refine T.rs1 (id := 22) (fun _ => false) fun K hK => ?_ | refine T.rs (id := 24) (fun _ => false) fun K hK => ?_ | refine T.rs1 (id := 24) (fun _ => false) fun K hK => ?_ | refine T.rs (id := 25) (fun _ => false) fun K hK => ?_ | refine T.rs1 (id := 25) (fun _ => false) fun K hK => ?_ | refine T.rs (id := 26) (fun _ => false) fun K hK => ?_ | refine T.rs1 (id := 26) (fun _ => false) fun K hK => ?_ | refine T.rs (id := 27) (fun _ => false) fun K hK => ?_ | refine T.rs1 (id := 27) (fun _ => false) fun K hK => ?_ | refine T.rs (id := 28) (fun _ => false) fun K hK => ?_ | refine T.rs1 (id := 28) (fun _ => false) fun K hK => ?_ | refine T.rs (id := 29) (fun _ => false) fun K hK => ?_ | refine T.rs1 (id := 29) (fun _ => false) fun K hK => ?_ | refine T.rs (id := 30) (fun _ => false) fun K hK => ?_ | refine T.rs1 (id := 30) (fun _ => false) fun K hK => ?_ | refine T.rs (id := 31) (fun _ => false) fun K hK => ?_ | refine T.rs1 (id := 31) (fun _ => false) fun K hK => ?_ | refine T.rs (id := 32) (fun _ => false) fun K hK => ?_ | refine T.rs1 (id := 32) (fun _ => false) fun K hK => ?_ | refine T.rs (id := 33) (fun _ => false) fun K hK => ?_ | refine T.rs1 (id := 33) (fun _ => false) fun K hK => ?_ | refine T.rs (id := 34) (fun _ => false) fun K hK => ?_ | refine T.rs1 (id := 34) (fun _ => false) fun K hK => ?_ | refine T.rs (id := 35) (fun _ => false) fun K hK => ?_ | refine T.rs1 (id := 35) (fun _ => false) fun K hK => ?_ | (refine ⟨by omega, ?_⟩) | refine T.ct rfl ?_ | refine T.cf rfl ?_ | refine T.seq ?_ | refine T.block ?_ | refine T.skip ?_ | refine T.exit ?_
 all_goals (refine T.ret (Done.own1 0 (Or.inr rfl) (ys := [_]) ?_ rfl ?_) <;> simp [resAs, Try.results25])

theorem l14Compile_fls (e : MTm) (names : List UInt8) (h5 : e.kind = 4) (hn : names.length <= 1000000) (hd : BaHead names e) (hsm : ∀ u ∈ e.kids, (compM (names) u).length <= 1000000)
  (ih : ∀ u ∈ e.kids, ACalls Try.prog 25 [aTm u, .s (names)] [] (.c (.own 0 (compM (names) u).length)) [] [{ sz := 2, ety := 53, rows := (compM (names) u).map eOp, wr := true }]) :
  ACalls Try.prog 25 [aTm e, .s names] [] (.c (.own 0 (opNode e.kind (names.length - 1 - lastIx names (e.name.headD 0)) e.num (e.kids.map (compM (names)))).length)) [] [{ sz := 2, ety := 53, rows := (opNode e.kind (names.length - 1 - lastIx names (e.name.headD 0)) e.num (e.kids.map (compM (names)))).map eOp, wr := true }] := by
 have hnl := hd.nlen
 have hnm : names.length + e.name.length <= 4611686018427387904 := by omega
 simp [opNode, h5]
 refine ACalls.of_body Try.func25 (by kernel_rfl) rfl (by kernel_rfl) (by simp [Try.ntmps25]) (by simp) ?_
 rw [Try.ntmps25]
 repeat' first | ((first | refine aops_end (hK _ ?_) | refine aopsD_end (hK _ ?_) | refine aopsF_end (hK _ ?_)); clear hK K) | ((first | refine aops_go ?_ | refine aopsD_go ?_ | refine aopsF_go ?_); simp [h5]; (try simp (disch := omega) only [wrap64]); (try (refine gen fun q hq => ?_; cases q <;> (try simp [h5] at hq) <;> (try (have hh : True := hq; clear hh hq))))) | refine T.rs (id := 9) (fun i => i == 1) fun K hK => ?_ | refine T.rs1 (id := 9) (fun i => i == 1) fun K hK => ?_ | refine T.rd (id := 11) mixed (fun _ => false) [11] (by kernel_rfl) fun K hK => ?_ | refine T.rd1 (id := 11) mixed (fun _ => false) [11] (by kernel_rfl) fun K hK => ?_ | refine T.rs (id := 0) (fun _ => false) fun K hK => ?_ | refine T.rs1 (id := 0) (fun _ => false) fun K hK => ?_ | refine T.rs (id := 1) (fun _ => false) fun K hK => ?_ | refine T.rs1 (id := 1) (fun _ => false) fun K hK => ?_ | refine T.rs (id := 2) (fun _ => false) fun K hK => ?_ | refine T.rs1 (id := 2) (fun _ => false) fun K hK => ?_ | refine T.rs (id := 3) (fun _ => false) fun K hK => ?_ | refine T.rs1 (id := 3) (fun _ => false) fun K hK => ?_ | refine T.rs (id := 4) (fun _ => false) fun K hK => ?_ | refine T.rs1 (id := 4) (fun _ => false) fun K hK => ?_ | refine T.rs (id := 5) (fun _ => false) fun K hK => ?_ | refine T.rs1 (id := 5) (fun _ => false) fun K hK => ?_ | refine T.rs (id := 6) (fun _ => false) fun K hK => ?_ | refine T.rs1 (id := 6) (fun _ => false) fun K hK => ?_ | refine T.rs (id := 7) (fun _ => false) fun K hK => ?_ | refine T.rs1 (id := 7) (fun _ => false) fun K hK => ?_ | refine T.rs (id := 8) (fun _ => false) fun K hK => ?_ | refine T.rs1 (id := 8) (fun _ => false) fun K hK => ?_ | refine T.rs (id := 10) (fun _ => false) fun K hK => ?_ | refine T.rs1 (id := 10) (fun _ => false) fun K hK => ?_ | refine T.rs (id := 12) (fun _ => false) fun K hK => ?_ | refine T.rs1 (id := 12) (fun _ => false) fun K hK => ?_ | refine T.rs (id := 13) (fun _ => false) fun K hK => ?_ | refine T.rs1 (id := 13) (fun _ => false) fun K hK => ?_ | refine T.rs (id := 14) (fun _ => false) fun K hK => ?_ | refine T.rs1 (id := 14) (fun _ => false) fun K hK => ?_ | refine T.rs (id := 15) (fun _ => false) fun K hK => ?_ | refine T.rs1 (id := 15) (fun _ => false) fun K hK => ?_ | refine T.rs (id := 16) (fun _ => false) fun K hK => ?_ | refine T.rs1 (id := 16) (fun _ => false) fun K hK => ?_ | refine T.rs (id := 17) (fun _ => false) fun K hK => ?_ | refine T.rs1 (id := 17) (fun _ => false) fun K hK => ?_ | refine T.rs (id := 18) (fun _ => false) fun K hK => ?_ | refine T.rs1 (id := 18) (fun _ => false) fun K hK => ?_ | refine T.rs (id := 19) (fun _ => false) fun K hK => ?_ | refine T.rs1 (id := 19) (fun _ => false) fun K hK => ?_ | refine T.rs (id := 20) (fun _ => false) fun K hK => ?_ | refine T.rs1 (id := 20) (fun _ => false) fun K hK => ?_ | refine T.rs (id := 21) (fun _ => false) fun K hK => ?_ | refine T.rs1 (id := 21) (fun _ => false) fun K hK => ?_ | refine T.rs (id := 23) (fun _ => false) fun K hK => ?_ | refine T.rs1 (id := 23) (fun _ => false) fun K hK => ?_ | refine T.rs (id := 22) (fun _ => false) fun K hK => ?_ | refine T.rs1 (id := 22) (fun _ => false) fun K hK => ?_ | refine T.rs (id := 24) (fun _ => false) fun K hK => ?_ | refine T.rs1 (id := 24) (fun _ => false) fun K hK => ?_ | refine T.rs (id := 25) (fun _ => false) fun K hK => ?_ | refine T.rs1 (id := 25) (fun _ => false) fun K hK => ?_ | refine T.rs (id := 26) (fun _ => false) fun K hK => ?_ | refine T.rs1 (id := 26) (fun _ => false) fun K hK => ?_ | refine T.rs (id := 27) (fun _ => false) fun K hK => ?_ | refine T.rs1 (id := 27) (fun _ => false) fun K hK => ?_ | refine T.rs (id := 28) (fun _ => false) fun K hK => ?_ | refine T.rs1 (id := 28) (fun _ => false) fun K hK => ?_ | refine T.rs (id := 29) (fun _ => false) fun K hK => ?_ | refine T.rs1 (id := 29) (fun _ => false) fun K hK => ?_ | refine T.rs (id := 30) (fun _ => false) fun K hK => ?_ | refine T.rs1 (id := 30) (fun _ => false) fun K hK => ?_ | refine T.rs (id := 31) (fun _ => false) fun K hK => ?_ | refine T.rs1 (id := 31) (fun _ => false) fun K hK => ?_ | refine T.rs (id := 32) (fun _ => false) fun K hK => ?_ | refine T.rs1 (id := 32) (fun _ => false) fun K hK => ?_ | refine T.rs (id := 33) (fun _ => false) fun K hK => ?_ | refine T.rs1 (id := 33) (fun _ => false) fun K hK => ?_ | refine T.rs (id := 34) (fun _ => false) fun K hK => ?_ | refine T.rs1 (id := 34) (fun _ => false) fun K hK => ?_ | refine T.rs (id := 35) (fun _ => false) fun K hK => ?_ | refine T.rs1 (id := 35) (fun _ => false) fun K hK => ?_ | (refine ⟨by omega, ?_⟩) | refine T.ct rfl ?_ | refine T.cf rfl ?_ | refine T.seq ?_ | refine T.block ?_ | refine T.skip ?_ | refine T.exit ?_
 all_goals (refine T.ret (Done.own1 0 (Or.inr rfl) (ys := [_]) ?_ rfl ?_) <;> simp [resAs, Try.results25])

theorem l14Compile_ite (e : MTm) (names : List UInt8) (h5 : e.kind = 9) (hn : names.length <= 1000000) (hd : BaHead names e) (hsm : ∀ u ∈ e.kids, (compM (names) u).length <= 1000000)
  (ih : ∀ u ∈ e.kids, ACalls Try.prog 25 [aTm u, .s (names)] [] (.c (.own 0 (compM (names) u).length)) [] [{ sz := 2, ety := 53, rows := (compM (names) u).map eOp, wr := true }]) :
  ACalls Try.prog 25 [aTm e, .s names] [] (.c (.own 0 (opNode e.kind (names.length - 1 - lastIx names (e.name.headD 0)) e.num (e.kids.map (compM (names)))).length)) [] [{ sz := 2, ety := 53, rows := (opNode e.kind (names.length - 1 - lastIx names (e.name.headD 0)) e.num (e.kids.map (compM (names)))).map eOp, wr := true }] := by
 have hnl := hd.nlen
 have hnm : names.length + e.name.length <= 4611686018427387904 := by omega
 obtain ⟨a, b, c, hkids⟩ := hd.ite h5
 have ha := hsm a (by rw [hkids]; simp)
 have hb := hsm b (by rw [hkids]; simp)
 have hc := hsm c (by rw [hkids]; simp)
 have hA := ih a (by rw [hkids]; simp)
 have hB := (ih b (by rw [hkids]; simp)).sealed (by simp)
 have hC := (ih c (by rw [hkids]; simp)).sealed (by simp)
 dsimp only at hB hC
 rw [hkids]
 simp only [List.map_cons, List.map_nil, opNode, h5]
 generalize compM names a = A1 at *
 generalize compM names b = B1 at *
 generalize compM names c = C1 at *
 refine ACalls.of_body Try.func25 (by kernel_rfl) rfl (by kernel_rfl) (by simp [Try.ntmps25]) (by simp) ?_
 rw [Try.ntmps25]
 repeat' first | ((first | refine aops_end (hK _ ?_) | refine aopsD_end (hK _ ?_) | refine aopsF_end (hK _ ?_)); clear hK K) | ((first | refine aops_go ?_ | refine aopsD_go ?_ | refine aopsF_go ?_); simp [h5, hkids]; (try simp (disch := omega) only [wrap64]); (try (refine gen fun q hq => ?_; cases q <;> (try simp [h5, hkids] at hq) <;> (try (have hh : True := hq; clear hh hq))))) | (refine wpcall_pure rfl (hB) ?_; simp [h5, hkids]; (try simp (disch := omega) only [wrap64]); (try (refine gen fun q hq => ?_; cases q <;> (try simp [h5, hkids] at hq) <;> (try (have hh : True := hq; clear hh hq))))) | (refine wpcall_pure rfl (hC) ?_; simp [h5, hkids]; (try simp (disch := omega) only [wrap64]); (try (refine gen fun q hq => ?_; cases q <;> (try simp [h5, hkids] at hq) <;> (try (have hh : True := hq; clear hh hq))))) | (refine wpcall_own rfl (hA) ?_; simp [h5, hkids]; (try simp (disch := omega) only [wrap64]); (try (refine gen fun q hq => ?_; cases q <;> (try simp [h5, hkids] at hq) <;> (try (have hh : True := hq; clear hh hq))))) | (refine ⟨by omega, by omega, ?_⟩) | refine T.rd (id := 11) mixed (fun _ => false) [11] (by kernel_rfl) fun K hK => ?_ | refine T.rd1 (id := 11) mixed (fun _ => false) [11] (by kernel_rfl) fun K hK => ?_ | refine T.r0 fun K hK => ?_ | refine T.r1 fun K hK => ?_ | (refine ⟨by omega, ?_⟩) | refine T.ct rfl ?_ | refine T.cf rfl ?_ | refine T.seq ?_ | refine T.block ?_ | refine T.skip ?_ | refine T.exit ?_
 all_goals (refine T.ret (Done.own1 0 (Or.inr rfl) (ys := [_]) ?_ rfl ?_) <;> simp [resAs, Try.results25, show A1.length + 1 + B1.length + 1 + C1.length = A1.length + (B1.length + (C1.length + 1) + 1) by omega])

theorem l14Compile_app (e : MTm) (names : List UInt8) (h5 : e.kind = 6) (hn : names.length <= 1000000) (hd : BaHead names e) (hsm : ∀ u ∈ e.kids, (compM (names) u).length <= 1000000)
  (ih : ∀ u ∈ e.kids, ACalls Try.prog 25 [aTm u, .s (names)] [] (.c (.own 0 (compM (names) u).length)) [] [{ sz := 2, ety := 53, rows := (compM (names) u).map eOp, wr := true }]) :
  ACalls Try.prog 25 [aTm e, .s names] [] (.c (.own 0 (opNode e.kind (names.length - 1 - lastIx names (e.name.headD 0)) e.num (e.kids.map (compM (names)))).length)) [] [{ sz := 2, ety := 53, rows := (opNode e.kind (names.length - 1 - lastIx names (e.name.headD 0)) e.num (e.kids.map (compM (names)))).map eOp, wr := true }] := by
 have hnl := hd.nlen
 have hnm : names.length + e.name.length <= 4611686018427387904 := by omega
 have hl := hd.len
 have hfl : ∀ p, ((e.kids.take p).map (compM names)).flatten.length <= 4000000 := fun p => by
  have hs : ∀ (m : List (List MOp)), (∀ l ∈ m, l.length <= 1000000) -> m.flatten.length <= m.length * 1000000 := by
   intro m
   induction m with
   | nil => simp
   | cons a r ih => intro h; have e1 := h a (by simp); have e2 := ih (fun l hl => h l (by simp [hl])); rw [List.flatten_cons, List.length_append, List.length_cons]; omega
  have := hs ((e.kids.take p).map (compM names)) (fun l hl => by obtain ⟨u, hu, rfl⟩ := List.mem_map.1 hl; exact hsm u (List.mem_of_mem_take hu))
  rw [List.length_map, List.length_take] at this; omega
 rw [show opNode e.kind (names.length - 1 - lastIx names (e.name.headD 0)) e.num (e.kids.map (compM names)) = (e.kids.map (compM names)).flatten ++ [⟨6, 0⟩] by simp [opNode, lastOp, h5]]
 obtain ⟨F, hF⟩ : ∃ F : Nat -> List MOp, ∀ p, F p = ((e.kids.take p).map (compM names)).flatten := ⟨_, fun p => rfl⟩
 have hF0 : F 0 = [] := by rw [hF]; rfl
 have hFl : F e.kids.length = (e.kids.map (compM names)).flatten := by rw [hF, List.take_length]
 simp only [<- hF] at hfl
 rw [<- hFl]
 refine ACalls.of_body Try.func25 (by kernel_rfl) rfl (by kernel_rfl) (by simp [Try.ntmps25]) (by simp) ?_
 rw [Try.ntmps25]
 repeat' first | ((first | refine aops_end (hK _ ?_) | refine aopsD_end (hK _ ?_) | refine aopsF_end (hK _ ?_)); clear hK K) | ((first | refine aops_go ?_ | refine aopsD_go ?_ | refine aopsF_go ?_); simp [h5]; (try simp (disch := omega) only [wrap64]); (try (refine gen fun q hq => ?_; cases q <;> (try simp [h5] at hq) <;> (try (have hh : True := hq; clear hh hq))))) | refine T.rd (id := 11) mixed (fun _ => false) [11] (by kernel_rfl) fun K hK => ?_ | refine T.rd1 (id := 11) mixed (fun _ => false) [11] (by kernel_rfl) fun K hK => ?_ | refine T.rs (id := 19) (fun i => i == 0) fun K hK => ?_ | refine T.rs1 (id := 19) (fun i => i == 0) fun K hK => ?_ | refine T.rs (id := 0) (fun _ => false) fun K hK => ?_ | refine T.rs1 (id := 0) (fun _ => false) fun K hK => ?_ | refine T.rs (id := 1) (fun _ => false) fun K hK => ?_ | refine T.rs1 (id := 1) (fun _ => false) fun K hK => ?_ | refine T.rs (id := 2) (fun _ => false) fun K hK => ?_ | refine T.rs1 (id := 2) (fun _ => false) fun K hK => ?_ | refine T.rs (id := 3) (fun _ => false) fun K hK => ?_ | refine T.rs1 (id := 3) (fun _ => false) fun K hK => ?_ | refine T.rs (id := 4) (fun _ => false) fun K hK => ?_ | refine T.rs1 (id := 4) (fun _ => false) fun K hK => ?_ | refine T.rs (id := 5) (fun _ => false) fun K hK => ?_ | refine T.rs1 (id := 5) (fun _ => false) fun K hK => ?_ | refine T.rs (id := 6) (fun _ => false) fun K hK => ?_ | refine T.rs1 (id := 6) (fun _ => false) fun K hK => ?_ | refine T.rs (id := 7) (fun _ => false) fun K hK => ?_ | refine T.rs1 (id := 7) (fun _ => false) fun K hK => ?_ | refine T.rs (id := 8) (fun _ => false) fun K hK => ?_ | refine T.rs1 (id := 8) (fun _ => false) fun K hK => ?_ | refine T.rs (id := 9) (fun _ => false) fun K hK => ?_ | refine T.rs1 (id := 9) (fun _ => false) fun K hK => ?_ | refine T.rs (id := 10) (fun _ => false) fun K hK => ?_ | refine T.rs1 (id := 10) (fun _ => false) fun K hK => ?_ | refine T.rs (id := 12) (fun _ => false) fun K hK => ?_ | refine T.rs1 (id := 12) (fun _ => false) fun K hK => ?_ | refine T.rs (id := 13) (fun _ => false) fun K hK => ?_ | refine T.rs1 (id := 13) (fun _ => false) fun K hK => ?_ | refine T.rs (id := 14) (fun _ => false) fun K hK => ?_ | refine T.rs1 (id := 14) (fun _ => false) fun K hK => ?_ | refine T.rs (id := 15) (fun _ => false) fun K hK => ?_ | refine T.rs1 (id := 15) (fun _ => false) fun K hK => ?_ | refine T.rs (id := 16) (fun _ => false) fun K hK => ?_ | refine T.rs1 (id := 16) (fun _ => false) fun K hK => ?_ | refine T.rs (id := 17) (fun _ => false) fun K hK => ?_ | refine T.rs1 (id := 17) (fun _ => false) fun K hK => ?_ | refine T.rs (id := 18) (fun _ => false) fun K hK => ?_ | refine T.rs1 (id := 18) (fun _ => false) fun K hK => ?_ | refine T.rs (id := 20) (fun _ => false) fun K hK => ?_ | refine T.rs1 (id := 20) (fun _ => false) fun K hK => ?_ | refine T.rs (id := 21) (fun _ => false) fun K hK => ?_ | refine T.rs1 (id := 21) (fun _ => false) fun K hK => ?_ | refine T.rs (id := 23) (fun _ => false) fun K hK => ?_ | refine T.rs1 (id := 23) (fun _ => false) fun K hK => ?_ | refine T.rs (id := 22) (fun _ => false) fun K hK => ?_ | refine T.rs1 (id := 22) (fun _ => false) fun K hK => ?_ | refine T.rs (id := 24) (fun _ => false) fun K hK => ?_ | refine T.rs1 (id := 24) (fun _ => false) fun K hK => ?_ | refine T.rs (id := 25) (fun _ => false) fun K hK => ?_ | refine T.rs1 (id := 25) (fun _ => false) fun K hK => ?_ | refine T.rs (id := 26) (fun _ => false) fun K hK => ?_ | refine T.rs1 (id := 26) (fun _ => false) fun K hK => ?_ | refine T.rs (id := 27) (fun _ => false) fun K hK => ?_ | refine T.rs1 (id := 27) (fun _ => false) fun K hK => ?_ | refine T.rs (id := 28) (fun _ => false) fun K hK => ?_ | refine T.rs1 (id := 28) (fun _ => false) fun K hK => ?_ | refine T.rs (id := 29) (fun _ => false) fun K hK => ?_ | refine T.rs1 (id := 29) (fun _ => false) fun K hK => ?_ | refine T.rs (id := 30) (fun _ => false) fun K hK => ?_ | refine T.rs1 (id := 30) (fun _ => false) fun K hK => ?_ | refine T.rs (id := 31) (fun _ => false) fun K hK => ?_ | refine T.rs1 (id := 31) (fun _ => false) fun K hK => ?_ | refine T.rs (id := 32) (fun _ => false) fun K hK => ?_ | refine T.rs1 (id := 32) (fun _ => false) fun K hK => ?_ | refine T.rs (id := 33) (fun _ => false) fun K hK => ?_ | refine T.rs1 (id := 33) (fun _ => false) fun K hK => ?_ | refine T.rs (id := 34) (fun _ => false) fun K hK => ?_ | refine T.rs1 (id := 34) (fun _ => false) fun K hK => ?_ | refine T.rs (id := 35) (fun _ => false) fun K hK => ?_ | refine T.rs1 (id := 35) (fun _ => false) fun K hK => ?_ | (refine ⟨by omega, ?_⟩) | refine T.ct rfl ?_ | refine T.cf rfl ?_ | refine T.seq ?_ | refine T.block ?_ | refine T.skip ?_ | refine T.exit ?_
 refine T.loopK (α := Nat × List (List CV) × List Arr) [1, 2, 4] (fun x => [(9, .c (.own 0 (F x.1).length)), (10, .i x.1)]) (fun _ => []) (fun x => x.2.1) (fun x _ => { sz := 2, ety := 53, rows := (F x.1).map eOp, wr := true } :: x.2.2) (fun x => e.kids.length + 1 - x.1) (fun x => x.1 <= e.kids.length) (by simp; rfl) (fun x hx => ?_) (0, [], []) (by simp) (by simp) (by simp [hF0]) (by simp [hF0])
 obtain ⟨p, G, GA⟩ := x
 dsimp only at hx ⊢
 simp only [ups, List.set_cons_zero, List.set_cons_succ, List.cons_append, List.nil_append]
 by_cases hlt : p < e.kids.length
 ·obtain ⟨u, ht⟩ := get_lt hlt
  have htm : u ∈ e.kids := List.mem_of_getElem? ht
  have hgt : e.kids[p] = u := by rw [List.getElem?_eq_getElem hlt] at ht; exact Option.some.inj ht
  have hdr : e.kids.drop p = u :: e.kids.drop (p + 1) := by rw [List.drop_eq_getElem_cons hlt, hgt]
  have hu := (ih u htm).sealed (by simp)
  dsimp only at hu
  have hul := hsm u htm
  have hp1 := hfl p
  have htk : F (p + 1) = F p ++ compM names u := by rw [hF, hF, take_succ_of ht]; simp
  generalize F p = fl at *
  generalize compM names u = cu at *
  repeat' first | ((first | refine aops_end (hK _ ?_) | refine aopsD_end (hK _ ?_) | refine aopsF_end (hK _ ?_)); clear hK K) | ((first | refine aops_go ?_ | refine aopsD_go ?_ | refine aopsF_go ?_); simp [hlt, hgt]; (try simp (disch := omega) only [wrap64]); (try (refine gen fun q hq => ?_; cases q <;> (try simp [hlt, hgt] at hq) <;> (try (have hh : True := hq; clear hh hq))))) | (refine wpcall_pure rfl (hu) ?_; simp [hlt, hgt]; (try simp (disch := omega) only [wrap64]); (try (refine gen fun q hq => ?_; cases q <;> (try simp [hlt, hgt] at hq) <;> (try (have hh : True := hq; clear hh hq))))) | (refine ⟨by omega, by omega, ?_⟩) | (refine ⟨(p + 1, _, GA), by dsimp only; omega, by dsimp only; omega, rfl, ?_, ?_⟩ <;> simp (disch := omega) [wrap64, htk]) | refine T.rd (id := 11) mixed (fun _ => false) [11] (by kernel_rfl) fun K hK => ?_ | refine T.rd1 (id := 11) mixed (fun _ => false) [11] (by kernel_rfl) fun K hK => ?_ | refine T.r0 fun K hK => ?_ | refine T.r1 fun K hK => ?_ | (refine ⟨by omega, ?_⟩) | refine T.ct rfl ?_ | refine T.cf rfl ?_ | refine T.seq ?_ | refine T.block ?_ | refine T.skip ?_ | refine T.exit ?_
 ·have hp' : p = e.kids.length := by omega
  subst hp'
  have hp1 := hfl e.kids.length
  generalize F e.kids.length = fl at *
  repeat' first | ((first | refine aops_end (hK _ ?_) | refine aopsD_end (hK _ ?_) | refine aopsF_end (hK _ ?_)); clear hK K) | ((first | refine aops_go ?_ | refine aopsD_go ?_ | refine aopsF_go ?_); simp [hlt, h5]; (try simp (disch := omega) only [wrap64]); (try (refine gen fun q hq => ?_; cases q <;> (try simp [hlt, h5] at hq) <;> (try (have hh : True := hq; clear hh hq))))) | (refine ⟨by omega, by omega, ?_⟩) | refine T.rd (id := 11) mixed (fun _ => false) [11] (by kernel_rfl) fun K hK => ?_ | refine T.rd1 (id := 11) mixed (fun _ => false) [11] (by kernel_rfl) fun K hK => ?_ | refine T.r0 fun K hK => ?_ | refine T.r1 fun K hK => ?_ | (refine ⟨by omega, ?_⟩) | refine T.ct rfl ?_ | refine T.cf rfl ?_ | refine T.seq ?_ | refine T.block ?_ | refine T.skip ?_ | refine T.exit ?_
  all_goals (refine T.ret (Done.own1 0 (Or.inr rfl) (ys := [_]) ?_ rfl ?_) <;> simp [resAs, Try.results25])

theorem l14Compile_add (e : MTm) (names : List UInt8) (h5 : e.kind = 7) (hn : names.length <= 1000000) (hd : BaHead names e) (hsm : ∀ u ∈ e.kids, (compM (names) u).length <= 1000000)
  (ih : ∀ u ∈ e.kids, ACalls Try.prog 25 [aTm u, .s (names)] [] (.c (.own 0 (compM (names) u).length)) [] [{ sz := 2, ety := 53, rows := (compM (names) u).map eOp, wr := true }]) :
  ACalls Try.prog 25 [aTm e, .s names] [] (.c (.own 0 (opNode e.kind (names.length - 1 - lastIx names (e.name.headD 0)) e.num (e.kids.map (compM (names)))).length)) [] [{ sz := 2, ety := 53, rows := (opNode e.kind (names.length - 1 - lastIx names (e.name.headD 0)) e.num (e.kids.map (compM (names)))).map eOp, wr := true }] := by
 have hnl := hd.nlen
 have hnm : names.length + e.name.length <= 4611686018427387904 := by omega
 have hl := hd.len
 have hfl : ∀ p, ((e.kids.take p).map (compM names)).flatten.length <= 4000000 := fun p => by
  have hs : ∀ (m : List (List MOp)), (∀ l ∈ m, l.length <= 1000000) -> m.flatten.length <= m.length * 1000000 := by
   intro m
   induction m with
   | nil => simp
   | cons a r ih => intro h; have e1 := h a (by simp); have e2 := ih (fun l hl => h l (by simp [hl])); rw [List.flatten_cons, List.length_append, List.length_cons]; omega
  have := hs ((e.kids.take p).map (compM names)) (fun l hl => by obtain ⟨u, hu, rfl⟩ := List.mem_map.1 hl; exact hsm u (List.mem_of_mem_take hu))
  rw [List.length_map, List.length_take] at this; omega
 rw [show opNode e.kind (names.length - 1 - lastIx names (e.name.headD 0)) e.num (e.kids.map (compM names)) = (e.kids.map (compM names)).flatten ++ [⟨7, 0⟩] by simp [opNode, lastOp, h5]]
 obtain ⟨F, hF⟩ : ∃ F : Nat -> List MOp, ∀ p, F p = ((e.kids.take p).map (compM names)).flatten := ⟨_, fun p => rfl⟩
 have hF0 : F 0 = [] := by rw [hF]; rfl
 have hFl : F e.kids.length = (e.kids.map (compM names)).flatten := by rw [hF, List.take_length]
 simp only [<- hF] at hfl
 rw [<- hFl]
 refine ACalls.of_body Try.func25 (by kernel_rfl) rfl (by kernel_rfl) (by simp [Try.ntmps25]) (by simp) ?_
 rw [Try.ntmps25]
 repeat' first | ((first | refine aops_end (hK _ ?_) | refine aopsD_end (hK _ ?_) | refine aopsF_end (hK _ ?_)); clear hK K) | ((first | refine aops_go ?_ | refine aopsD_go ?_ | refine aopsF_go ?_); simp [h5]; (try simp (disch := omega) only [wrap64]); (try (refine gen fun q hq => ?_; cases q <;> (try simp [h5] at hq) <;> (try (have hh : True := hq; clear hh hq))))) | refine T.rd (id := 11) mixed (fun _ => false) [11] (by kernel_rfl) fun K hK => ?_ | refine T.rd1 (id := 11) mixed (fun _ => false) [11] (by kernel_rfl) fun K hK => ?_ | refine T.rs (id := 19) (fun i => i == 0) fun K hK => ?_ | refine T.rs1 (id := 19) (fun i => i == 0) fun K hK => ?_ | refine T.rs (id := 0) (fun _ => false) fun K hK => ?_ | refine T.rs1 (id := 0) (fun _ => false) fun K hK => ?_ | refine T.rs (id := 1) (fun _ => false) fun K hK => ?_ | refine T.rs1 (id := 1) (fun _ => false) fun K hK => ?_ | refine T.rs (id := 2) (fun _ => false) fun K hK => ?_ | refine T.rs1 (id := 2) (fun _ => false) fun K hK => ?_ | refine T.rs (id := 3) (fun _ => false) fun K hK => ?_ | refine T.rs1 (id := 3) (fun _ => false) fun K hK => ?_ | refine T.rs (id := 4) (fun _ => false) fun K hK => ?_ | refine T.rs1 (id := 4) (fun _ => false) fun K hK => ?_ | refine T.rs (id := 5) (fun _ => false) fun K hK => ?_ | refine T.rs1 (id := 5) (fun _ => false) fun K hK => ?_ | refine T.rs (id := 6) (fun _ => false) fun K hK => ?_ | refine T.rs1 (id := 6) (fun _ => false) fun K hK => ?_ | refine T.rs (id := 7) (fun _ => false) fun K hK => ?_ | refine T.rs1 (id := 7) (fun _ => false) fun K hK => ?_ | refine T.rs (id := 8) (fun _ => false) fun K hK => ?_ | refine T.rs1 (id := 8) (fun _ => false) fun K hK => ?_ | refine T.rs (id := 9) (fun _ => false) fun K hK => ?_ | refine T.rs1 (id := 9) (fun _ => false) fun K hK => ?_ | refine T.rs (id := 10) (fun _ => false) fun K hK => ?_ | refine T.rs1 (id := 10) (fun _ => false) fun K hK => ?_ | refine T.rs (id := 12) (fun _ => false) fun K hK => ?_ | refine T.rs1 (id := 12) (fun _ => false) fun K hK => ?_ | refine T.rs (id := 13) (fun _ => false) fun K hK => ?_ | refine T.rs1 (id := 13) (fun _ => false) fun K hK => ?_ | refine T.rs (id := 14) (fun _ => false) fun K hK => ?_ | refine T.rs1 (id := 14) (fun _ => false) fun K hK => ?_ | refine T.rs (id := 15) (fun _ => false) fun K hK => ?_ | refine T.rs1 (id := 15) (fun _ => false) fun K hK => ?_ | refine T.rs (id := 16) (fun _ => false) fun K hK => ?_ | refine T.rs1 (id := 16) (fun _ => false) fun K hK => ?_ | refine T.rs (id := 17) (fun _ => false) fun K hK => ?_ | refine T.rs1 (id := 17) (fun _ => false) fun K hK => ?_ | refine T.rs (id := 18) (fun _ => false) fun K hK => ?_ | refine T.rs1 (id := 18) (fun _ => false) fun K hK => ?_ | refine T.rs (id := 20) (fun _ => false) fun K hK => ?_ | refine T.rs1 (id := 20) (fun _ => false) fun K hK => ?_ | refine T.rs (id := 21) (fun _ => false) fun K hK => ?_ | refine T.rs1 (id := 21) (fun _ => false) fun K hK => ?_ | refine T.rs (id := 23) (fun _ => false) fun K hK => ?_ | refine T.rs1 (id := 23) (fun _ => false) fun K hK => ?_ | refine T.rs (id := 22) (fun _ => false) fun K hK => ?_ | refine T.rs1 (id := 22) (fun _ => false) fun K hK => ?_ | refine T.rs (id := 24) (fun _ => false) fun K hK => ?_ | refine T.rs1 (id := 24) (fun _ => false) fun K hK => ?_ | refine T.rs (id := 25) (fun _ => false) fun K hK => ?_ | refine T.rs1 (id := 25) (fun _ => false) fun K hK => ?_ | refine T.rs (id := 26) (fun _ => false) fun K hK => ?_ | refine T.rs1 (id := 26) (fun _ => false) fun K hK => ?_ | refine T.rs (id := 27) (fun _ => false) fun K hK => ?_ | refine T.rs1 (id := 27) (fun _ => false) fun K hK => ?_ | refine T.rs (id := 28) (fun _ => false) fun K hK => ?_ | refine T.rs1 (id := 28) (fun _ => false) fun K hK => ?_ | refine T.rs (id := 29) (fun _ => false) fun K hK => ?_ | refine T.rs1 (id := 29) (fun _ => false) fun K hK => ?_ | refine T.rs (id := 30) (fun _ => false) fun K hK => ?_ | refine T.rs1 (id := 30) (fun _ => false) fun K hK => ?_ | refine T.rs (id := 31) (fun _ => false) fun K hK => ?_ | refine T.rs1 (id := 31) (fun _ => false) fun K hK => ?_ | refine T.rs (id := 32) (fun _ => false) fun K hK => ?_ | refine T.rs1 (id := 32) (fun _ => false) fun K hK => ?_ | refine T.rs (id := 33) (fun _ => false) fun K hK => ?_ | refine T.rs1 (id := 33) (fun _ => false) fun K hK => ?_ | refine T.rs (id := 34) (fun _ => false) fun K hK => ?_ | refine T.rs1 (id := 34) (fun _ => false) fun K hK => ?_ | refine T.rs (id := 35) (fun _ => false) fun K hK => ?_ | refine T.rs1 (id := 35) (fun _ => false) fun K hK => ?_ | (refine ⟨by omega, ?_⟩) | refine T.ct rfl ?_ | refine T.cf rfl ?_ | refine T.seq ?_ | refine T.block ?_ | refine T.skip ?_ | refine T.exit ?_
 refine T.loopK (α := Nat × List (List CV) × List Arr) [1, 2, 4] (fun x => [(9, .c (.own 0 (F x.1).length)), (10, .i x.1)]) (fun _ => []) (fun x => x.2.1) (fun x _ => { sz := 2, ety := 53, rows := (F x.1).map eOp, wr := true } :: x.2.2) (fun x => e.kids.length + 1 - x.1) (fun x => x.1 <= e.kids.length) (by simp; rfl) (fun x hx => ?_) (0, [], []) (by simp) (by simp) (by simp [hF0]) (by simp [hF0])
 obtain ⟨p, G, GA⟩ := x
 dsimp only at hx ⊢
 simp only [ups, List.set_cons_zero, List.set_cons_succ, List.cons_append, List.nil_append]
 by_cases hlt : p < e.kids.length
 ·obtain ⟨u, ht⟩ := get_lt hlt
  have htm : u ∈ e.kids := List.mem_of_getElem? ht
  have hgt : e.kids[p] = u := by rw [List.getElem?_eq_getElem hlt] at ht; exact Option.some.inj ht
  have hdr : e.kids.drop p = u :: e.kids.drop (p + 1) := by rw [List.drop_eq_getElem_cons hlt, hgt]
  have hu := (ih u htm).sealed (by simp)
  dsimp only at hu
  have hul := hsm u htm
  have hp1 := hfl p
  have htk : F (p + 1) = F p ++ compM names u := by rw [hF, hF, take_succ_of ht]; simp
  generalize F p = fl at *
  generalize compM names u = cu at *
  repeat' first | ((first | refine aops_end (hK _ ?_) | refine aopsD_end (hK _ ?_) | refine aopsF_end (hK _ ?_)); clear hK K) | ((first | refine aops_go ?_ | refine aopsD_go ?_ | refine aopsF_go ?_); simp [hlt, hgt]; (try simp (disch := omega) only [wrap64]); (try (refine gen fun q hq => ?_; cases q <;> (try simp [hlt, hgt] at hq) <;> (try (have hh : True := hq; clear hh hq))))) | (refine wpcall_pure rfl (hu) ?_; simp [hlt, hgt]; (try simp (disch := omega) only [wrap64]); (try (refine gen fun q hq => ?_; cases q <;> (try simp [hlt, hgt] at hq) <;> (try (have hh : True := hq; clear hh hq))))) | (refine ⟨by omega, by omega, ?_⟩) | (refine ⟨(p + 1, _, GA), by dsimp only; omega, by dsimp only; omega, rfl, ?_, ?_⟩ <;> simp (disch := omega) [wrap64, htk]) | refine T.rd (id := 11) mixed (fun _ => false) [11] (by kernel_rfl) fun K hK => ?_ | refine T.rd1 (id := 11) mixed (fun _ => false) [11] (by kernel_rfl) fun K hK => ?_ | refine T.r0 fun K hK => ?_ | refine T.r1 fun K hK => ?_ | (refine ⟨by omega, ?_⟩) | refine T.ct rfl ?_ | refine T.cf rfl ?_ | refine T.seq ?_ | refine T.block ?_ | refine T.skip ?_ | refine T.exit ?_
 ·have hp' : p = e.kids.length := by omega
  subst hp'
  have hp1 := hfl e.kids.length
  generalize F e.kids.length = fl at *
  repeat' first | ((first | refine aops_end (hK _ ?_) | refine aopsD_end (hK _ ?_) | refine aopsF_end (hK _ ?_)); clear hK K) | ((first | refine aops_go ?_ | refine aopsD_go ?_ | refine aopsF_go ?_); simp [hlt, h5]; (try simp (disch := omega) only [wrap64]); (try (refine gen fun q hq => ?_; cases q <;> (try simp [hlt, h5] at hq) <;> (try (have hh : True := hq; clear hh hq))))) | (refine ⟨by omega, by omega, ?_⟩) | refine T.rd (id := 11) mixed (fun _ => false) [11] (by kernel_rfl) fun K hK => ?_ | refine T.rd1 (id := 11) mixed (fun _ => false) [11] (by kernel_rfl) fun K hK => ?_ | refine T.r0 fun K hK => ?_ | refine T.r1 fun K hK => ?_ | (refine ⟨by omega, ?_⟩) | refine T.ct rfl ?_ | refine T.cf rfl ?_ | refine T.seq ?_ | refine T.block ?_ | refine T.skip ?_ | refine T.exit ?_
  all_goals (refine T.ret (Done.own1 0 (Or.inr rfl) (ys := [_]) ?_ rfl ?_) <;> simp [resAs, Try.results25])

theorem l14Compile_less (e : MTm) (names : List UInt8) (h5 : e.kind = 8) (hn : names.length <= 1000000) (hd : BaHead names e) (hsm : ∀ u ∈ e.kids, (compM (names) u).length <= 1000000)
  (ih : ∀ u ∈ e.kids, ACalls Try.prog 25 [aTm u, .s (names)] [] (.c (.own 0 (compM (names) u).length)) [] [{ sz := 2, ety := 53, rows := (compM (names) u).map eOp, wr := true }]) :
  ACalls Try.prog 25 [aTm e, .s names] [] (.c (.own 0 (opNode e.kind (names.length - 1 - lastIx names (e.name.headD 0)) e.num (e.kids.map (compM (names)))).length)) [] [{ sz := 2, ety := 53, rows := (opNode e.kind (names.length - 1 - lastIx names (e.name.headD 0)) e.num (e.kids.map (compM (names)))).map eOp, wr := true }] := by
 have hnl := hd.nlen
 have hnm : names.length + e.name.length <= 4611686018427387904 := by omega
 have hl := hd.len
 have hfl : ∀ p, ((e.kids.take p).map (compM names)).flatten.length <= 4000000 := fun p => by
  have hs : ∀ (m : List (List MOp)), (∀ l ∈ m, l.length <= 1000000) -> m.flatten.length <= m.length * 1000000 := by
   intro m
   induction m with
   | nil => simp
   | cons a r ih => intro h; have e1 := h a (by simp); have e2 := ih (fun l hl => h l (by simp [hl])); rw [List.flatten_cons, List.length_append, List.length_cons]; omega
  have := hs ((e.kids.take p).map (compM names)) (fun l hl => by obtain ⟨u, hu, rfl⟩ := List.mem_map.1 hl; exact hsm u (List.mem_of_mem_take hu))
  rw [List.length_map, List.length_take] at this; omega
 rw [show opNode e.kind (names.length - 1 - lastIx names (e.name.headD 0)) e.num (e.kids.map (compM names)) = (e.kids.map (compM names)).flatten ++ [⟨8, 0⟩] by simp [opNode, lastOp, h5]]
 obtain ⟨F, hF⟩ : ∃ F : Nat -> List MOp, ∀ p, F p = ((e.kids.take p).map (compM names)).flatten := ⟨_, fun p => rfl⟩
 have hF0 : F 0 = [] := by rw [hF]; rfl
 have hFl : F e.kids.length = (e.kids.map (compM names)).flatten := by rw [hF, List.take_length]
 simp only [<- hF] at hfl
 rw [<- hFl]
 refine ACalls.of_body Try.func25 (by kernel_rfl) rfl (by kernel_rfl) (by simp [Try.ntmps25]) (by simp) ?_
 rw [Try.ntmps25]
 repeat' first | ((first | refine aops_end (hK _ ?_) | refine aopsD_end (hK _ ?_) | refine aopsF_end (hK _ ?_)); clear hK K) | ((first | refine aops_go ?_ | refine aopsD_go ?_ | refine aopsF_go ?_); simp [h5]; (try simp (disch := omega) only [wrap64]); (try (refine gen fun q hq => ?_; cases q <;> (try simp [h5] at hq) <;> (try (have hh : True := hq; clear hh hq))))) | refine T.rd (id := 11) mixed (fun _ => false) [11] (by kernel_rfl) fun K hK => ?_ | refine T.rd1 (id := 11) mixed (fun _ => false) [11] (by kernel_rfl) fun K hK => ?_ | refine T.rs (id := 19) (fun i => i == 0) fun K hK => ?_ | refine T.rs1 (id := 19) (fun i => i == 0) fun K hK => ?_ | refine T.rs (id := 0) (fun _ => false) fun K hK => ?_ | refine T.rs1 (id := 0) (fun _ => false) fun K hK => ?_ | refine T.rs (id := 1) (fun _ => false) fun K hK => ?_ | refine T.rs1 (id := 1) (fun _ => false) fun K hK => ?_ | refine T.rs (id := 2) (fun _ => false) fun K hK => ?_ | refine T.rs1 (id := 2) (fun _ => false) fun K hK => ?_ | refine T.rs (id := 3) (fun _ => false) fun K hK => ?_ | refine T.rs1 (id := 3) (fun _ => false) fun K hK => ?_ | refine T.rs (id := 4) (fun _ => false) fun K hK => ?_ | refine T.rs1 (id := 4) (fun _ => false) fun K hK => ?_ | refine T.rs (id := 5) (fun _ => false) fun K hK => ?_ | refine T.rs1 (id := 5) (fun _ => false) fun K hK => ?_ | refine T.rs (id := 6) (fun _ => false) fun K hK => ?_ | refine T.rs1 (id := 6) (fun _ => false) fun K hK => ?_ | refine T.rs (id := 7) (fun _ => false) fun K hK => ?_ | refine T.rs1 (id := 7) (fun _ => false) fun K hK => ?_ | refine T.rs (id := 8) (fun _ => false) fun K hK => ?_ | refine T.rs1 (id := 8) (fun _ => false) fun K hK => ?_ | refine T.rs (id := 9) (fun _ => false) fun K hK => ?_ | refine T.rs1 (id := 9) (fun _ => false) fun K hK => ?_ | refine T.rs (id := 10) (fun _ => false) fun K hK => ?_ | refine T.rs1 (id := 10) (fun _ => false) fun K hK => ?_ | refine T.rs (id := 12) (fun _ => false) fun K hK => ?_ | refine T.rs1 (id := 12) (fun _ => false) fun K hK => ?_ | refine T.rs (id := 13) (fun _ => false) fun K hK => ?_ | refine T.rs1 (id := 13) (fun _ => false) fun K hK => ?_ | refine T.rs (id := 14) (fun _ => false) fun K hK => ?_ | refine T.rs1 (id := 14) (fun _ => false) fun K hK => ?_ | refine T.rs (id := 15) (fun _ => false) fun K hK => ?_ | refine T.rs1 (id := 15) (fun _ => false) fun K hK => ?_ | refine T.rs (id := 16) (fun _ => false) fun K hK => ?_ | refine T.rs1 (id := 16) (fun _ => false) fun K hK => ?_ | refine T.rs (id := 17) (fun _ => false) fun K hK => ?_ | refine T.rs1 (id := 17) (fun _ => false) fun K hK => ?_ | refine T.rs (id := 18) (fun _ => false) fun K hK => ?_ | refine T.rs1 (id := 18) (fun _ => false) fun K hK => ?_ | refine T.rs (id := 20) (fun _ => false) fun K hK => ?_ | refine T.rs1 (id := 20) (fun _ => false) fun K hK => ?_ | refine T.rs (id := 21) (fun _ => false) fun K hK => ?_ | refine T.rs1 (id := 21) (fun _ => false) fun K hK => ?_ | refine T.rs (id := 23) (fun _ => false) fun K hK => ?_ | refine T.rs1 (id := 23) (fun _ => false) fun K hK => ?_ | refine T.rs (id := 22) (fun _ => false) fun K hK => ?_ | refine T.rs1 (id := 22) (fun _ => false) fun K hK => ?_ | refine T.rs (id := 24) (fun _ => false) fun K hK => ?_ | refine T.rs1 (id := 24) (fun _ => false) fun K hK => ?_ | refine T.rs (id := 25) (fun _ => false) fun K hK => ?_ | refine T.rs1 (id := 25) (fun _ => false) fun K hK => ?_ | refine T.rs (id := 26) (fun _ => false) fun K hK => ?_ | refine T.rs1 (id := 26) (fun _ => false) fun K hK => ?_ | refine T.rs (id := 27) (fun _ => false) fun K hK => ?_ | refine T.rs1 (id := 27) (fun _ => false) fun K hK => ?_ | refine T.rs (id := 28) (fun _ => false) fun K hK => ?_ | refine T.rs1 (id := 28) (fun _ => false) fun K hK => ?_ | refine T.rs (id := 29) (fun _ => false) fun K hK => ?_ | refine T.rs1 (id := 29) (fun _ => false) fun K hK => ?_ | refine T.rs (id := 30) (fun _ => false) fun K hK => ?_ | refine T.rs1 (id := 30) (fun _ => false) fun K hK => ?_ | refine T.rs (id := 31) (fun _ => false) fun K hK => ?_ | refine T.rs1 (id := 31) (fun _ => false) fun K hK => ?_ | refine T.rs (id := 32) (fun _ => false) fun K hK => ?_ | refine T.rs1 (id := 32) (fun _ => false) fun K hK => ?_ | refine T.rs (id := 33) (fun _ => false) fun K hK => ?_ | refine T.rs1 (id := 33) (fun _ => false) fun K hK => ?_ | refine T.rs (id := 34) (fun _ => false) fun K hK => ?_ | refine T.rs1 (id := 34) (fun _ => false) fun K hK => ?_ | refine T.rs (id := 35) (fun _ => false) fun K hK => ?_ | refine T.rs1 (id := 35) (fun _ => false) fun K hK => ?_ | (refine ⟨by omega, ?_⟩) | refine T.ct rfl ?_ | refine T.cf rfl ?_ | refine T.seq ?_ | refine T.block ?_ | refine T.skip ?_ | refine T.exit ?_
 refine T.loopK (α := Nat × List (List CV) × List Arr) [1, 2, 4] (fun x => [(9, .c (.own 0 (F x.1).length)), (10, .i x.1)]) (fun _ => []) (fun x => x.2.1) (fun x _ => { sz := 2, ety := 53, rows := (F x.1).map eOp, wr := true } :: x.2.2) (fun x => e.kids.length + 1 - x.1) (fun x => x.1 <= e.kids.length) (by simp; rfl) (fun x hx => ?_) (0, [], []) (by simp) (by simp) (by simp [hF0]) (by simp [hF0])
 obtain ⟨p, G, GA⟩ := x
 dsimp only at hx ⊢
 simp only [ups, List.set_cons_zero, List.set_cons_succ, List.cons_append, List.nil_append]
 by_cases hlt : p < e.kids.length
 ·obtain ⟨u, ht⟩ := get_lt hlt
  have htm : u ∈ e.kids := List.mem_of_getElem? ht
  have hgt : e.kids[p] = u := by rw [List.getElem?_eq_getElem hlt] at ht; exact Option.some.inj ht
  have hdr : e.kids.drop p = u :: e.kids.drop (p + 1) := by rw [List.drop_eq_getElem_cons hlt, hgt]
  have hu := (ih u htm).sealed (by simp)
  dsimp only at hu
  have hul := hsm u htm
  have hp1 := hfl p
  have htk : F (p + 1) = F p ++ compM names u := by rw [hF, hF, take_succ_of ht]; simp
  generalize F p = fl at *
  generalize compM names u = cu at *
  repeat' first | ((first | refine aops_end (hK _ ?_) | refine aopsD_end (hK _ ?_) | refine aopsF_end (hK _ ?_)); clear hK K) | ((first | refine aops_go ?_ | refine aopsD_go ?_ | refine aopsF_go ?_); simp [hlt, hgt]; (try simp (disch := omega) only [wrap64]); (try (refine gen fun q hq => ?_; cases q <;> (try simp [hlt, hgt] at hq) <;> (try (have hh : True := hq; clear hh hq))))) | (refine wpcall_pure rfl (hu) ?_; simp [hlt, hgt]; (try simp (disch := omega) only [wrap64]); (try (refine gen fun q hq => ?_; cases q <;> (try simp [hlt, hgt] at hq) <;> (try (have hh : True := hq; clear hh hq))))) | (refine ⟨by omega, by omega, ?_⟩) | (refine ⟨(p + 1, _, GA), by dsimp only; omega, by dsimp only; omega, rfl, ?_, ?_⟩ <;> simp (disch := omega) [wrap64, htk]) | refine T.rd (id := 11) mixed (fun _ => false) [11] (by kernel_rfl) fun K hK => ?_ | refine T.rd1 (id := 11) mixed (fun _ => false) [11] (by kernel_rfl) fun K hK => ?_ | refine T.r0 fun K hK => ?_ | refine T.r1 fun K hK => ?_ | (refine ⟨by omega, ?_⟩) | refine T.ct rfl ?_ | refine T.cf rfl ?_ | refine T.seq ?_ | refine T.block ?_ | refine T.skip ?_ | refine T.exit ?_
 ·have hp' : p = e.kids.length := by omega
  subst hp'
  have hp1 := hfl e.kids.length
  generalize F e.kids.length = fl at *
  repeat' first | ((first | refine aops_end (hK _ ?_) | refine aopsD_end (hK _ ?_) | refine aopsF_end (hK _ ?_)); clear hK K) | ((first | refine aops_go ?_ | refine aopsD_go ?_ | refine aopsF_go ?_); simp [hlt, h5]; (try simp (disch := omega) only [wrap64]); (try (refine gen fun q hq => ?_; cases q <;> (try simp [hlt, h5] at hq) <;> (try (have hh : True := hq; clear hh hq))))) | (refine ⟨by omega, by omega, ?_⟩) | refine T.rd (id := 11) mixed (fun _ => false) [11] (by kernel_rfl) fun K hK => ?_ | refine T.rd1 (id := 11) mixed (fun _ => false) [11] (by kernel_rfl) fun K hK => ?_ | refine T.r0 fun K hK => ?_ | refine T.r1 fun K hK => ?_ | (refine ⟨by omega, ?_⟩) | refine T.ct rfl ?_ | refine T.cf rfl ?_ | refine T.seq ?_ | refine T.block ?_ | refine T.skip ?_ | refine T.exit ?_
  all_goals (refine T.ret (Done.own1 0 (Or.inr rfl) (ys := [_]) ?_ rfl ?_) <;> simp [resAs, Try.results25])

theorem l14Compile_pair (e : MTm) (names : List UInt8) (h5 : e.kind = 10) (hn : names.length <= 1000000) (hd : BaHead names e) (hsm : ∀ u ∈ e.kids, (compM (names) u).length <= 1000000)
  (ih : ∀ u ∈ e.kids, ACalls Try.prog 25 [aTm u, .s (names)] [] (.c (.own 0 (compM (names) u).length)) [] [{ sz := 2, ety := 53, rows := (compM (names) u).map eOp, wr := true }]) :
  ACalls Try.prog 25 [aTm e, .s names] [] (.c (.own 0 (opNode e.kind (names.length - 1 - lastIx names (e.name.headD 0)) e.num (e.kids.map (compM (names)))).length)) [] [{ sz := 2, ety := 53, rows := (opNode e.kind (names.length - 1 - lastIx names (e.name.headD 0)) e.num (e.kids.map (compM (names)))).map eOp, wr := true }] := by
 have hnl := hd.nlen
 have hnm : names.length + e.name.length <= 4611686018427387904 := by omega
 have hl := hd.len
 have hfl : ∀ p, ((e.kids.take p).map (compM names)).flatten.length <= 4000000 := fun p => by
  have hs : ∀ (m : List (List MOp)), (∀ l ∈ m, l.length <= 1000000) -> m.flatten.length <= m.length * 1000000 := by
   intro m
   induction m with
   | nil => simp
   | cons a r ih => intro h; have e1 := h a (by simp); have e2 := ih (fun l hl => h l (by simp [hl])); rw [List.flatten_cons, List.length_append, List.length_cons]; omega
  have := hs ((e.kids.take p).map (compM names)) (fun l hl => by obtain ⟨u, hu, rfl⟩ := List.mem_map.1 hl; exact hsm u (List.mem_of_mem_take hu))
  rw [List.length_map, List.length_take] at this; omega
 rw [show opNode e.kind (names.length - 1 - lastIx names (e.name.headD 0)) e.num (e.kids.map (compM names)) = (e.kids.map (compM names)).flatten ++ [⟨11, 0⟩] by simp [opNode, lastOp, h5]]
 obtain ⟨F, hF⟩ : ∃ F : Nat -> List MOp, ∀ p, F p = ((e.kids.take p).map (compM names)).flatten := ⟨_, fun p => rfl⟩
 have hF0 : F 0 = [] := by rw [hF]; rfl
 have hFl : F e.kids.length = (e.kids.map (compM names)).flatten := by rw [hF, List.take_length]
 simp only [<- hF] at hfl
 rw [<- hFl]
 refine ACalls.of_body Try.func25 (by kernel_rfl) rfl (by kernel_rfl) (by simp [Try.ntmps25]) (by simp) ?_
 rw [Try.ntmps25]
 repeat' first | ((first | refine aops_end (hK _ ?_) | refine aopsD_end (hK _ ?_) | refine aopsF_end (hK _ ?_)); clear hK K) | ((first | refine aops_go ?_ | refine aopsD_go ?_ | refine aopsF_go ?_); simp [h5]; (try simp (disch := omega) only [wrap64]); (try (refine gen fun q hq => ?_; cases q <;> (try simp [h5] at hq) <;> (try (have hh : True := hq; clear hh hq))))) | refine T.rd (id := 11) mixed (fun _ => false) [11] (by kernel_rfl) fun K hK => ?_ | refine T.rd1 (id := 11) mixed (fun _ => false) [11] (by kernel_rfl) fun K hK => ?_ | refine T.rs (id := 19) (fun i => i == 0) fun K hK => ?_ | refine T.rs1 (id := 19) (fun i => i == 0) fun K hK => ?_ | refine T.rs (id := 0) (fun _ => false) fun K hK => ?_ | refine T.rs1 (id := 0) (fun _ => false) fun K hK => ?_ | refine T.rs (id := 1) (fun _ => false) fun K hK => ?_ | refine T.rs1 (id := 1) (fun _ => false) fun K hK => ?_ | refine T.rs (id := 2) (fun _ => false) fun K hK => ?_ | refine T.rs1 (id := 2) (fun _ => false) fun K hK => ?_ | refine T.rs (id := 3) (fun _ => false) fun K hK => ?_ | refine T.rs1 (id := 3) (fun _ => false) fun K hK => ?_ | refine T.rs (id := 4) (fun _ => false) fun K hK => ?_ | refine T.rs1 (id := 4) (fun _ => false) fun K hK => ?_ | refine T.rs (id := 5) (fun _ => false) fun K hK => ?_ | refine T.rs1 (id := 5) (fun _ => false) fun K hK => ?_ | refine T.rs (id := 6) (fun _ => false) fun K hK => ?_ | refine T.rs1 (id := 6) (fun _ => false) fun K hK => ?_ | refine T.rs (id := 7) (fun _ => false) fun K hK => ?_ | refine T.rs1 (id := 7) (fun _ => false) fun K hK => ?_ | refine T.rs (id := 8) (fun _ => false) fun K hK => ?_ | refine T.rs1 (id := 8) (fun _ => false) fun K hK => ?_ | refine T.rs (id := 9) (fun _ => false) fun K hK => ?_ | refine T.rs1 (id := 9) (fun _ => false) fun K hK => ?_ | refine T.rs (id := 10) (fun _ => false) fun K hK => ?_ | refine T.rs1 (id := 10) (fun _ => false) fun K hK => ?_ | refine T.rs (id := 12) (fun _ => false) fun K hK => ?_ | refine T.rs1 (id := 12) (fun _ => false) fun K hK => ?_ | refine T.rs (id := 13) (fun _ => false) fun K hK => ?_ | refine T.rs1 (id := 13) (fun _ => false) fun K hK => ?_ | refine T.rs (id := 14) (fun _ => false) fun K hK => ?_ | refine T.rs1 (id := 14) (fun _ => false) fun K hK => ?_ | refine T.rs (id := 15) (fun _ => false) fun K hK => ?_ | refine T.rs1 (id := 15) (fun _ => false) fun K hK => ?_ | refine T.rs (id := 16) (fun _ => false) fun K hK => ?_ | refine T.rs1 (id := 16) (fun _ => false) fun K hK => ?_ | refine T.rs (id := 17) (fun _ => false) fun K hK => ?_ | refine T.rs1 (id := 17) (fun _ => false) fun K hK => ?_ | refine T.rs (id := 18) (fun _ => false) fun K hK => ?_ | refine T.rs1 (id := 18) (fun _ => false) fun K hK => ?_ | refine T.rs (id := 20) (fun _ => false) fun K hK => ?_ | refine T.rs1 (id := 20) (fun _ => false) fun K hK => ?_ | refine T.rs (id := 21) (fun _ => false) fun K hK => ?_ | refine T.rs1 (id := 21) (fun _ => false) fun K hK => ?_ | refine T.rs (id := 23) (fun _ => false) fun K hK => ?_ | refine T.rs1 (id := 23) (fun _ => false) fun K hK => ?_ | refine T.rs (id := 22) (fun _ => false) fun K hK => ?_ | refine T.rs1 (id := 22) (fun _ => false) fun K hK => ?_ | refine T.rs (id := 24) (fun _ => false) fun K hK => ?_ | refine T.rs1 (id := 24) (fun _ => false) fun K hK => ?_ | refine T.rs (id := 25) (fun _ => false) fun K hK => ?_ | refine T.rs1 (id := 25) (fun _ => false) fun K hK => ?_ | refine T.rs (id := 26) (fun _ => false) fun K hK => ?_ | refine T.rs1 (id := 26) (fun _ => false) fun K hK => ?_ | refine T.rs (id := 27) (fun _ => false) fun K hK => ?_ | refine T.rs1 (id := 27) (fun _ => false) fun K hK => ?_ | refine T.rs (id := 28) (fun _ => false) fun K hK => ?_ | refine T.rs1 (id := 28) (fun _ => false) fun K hK => ?_ | refine T.rs (id := 29) (fun _ => false) fun K hK => ?_ | refine T.rs1 (id := 29) (fun _ => false) fun K hK => ?_ | refine T.rs (id := 30) (fun _ => false) fun K hK => ?_ | refine T.rs1 (id := 30) (fun _ => false) fun K hK => ?_ | refine T.rs (id := 31) (fun _ => false) fun K hK => ?_ | refine T.rs1 (id := 31) (fun _ => false) fun K hK => ?_ | refine T.rs (id := 32) (fun _ => false) fun K hK => ?_ | refine T.rs1 (id := 32) (fun _ => false) fun K hK => ?_ | refine T.rs (id := 33) (fun _ => false) fun K hK => ?_ | refine T.rs1 (id := 33) (fun _ => false) fun K hK => ?_ | refine T.rs (id := 34) (fun _ => false) fun K hK => ?_ | refine T.rs1 (id := 34) (fun _ => false) fun K hK => ?_ | refine T.rs (id := 35) (fun _ => false) fun K hK => ?_ | refine T.rs1 (id := 35) (fun _ => false) fun K hK => ?_ | (refine ⟨by omega, ?_⟩) | refine T.ct rfl ?_ | refine T.cf rfl ?_ | refine T.seq ?_ | refine T.block ?_ | refine T.skip ?_ | refine T.exit ?_
 refine T.loopK (α := Nat × List (List CV) × List Arr) [1, 2, 4] (fun x => [(9, .c (.own 0 (F x.1).length)), (10, .i x.1)]) (fun _ => []) (fun x => x.2.1) (fun x _ => { sz := 2, ety := 53, rows := (F x.1).map eOp, wr := true } :: x.2.2) (fun x => e.kids.length + 1 - x.1) (fun x => x.1 <= e.kids.length) (by simp; rfl) (fun x hx => ?_) (0, [], []) (by simp) (by simp) (by simp [hF0]) (by simp [hF0])
 obtain ⟨p, G, GA⟩ := x
 dsimp only at hx ⊢
 simp only [ups, List.set_cons_zero, List.set_cons_succ, List.cons_append, List.nil_append]
 by_cases hlt : p < e.kids.length
 ·obtain ⟨u, ht⟩ := get_lt hlt
  have htm : u ∈ e.kids := List.mem_of_getElem? ht
  have hgt : e.kids[p] = u := by rw [List.getElem?_eq_getElem hlt] at ht; exact Option.some.inj ht
  have hdr : e.kids.drop p = u :: e.kids.drop (p + 1) := by rw [List.drop_eq_getElem_cons hlt, hgt]
  have hu := (ih u htm).sealed (by simp)
  dsimp only at hu
  have hul := hsm u htm
  have hp1 := hfl p
  have htk : F (p + 1) = F p ++ compM names u := by rw [hF, hF, take_succ_of ht]; simp
  generalize F p = fl at *
  generalize compM names u = cu at *
  repeat' first | ((first | refine aops_end (hK _ ?_) | refine aopsD_end (hK _ ?_) | refine aopsF_end (hK _ ?_)); clear hK K) | ((first | refine aops_go ?_ | refine aopsD_go ?_ | refine aopsF_go ?_); simp [hlt, hgt]; (try simp (disch := omega) only [wrap64]); (try (refine gen fun q hq => ?_; cases q <;> (try simp [hlt, hgt] at hq) <;> (try (have hh : True := hq; clear hh hq))))) | (refine wpcall_pure rfl (hu) ?_; simp [hlt, hgt]; (try simp (disch := omega) only [wrap64]); (try (refine gen fun q hq => ?_; cases q <;> (try simp [hlt, hgt] at hq) <;> (try (have hh : True := hq; clear hh hq))))) | (refine ⟨by omega, by omega, ?_⟩) | (refine ⟨(p + 1, _, GA), by dsimp only; omega, by dsimp only; omega, rfl, ?_, ?_⟩ <;> simp (disch := omega) [wrap64, htk]) | refine T.rd (id := 11) mixed (fun _ => false) [11] (by kernel_rfl) fun K hK => ?_ | refine T.rd1 (id := 11) mixed (fun _ => false) [11] (by kernel_rfl) fun K hK => ?_ | refine T.r0 fun K hK => ?_ | refine T.r1 fun K hK => ?_ | (refine ⟨by omega, ?_⟩) | refine T.ct rfl ?_ | refine T.cf rfl ?_ | refine T.seq ?_ | refine T.block ?_ | refine T.skip ?_ | refine T.exit ?_
 ·have hp' : p = e.kids.length := by omega
  subst hp'
  have hp1 := hfl e.kids.length
  generalize F e.kids.length = fl at *
  repeat' first | ((first | refine aops_end (hK _ ?_) | refine aopsD_end (hK _ ?_) | refine aopsF_end (hK _ ?_)); clear hK K) | ((first | refine aops_go ?_ | refine aopsD_go ?_ | refine aopsF_go ?_); simp [hlt, h5]; (try simp (disch := omega) only [wrap64]); (try (refine gen fun q hq => ?_; cases q <;> (try simp [hlt, h5] at hq) <;> (try (have hh : True := hq; clear hh hq))))) | (refine ⟨by omega, by omega, ?_⟩) | refine T.rd (id := 11) mixed (fun _ => false) [11] (by kernel_rfl) fun K hK => ?_ | refine T.rd1 (id := 11) mixed (fun _ => false) [11] (by kernel_rfl) fun K hK => ?_ | refine T.r0 fun K hK => ?_ | refine T.r1 fun K hK => ?_ | (refine ⟨by omega, ?_⟩) | refine T.ct rfl ?_ | refine T.cf rfl ?_ | refine T.seq ?_ | refine T.block ?_ | refine T.skip ?_ | refine T.exit ?_
  all_goals (refine T.ret (Done.own1 0 (Or.inr rfl) (ys := [_]) ?_ rfl ?_) <;> simp [resAs, Try.results25])

theorem l14Compile_fst (e : MTm) (names : List UInt8) (h5 : e.kind = 11) (hn : names.length <= 1000000) (hd : BaHead names e) (hsm : ∀ u ∈ e.kids, (compM (names) u).length <= 1000000)
  (ih : ∀ u ∈ e.kids, ACalls Try.prog 25 [aTm u, .s (names)] [] (.c (.own 0 (compM (names) u).length)) [] [{ sz := 2, ety := 53, rows := (compM (names) u).map eOp, wr := true }]) :
  ACalls Try.prog 25 [aTm e, .s names] [] (.c (.own 0 (opNode e.kind (names.length - 1 - lastIx names (e.name.headD 0)) e.num (e.kids.map (compM (names)))).length)) [] [{ sz := 2, ety := 53, rows := (opNode e.kind (names.length - 1 - lastIx names (e.name.headD 0)) e.num (e.kids.map (compM (names)))).map eOp, wr := true }] := by
 have hnl := hd.nlen
 have hnm : names.length + e.name.length <= 4611686018427387904 := by omega
 have hl := hd.len
 have hfl : ∀ p, ((e.kids.take p).map (compM names)).flatten.length <= 4000000 := fun p => by
  have hs : ∀ (m : List (List MOp)), (∀ l ∈ m, l.length <= 1000000) -> m.flatten.length <= m.length * 1000000 := by
   intro m
   induction m with
   | nil => simp
   | cons a r ih => intro h; have e1 := h a (by simp); have e2 := ih (fun l hl => h l (by simp [hl])); rw [List.flatten_cons, List.length_append, List.length_cons]; omega
  have := hs ((e.kids.take p).map (compM names)) (fun l hl => by obtain ⟨u, hu, rfl⟩ := List.mem_map.1 hl; exact hsm u (List.mem_of_mem_take hu))
  rw [List.length_map, List.length_take] at this; omega
 rw [show opNode e.kind (names.length - 1 - lastIx names (e.name.headD 0)) e.num (e.kids.map (compM names)) = (e.kids.map (compM names)).flatten ++ [⟨12, 0⟩] by simp [opNode, lastOp, h5]]
 obtain ⟨F, hF⟩ : ∃ F : Nat -> List MOp, ∀ p, F p = ((e.kids.take p).map (compM names)).flatten := ⟨_, fun p => rfl⟩
 have hF0 : F 0 = [] := by rw [hF]; rfl
 have hFl : F e.kids.length = (e.kids.map (compM names)).flatten := by rw [hF, List.take_length]
 simp only [<- hF] at hfl
 rw [<- hFl]
 refine ACalls.of_body Try.func25 (by kernel_rfl) rfl (by kernel_rfl) (by simp [Try.ntmps25]) (by simp) ?_
 rw [Try.ntmps25]
 repeat' first | ((first | refine aops_end (hK _ ?_) | refine aopsD_end (hK _ ?_) | refine aopsF_end (hK _ ?_)); clear hK K) | ((first | refine aops_go ?_ | refine aopsD_go ?_ | refine aopsF_go ?_); simp [h5]; (try simp (disch := omega) only [wrap64]); (try (refine gen fun q hq => ?_; cases q <;> (try simp [h5] at hq) <;> (try (have hh : True := hq; clear hh hq))))) | refine T.rd (id := 11) mixed (fun _ => false) [11] (by kernel_rfl) fun K hK => ?_ | refine T.rd1 (id := 11) mixed (fun _ => false) [11] (by kernel_rfl) fun K hK => ?_ | refine T.rs (id := 19) (fun i => i == 0) fun K hK => ?_ | refine T.rs1 (id := 19) (fun i => i == 0) fun K hK => ?_ | refine T.rs (id := 0) (fun _ => false) fun K hK => ?_ | refine T.rs1 (id := 0) (fun _ => false) fun K hK => ?_ | refine T.rs (id := 1) (fun _ => false) fun K hK => ?_ | refine T.rs1 (id := 1) (fun _ => false) fun K hK => ?_ | refine T.rs (id := 2) (fun _ => false) fun K hK => ?_ | refine T.rs1 (id := 2) (fun _ => false) fun K hK => ?_ | refine T.rs (id := 3) (fun _ => false) fun K hK => ?_ | refine T.rs1 (id := 3) (fun _ => false) fun K hK => ?_ | refine T.rs (id := 4) (fun _ => false) fun K hK => ?_ | refine T.rs1 (id := 4) (fun _ => false) fun K hK => ?_ | refine T.rs (id := 5) (fun _ => false) fun K hK => ?_ | refine T.rs1 (id := 5) (fun _ => false) fun K hK => ?_ | refine T.rs (id := 6) (fun _ => false) fun K hK => ?_ | refine T.rs1 (id := 6) (fun _ => false) fun K hK => ?_ | refine T.rs (id := 7) (fun _ => false) fun K hK => ?_ | refine T.rs1 (id := 7) (fun _ => false) fun K hK => ?_ | refine T.rs (id := 8) (fun _ => false) fun K hK => ?_ | refine T.rs1 (id := 8) (fun _ => false) fun K hK => ?_ | refine T.rs (id := 9) (fun _ => false) fun K hK => ?_ | refine T.rs1 (id := 9) (fun _ => false) fun K hK => ?_ | refine T.rs (id := 10) (fun _ => false) fun K hK => ?_ | refine T.rs1 (id := 10) (fun _ => false) fun K hK => ?_ | refine T.rs (id := 12) (fun _ => false) fun K hK => ?_ | refine T.rs1 (id := 12) (fun _ => false) fun K hK => ?_ | refine T.rs (id := 13) (fun _ => false) fun K hK => ?_ | refine T.rs1 (id := 13) (fun _ => false) fun K hK => ?_ | refine T.rs (id := 14) (fun _ => false) fun K hK => ?_ | refine T.rs1 (id := 14) (fun _ => false) fun K hK => ?_ | refine T.rs (id := 15) (fun _ => false) fun K hK => ?_ | refine T.rs1 (id := 15) (fun _ => false) fun K hK => ?_ | refine T.rs (id := 16) (fun _ => false) fun K hK => ?_ | refine T.rs1 (id := 16) (fun _ => false) fun K hK => ?_ | refine T.rs (id := 17) (fun _ => false) fun K hK => ?_ | refine T.rs1 (id := 17) (fun _ => false) fun K hK => ?_ | refine T.rs (id := 18) (fun _ => false) fun K hK => ?_ | refine T.rs1 (id := 18) (fun _ => false) fun K hK => ?_ | refine T.rs (id := 20) (fun _ => false) fun K hK => ?_ | refine T.rs1 (id := 20) (fun _ => false) fun K hK => ?_ | refine T.rs (id := 21) (fun _ => false) fun K hK => ?_ | refine T.rs1 (id := 21) (fun _ => false) fun K hK => ?_ | refine T.rs (id := 23) (fun _ => false) fun K hK => ?_ | refine T.rs1 (id := 23) (fun _ => false) fun K hK => ?_ | refine T.rs (id := 22) (fun _ => false) fun K hK => ?_ | refine T.rs1 (id := 22) (fun _ => false) fun K hK => ?_ | refine T.rs (id := 24) (fun _ => false) fun K hK => ?_ | refine T.rs1 (id := 24) (fun _ => false) fun K hK => ?_ | refine T.rs (id := 25) (fun _ => false) fun K hK => ?_ | refine T.rs1 (id := 25) (fun _ => false) fun K hK => ?_ | refine T.rs (id := 26) (fun _ => false) fun K hK => ?_ | refine T.rs1 (id := 26) (fun _ => false) fun K hK => ?_ | refine T.rs (id := 27) (fun _ => false) fun K hK => ?_ | refine T.rs1 (id := 27) (fun _ => false) fun K hK => ?_ | refine T.rs (id := 28) (fun _ => false) fun K hK => ?_ | refine T.rs1 (id := 28) (fun _ => false) fun K hK => ?_ | refine T.rs (id := 29) (fun _ => false) fun K hK => ?_ | refine T.rs1 (id := 29) (fun _ => false) fun K hK => ?_ | refine T.rs (id := 30) (fun _ => false) fun K hK => ?_ | refine T.rs1 (id := 30) (fun _ => false) fun K hK => ?_ | refine T.rs (id := 31) (fun _ => false) fun K hK => ?_ | refine T.rs1 (id := 31) (fun _ => false) fun K hK => ?_ | refine T.rs (id := 32) (fun _ => false) fun K hK => ?_ | refine T.rs1 (id := 32) (fun _ => false) fun K hK => ?_ | refine T.rs (id := 33) (fun _ => false) fun K hK => ?_ | refine T.rs1 (id := 33) (fun _ => false) fun K hK => ?_ | refine T.rs (id := 34) (fun _ => false) fun K hK => ?_ | refine T.rs1 (id := 34) (fun _ => false) fun K hK => ?_ | refine T.rs (id := 35) (fun _ => false) fun K hK => ?_ | refine T.rs1 (id := 35) (fun _ => false) fun K hK => ?_ | (refine ⟨by omega, ?_⟩) | refine T.ct rfl ?_ | refine T.cf rfl ?_ | refine T.seq ?_ | refine T.block ?_ | refine T.skip ?_ | refine T.exit ?_
 refine T.loopK (α := Nat × List (List CV) × List Arr) [1, 2, 4] (fun x => [(9, .c (.own 0 (F x.1).length)), (10, .i x.1)]) (fun _ => []) (fun x => x.2.1) (fun x _ => { sz := 2, ety := 53, rows := (F x.1).map eOp, wr := true } :: x.2.2) (fun x => e.kids.length + 1 - x.1) (fun x => x.1 <= e.kids.length) (by simp; rfl) (fun x hx => ?_) (0, [], []) (by simp) (by simp) (by simp [hF0]) (by simp [hF0])
 obtain ⟨p, G, GA⟩ := x
 dsimp only at hx ⊢
 simp only [ups, List.set_cons_zero, List.set_cons_succ, List.cons_append, List.nil_append]
 by_cases hlt : p < e.kids.length
 ·obtain ⟨u, ht⟩ := get_lt hlt
  have htm : u ∈ e.kids := List.mem_of_getElem? ht
  have hgt : e.kids[p] = u := by rw [List.getElem?_eq_getElem hlt] at ht; exact Option.some.inj ht
  have hdr : e.kids.drop p = u :: e.kids.drop (p + 1) := by rw [List.drop_eq_getElem_cons hlt, hgt]
  have hu := (ih u htm).sealed (by simp)
  dsimp only at hu
  have hul := hsm u htm
  have hp1 := hfl p
  have htk : F (p + 1) = F p ++ compM names u := by rw [hF, hF, take_succ_of ht]; simp
  generalize F p = fl at *
  generalize compM names u = cu at *
  repeat' first | ((first | refine aops_end (hK _ ?_) | refine aopsD_end (hK _ ?_) | refine aopsF_end (hK _ ?_)); clear hK K) | ((first | refine aops_go ?_ | refine aopsD_go ?_ | refine aopsF_go ?_); simp [hlt, hgt]; (try simp (disch := omega) only [wrap64]); (try (refine gen fun q hq => ?_; cases q <;> (try simp [hlt, hgt] at hq) <;> (try (have hh : True := hq; clear hh hq))))) | (refine wpcall_pure rfl (hu) ?_; simp [hlt, hgt]; (try simp (disch := omega) only [wrap64]); (try (refine gen fun q hq => ?_; cases q <;> (try simp [hlt, hgt] at hq) <;> (try (have hh : True := hq; clear hh hq))))) | (refine ⟨by omega, by omega, ?_⟩) | (refine ⟨(p + 1, _, GA), by dsimp only; omega, by dsimp only; omega, rfl, ?_, ?_⟩ <;> simp (disch := omega) [wrap64, htk]) | refine T.rd (id := 11) mixed (fun _ => false) [11] (by kernel_rfl) fun K hK => ?_ | refine T.rd1 (id := 11) mixed (fun _ => false) [11] (by kernel_rfl) fun K hK => ?_ | refine T.r0 fun K hK => ?_ | refine T.r1 fun K hK => ?_ | (refine ⟨by omega, ?_⟩) | refine T.ct rfl ?_ | refine T.cf rfl ?_ | refine T.seq ?_ | refine T.block ?_ | refine T.skip ?_ | refine T.exit ?_
 ·have hp' : p = e.kids.length := by omega
  subst hp'
  have hp1 := hfl e.kids.length
  generalize F e.kids.length = fl at *
  repeat' first | ((first | refine aops_end (hK _ ?_) | refine aopsD_end (hK _ ?_) | refine aopsF_end (hK _ ?_)); clear hK K) | ((first | refine aops_go ?_ | refine aopsD_go ?_ | refine aopsF_go ?_); simp [hlt, h5]; (try simp (disch := omega) only [wrap64]); (try (refine gen fun q hq => ?_; cases q <;> (try simp [hlt, h5] at hq) <;> (try (have hh : True := hq; clear hh hq))))) | (refine ⟨by omega, by omega, ?_⟩) | refine T.rd (id := 11) mixed (fun _ => false) [11] (by kernel_rfl) fun K hK => ?_ | refine T.rd1 (id := 11) mixed (fun _ => false) [11] (by kernel_rfl) fun K hK => ?_ | refine T.r0 fun K hK => ?_ | refine T.r1 fun K hK => ?_ | (refine ⟨by omega, ?_⟩) | refine T.ct rfl ?_ | refine T.cf rfl ?_ | refine T.seq ?_ | refine T.block ?_ | refine T.skip ?_ | refine T.exit ?_
  all_goals (refine T.ret (Done.own1 0 (Or.inr rfl) (ys := [_]) ?_ rfl ?_) <;> simp [resAs, Try.results25])

theorem l14Compile_snd (e : MTm) (names : List UInt8) (h5 : e.kind = 12) (hn : names.length <= 1000000) (hd : BaHead names e) (hsm : ∀ u ∈ e.kids, (compM (names) u).length <= 1000000)
  (ih : ∀ u ∈ e.kids, ACalls Try.prog 25 [aTm u, .s (names)] [] (.c (.own 0 (compM (names) u).length)) [] [{ sz := 2, ety := 53, rows := (compM (names) u).map eOp, wr := true }]) :
  ACalls Try.prog 25 [aTm e, .s names] [] (.c (.own 0 (opNode e.kind (names.length - 1 - lastIx names (e.name.headD 0)) e.num (e.kids.map (compM (names)))).length)) [] [{ sz := 2, ety := 53, rows := (opNode e.kind (names.length - 1 - lastIx names (e.name.headD 0)) e.num (e.kids.map (compM (names)))).map eOp, wr := true }] := by
 have hnl := hd.nlen
 have hnm : names.length + e.name.length <= 4611686018427387904 := by omega
 have hl := hd.len
 have hfl : ∀ p, ((e.kids.take p).map (compM names)).flatten.length <= 4000000 := fun p => by
  have hs : ∀ (m : List (List MOp)), (∀ l ∈ m, l.length <= 1000000) -> m.flatten.length <= m.length * 1000000 := by
   intro m
   induction m with
   | nil => simp
   | cons a r ih => intro h; have e1 := h a (by simp); have e2 := ih (fun l hl => h l (by simp [hl])); rw [List.flatten_cons, List.length_append, List.length_cons]; omega
  have := hs ((e.kids.take p).map (compM names)) (fun l hl => by obtain ⟨u, hu, rfl⟩ := List.mem_map.1 hl; exact hsm u (List.mem_of_mem_take hu))
  rw [List.length_map, List.length_take] at this; omega
 rw [show opNode e.kind (names.length - 1 - lastIx names (e.name.headD 0)) e.num (e.kids.map (compM names)) = (e.kids.map (compM names)).flatten ++ [⟨13, 0⟩] by simp [opNode, lastOp, h5]]
 obtain ⟨F, hF⟩ : ∃ F : Nat -> List MOp, ∀ p, F p = ((e.kids.take p).map (compM names)).flatten := ⟨_, fun p => rfl⟩
 have hF0 : F 0 = [] := by rw [hF]; rfl
 have hFl : F e.kids.length = (e.kids.map (compM names)).flatten := by rw [hF, List.take_length]
 simp only [<- hF] at hfl
 rw [<- hFl]
 refine ACalls.of_body Try.func25 (by kernel_rfl) rfl (by kernel_rfl) (by simp [Try.ntmps25]) (by simp) ?_
 rw [Try.ntmps25]
 repeat' first | ((first | refine aops_end (hK _ ?_) | refine aopsD_end (hK _ ?_) | refine aopsF_end (hK _ ?_)); clear hK K) | ((first | refine aops_go ?_ | refine aopsD_go ?_ | refine aopsF_go ?_); simp [h5]; (try simp (disch := omega) only [wrap64]); (try (refine gen fun q hq => ?_; cases q <;> (try simp [h5] at hq) <;> (try (have hh : True := hq; clear hh hq))))) | refine T.rd (id := 11) mixed (fun _ => false) [11] (by kernel_rfl) fun K hK => ?_ | refine T.rd1 (id := 11) mixed (fun _ => false) [11] (by kernel_rfl) fun K hK => ?_ | refine T.rs (id := 19) (fun i => i == 0) fun K hK => ?_ | refine T.rs1 (id := 19) (fun i => i == 0) fun K hK => ?_ | refine T.rs (id := 0) (fun _ => false) fun K hK => ?_ | refine T.rs1 (id := 0) (fun _ => false) fun K hK => ?_ | refine T.rs (id := 1) (fun _ => false) fun K hK => ?_ | refine T.rs1 (id := 1) (fun _ => false) fun K hK => ?_ | refine T.rs (id := 2) (fun _ => false) fun K hK => ?_ | refine T.rs1 (id := 2) (fun _ => false) fun K hK => ?_ | refine T.rs (id := 3) (fun _ => false) fun K hK => ?_ | refine T.rs1 (id := 3) (fun _ => false) fun K hK => ?_ | refine T.rs (id := 4) (fun _ => false) fun K hK => ?_ | refine T.rs1 (id := 4) (fun _ => false) fun K hK => ?_ | refine T.rs (id := 5) (fun _ => false) fun K hK => ?_ | refine T.rs1 (id := 5) (fun _ => false) fun K hK => ?_ | refine T.rs (id := 6) (fun _ => false) fun K hK => ?_ | refine T.rs1 (id := 6) (fun _ => false) fun K hK => ?_ | refine T.rs (id := 7) (fun _ => false) fun K hK => ?_ | refine T.rs1 (id := 7) (fun _ => false) fun K hK => ?_ | refine T.rs (id := 8) (fun _ => false) fun K hK => ?_ | refine T.rs1 (id := 8) (fun _ => false) fun K hK => ?_ | refine T.rs (id := 9) (fun _ => false) fun K hK => ?_ | refine T.rs1 (id := 9) (fun _ => false) fun K hK => ?_ | refine T.rs (id := 10) (fun _ => false) fun K hK => ?_ | refine T.rs1 (id := 10) (fun _ => false) fun K hK => ?_ | refine T.rs (id := 12) (fun _ => false) fun K hK => ?_ | refine T.rs1 (id := 12) (fun _ => false) fun K hK => ?_ | refine T.rs (id := 13) (fun _ => false) fun K hK => ?_ | refine T.rs1 (id := 13) (fun _ => false) fun K hK => ?_ | refine T.rs (id := 14) (fun _ => false) fun K hK => ?_ | refine T.rs1 (id := 14) (fun _ => false) fun K hK => ?_ | refine T.rs (id := 15) (fun _ => false) fun K hK => ?_ | refine T.rs1 (id := 15) (fun _ => false) fun K hK => ?_ | refine T.rs (id := 16) (fun _ => false) fun K hK => ?_ | refine T.rs1 (id := 16) (fun _ => false) fun K hK => ?_ | refine T.rs (id := 17) (fun _ => false) fun K hK => ?_ | refine T.rs1 (id := 17) (fun _ => false) fun K hK => ?_ | refine T.rs (id := 18) (fun _ => false) fun K hK => ?_ | refine T.rs1 (id := 18) (fun _ => false) fun K hK => ?_ | refine T.rs (id := 20) (fun _ => false) fun K hK => ?_ | refine T.rs1 (id := 20) (fun _ => false) fun K hK => ?_ | refine T.rs (id := 21) (fun _ => false) fun K hK => ?_ | refine T.rs1 (id := 21) (fun _ => false) fun K hK => ?_ | refine T.rs (id := 23) (fun _ => false) fun K hK => ?_ | refine T.rs1 (id := 23) (fun _ => false) fun K hK => ?_ | refine T.rs (id := 22) (fun _ => false) fun K hK => ?_ | refine T.rs1 (id := 22) (fun _ => false) fun K hK => ?_ | refine T.rs (id := 24) (fun _ => false) fun K hK => ?_ | refine T.rs1 (id := 24) (fun _ => false) fun K hK => ?_ | refine T.rs (id := 25) (fun _ => false) fun K hK => ?_ | refine T.rs1 (id := 25) (fun _ => false) fun K hK => ?_ | refine T.rs (id := 26) (fun _ => false) fun K hK => ?_ | refine T.rs1 (id := 26) (fun _ => false) fun K hK => ?_ | refine T.rs (id := 27) (fun _ => false) fun K hK => ?_ | refine T.rs1 (id := 27) (fun _ => false) fun K hK => ?_ | refine T.rs (id := 28) (fun _ => false) fun K hK => ?_ | refine T.rs1 (id := 28) (fun _ => false) fun K hK => ?_ | refine T.rs (id := 29) (fun _ => false) fun K hK => ?_ | refine T.rs1 (id := 29) (fun _ => false) fun K hK => ?_ | refine T.rs (id := 30) (fun _ => false) fun K hK => ?_ | refine T.rs1 (id := 30) (fun _ => false) fun K hK => ?_ | refine T.rs (id := 31) (fun _ => false) fun K hK => ?_ | refine T.rs1 (id := 31) (fun _ => false) fun K hK => ?_ | refine T.rs (id := 32) (fun _ => false) fun K hK => ?_ | refine T.rs1 (id := 32) (fun _ => false) fun K hK => ?_ | refine T.rs (id := 33) (fun _ => false) fun K hK => ?_ | refine T.rs1 (id := 33) (fun _ => false) fun K hK => ?_ | refine T.rs (id := 34) (fun _ => false) fun K hK => ?_ | refine T.rs1 (id := 34) (fun _ => false) fun K hK => ?_ | refine T.rs (id := 35) (fun _ => false) fun K hK => ?_ | refine T.rs1 (id := 35) (fun _ => false) fun K hK => ?_ | (refine ⟨by omega, ?_⟩) | refine T.ct rfl ?_ | refine T.cf rfl ?_ | refine T.seq ?_ | refine T.block ?_ | refine T.skip ?_ | refine T.exit ?_
 refine T.loopK (α := Nat × List (List CV) × List Arr) [1, 2, 4] (fun x => [(9, .c (.own 0 (F x.1).length)), (10, .i x.1)]) (fun _ => []) (fun x => x.2.1) (fun x _ => { sz := 2, ety := 53, rows := (F x.1).map eOp, wr := true } :: x.2.2) (fun x => e.kids.length + 1 - x.1) (fun x => x.1 <= e.kids.length) (by simp; rfl) (fun x hx => ?_) (0, [], []) (by simp) (by simp) (by simp [hF0]) (by simp [hF0])
 obtain ⟨p, G, GA⟩ := x
 dsimp only at hx ⊢
 simp only [ups, List.set_cons_zero, List.set_cons_succ, List.cons_append, List.nil_append]
 by_cases hlt : p < e.kids.length
 ·obtain ⟨u, ht⟩ := get_lt hlt
  have htm : u ∈ e.kids := List.mem_of_getElem? ht
  have hgt : e.kids[p] = u := by rw [List.getElem?_eq_getElem hlt] at ht; exact Option.some.inj ht
  have hdr : e.kids.drop p = u :: e.kids.drop (p + 1) := by rw [List.drop_eq_getElem_cons hlt, hgt]
  have hu := (ih u htm).sealed (by simp)
  dsimp only at hu
  have hul := hsm u htm
  have hp1 := hfl p
  have htk : F (p + 1) = F p ++ compM names u := by rw [hF, hF, take_succ_of ht]; simp
  generalize F p = fl at *
  generalize compM names u = cu at *
  repeat' first | ((first | refine aops_end (hK _ ?_) | refine aopsD_end (hK _ ?_) | refine aopsF_end (hK _ ?_)); clear hK K) | ((first | refine aops_go ?_ | refine aopsD_go ?_ | refine aopsF_go ?_); simp [hlt, hgt]; (try simp (disch := omega) only [wrap64]); (try (refine gen fun q hq => ?_; cases q <;> (try simp [hlt, hgt] at hq) <;> (try (have hh : True := hq; clear hh hq))))) | (refine wpcall_pure rfl (hu) ?_; simp [hlt, hgt]; (try simp (disch := omega) only [wrap64]); (try (refine gen fun q hq => ?_; cases q <;> (try simp [hlt, hgt] at hq) <;> (try (have hh : True := hq; clear hh hq))))) | (refine ⟨by omega, by omega, ?_⟩) | (refine ⟨(p + 1, _, GA), by dsimp only; omega, by dsimp only; omega, rfl, ?_, ?_⟩ <;> simp (disch := omega) [wrap64, htk]) | refine T.rd (id := 11) mixed (fun _ => false) [11] (by kernel_rfl) fun K hK => ?_ | refine T.rd1 (id := 11) mixed (fun _ => false) [11] (by kernel_rfl) fun K hK => ?_ | refine T.r0 fun K hK => ?_ | refine T.r1 fun K hK => ?_ | (refine ⟨by omega, ?_⟩) | refine T.ct rfl ?_ | refine T.cf rfl ?_ | refine T.seq ?_ | refine T.block ?_ | refine T.skip ?_ | refine T.exit ?_
 ·have hp' : p = e.kids.length := by omega
  subst hp'
  have hp1 := hfl e.kids.length
  generalize F e.kids.length = fl at *
  repeat' first | ((first | refine aops_end (hK _ ?_) | refine aopsD_end (hK _ ?_) | refine aopsF_end (hK _ ?_)); clear hK K) | ((first | refine aops_go ?_ | refine aopsD_go ?_ | refine aopsF_go ?_); simp [hlt, h5]; (try simp (disch := omega) only [wrap64]); (try (refine gen fun q hq => ?_; cases q <;> (try simp [hlt, h5] at hq) <;> (try (have hh : True := hq; clear hh hq))))) | (refine ⟨by omega, by omega, ?_⟩) | refine T.rd (id := 11) mixed (fun _ => false) [11] (by kernel_rfl) fun K hK => ?_ | refine T.rd1 (id := 11) mixed (fun _ => false) [11] (by kernel_rfl) fun K hK => ?_ | refine T.r0 fun K hK => ?_ | refine T.r1 fun K hK => ?_ | (refine ⟨by omega, ?_⟩) | refine T.ct rfl ?_ | refine T.cf rfl ?_ | refine T.seq ?_ | refine T.block ?_ | refine T.skip ?_ | refine T.exit ?_
  all_goals (refine T.ret (Done.own1 0 (Or.inr rfl) (ys := [_]) ?_ rfl ?_) <;> simp [resAs, Try.results25])

theorem l14Compile_own : ∀ (e : MTm) (names : List UInt8), BaV names e -> names.length + nodesM e <= 1000 -> ACalls Try.prog 25 [aTm e, .s names] [] (.c (.own 0 (compM names e).length)) [] [{ sz := 2, ety := 53, rows := (compM names e).map eOp, wr := true }] := by
 intro e
 induction e using MTm.ind with
 | h e ih =>
  intro names hb hn
  have hd := hb.head
  have hnd : nodesM e = 1 + nodesS e.kids := by rw [nodesM_def, nodesS_sum]
  have hnl := hd.nlen
  have hin : (if e.kind = 5 then names ++ e.name else names).length <= names.length + 1 := by split <;> simp; omega
  have hsm : ∀ u ∈ e.kids, (compM (if e.kind = 5 then names ++ e.name else names) u).length <= 1000000 := fun u hu => by
   have := comp_len u (if e.kind = 5 then names ++ e.name else names)
   have := nodesS_mem hu
   omega
  have ih' := fun u hu => ih u hu (if e.kind = 5 then names ++ e.name else names) (hd.kids u hu) (by have := nodesS_mem hu; omega)
  rw [compM_def]
  have hk := hd.kind
  rcases (by omega : e.kind = 5 \/ e.kind = 1 \/ e.kind = 2 \/ e.kind = 3 \/ e.kind = 4 \/ e.kind = 9 \/ e.kind = 6 \/ e.kind = 7 \/ e.kind = 8 \/ e.kind = 10 \/ e.kind = 11 \/ e.kind = 12) with h | h | h | h | h | h | h | h | h | h | h | h
  ·simp only [if_pos h] at hsm ih' ⊢
   exact l14Compile_lam e names h (by omega) hd hsm ih'
  ·simp only [if_neg (show ¬ e.kind = 5 by omega)] at hsm ih' ⊢
   exact l14Compile_var e names h (by omega) hd hsm ih'
  ·simp only [if_neg (show ¬ e.kind = 5 by omega)] at hsm ih' ⊢
   exact l14Compile_num e names h (by omega) hd hsm ih'
  ·simp only [if_neg (show ¬ e.kind = 5 by omega)] at hsm ih' ⊢
   exact l14Compile_tru e names h (by omega) hd hsm ih'
  ·simp only [if_neg (show ¬ e.kind = 5 by omega)] at hsm ih' ⊢
   exact l14Compile_fls e names h (by omega) hd hsm ih'
  ·simp only [if_neg (show ¬ e.kind = 5 by omega)] at hsm ih' ⊢
   exact l14Compile_ite e names h (by omega) hd hsm ih'
  ·simp only [if_neg (show ¬ e.kind = 5 by omega)] at hsm ih' ⊢
   exact l14Compile_app e names h (by omega) hd hsm ih'
  ·simp only [if_neg (show ¬ e.kind = 5 by omega)] at hsm ih' ⊢
   exact l14Compile_add e names h (by omega) hd hsm ih'
  ·simp only [if_neg (show ¬ e.kind = 5 by omega)] at hsm ih' ⊢
   exact l14Compile_less e names h (by omega) hd hsm ih'
  ·simp only [if_neg (show ¬ e.kind = 5 by omega)] at hsm ih' ⊢
   exact l14Compile_pair e names h (by omega) hd hsm ih'
  ·simp only [if_neg (show ¬ e.kind = 5 by omega)] at hsm ih' ⊢
   exact l14Compile_fst e names h (by omega) hd hsm ih'
  ·simp only [if_neg (show ¬ e.kind = 5 by omega)] at hsm ih' ⊢
   exact l14Compile_snd e names h (by omega) hd hsm ih'
end Go.Proofs.Ytflmjilnecanhaa

namespace Go.Proofs.Ytflmjilnecanhaa
open Go Go.Av
attribute [local irreducible] T ACalls TX EX LX Draws Some_ ACallsX eTy eTm MTy.kind MTy.kids MTm.kind MTm.name MTm.num MTm.ty MTm.fr MTm.label MTm.kids
attribute [local simp] eTy_def eTm_def
set_option maxHeartbeats 16000000
set_option maxRecDepth 8000
attribute [local irreducible] TJ FCalls compM sfree sfreeS

theorem l2Has_ok (s : List UInt8) (c : UInt8) (hs : s.length <= 1099511627776) : ACalls Try.prog 46 [.s s, .s [c]] [] (.b (decide (c ∈ s))) [] [] := by
 refine ACalls.of_body Try.func46 (by kernel_rfl) rfl (by kernel_rfl) (by simp [Try.ntmps46]) (by simp) ?_
 rw [Try.ntmps46]
 repeat' first | ((first | refine aops_end (hK _ ?_) | refine aopsD_end (hK _ ?_) | refine aopsF_end (hK _ ?_)); clear hK K) | ((first | refine aops_go ?_ | refine aopsD_go ?_ | refine aopsF_go ?_); simp; (try (refine gen fun q hq => ?_; cases q <;> (try simp at hq) <;> (try (have hh : True := hq; clear hh hq))))) | refine T.r0 fun K hK => ?_ | refine T.r1 fun K hK => ?_ | (refine ⟨by omega, ?_⟩) | refine T.ct rfl ?_ | refine T.cf rfl ?_ | refine T.seq ?_ | refine T.block ?_ | refine T.skip ?_ | refine T.exit ?_
 refine T.loopK (α := Nat) [0, 1] (fun p => [(4, .b false), (5, .i p)]) (fun _ => []) (fun _ => []) (fun _ A => A) (fun p => s.length + 1 - p) (fun p => p <= s.length /\ decide (c ∈ s) = decide (c ∈ s.drop p)) (by simp; rfl) (fun p hx => ?_) 0 ⟨by omega, by simp⟩ (by simp) (by simp) (by simp)
 obtain ⟨hp, he⟩ := hx
 dsimp only
 simp only [ups, List.set_cons_zero, List.set_cons_succ, List.cons_append, List.nil_append]
 by_cases hlt : p < s.length
 ·have hsl := slice_one hlt
  have hdr := drop_cons hlt
  have hto : ((p : Int) + 1).toNat = p + 1 := by omega
  have hk1 : (p : Int) <= p + 1 := by omega
  have hk2 : (p : Int) + 1 <= s.length := by omega
  generalize hx : s[p] = x at *
  rw [hdr] at he
  by_cases hc : x = c
  ·subst hc
   rw [he]
   simp only [List.mem_cons, true_or, decide_true]
   repeat' first | ((first | refine aops_end (hK _ ?_) | refine aopsD_end (hK _ ?_) | refine aopsF_end (hK _ ?_)); clear hK K) | ((first | refine aops_go ?_ | refine aopsD_go ?_ | refine aopsF_go ?_); simp [hlt, hto, hsl, hk2]; (try simp (disch := omega) only [wrap64]); (try (refine gen fun q hq => ?_; cases q <;> (try simp [hlt, hto, hsl, hk2] at hq) <;> (try (have hh : True := hq; clear hh hq))))) | (refine T.ret (Done.data (Or.inr rfl) ?_ ?_) <;> simp [Try.results46] <;> omega) | refine T.r0 fun K hK => ?_ | refine T.r1 fun K hK => ?_ | (refine ⟨by omega, ?_⟩) | refine T.ct rfl ?_ | refine T.cf rfl ?_ | refine T.seq ?_ | refine T.block ?_ | refine T.skip ?_ | refine T.exit ?_
  ·have hc' : ¬ c = x := fun h => hc h.symm
   simp only [List.mem_cons, hc', false_or] at he
   repeat' first | ((first | refine aops_end (hK _ ?_) | refine aopsD_end (hK _ ?_) | refine aopsF_end (hK _ ?_)); clear hK K) | ((first | refine aops_go ?_ | refine aopsD_go ?_ | refine aopsF_go ?_); simp [hlt, hto, hsl, hk2, hc]; (try simp (disch := omega) only [wrap64]); (try (refine gen fun q hq => ?_; cases q <;> (try simp [hlt, hto, hsl, hk2, hc] at hq) <;> (try (have hh : True := hq; clear hh hq))))) | (refine ⟨p + 1, by dsimp only; omega, ⟨by omega, he⟩, ?_⟩; simp (disch := omega) [wrap64]) | refine T.r0 fun K hK => ?_ | refine T.r1 fun K hK => ?_ | (refine ⟨by omega, ?_⟩) | refine T.ct rfl ?_ | refine T.cf rfl ?_ | refine T.seq ?_ | refine T.block ?_ | refine T.skip ?_ | refine T.exit ?_
 ·have hp' : p = s.length := by omega
  subst hp'
  rw [List.drop_length] at he
  rw [he]
  simp only [List.not_mem_nil, decide_false]
  repeat' first | ((first | refine aops_end (hK _ ?_) | refine aopsD_end (hK _ ?_) | refine aopsF_end (hK _ ?_)); clear hK K) | ((first | refine aops_go ?_ | refine aopsD_go ?_ | refine aopsF_go ?_); simp [hlt]; (try (refine gen fun q hq => ?_; cases q <;> (try simp [hlt] at hq) <;> (try (have hh : True := hq; clear hh hq))))) | (refine T.ret (Done.data (Or.inr rfl) ?_ ?_) <;> simp [Try.results46] <;> omega) | refine T.r0 fun K hK => ?_ | refine T.r1 fun K hK => ?_ | (refine ⟨by omega, ?_⟩) | refine T.ct rfl ?_ | refine T.cf rfl ?_ | refine T.seq ?_ | refine T.block ?_ | refine T.skip ?_ | refine T.exit ?_

theorem l2Free_var (e : MTm) (bd out : List UInt8) (c : UInt8) (hnm : e.name = [c]) (h1 : e.kind = 1) (hb : bd.length <= 1000000) (ho : out.length + nodesM e <= 1000000) (hl : e.kids.length <= 3)
  (ih : ∀ u ∈ e.kids, ∀ (o : List UInt8), o.length + nodesM u <= 1000000 -> ACalls Try.prog 24 [.s o, aTm u, .s bd] [] (.s (sfree bd u o)) [] []) :
  ACalls Try.prog 24 [.s out, aTm e, .s bd] [] (.s (sfreeS bd e.kids (if c ∈ bd then out else addM c out))) [] [] := by
 have hlen : ∀ (p : Nat) (u : MTm), e.kids[p]? = some u -> (sfreeS bd (e.kids.take p) (if c ∈ bd then out else addM c out)).length + nodesM u <= 1000000 := fun p u hu => by
  have h1 := sfree_lenS (e.kids.take p) bd (if c ∈ bd then out else addM c out)
  have h2 := nodesS_take e.kids (p + 1)
  have h4 : nodesS (e.kids.take (p + 1)) = nodesS (e.kids.take p) + nodesM u := nodesS_take_succ hu
  have h5 : nodesM e = 1 + nodesS e.kids := by rw [nodesM_def, nodesS_sum]
  have h3 : (if c ∈ bd then out else addM c out).length <= out.length + 1 := by split; omega; exact addM_len _ _
  omega
 obtain ⟨F, hF⟩ : ∃ F : Nat -> List UInt8, ∀ p, F p = sfreeS bd (e.kids.take p) (if c ∈ bd then out else addM c out) := ⟨_, fun p => rfl⟩
 have hF0 : F 0 = (if c ∈ bd then out else addM c out) := by rw [hF]; simp [sfreeS]
 have hFl : F e.kids.length = sfreeS bd e.kids (if c ∈ bd then out else addM c out) := by rw [hF, List.take_length]
 simp only [<- hF] at hlen
 rw [<- hFl]
 have hha := l2Has_ok bd c (by omega)
 have had := l2Add_ok out c (by omega)
 by_cases hc : c ∈ bd
 ·rw [if_pos hc] at hF0
  rw [decide_eq_true hc] at hha
  refine ACalls.of_body Try.func24 (by kernel_rfl) rfl (by kernel_rfl) (by simp [Try.ntmps24]) (by simp) ?_
  rw [Try.ntmps24]
  repeat' first | ((first | refine aops_end (hK _ ?_) | refine aopsD_end (hK _ ?_) | refine aopsF_end (hK _ ?_)); clear hK K) | ((first | refine aops_go ?_ | refine aopsD_go ?_ | refine aopsF_go ?_); simp [h1, hnm]; (try (refine gen fun q hq => ?_; cases q <;> (try simp [h1, hnm] at hq) <;> (try (have hh : True := hq; clear hh hq))))) | (refine wpcall_pure rfl (hha) ?_; simp [h1, hnm]; (try (refine gen fun q hq => ?_; cases q <;> (try simp [h1, hnm] at hq) <;> (try (have hh : True := hq; clear hh hq))))) | refine T.r0 fun K hK => ?_ | refine T.r1 fun K hK => ?_ | (refine ⟨by omega, ?_⟩) | refine T.ct rfl ?_ | refine T.cf rfl ?_ | refine T.seq ?_ | refine T.block ?_ | refine T.skip ?_ | refine T.exit ?_
  refine T.loopK (α := Nat) [2, 4, 6] (fun p => [(0, .s (F p)), (7, .i p)]) (fun _ => []) (fun _ => []) (fun _ A => A) (fun p => e.kids.length + 1 - p) (fun p => p <= e.kids.length) (by simp; rfl) (fun p hx => ?_) 0 (by simp) (by simp) (by simp) (by simp [hF0])
  dsimp only at hx ⊢
  simp only [ups, List.set_cons_zero, List.set_cons_succ, List.cons_append, List.nil_append]
  by_cases hlt : p < e.kids.length
  ·obtain ⟨u, ht⟩ := get_lt hlt
   have htm : u ∈ e.kids := List.mem_of_getElem? ht
   have hgt : e.kids[p] = u := by rw [List.getElem?_eq_getElem hlt] at ht; exact Option.some.inj ht
   have hdr : e.kids.drop p = u :: e.kids.drop (p + 1) := by rw [List.drop_eq_getElem_cons hlt, hgt]
   have hl1 := hlen p u ht
   have hu := ih u htm (F p) hl1
   rw [show sfree bd u (F p) = F (p + 1) by rw [hF, hF, sfreeS_take ht]] at hu
   repeat' first | ((first | refine aops_end (hK _ ?_) | refine aopsD_end (hK _ ?_) | refine aopsF_end (hK _ ?_)); clear hK K) | ((first | refine aops_go ?_ | refine aopsD_go ?_ | refine aopsF_go ?_); simp [hlt, hgt]; (try simp (disch := omega) only [wrap64]); (try (refine gen fun q hq => ?_; cases q <;> (try simp [hlt, hgt] at hq) <;> (try (have hh : True := hq; clear hh hq))))) | (refine wpcall_pure rfl (hu) ?_; simp [hlt, hgt]; (try simp (disch := omega) only [wrap64]); (try (refine gen fun q hq => ?_; cases q <;> (try simp [hlt, hgt] at hq) <;> (try (have hh : True := hq; clear hh hq))))) | (refine ⟨p + 1, by dsimp only; omega, by dsimp only; omega, ?_⟩; simp (disch := omega) [wrap64]) | refine T.r0 fun K hK => ?_ | refine T.r1 fun K hK => ?_ | (refine ⟨by omega, ?_⟩) | refine T.ct rfl ?_ | refine T.cf rfl ?_ | refine T.seq ?_ | refine T.block ?_ | refine T.skip ?_ | refine T.exit ?_
  ·have hp' : p = e.kids.length := by omega
   subst hp'
   repeat' first | ((first | refine aops_end (hK _ ?_) | refine aopsD_end (hK _ ?_) | refine aopsF_end (hK _ ?_)); clear hK K) | ((first | refine aops_go ?_ | refine aopsD_go ?_ | refine aopsF_go ?_); simp [hlt]; (try (refine gen fun q hq => ?_; cases q <;> (try simp [hlt] at hq) <;> (try (have hh : True := hq; clear hh hq))))) | (refine T.ret (Done.data (Or.inr rfl) ?_ ?_) <;> simp [Try.results24] <;> omega) | refine T.r0 fun K hK => ?_ | refine T.r1 fun K hK => ?_ | (refine ⟨by omega, ?_⟩) | refine T.ct rfl ?_ | refine T.cf rfl ?_ | refine T.seq ?_ | refine T.block ?_ | refine T.skip ?_ | refine T.exit ?_
 ·rw [if_neg hc] at hF0
  rw [decide_eq_false hc] at hha
  refine ACalls.of_body Try.func24 (by kernel_rfl) rfl (by kernel_rfl) (by simp [Try.ntmps24]) (by simp) ?_
  rw [Try.ntmps24]
  repeat' first | ((first | refine aops_end (hK _ ?_) | refine aopsD_end (hK _ ?_) | refine aopsF_end (hK _ ?_)); clear hK K) | ((first | refine aops_go ?_ | refine aopsD_go ?_ | refine aopsF_go ?_); simp [h1, hnm]; (try (refine gen fun q hq => ?_; cases q <;> (try simp [h1, hnm] at hq) <;> (try (have hh : True := hq; clear hh hq))))) | (refine wpcall_pure rfl (hha) ?_; simp [h1, hnm]; (try (refine gen fun q hq => ?_; cases q <;> (try simp [h1, hnm] at hq) <;> (try (have hh : True := hq; clear hh hq))))) | (refine wpcall_pure rfl (had) ?_; simp [h1, hnm]; (try (refine gen fun q hq => ?_; cases q <;> (try simp [h1, hnm] at hq) <;> (try (have hh : True := hq; clear hh hq))))) | refine T.r0 fun K hK => ?_ | refine T.r1 fun K hK => ?_ | (refine ⟨by omega, ?_⟩) | refine T.ct rfl ?_ | refine T.cf rfl ?_ | refine T.seq ?_ | refine T.block ?_ | refine T.skip ?_ | refine T.exit ?_
  refine T.loopK (α := Nat) [2, 4, 6] (fun p => [(0, .s (F p)), (7, .i p)]) (fun _ => []) (fun _ => []) (fun _ A => A) (fun p => e.kids.length + 1 - p) (fun p => p <= e.kids.length) (by simp; rfl) (fun p hx => ?_) 0 (by simp) (by simp) (by simp) (by simp [hF0])
  dsimp only at hx ⊢
  simp only [ups, List.set_cons_zero, List.set_cons_succ, List.cons_append, List.nil_append]
  by_cases hlt : p < e.kids.length
  ·obtain ⟨u, ht⟩ := get_lt hlt
   have htm : u ∈ e.kids := List.mem_of_getElem? ht
   have hgt : e.kids[p] = u := by rw [List.getElem?_eq_getElem hlt] at ht; exact Option.some.inj ht
   have hdr : e.kids.drop p = u :: e.kids.drop (p + 1) := by rw [List.drop_eq_getElem_cons hlt, hgt]
   have hl1 := hlen p u ht
   have hu := ih u htm (F p) hl1
   rw [show sfree bd u (F p) = F (p + 1) by rw [hF, hF, sfreeS_take ht]] at hu
   repeat' first | ((first | refine aops_end (hK _ ?_) | refine aopsD_end (hK _ ?_) | refine aopsF_end (hK _ ?_)); clear hK K) | ((first | refine aops_go ?_ | refine aopsD_go ?_ | refine aopsF_go ?_); simp [hlt, hgt]; (try simp (disch := omega) only [wrap64]); (try (refine gen fun q hq => ?_; cases q <;> (try simp [hlt, hgt] at hq) <;> (try (have hh : True := hq; clear hh hq))))) | (refine wpcall_pure rfl (hu) ?_; simp [hlt, hgt]; (try simp (disch := omega) only [wrap64]); (try (refine gen fun q hq => ?_; cases q <;> (try simp [hlt, hgt] at hq) <;> (try (have hh : True := hq; clear hh hq))))) | (refine ⟨p + 1, by dsimp only; omega, by dsimp only; omega, ?_⟩; simp (disch := omega) [wrap64]) | refine T.r0 fun K hK => ?_ | refine T.r1 fun K hK => ?_ | (refine ⟨by omega, ?_⟩) | refine T.ct rfl ?_ | refine T.cf rfl ?_ | refine T.seq ?_ | refine T.block ?_ | refine T.skip ?_ | refine T.exit ?_
  ·have hp' : p = e.kids.length := by omega
   subst hp'
   repeat' first | ((first | refine aops_end (hK _ ?_) | refine aopsD_end (hK _ ?_) | refine aopsF_end (hK _ ?_)); clear hK K) | ((first | refine aops_go ?_ | refine aopsD_go ?_ | refine aopsF_go ?_); simp [hlt]; (try (refine gen fun q hq => ?_; cases q <;> (try simp [hlt] at hq) <;> (try (have hh : True := hq; clear hh hq))))) | (refine T.ret (Done.data (Or.inr rfl) ?_ ?_) <;> simp [Try.results24] <;> omega) | refine T.r0 fun K hK => ?_ | refine T.r1 fun K hK => ?_ | (refine ⟨by omega, ?_⟩) | refine T.ct rfl ?_ | refine T.cf rfl ?_ | refine T.seq ?_ | refine T.block ?_ | refine T.skip ?_ | refine T.exit ?_

theorem l2Free_lam (e : MTm) (bd out : List UInt8) (c : UInt8) (hnm : e.name = [c]) (h1 : e.kind = 5) (hb : bd.length <= 1000000) (ho : out.length + nodesM e <= 1000000) (hl : e.kids.length <= 3)
  (ih : ∀ u ∈ e.kids, ∀ (o : List UInt8), o.length + nodesM u <= 1000000 -> ACalls Try.prog 24 [.s o, aTm u, .s (addM c bd)] [] (.s (sfree (addM c bd) u o)) [] []) :
  ACalls Try.prog 24 [.s out, aTm e, .s bd] [] (.s (sfreeS (addM c bd) e.kids out)) [] [] := by
 have hlen : ∀ (p : Nat) (u : MTm), e.kids[p]? = some u -> (sfreeS (addM c bd) (e.kids.take p) out).length + nodesM u <= 1000000 := fun p u hu => by
  have h1 := sfree_lenS (e.kids.take p) (addM c bd) out
  have h2 := nodesS_take e.kids (p + 1)
  have h4 : nodesS (e.kids.take (p + 1)) = nodesS (e.kids.take p) + nodesM u := nodesS_take_succ hu
  have h5 : nodesM e = 1 + nodesS e.kids := by rw [nodesM_def, nodesS_sum]
  omega
 obtain ⟨F, hF⟩ : ∃ F : Nat -> List UInt8, ∀ p, F p = sfreeS (addM c bd) (e.kids.take p) out := ⟨_, fun p => rfl⟩
 have hF0 : F 0 = out := by rw [hF]; simp [sfreeS]
 have hFl : F e.kids.length = sfreeS (addM c bd) e.kids out := by rw [hF, List.take_length]
 simp only [<- hF] at hlen
 rw [<- hFl]
 have had := l2Add_ok bd c (by omega)
 refine ACalls.of_body Try.func24 (by kernel_rfl) rfl (by kernel_rfl) (by simp [Try.ntmps24]) (by simp) ?_
 rw [Try.ntmps24]
 repeat' first | ((first | refine aops_end (hK _ ?_) | refine aopsD_end (hK _ ?_) | refine aopsF_end (hK _ ?_)); clear hK K) | ((first | refine aops_go ?_ | refine aopsD_go ?_ | refine aopsF_go ?_); simp [h1, hnm]; (try (refine gen fun q hq => ?_; cases q <;> (try simp [h1, hnm] at hq) <;> (try (have hh : True := hq; clear hh hq))))) | (refine wpcall_pure rfl (had) ?_; simp [h1, hnm]; (try (refine gen fun q hq => ?_; cases q <;> (try simp [h1, hnm] at hq) <;> (try (have hh : True := hq; clear hh hq))))) | refine T.r0 fun K hK => ?_ | refine T.r1 fun K hK => ?_ | (refine ⟨by omega, ?_⟩) | refine T.ct rfl ?_ | refine T.cf rfl ?_ | refine T.seq ?_ | refine T.block ?_ | refine T.skip ?_ | refine T.exit ?_
 refine T.loopK (α := Nat) [2, 4, 6] (fun p => [(0, .s (F p)), (7, .i p)]) (fun _ => []) (fun _ => []) (fun _ A => A) (fun p => e.kids.length + 1 - p) (fun p => p <= e.kids.length) (by simp; rfl) (fun p hx => ?_) 0 (by simp) (by simp) (by simp) (by simp [hF0])
 dsimp only at hx ⊢
 simp only [ups, List.set_cons_zero, List.set_cons_succ, List.cons_append, List.nil_append]
 by_cases hlt : p < e.kids.length
 ·obtain ⟨u, ht⟩ := get_lt hlt
  have htm : u ∈ e.kids := List.mem_of_getElem? ht
  have hgt : e.kids[p] = u := by rw [List.getElem?_eq_getElem hlt] at ht; exact Option.some.inj ht
  have hdr : e.kids.drop p = u :: e.kids.drop (p + 1) := by rw [List.drop_eq_getElem_cons hlt, hgt]
  have hl1 := hlen p u ht
  have hu := ih u htm (F p) hl1
  rw [show sfree (addM c bd) u (F p) = F (p + 1) by rw [hF, hF, sfreeS_take ht]] at hu
  repeat' first | ((first | refine aops_end (hK _ ?_) | refine aopsD_end (hK _ ?_) | refine aopsF_end (hK _ ?_)); clear hK K) | ((first | refine aops_go ?_ | refine aopsD_go ?_ | refine aopsF_go ?_); simp [hlt, hgt]; (try simp (disch := omega) only [wrap64]); (try (refine gen fun q hq => ?_; cases q <;> (try simp [hlt, hgt] at hq) <;> (try (have hh : True := hq; clear hh hq))))) | (refine wpcall_pure rfl (hu) ?_; simp [hlt, hgt]; (try simp (disch := omega) only [wrap64]); (try (refine gen fun q hq => ?_; cases q <;> (try simp [hlt, hgt] at hq) <;> (try (have hh : True := hq; clear hh hq))))) | (refine ⟨p + 1, by dsimp only; omega, by dsimp only; omega, ?_⟩; simp (disch := omega) [wrap64]) | refine T.r0 fun K hK => ?_ | refine T.r1 fun K hK => ?_ | (refine ⟨by omega, ?_⟩) | refine T.ct rfl ?_ | refine T.cf rfl ?_ | refine T.seq ?_ | refine T.block ?_ | refine T.skip ?_ | refine T.exit ?_
 ·have hp' : p = e.kids.length := by omega
  subst hp'
  repeat' first | ((first | refine aops_end (hK _ ?_) | refine aopsD_end (hK _ ?_) | refine aopsF_end (hK _ ?_)); clear hK K) | ((first | refine aops_go ?_ | refine aopsD_go ?_ | refine aopsF_go ?_); simp [hlt]; (try (refine gen fun q hq => ?_; cases q <;> (try simp [hlt] at hq) <;> (try (have hh : True := hq; clear hh hq))))) | (refine T.ret (Done.data (Or.inr rfl) ?_ ?_) <;> simp [Try.results24] <;> omega) | refine T.r0 fun K hK => ?_ | refine T.r1 fun K hK => ?_ | (refine ⟨by omega, ?_⟩) | refine T.ct rfl ?_ | refine T.cf rfl ?_ | refine T.seq ?_ | refine T.block ?_ | refine T.skip ?_ | refine T.exit ?_

theorem l2Free_non (e : MTm) (bd out : List UInt8) (h1 : ¬ e.kind = 1) (h5 : ¬ e.kind = 5) (hb : bd.length <= 1000000) (ho : out.length + nodesM e <= 1000000) (hl : e.kids.length <= 3)
  (ih : ∀ u ∈ e.kids, ∀ (o : List UInt8), o.length + nodesM u <= 1000000 -> ACalls Try.prog 24 [.s o, aTm u, .s bd] [] (.s (sfree bd u o)) [] []) :
  ACalls Try.prog 24 [.s out, aTm e, .s bd] [] (.s (sfreeS bd e.kids out)) [] [] := by
 have hlen : ∀ (p : Nat) (u : MTm), e.kids[p]? = some u -> (sfreeS bd (e.kids.take p) out).length + nodesM u <= 1000000 := fun p u hu => by
  have h1 := sfree_lenS (e.kids.take p) bd out
  have h2 := nodesS_take e.kids (p + 1)
  have h4 : nodesS (e.kids.take (p + 1)) = nodesS (e.kids.take p) + nodesM u := nodesS_take_succ hu
  have h5 : nodesM e = 1 + nodesS e.kids := by rw [nodesM_def, nodesS_sum]
  omega
 obtain ⟨F, hF⟩ : ∃ F : Nat -> List UInt8, ∀ p, F p = sfreeS bd (e.kids.take p) out := ⟨_, fun p => rfl⟩
 have hF0 : F 0 = out := by rw [hF]; simp [sfreeS]
 have hFl : F e.kids.length = sfreeS bd e.kids out := by rw [hF, List.take_length]
 simp only [<- hF] at hlen
 rw [<- hFl]
 refine ACalls.of_body Try.func24 (by kernel_rfl) rfl (by kernel_rfl) (by simp [Try.ntmps24]) (by simp) ?_
 rw [Try.ntmps24]
 repeat' first | ((first | refine aops_end (hK _ ?_) | refine aopsD_end (hK _ ?_) | refine aopsF_end (hK _ ?_)); clear hK K) | ((first | refine aops_go ?_ | refine aopsD_go ?_ | refine aopsF_go ?_); simp [h1, h5]; (try (refine gen fun q hq => ?_; cases q <;> (try simp [h1, h5] at hq) <;> (try (have hh : True := hq; clear hh hq))))) | refine T.r0 fun K hK => ?_ | refine T.r1 fun K hK => ?_ | (refine ⟨by omega, ?_⟩) | refine T.ct rfl ?_ | refine T.cf rfl ?_ | refine T.seq ?_ | refine T.block ?_ | refine T.skip ?_ | refine T.exit ?_
 refine T.loopK (α := Nat) [2, 4, 6] (fun p => [(0, .s (F p)), (7, .i p)]) (fun _ => []) (fun _ => []) (fun _ A => A) (fun p => e.kids.length + 1 - p) (fun p => p <= e.kids.length) (by simp; rfl) (fun p hx => ?_) 0 (by simp) (by simp) (by simp) (by simp [hF0])
 dsimp only at hx ⊢
 simp only [ups, List.set_cons_zero, List.set_cons_succ, List.cons_append, List.nil_append]
 by_cases hlt : p < e.kids.length
 ·obtain ⟨u, ht⟩ := get_lt hlt
  have htm : u ∈ e.kids := List.mem_of_getElem? ht
  have hgt : e.kids[p] = u := by rw [List.getElem?_eq_getElem hlt] at ht; exact Option.some.inj ht
  have hdr : e.kids.drop p = u :: e.kids.drop (p + 1) := by rw [List.drop_eq_getElem_cons hlt, hgt]
  have hl1 := hlen p u ht
  have hu := ih u htm (F p) hl1
  rw [show sfree bd u (F p) = F (p + 1) by rw [hF, hF, sfreeS_take ht]] at hu
  repeat' first | ((first | refine aops_end (hK _ ?_) | refine aopsD_end (hK _ ?_) | refine aopsF_end (hK _ ?_)); clear hK K) | ((first | refine aops_go ?_ | refine aopsD_go ?_ | refine aopsF_go ?_); simp [hlt, hgt]; (try simp (disch := omega) only [wrap64]); (try (refine gen fun q hq => ?_; cases q <;> (try simp [hlt, hgt] at hq) <;> (try (have hh : True := hq; clear hh hq))))) | (refine wpcall_pure rfl (hu) ?_; simp [hlt, hgt]; (try simp (disch := omega) only [wrap64]); (try (refine gen fun q hq => ?_; cases q <;> (try simp [hlt, hgt] at hq) <;> (try (have hh : True := hq; clear hh hq))))) | (refine ⟨p + 1, by dsimp only; omega, by dsimp only; omega, ?_⟩; simp (disch := omega) [wrap64]) | refine T.r0 fun K hK => ?_ | refine T.r1 fun K hK => ?_ | (refine ⟨by omega, ?_⟩) | refine T.ct rfl ?_ | refine T.cf rfl ?_ | refine T.seq ?_ | refine T.block ?_ | refine T.skip ?_ | refine T.exit ?_
 ·have hp' : p = e.kids.length := by omega
  subst hp'
  repeat' first | ((first | refine aops_end (hK _ ?_) | refine aopsD_end (hK _ ?_) | refine aopsF_end (hK _ ?_)); clear hK K) | ((first | refine aops_go ?_ | refine aopsD_go ?_ | refine aopsF_go ?_); simp [hlt]; (try (refine gen fun q hq => ?_; cases q <;> (try simp [hlt] at hq) <;> (try (have hh : True := hq; clear hh hq))))) | (refine T.ret (Done.data (Or.inr rfl) ?_ ?_) <;> simp [Try.results24] <;> omega) | refine T.r0 fun K hK => ?_ | refine T.r1 fun K hK => ?_ | (refine ⟨by omega, ?_⟩) | refine T.ct rfl ?_ | refine T.cf rfl ?_ | refine T.seq ?_ | refine T.block ?_ | refine T.skip ?_ | refine T.exit ?_

theorem l2Free_ok : ∀ (e : MTm) {nt : Int} {d : Nat}, TmV nt d e -> ∀ (bd out : List UInt8), bd.length + nodesM e <= 1000000 -> out.length + nodesM e <= 1000000 -> ACalls Try.prog 24 [.s out, aTm e, .s bd] [] (.s (sfree bd e out)) [] [] := by
 intro e
 induction e using MTm.ind with
 | h e ih =>
  intro nt d hv bd out hb ho
  have hk := hv.kidsV
  have hnd : nodesM e = 1 + nodesS e.kids := by rw [nodesM_def, nodesS_sum]
  have hl := hv.len3
  have hih : ∀ bd' : List UInt8, bd'.length <= bd.length + 1 -> ∀ u ∈ e.kids, ∀ (o : List UInt8), o.length + nodesM u <= 1000000 -> ACalls Try.prog 24 [.s o, aTm u, .s bd'] [] (.s (sfree bd' u o)) [] [] := fun bd' hbd u hu o ho => by
   obtain ⟨d', hd'⟩ := hk u hu
   have := nodesS_mem hu
   exact ih u hu hd' bd' o (by omega) ho
  rw [sfree_def]
  by_cases h1 : e.kind = 1
  ·obtain ⟨c, hc⟩ := hv.one (.inl h1)
   have h5 : ¬ e.kind = 5 := by omega
   rw [if_neg h5, hc]
   simp only [h1, true_and, List.headD_cons]
   rw [show (if ¬c ∈ bd then addM c out else out) = (if c ∈ bd then out else addM c out) by by_cases h : c ∈ bd <;> simp [h]]
   exact l2Free_var e bd out c hc h1 (by omega) ho hl (hih bd (by omega))
  ·simp only [h1, false_and, if_false]
   by_cases h5 : e.kind = 5
   ·obtain ⟨c, hc⟩ := hv.one (.inr h5)
    rw [if_pos h5, hc]
    simp only [List.headD_cons]
    exact l2Free_lam e bd out c hc h5 (by omega) ho hl (hih _ (addM_len _ _))
   ·rw [if_neg h5]
    exact l2Free_non e bd out h1 h5 (by omega) ho hl (hih bd (by omega))

theorem CompileTermS_ok (e : MTm) (hn : nTm e <= 1073741824) : ACalls Try.prog 9 [aTm e] [] (.tup [.l ((ops0 (compileM e)).map eOp), .b (compileM e).isSome]) [] [] := by
 have h1 := TermValidS_ok e (by omega)
 rw [compileM]
 cases hv : termValidM e with
 | false =>
  rw [hv] at h1
  simp only [Bool.false_eq_true, false_and, if_false, ops0, Option.getD_none, Option.isSome_none, List.map_nil]
  refine ACalls.of_body Try.func9 (by kernel_rfl) rfl (by kernel_rfl) (by simp [Try.ntmps9]) (by simp) ?_
  rw [Try.ntmps9]
  repeat' first | ((first | refine aops_end (hK _ ?_) | refine aopsD_end (hK _ ?_) | refine aopsF_end (hK _ ?_)); clear hK K) | ((first | refine aops_go ?_ | refine aopsD_go ?_ | refine aopsF_go ?_); simp; (try (refine gen fun q hq => ?_; cases q <;> (try simp at hq) <;> (try (have hh : True := hq; clear hh hq))))) | (refine wpcall_pure rfl (h1) ?_; simp; (try (refine gen fun q hq => ?_; cases q <;> (try simp at hq) <;> (try (have hh : True := hq; clear hh hq))))) | (refine T.ret (Done.tup (Or.inr rfl) ?_) <;> simp [resAs, Try.results9] <;> omega) | refine T.r0 fun K hK => ?_ | refine T.r1 fun K hK => ?_ | (refine ⟨by omega, ?_⟩) | refine T.ct rfl ?_ | refine T.cf rfl ?_ | refine T.seq ?_ | refine T.block ?_ | refine T.skip ?_ | refine T.exit ?_
 | true =>
  rw [hv] at h1
  obtain ⟨hv1, hv2⟩ := termValidM_iff.1 hv
  have h2 := l2Free_ok e hv1 [] [] (by simp; omega) (by simp; omega)
  have hnm := sfree_names hv
  simp only [true_and]
  by_cases hf : sfree [] e [] = []
  ·rw [hf] at h2
   rw [if_pos (hnm.1 hf)]
   have h3 := l4Bare_ok 14 e 12 hv1 hn
   have hba := BaV.of hv1 [] ((names_nil hv1).1 (hnm.1 hf))
   have hnb := (bare_valid hv1 (.inr rfl)).2.2
   have h4 := (l14Compile_own (mapM bareG e) [] hba (by simp; omega)).sealed (by simp)
   dsimp only at h4
   have hcl := comp_len (mapM bareG e) []
   have h5 := OpsValidS2_ok (compM [] (mapM bareG e)) (by omega)
   generalize mapM bareG e = B at *
   generalize compM [] B = C at *
   cases ho : opsValidM C <;> rw [ho] at h5
   ·simp only [Bool.false_eq_true, if_false, ops0, Option.getD_none, Option.isSome_none, List.map_nil]
    refine ACalls.of_body Try.func9 (by kernel_rfl) rfl (by kernel_rfl) (by simp [Try.ntmps9]) (by simp) ?_
    rw [Try.ntmps9]
    repeat' first | ((first | refine aops_end (hK _ ?_) | refine aopsD_end (hK _ ?_) | refine aopsF_end (hK _ ?_)); clear hK K) | ((first | refine aops_go ?_ | refine aopsD_go ?_ | refine aopsF_go ?_); simp; (try (refine gen fun q hq => ?_; cases q <;> (try simp at hq) <;> (try (have hh : True := hq; clear hh hq))))) | (refine wpcall_pure rfl (h1) ?_; simp; (try (refine gen fun q hq => ?_; cases q <;> (try simp at hq) <;> (try (have hh : True := hq; clear hh hq))))) | (refine wpcall_pure rfl (h2) ?_; simp; (try (refine gen fun q hq => ?_; cases q <;> (try simp at hq) <;> (try (have hh : True := hq; clear hh hq))))) | (refine wpcall_pure rfl (h3) ?_; simp; (try (refine gen fun q hq => ?_; cases q <;> (try simp at hq) <;> (try (have hh : True := hq; clear hh hq))))) | (refine wpcall_pure rfl (h4) ?_; simp; (try (refine gen fun q hq => ?_; cases q <;> (try simp at hq) <;> (try (have hh : True := hq; clear hh hq))))) | (refine wpcall_pure rfl (h5) ?_; simp; (try (refine gen fun q hq => ?_; cases q <;> (try simp at hq) <;> (try (have hh : True := hq; clear hh hq))))) | (refine T.ret (Done.tup (Or.inr rfl) ?_) <;> simp [resAs, Try.results9] <;> omega) | refine T.r0 fun K hK => ?_ | refine T.r1 fun K hK => ?_ | (refine ⟨by omega, ?_⟩) | refine T.ct rfl ?_ | refine T.cf rfl ?_ | refine T.seq ?_ | refine T.block ?_ | refine T.skip ?_ | refine T.exit ?_
   ·simp only [if_true, ops0, Option.getD_some, Option.isSome_some]
    refine ACalls.of_body Try.func9 (by kernel_rfl) rfl (by kernel_rfl) (by simp [Try.ntmps9]) (by simp) ?_
    rw [Try.ntmps9]
    repeat' first | ((first | refine aops_end (hK _ ?_) | refine aopsD_end (hK _ ?_) | refine aopsF_end (hK _ ?_)); clear hK K) | ((first | refine aops_go ?_ | refine aopsD_go ?_ | refine aopsF_go ?_); simp; (try (refine gen fun q hq => ?_; cases q <;> (try simp at hq) <;> (try (have hh : True := hq; clear hh hq))))) | (refine wpcall_pure rfl (h1) ?_; simp; (try (refine gen fun q hq => ?_; cases q <;> (try simp at hq) <;> (try (have hh : True := hq; clear hh hq))))) | (refine wpcall_pure rfl (h2) ?_; simp; (try (refine gen fun q hq => ?_; cases q <;> (try simp at hq) <;> (try (have hh : True := hq; clear hh hq))))) | (refine wpcall_pure rfl (h3) ?_; simp; (try (refine gen fun q hq => ?_; cases q <;> (try simp at hq) <;> (try (have hh : True := hq; clear hh hq))))) | (refine wpcall_pure rfl (h4) ?_; simp; (try (refine gen fun q hq => ?_; cases q <;> (try simp at hq) <;> (try (have hh : True := hq; clear hh hq))))) | (refine wpcall_pure rfl (h5) ?_; simp; (try (refine gen fun q hq => ?_; cases q <;> (try simp at hq) <;> (try (have hh : True := hq; clear hh hq))))) | (refine T.ret (Done.tup (Or.inr rfl) ?_) <;> simp [resAs, Try.results9] <;> omega) | refine T.r0 fun K hK => ?_ | refine T.r1 fun K hK => ?_ | (refine ⟨by omega, ?_⟩) | refine T.ct rfl ?_ | refine T.cf rfl ?_ | refine T.seq ?_ | refine T.block ?_ | refine T.skip ?_ | refine T.exit ?_
  ·rw [if_neg (fun h => hf (hnm.2 h))]
   simp only [ops0, Option.getD_none, Option.isSome_none, List.map_nil]
   generalize sfree [] e [] = F at *
   refine ACalls.of_body Try.func9 (by kernel_rfl) rfl (by kernel_rfl) (by simp [Try.ntmps9]) (by simp) ?_
   rw [Try.ntmps9]
   repeat' first | ((first | refine aops_end (hK _ ?_) | refine aopsD_end (hK _ ?_) | refine aopsF_end (hK _ ?_)); clear hK K) | ((first | refine aops_go ?_ | refine aopsD_go ?_ | refine aopsF_go ?_); simp [hf]; (try (refine gen fun q hq => ?_; cases q <;> (try simp [hf] at hq) <;> (try (have hh : True := hq; clear hh hq))))) | (refine wpcall_pure rfl (h1) ?_; simp [hf]; (try (refine gen fun q hq => ?_; cases q <;> (try simp [hf] at hq) <;> (try (have hh : True := hq; clear hh hq))))) | (refine wpcall_pure rfl (h2) ?_; simp [hf]; (try (refine gen fun q hq => ?_; cases q <;> (try simp [hf] at hq) <;> (try (have hh : True := hq; clear hh hq))))) | (refine T.ret (Done.tup (Or.inr rfl) ?_) <;> simp [resAs, Try.results9] <;> omega) | refine T.r0 fun K hK => ?_ | refine T.r1 fun K hK => ?_ | (refine ⟨by omega, ?_⟩) | refine T.ct rfl ?_ | refine T.cf rfl ?_ | refine T.seq ?_ | refine T.block ?_ | refine T.skip ?_ | refine T.exit ?_

end Go.Proofs.Ytflmjilnecanhaa
