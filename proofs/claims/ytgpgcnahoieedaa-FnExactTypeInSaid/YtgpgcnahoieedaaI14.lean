/- A part of the library of this seat: a value-semantic program logic over the model, plain models, and walks of functions. -/
import Derived.Test.YtgpgcnahoieedaaI13
set_option linter.unusedVariables false
set_option linter.unusedSimpArgs false
namespace Go.Proofs.Ytgpgcnahoieedaa
attribute [-simp] Go.Av.astepJ Go.Av.relC Go.Av.relL Go.Av.relV Go.Av.relVs Go.Av.callJ
open Go Go.Av
attribute [local irreducible] T ACalls TX EX LX Draws Some_ ACallsX eTy eTm MTy.kind MTy.kids MTm.kind MTm.name MTm.num MTm.ty MTm.fr MTm.label MTm.kids
attribute [local simp] eTy_def eTm_def
set_option maxHeartbeats 16000000
set_option maxRecDepth 8000
@[simp] theorem td_lawsBd : td Try.prog 66 = some { ag := true, sz := 3, by_ := 48, zero := some [.d (.str []), .d (.int .i64 0), .nil], el := none, ar := none, fl := [(0, 1), (1, 2)], ik := none, isS := false, isB := false } := keep (by kernel_rfl)
@[simp] theorem td_lawsBds : td Try.prog 43 = some { ag := false, sz := 1, by_ := 24, zero := some [.nil], el := some 66, ar := none, fl := [], ik := none, isS := false, isB := false } := keep (by kernel_rfl)

theorem szBind_ok (b : MBd) (hw : wBd b) (left : Int) (h0 : 0 ≤ left) (h1 : left ≤ 1048576) : ACalls Try.prog 40 [aBd b, .i left] [] (.i (szB1 b left)) [] [] := by
  obtain ⟨hw1, hw2⟩ := hw
  have hwr : IntKind.i64.wrap (left - (b.name.length : Int)) = left - b.name.length := wrap64 (by omega) (by omega)
  simp only [szB1]
  by_cases hl : left - (b.name.length : Int) < 0
  · rw [if_pos hl]
    have hl2 : left < (b.name.length : Int) := by omega
    refine ACalls.of_body Try.func40 (by kernel_rfl) rfl (by kernel_rfl) (by simp [Try.ntmps40]) (by simp) ?_
    rw [Try.ntmps40]
    repeat' first | ((first | refine aops_end (hK _ ?_) | refine aopsD_end (hK _ ?_) | refine aopsF_end (hK _ ?_)); clear hK K) | ((first | refine aops_go ?_ | refine aopsD_go ?_ | refine aopsF_go ?_); simp [hwr, hl, hl2]; (try (refine gen fun q hq => ?_; cases q <;> (try simp [hwr, hl, hl2] at hq) <;> (try (have hh : True := hq; clear hh hq))))) | (refine T.ret (Done.data (Or.inr rfl) ?_ ?_) <;> simp [Try.results40] <;> omega) | refine T.r0 fun K hK => ?_ | refine T.r1 fun K hK => ?_ | (refine ⟨by omega, ?_⟩) | refine T.ct rfl ?_ | refine T.cf rfl ?_ | refine T.seq ?_ | refine T.block ?_ | refine T.skip ?_ | refine T.exit ?_
  · rw [if_neg hl]
    have hl2 : ¬ left < (b.name.length : Int) := by omega
    have hc := szType_ok b.ty hw2 (left - b.name.length) (by omega) (by omega)
    have hz : szM (nTy b.ty) (left - b.name.length) = -1 ∨ ¬ szM (nTy b.ty) (left - b.name.length) < 0 := by
      simp only [szM]; split <;> omega
    generalize szM (nTy b.ty) (left - b.name.length) = z at *
    rcases hz with rfl | hz
    · refine ACalls.of_body Try.func40 (by kernel_rfl) rfl (by kernel_rfl) (by simp [Try.ntmps40]) (by simp) ?_
      rw [Try.ntmps40]
      repeat' first | ((first | refine aops_end (hK _ ?_) | refine aopsD_end (hK _ ?_) | refine aopsF_end (hK _ ?_)); clear hK K) | ((first | refine aops_go ?_ | refine aopsD_go ?_ | refine aopsF_go ?_); simp [hwr, hl, hl2]; (try (refine gen fun q hq => ?_; cases q <;> (try simp [hwr, hl, hl2] at hq) <;> (try (have hh : True := hq; clear hh hq))))) | (refine wpcall_pure rfl (hc) ?_; simp [hwr, hl, hl2]; (try (refine gen fun q hq => ?_; cases q <;> (try simp [hwr, hl, hl2] at hq) <;> (try (have hh : True := hq; clear hh hq))))) | (refine T.ret (Done.data (Or.inr rfl) ?_ ?_) <;> simp [Try.results40] <;> omega) | refine T.r0 fun K hK => ?_ | refine T.r1 fun K hK => ?_ | (refine ⟨by omega, ?_⟩) | refine T.ct rfl ?_ | refine T.cf rfl ?_ | refine T.seq ?_ | refine T.block ?_ | refine T.skip ?_ | refine T.exit ?_
    · refine ACalls.of_body Try.func40 (by kernel_rfl) rfl (by kernel_rfl) (by simp [Try.ntmps40]) (by simp) ?_
      rw [Try.ntmps40]
      repeat' first | ((first | refine aops_end (hK _ ?_) | refine aopsD_end (hK _ ?_) | refine aopsF_end (hK _ ?_)); clear hK K) | ((first | refine aops_go ?_ | refine aopsD_go ?_ | refine aopsF_go ?_); simp [hwr, hl, hl2, hz]; (try (refine gen fun q hq => ?_; cases q <;> (try simp [hwr, hl, hl2, hz] at hq) <;> (try (have hh : True := hq; clear hh hq))))) | (refine wpcall_pure rfl (hc) ?_; simp [hwr, hl, hl2, hz]; (try (refine gen fun q hq => ?_; cases q <;> (try simp [hwr, hl, hl2, hz] at hq) <;> (try (have hh : True := hq; clear hh hq))))) | (refine T.ret (Done.data (Or.inr rfl) ?_ ?_) <;> simp [Try.results40] <;> omega) | refine T.r0 fun K hK => ?_ | refine T.r1 fun K hK => ?_ | (refine ⟨by omega, ?_⟩) | refine T.ct rfl ?_ | refine T.cf rfl ?_ | refine T.seq ?_ | refine T.block ?_ | refine T.skip ?_ | refine T.exit ?_

theorem szBindS_ok (l : List MBd) (hl : l.length ≤ 9223372036854775807) (hw : ∀ b ∈ l, wBd b) (left : Int) (h0 : 0 ≤ left) (h1 : left ≤ 1048576) :
    ACalls Try.prog 17 [.l (l.map eBd), .i left] [] (.i (if left - l.length < 0 then -1 else szBf l (left - l.length))) [] [] := by
  have hwr : IntKind.i64.wrap (left - (l.length : Int)) = left - l.length := wrap64 (by omega) (by omega)
  by_cases hlen : left - (l.length : Int) < 0
  · rw [if_pos hlen]
    have hlen2 : left < (l.length : Int) := by omega
    refine ACalls.of_body Try.func17 (by kernel_rfl) rfl (by kernel_rfl) (by simp [Try.ntmps17]) (by simp) ?_
    rw [Try.ntmps17]
    repeat' first | ((first | refine aops_end (hK _ ?_) | refine aopsD_end (hK _ ?_) | refine aopsF_end (hK _ ?_)); clear hK K) | ((first | refine aops_go ?_ | refine aopsD_go ?_ | refine aopsF_go ?_); simp [hwr, hlen, hlen2]; (try (refine gen fun q hq => ?_; cases q <;> (try simp [hwr, hlen, hlen2] at hq) <;> (try (have hh : True := hq; clear hh hq))))) | (refine T.ret (Done.data (Or.inr rfl) ?_ ?_) <;> simp [Try.results17] <;> omega) | refine T.r0 fun K hK => ?_ | refine T.r1 fun K hK => ?_ | (refine ⟨by omega, ?_⟩) | refine T.ct rfl ?_ | refine T.cf rfl ?_ | refine T.seq ?_ | refine T.block ?_ | refine T.skip ?_ | refine T.exit ?_
  rw [if_neg hlen]
  have hlen2 : ¬ left < (l.length : Int) := by omega
  have hll : l.length ≤ 1048576 := by omega
  obtain ⟨Z, hZ⟩ : ∃ Z, Z = szBf l (left - l.length) := ⟨_, rfl⟩
  rw [← hZ]
  obtain ⟨left', hle⟩ : ∃ left', left' = left - l.length := ⟨_, rfl⟩
  rw [← hle] at hZ
  have hwr2 : IntKind.i64.wrap (left - (l.length : Int)) = left' := by rw [hwr, hle]
  have hl0 : ¬ left' < 0 := by omega
  refine ACalls.of_body Try.func17 (by kernel_rfl) rfl (by kernel_rfl) (by simp [Try.ntmps17]) (by simp) ?_
  rw [Try.ntmps17]
  repeat' first | ((first | refine aops_end (hK _ ?_) | refine aopsD_end (hK _ ?_) | refine aopsF_end (hK _ ?_)); clear hK K) | ((first | refine aops_go ?_ | refine aopsD_go ?_ | refine aopsF_go ?_); simp [hwr2, hl0, hlen2]; (try (refine gen fun q hq => ?_; cases q <;> (try simp [hwr2, hl0, hlen2] at hq) <;> (try (have hh : True := hq; clear hh hq))))) | refine T.r0 fun K hK => ?_ | refine T.r1 fun K hK => ?_ | (refine ⟨by omega, ?_⟩) | refine T.ct rfl ?_ | refine T.cf rfl ?_ | refine T.seq ?_ | refine T.block ?_ | refine T.skip ?_ | refine T.exit ?_
  refine T.loopK (α := Nat × Int) [0] (fun x => [(1, .i x.2), (4, .i 0), (5, .i x.1)]) (fun _ => []) (fun _ => []) (fun _ _ => []) (fun x => l.length + 1 - x.1) (fun x => x.1 ≤ l.length ∧ 0 ≤ x.2 ∧ x.2 ≤ 1048576 ∧ szBf (l.drop x.1) x.2 = Z) (by simp; rfl) (fun x hx => ?_) (0, left') (by simp [hZ]; omega) (by simp) (by simp) (by simp [hwr2])
  obtain ⟨p, cur⟩ := x
  obtain ⟨hx, hc0, hc1, hcz⟩ := hx
  dsimp only at hx hc0 hc1 hcz ⊢
  simp only [ups, List.cons_append, List.nil_append]
  by_cases hlt : p < l.length
  · obtain ⟨u, ht⟩ := get_lt hlt
    have htm : u ∈ l := List.mem_of_getElem? ht
    have hgt : l[p] = u := by rw [List.getElem?_eq_getElem hlt] at ht; exact Option.some.inj ht
    have hdr : l.drop p = u :: l.drop (p + 1) := by rw [List.drop_eq_getElem_cons hlt, hgt]
    have hu := szBind_ok u (hw u htm) cur hc0 hc1
    rw [hdr] at hcz
    simp only [szBf] at hcz
    have hsp := fun h => (szB1_spec (b := u) (left := cur) h).1
    generalize szB1 u cur = z at *
    have eBd_def := eBd
    by_cases hz : z < 0
    · rw [if_pos hz] at hcz
      subst hcz
      repeat' first | ((first | refine aops_end (hK _ ?_) | refine aopsD_end (hK _ ?_) | refine aopsF_end (hK _ ?_)); clear hK K) | ((first | refine aops_go ?_ | refine aopsD_go ?_ | refine aopsF_go ?_); simp [hlt, hgt, hz, eBd]; (try simp (disch := omega) only [wrap64]); (try (refine gen fun q hq => ?_; cases q <;> (try simp [hlt, hgt, hz, eBd] at hq) <;> (try (have hh : True := hq; clear hh hq))))) | (refine wpcall_pure rfl (hu) ?_; simp [hlt, hgt, hz, eBd]; (try simp (disch := omega) only [wrap64]); (try (refine gen fun q hq => ?_; cases q <;> (try simp [hlt, hgt, hz, eBd] at hq) <;> (try (have hh : True := hq; clear hh hq))))) | (refine T.ret (Done.data (Or.inr rfl) ?_ ?_) <;> simp [Try.results17] <;> omega) | refine T.r0 fun K hK => ?_ | refine T.r1 fun K hK => ?_ | (refine ⟨by omega, ?_⟩) | refine T.ct rfl ?_ | refine T.cf rfl ?_ | refine T.seq ?_ | refine T.block ?_ | refine T.skip ?_ | refine T.exit ?_
    · rw [if_neg hz] at hcz
      have := hsp (by omega)
      repeat' first | ((first | refine aops_end (hK _ ?_) | refine aopsD_end (hK _ ?_) | refine aopsF_end (hK _ ?_)); clear hK K) | ((first | refine aops_go ?_ | refine aopsD_go ?_ | refine aopsF_go ?_); simp [hlt, hgt, hz, eBd]; (try simp (disch := omega) only [wrap64]); (try (refine gen fun q hq => ?_; cases q <;> (try simp [hlt, hgt, hz, eBd] at hq) <;> (try (have hh : True := hq; clear hh hq))))) | (refine wpcall_pure rfl (hu) ?_; simp [hlt, hgt, hz, eBd]; (try simp (disch := omega) only [wrap64]); (try (refine gen fun q hq => ?_; cases q <;> (try simp [hlt, hgt, hz, eBd] at hq) <;> (try (have hh : True := hq; clear hh hq))))) | (refine ⟨(p + 1, z), by dsimp only; omega, ⟨by dsimp only; omega, by dsimp only; omega, by dsimp only; omega, hcz⟩, rfl, ?_, ?_⟩ <;> simp (disch := omega) [wrap64]) | refine T.r0 fun K hK => ?_ | refine T.r1 fun K hK => ?_ | (refine ⟨by omega, ?_⟩) | refine T.ct rfl ?_ | refine T.cf rfl ?_ | refine T.seq ?_ | refine T.block ?_ | refine T.skip ?_ | refine T.exit ?_
  · have hp' : p = l.length := by omega
    subst hp'
    rw [List.drop_length] at hcz
    simp only [szBf] at hcz
    subst hcz
    repeat' first | ((first | refine aops_end (hK _ ?_) | refine aopsD_end (hK _ ?_) | refine aopsF_end (hK _ ?_)); clear hK K) | ((first | refine aops_go ?_ | refine aopsD_go ?_ | refine aopsF_go ?_); simp [hlt]; (try (refine gen fun q hq => ?_; cases q <;> (try simp [hlt] at hq) <;> (try (have hh : True := hq; clear hh hq))))) | (refine T.ret (Done.data (Or.inr rfl) ?_ ?_) <;> simp [Try.results17] <;> omega) | refine T.r0 fun K hK => ?_ | refine T.r1 fun K hK => ?_ | (refine ⟨by omega, ?_⟩) | refine T.ct rfl ?_ | refine T.cf rfl ?_ | refine T.seq ?_ | refine T.block ?_ | refine T.skip ?_ | refine T.exit ?_

theorem toBind_ok (b : MBd) (hn : nTy b.ty ≤ 1048576) : ACalls Try.prog 45 [aBd b] [] (aBd b) [] [] := by
  have hc := toType_ok b.ty hn
  refine ACalls.of_body Try.func45 (by kernel_rfl) rfl (by kernel_rfl) (by simp [Try.ntmps45]) (by simp) ?_
  rw [Try.ntmps45]
  repeat' first | ((first | refine aops_end (hK _ ?_) | refine aopsD_end (hK _ ?_) | refine aopsF_end (hK _ ?_)); clear hK K) | ((first | refine aops_go ?_ | refine aopsD_go ?_ | refine aopsF_go ?_); simp; (try (refine gen fun q hq => ?_; cases q <;> (try simp at hq) <;> (try (have hh : True := hq; clear hh hq))))) | (refine wpcall_pure rfl (hc) ?_; simp; (try (refine gen fun q hq => ?_; cases q <;> (try simp at hq) <;> (try (have hh : True := hq; clear hh hq))))) | (refine T.ret (Done.val (Or.inr rfl) ?_) <;> simp [resAs, Try.results45] <;> omega) | refine T.r0 fun K hK => ?_ | refine T.r1 fun K hK => ?_ | (refine ⟨by omega, ?_⟩) | refine T.ct rfl ?_ | refine T.cf rfl ?_ | refine T.seq ?_ | refine T.block ?_ | refine T.skip ?_ | refine T.exit ?_

theorem toBindS_ok (l : List MBd) (hl : l.length ≤ 1048576) (hn : ∀ b ∈ l, nTy b.ty ≤ 1048576) : ACalls Try.prog 19 [.l (l.map eBd)] [] (.l (l.map eBd)) [] [] := by
  refine ACalls.of_body Try.func19 (by kernel_rfl) rfl (by kernel_rfl) (by simp [Try.ntmps19]) (by simp) ?_
  rw [Try.ntmps19]
  repeat' first | ((first | refine aops_end (hK _ ?_) | refine aopsD_end (hK _ ?_) | refine aopsF_end (hK _ ?_)); clear hK K) | ((first | refine aops_go ?_ | refine aopsD_go ?_ | refine aopsF_go ?_); simp; (try (refine gen fun q hq => ?_; cases q <;> (try simp at hq) <;> (try (have hh : True := hq; clear hh hq))))) | refine T.rs (id := 1) (fun i => i == 2) fun K hK => ?_ | refine T.rs1 (id := 1) (fun i => i == 2) fun K hK => ?_ | refine T.rs (id := 0) (fun _ => false) fun K hK => ?_ | refine T.rs1 (id := 0) (fun _ => false) fun K hK => ?_ | refine T.rs (id := 2) (fun _ => false) fun K hK => ?_ | refine T.rs1 (id := 2) (fun _ => false) fun K hK => ?_ | refine T.rs (id := 3) (fun _ => false) fun K hK => ?_ | refine T.rs1 (id := 3) (fun _ => false) fun K hK => ?_ | refine T.rs (id := 5) (fun _ => false) fun K hK => ?_ | refine T.rs1 (id := 5) (fun _ => false) fun K hK => ?_ | refine T.rs (id := 4) (fun _ => false) fun K hK => ?_ | refine T.rs1 (id := 4) (fun _ => false) fun K hK => ?_ | refine T.rs (id := 6) (fun _ => false) fun K hK => ?_ | refine T.rs1 (id := 6) (fun _ => false) fun K hK => ?_ | (refine ⟨by omega, ?_⟩) | refine T.ct rfl ?_ | refine T.cf rfl ?_ | refine T.seq ?_ | refine T.block ?_ | refine T.skip ?_ | refine T.exit ?_
  refine T.loopK (α := Nat × List (List CV)) [0, 2, 3] (fun x => [(4, .i x.1)]) (fun _ => []) (fun x => x.2) (fun x _ => [{ sz := 3, ety := 71, rows := fillR eBd [.str [], .i 0, .sl []] l x.1, wr := true }]) (fun x => l.length + 1 - x.1) (fun x => x.1 ≤ l.length) (by simp; rfl) (fun x hx => ?_) (0, []) (by simp) (by simp) (by simp [fillR_zero]) (by simp)
  obtain ⟨p, G⟩ := x
  dsimp only at hx ⊢
  simp only [ups, List.cons_append, List.nil_append]
  by_cases hlt : p < l.length
  · obtain ⟨u, ht⟩ := get_lt hlt
    have htm : u ∈ l := List.mem_of_getElem? ht
    have hgt : l[p] = u := by rw [List.getElem?_eq_getElem hlt] at ht; exact Option.some.inj ht
    have hdr : l.drop p = u :: l.drop (p + 1) := by rw [List.drop_eq_getElem_cons hlt, hgt]
    have hu := toBind_ok u (hn u htm)
    have hfs := fillR_set' (f := eBd) (z := [.str [], .i 0, .sl []]) ht
    rw [eBd] at hfs
    repeat' first | ((first | refine aops_end (hK _ ?_) | refine aopsD_end (hK _ ?_) | refine aopsF_end (hK _ ?_)); clear hK K) | ((first | refine aops_go ?_ | refine aopsD_go ?_ | refine aopsF_go ?_); simp [hlt, hgt, eBd, fillR_len hx, fillR_at hlt]; (try simp (disch := omega) only [wrap64]); (try (refine gen fun q hq => ?_; cases q <;> (try simp [hlt, hgt, eBd, fillR_len hx, fillR_at hlt] at hq) <;> (try (have hh : True := hq; clear hh hq))))) | (refine wpcall_pure rfl (hu) ?_; simp [hlt, hgt, eBd, fillR_len hx, fillR_at hlt]; (try simp (disch := omega) only [wrap64]); (try (refine gen fun q hq => ?_; cases q <;> (try simp [hlt, hgt, eBd, fillR_len hx, fillR_at hlt] at hq) <;> (try (have hh : True := hq; clear hh hq))))) | refine T.r0 fun K hK => ?_ | refine T.r1 fun K hK => ?_ | (refine ⟨by omega, ?_⟩) | refine T.ct rfl ?_ | refine T.cf rfl ?_ | refine T.seq ?_ | refine T.block ?_ | refine T.skip ?_ | refine T.exit ?_
    refine ⟨(p + 1, _), by dsimp only; omega, by dsimp only; omega, rfl, ?_, ?_⟩ <;> simp (disch := omega) [wrap64, ← hfs]
  · have hp' : p = l.length := by omega
    subst hp'
    repeat' first | ((first | refine aops_end (hK _ ?_) | refine aopsD_end (hK _ ?_) | refine aopsF_end (hK _ ?_)); clear hK K) | ((first | refine aops_go ?_ | refine aopsD_go ?_ | refine aopsF_go ?_); simp [hlt, fillR_full]; (try (refine gen fun q hq => ?_; cases q <;> (try simp [hlt, fillR_full] at hq) <;> (try (have hh : True := hq; clear hh hq))))) | (refine T.ret (Done.val (Or.inr rfl) ?_) <;> simp [resAs, Try.results19, fillR_full] <;> omega) | refine T.r0 fun K hK => ?_ | refine T.r1 fun K hK => ?_ | (refine ⟨by omega, ?_⟩) | refine T.ct rfl ?_ | refine T.cf rfl ?_ | refine T.seq ?_ | refine T.block ?_ | refine T.skip ?_ | refine T.exit ?_

theorem eqBind_ok (b : MBd) (hn : nTy b.ty ≤ 1048576) : ACalls Try.prog 50 [aBd b, aBd b] [] (.b true) [] [] := by
  have hc := eqType_ok b.ty hn
  refine ACalls.of_body Try.func50 (by kernel_rfl) rfl (by kernel_rfl) (by simp [Try.ntmps50]) (by simp) ?_
  rw [Try.ntmps50]
  repeat' first | ((first | refine aops_end (hK _ ?_) | refine aopsD_end (hK _ ?_) | refine aopsF_end (hK _ ?_)); clear hK K) | ((first | refine aops_go ?_ | refine aopsD_go ?_ | refine aopsF_go ?_); simp; (try (refine gen fun q hq => ?_; cases q <;> (try simp at hq) <;> (try (have hh : True := hq; clear hh hq))))) | (refine wpcall_pure rfl (hc) ?_; simp; (try (refine gen fun q hq => ?_; cases q <;> (try simp at hq) <;> (try (have hh : True := hq; clear hh hq))))) | (refine T.ret (Done.data (Or.inr rfl) ?_ ?_) <;> simp [Try.results50] <;> omega) | refine T.r0 fun K hK => ?_ | refine T.r1 fun K hK => ?_ | (refine ⟨by omega, ?_⟩) | refine T.ct rfl ?_ | refine T.cf rfl ?_ | refine T.seq ?_ | refine T.block ?_ | refine T.skip ?_ | refine T.exit ?_

theorem eqBindS_ok (l : List MBd) (hl : l.length ≤ 1048576) (hn : ∀ b ∈ l, nTy b.ty ≤ 1048576) : ACalls Try.prog 21 [.l (l.map eBd), .l (l.map eBd)] [] (.b true) [] [] := by
  refine ACalls.of_body Try.func21 (by kernel_rfl) rfl (by kernel_rfl) (by simp [Try.ntmps21]) (by simp) ?_
  rw [Try.ntmps21]
  repeat' first | ((first | refine aops_end (hK _ ?_) | refine aopsD_end (hK _ ?_) | refine aopsF_end (hK _ ?_)); clear hK K) | ((first | refine aops_go ?_ | refine aopsD_go ?_ | refine aopsF_go ?_); simp; (try (refine gen fun q hq => ?_; cases q <;> (try simp at hq) <;> (try (have hh : True := hq; clear hh hq))))) | refine T.rd (id := 6) mixed (fun _ => false) [] (by kernel_rfl) fun K hK => ?_ | refine T.rd1 (id := 6) mixed (fun _ => false) [] (by kernel_rfl) fun K hK => ?_ | refine T.r0 fun K hK => ?_ | refine T.r1 fun K hK => ?_ | (refine ⟨by omega, ?_⟩) | refine T.ct rfl ?_ | refine T.cf rfl ?_ | refine T.seq ?_ | refine T.block ?_ | refine T.skip ?_ | refine T.exit ?_
  refine T.loopK (α := Nat) [0, 1] (fun p => [(4, .b false), (5, .i p)]) (fun _ => []) (fun _ => []) (fun _ _ => []) (fun p => l.length + 1 - p) (fun p => p ≤ l.length) (by simp; rfl) (fun p hx => ?_) 0 (by simp) (by simp) (by simp) (by simp)
  dsimp only at hx ⊢
  simp only [ups, List.cons_append, List.nil_append]
  by_cases hlt : p < l.length
  · obtain ⟨u, ht⟩ := get_lt hlt
    have htm : u ∈ l := List.mem_of_getElem? ht
    have hgt : l[p] = u := by rw [List.getElem?_eq_getElem hlt] at ht; exact Option.some.inj ht
    have hdr : l.drop p = u :: l.drop (p + 1) := by rw [List.drop_eq_getElem_cons hlt, hgt]
    have hu := eqBind_ok u (hn u htm)
    repeat' first | ((first | refine aops_end (hK _ ?_) | refine aopsD_end (hK _ ?_) | refine aopsF_end (hK _ ?_)); clear hK K) | ((first | refine aops_go ?_ | refine aopsD_go ?_ | refine aopsF_go ?_); simp [hlt, hgt, eBd]; (try simp (disch := omega) only [wrap64]); (try (refine gen fun q hq => ?_; cases q <;> (try simp [hlt, hgt, eBd] at hq) <;> (try (have hh : True := hq; clear hh hq))))) | (refine wpcall_pure rfl (hu) ?_; simp [hlt, hgt, eBd]; (try simp (disch := omega) only [wrap64]); (try (refine gen fun q hq => ?_; cases q <;> (try simp [hlt, hgt, eBd] at hq) <;> (try (have hh : True := hq; clear hh hq))))) | (refine ⟨p + 1, by dsimp only; omega, by dsimp only; omega, ?_⟩ <;> simp (disch := omega) [wrap64]) | refine T.rd (id := 6) mixed (fun _ => false) [] (by kernel_rfl) fun K hK => ?_ | refine T.rd1 (id := 6) mixed (fun _ => false) [] (by kernel_rfl) fun K hK => ?_ | refine T.r0 fun K hK => ?_ | refine T.r1 fun K hK => ?_ | (refine ⟨by omega, ?_⟩) | refine T.ct rfl ?_ | refine T.cf rfl ?_ | refine T.seq ?_ | refine T.block ?_ | refine T.skip ?_ | refine T.exit ?_
  · have hp' : p = l.length := by omega
    subst hp'
    repeat' first | ((first | refine aops_end (hK _ ?_) | refine aopsD_end (hK _ ?_) | refine aopsF_end (hK _ ?_)); clear hK K) | ((first | refine aops_go ?_ | refine aopsD_go ?_ | refine aopsF_go ?_); simp [hlt]; (try (refine gen fun q hq => ?_; cases q <;> (try simp [hlt] at hq) <;> (try (have hh : True := hq; clear hh hq))))) | (refine T.ret (Done.data (Or.inr rfl) ?_ ?_) <;> simp [Try.results21] <;> omega) | refine T.rd (id := 6) mixed (fun _ => false) [] (by kernel_rfl) fun K hK => ?_ | refine T.rd1 (id := 6) mixed (fun _ => false) [] (by kernel_rfl) fun K hK => ?_ | refine T.r0 fun K hK => ?_ | refine T.r1 fun K hK => ?_ | (refine ⟨by omega, ?_⟩) | refine T.ct rfl ?_ | refine T.cf rfl ?_ | refine T.seq ?_ | refine T.block ?_ | refine T.skip ?_ | refine T.exit ?_
end Go.Proofs.Ytgpgcnahoieedaa

namespace Go.Proofs.Ytgpgcnahoieedaa
attribute [-simp] Go.Av.callJ
open Go Go.Av
attribute [local irreducible] T ACalls TX EX LX Draws Some_ ACallsX eTy eTm MTy.kind MTy.kids MTm.kind MTm.name MTm.num MTm.ty MTm.fr MTm.label MTm.kids
attribute [local simp] eTy_def eTm_def
set_option maxHeartbeats 16000000
set_option maxRecDepth 8000
attribute [local irreducible] TJ FCalls tyK tyRows

theorem markTypeS_tree_step (l : List MTy) (k : Nat) (hk : k + nTyS l ≤ 1099511627776) (h : ∀ t ∈ l, ∀ (k : Nat) v, k + nTyS t.kids ≤ 1099511627776 → FCalls Try.prog 38 [.c (.d (.raw v)), .i (k : Int)] [(tyK 31 t.kids, v)] fun r L' => r = .i ((k + nTyS t.kids : Nat) : Int) ∧ L' = [(tyK 31 (markS t.kids k), v)]) (v : Value) :
    FCalls Try.prog 38 [.c (.d (.raw v)), .i (k : Int)] [(tyK 31 l, v)] fun r L' => r = .i ((k + nTyS l : Nat) : Int) ∧ L' = [(tyK 31 (markS l k), v)] := by
  have hlen := nTyS_len l
  rw [tyK_unf, tyK_unf, markS_len]
  refine FCalls.mono (R := fun r L' => ∃ cs', L' = [(.t 31 2 l.length cs', v)] ∧ (r = .i ((k + nTyS l : Nat) : Int) ∧ cs' = tyRows 31 (markS l k))) ?_ (by rintro r L' ⟨_, rfl, rfl, rfl⟩; exact ⟨rfl, rfl⟩)
  refine FCalls.of_bodyA Try.func38 (by kernel_rfl) rfl (by kernel_rfl) (by simp [Try.ntmps38]) ?_ ?_
  rotate_left
  rw [Try.ntmps38]
  rotate_left
  · exact tyRows_scal _ l
  intro ds Lc hmk hdl
  obtain ⟨vs, hv, hch, rfl⟩ := mk_tyRows_inv _ hmk
  rw [hch]
  clear hmk hdl hch
  repeat' first | (refine aopsJ_end (hK _ _ ?_); clear hK K) | (refine aopsD_end (hK _ ?_); clear hK K) | (refine aopsJ_go ?_; simp; (try first | (refine OpsJ.gen fun q hq => ?_; cases q <;> (try simp at hq) <;> (try (have hh : True := hq; clear hh hq))))) | (refine aopsD_go ?_; simp; (try first | (refine OpsD.gen fun q hq => ?_; cases q <;> (try simp at hq) <;> (try (have hh : True := hq; clear hh hq))))) | (refine aopsF_end (hK _ ?_); clear hK K) | (refine aopsF_go ?_; simp; (try first | (refine OpsF.gen fun q hq => ?_; cases q <;> (try simp at hq) <;> (try (have hh : True := hq; clear hh hq))))) | refine TJ.rs (fun _ => false) fun K hK => ?_ | refine TJ.rs1 (fun _ => false) fun K hK => ?_ | (refine And.intro (by omega) ?_) | refine TJ.cond rfl (fun hcnd => ?_) (fun hcnd => absurd hcnd (by decide)) | refine TJ.cond rfl (fun hcnd => absurd hcnd (by decide)) (fun hcnd => ?_) | refine TJ.seq ?_ | refine TJ.block ?_ | refine TJ.skip ?_ | refine TJ.exit ?_
  refine TJ.loopK (α := Nat) [0, 4] (fun j => [(1, .i ((k + nTyS (l.take j) : Nat) : Int)), (5, .i j)]) (fun _ => []) (fun _ => []) (fun j _ => [{ sz := 2, ety := 31, rows := List.zipWith rTy (mT l k j) vs, wr := true }]) (fun j => ((mT l k j).map fun t => tyK 31 t.kids).zip vs) (fun j => l.length + 1 - j) (fun j => j ≤ l.length) (by simp; rfl) (fun j hj => ?_) 0 (by simp) (by simp) (by simp [mT_zero]) (by simp [nTyS]) (M := []) (by simp [mT_zero])
  dsimp only at hj ⊢
  simp only [ups, List.cons_append, List.nil_append]
  by_cases hlt : j < l.length
  · obtain ⟨u, hu⟩ := get_lt hlt
    have hum : u ∈ l := List.mem_of_getElem? hu
    obtain ⟨v1, hv1⟩ := get_lt (l := vs) (i := j) (by omega)
    have hle := nTyS_take_le l (j + 1)
    have hsu := nTyS_take_succ hu
    have hrj := zipWith_at (f := rTy) (mT_at (k := k) hu) hv1
    have hrs : (List.zipWith rTy (mT l k j) vs).set j [.i ((k + nTyS (l.take j) : Nat) : Int), .raw v1] = List.zipWith rTy (mT l k (j + 1)) vs := by rw [mT_succ hu, ← zipWith_set1 hv1, markR_def]; simp only [rTy, MTy.kind_mk]
    have hrl : (List.zipWith rTy (mT l k j) vs).length = l.length := by rw [List.length_zipWith, mT_len]; omega
    have hLat : (((mT l k j).map fun t => tyK 31 t.kids).zip vs)[j]? = some (tyK 31 u.kids, v1) := zipWith_at (f := Prod.mk) (by rw [List.getElem?_map, mT_at hu]; rfl) hv1
    have hLset : (((mT l k j).map fun t => tyK 31 t.kids).zip vs).set j (tyK 31 (markS u.kids (k + nTyS (l.take j) + 1)), v1) = ((mT l k (j + 1)).map fun t => tyK 31 t.kids).zip vs := by
      rw [mT_succ hu, List.map_set, markR_def]
      simp only [MTy.kids_mk]
      exact zipWith_set1 (f := Prod.mk) hv1 _
    generalize (((mT l k j).map fun t => tyK 31 t.kids).zip vs) = Lj at *
    obtain ⟨Lj', hLj'⟩ : ∃ Lj', Lj' = (((mT l k (j + 1)).map fun t => tyK 31 t.kids).zip vs) := ⟨_, rfl⟩
    rw [← hLj'] at hLset
    obtain ⟨R, hR⟩ : ∃ R, R = List.zipWith rTy (mT l k j) vs := ⟨_, rfl⟩
    rw [← hR] at hrj hrs hrl ⊢
    obtain ⟨R', hR'⟩ : ∃ R', R' = List.zipWith rTy (mT l k (j + 1)) vs := ⟨_, rfl⟩
    rw [← hR'] at hrs
    have hrl2 : R'.length = l.length := by rw [← hrs, List.length_set, hrl]
    obtain ⟨kj, hkj⟩ : ∃ kj, kj = k + nTyS (l.take j) := ⟨_, rfl⟩
    have hkj2 : ((k + nTyS (l.take (j + 1)) : Nat) : Int) = ((kj + 1 + nTyS u.kids : Nat) : Int) := by rw [hsu, hkj]; congr 1; omega
    rw [← hkj] at hrs hLset ⊢
    have hrj2 : ∀ h, R'[j]'h = [.i kj, .raw v1] := fun hh => by
      have h1 : R'[j]? = some [.i kj, .raw v1] := by rw [← hrs, List.getElem?_set_self (by omega)]
      rw [List.getElem?_eq_getElem hh] at h1; exact Option.some.inj h1
    have hc := h u hum (kj + 1) v1 (by omega)
    have hjl : j < Lj.length := (List.getElem?_eq_some_iff.1 hLat).1
    have hrj' : ∀ h, R[j]'h = [.i u.kind, .raw v1] := fun hh => by rw [List.getElem?_eq_getElem hh] at hrj; exact Option.some.inj hrj
    repeat' first | (refine aopsJ_end (hK _ _ ?_); clear hK K) | (refine aopsD_end (hK _ ?_); clear hK K) | (refine aopsJ_go ?_; simp [hlt, hrl, hrl2, hrj', hrj2, hrs]; (try simp (disch := omega) only [wrap64]); (try first | (refine OpsJ.gen fun q hq => ?_; cases q <;> (try simp [hlt, hrl, hrl2, hrj', hrj2, hrs] at hq) <;> (try (have hh : True := hq; clear hh hq))))) | (refine aopsD_go ?_; simp [hlt, hrl, hrl2, hrj', hrj2, hrs]; (try simp (disch := omega) only [wrap64]); (try first | (refine OpsD.gen fun q hq => ?_; cases q <;> (try simp [hlt, hrl, hrl2, hrj', hrj2, hrs] at hq) <;> (try (have hh : True := hq; clear hh hq))))) | (refine aopsF_end (hK _ ?_); clear hK K) | (refine aopsF_go ?_; simp [hlt, hrl, hrl2, hrj', hrj2, hrs]; (try simp (disch := omega) only [wrap64]); (try first | (refine OpsF.gen fun q hq => ?_; cases q <;> (try simp [hlt, hrl, hrl2, hrj', hrj2, hrs] at hq) <;> (try (have hh : True := hq; clear hh hq))))) | (refine wpcallJ_mut (L2 := Lj.eraseIdx j) ?_ ?_ (hc) ?_; (focus (solve | exact perm_out hLat)); (focus (solve | (repeat' first | exact FzVs.nil | apply FzVs.cons | apply FzV.c | apply FzV.agg | exact FzL.nil | apply FzL.cons | exact FzC.d | exact FzC.nil | exact FzC.np | (refine FzC.thaw' ?_ (tyK_dp _ _); (focus (solve | simp))) | (refine FzC.thaw' ?_ (tmK_dp _ _ _); (focus (solve | simp)))))); rintro _ _ ⟨rfl, rfl⟩; simp [hlt, hrl, hrl2, hrj', hrj2, hrs]; (try simp (disch := omega) only [wrap64]); (try first | (refine OpsJ.gen fun q hq => ?_; cases q <;> (try simp [hlt, hrl, hrl2, hrj', hrj2, hrs] at hq) <;> (try (have hh : True := hq; clear hh hq))))) | refine TJ.rs (fun _ => false) fun K hK => ?_ | refine TJ.rs1 (fun _ => false) fun K hK => ?_ | (refine And.intro (by omega) ?_) | refine TJ.cond rfl (fun hcnd => ?_) (fun hcnd => absurd hcnd (by decide)) | refine TJ.cond rfl (fun hcnd => absurd hcnd (by decide)) (fun hcnd => ?_) | refine TJ.seq ?_ | refine TJ.block ?_ | refine TJ.skip ?_ | refine TJ.exit ?_
    refine ⟨j + 1, [], by dsimp only; omega, by dsimp only; omega, ?_, ?_⟩
    · dsimp only
      rw [← hR', hkj2]
      simp (disch := omega) [wrap64]
    · dsimp only
      rw [List.append_nil, ← hLj', ← hLset]
      exact perm_in _ hjl
  · have hp' : j = l.length := by omega
    subst hp'
    rw [mT_all, List.take_length]
    repeat' first | (refine aopsJ_end (hK _ _ ?_); clear hK K) | (refine aopsD_end (hK _ ?_); clear hK K) | (refine aopsJ_go ?_; simp [hlt]; (try first | (refine OpsJ.gen fun q hq => ?_; cases q <;> (try simp [hlt] at hq) <;> (try (have hh : True := hq; clear hh hq))))) | (refine aopsD_go ?_; simp [hlt]; (try first | (refine OpsD.gen fun q hq => ?_; cases q <;> (try simp [hlt] at hq) <;> (try (have hh : True := hq; clear hh hq))))) | (refine aopsF_end (hK _ ?_); clear hK K) | (refine aopsF_go ?_; simp [hlt]; (try first | (refine OpsF.gen fun q hq => ?_; cases q <;> (try simp [hlt] at hq) <;> (try (have hh : True := hq; clear hh hq))))) | refine TJ.rs (fun _ => false) fun K hK => ?_ | refine TJ.rs1 (fun _ => false) fun K hK => ?_ | (refine And.intro (by omega) ?_) | refine TJ.cond rfl (fun hcnd => ?_) (fun hcnd => absurd hcnd (by decide)) | refine TJ.cond rfl (fun hcnd => absurd hcnd (by decide)) (fun hcnd => ?_) | refine TJ.seq ?_ | refine TJ.block ?_ | refine TJ.skip ?_ | refine TJ.exit ?_
    refine TJ.ret (DoneA.one (r := .i ((k + nTyS l : Nat) : Int)) (Or.inr rfl) (by simp [Try.results38]) (by simp [DV.scal]) rfl ?_ (mk_tyRows 31 (l := markS l k) (by rw [markS_len]; exact hv)) (M := []) (by simp) ⟨rfl, rfl⟩)
    rw [List.length_zipWith, markS_len]; omega

theorem markTypeS_tree : (l : List MTy) → (k : Nat) → k + nTyS l ≤ 1099511627776 → (v : Value) → FCalls Try.prog 38 [.c (.d (.raw v)), .i (k : Int)] [(tyK 31 l, v)] fun r L' => r = .i ((k + nTyS l : Nat) : Int) ∧ L' = [(tyK 31 (markS l k), v)]
  | l, k, hk, v => markTypeS_tree_step l k hk (fun t ht k v hk => markTypeS_tree t.kids k hk v) v
termination_by l => SizeOf.sizeOf l
decreasing_by have := List.sizeOf_lt_of_mem ht; cases t; simp at *; omega

theorem markType_tree (t : MTy) (k : Nat) (hk : k + nTyS t.kids ≤ 1099511627776) (v : Value) : FCalls Try.prog 15 [.agg [.d (.i t.kind), .d (.raw v)], .i (k : Int)] [(tyK 31 t.kids, v)] fun r L' => r = .i ((k + nTyS t.kids : Nat) : Int) ∧ L' = [(tyK 31 (markS t.kids k), v)] := by
  have hc := markTypeS_tree t.kids k hk v
  generalize ((k + nTyS t.kids : Nat) : Int) = K at *
  refine FCalls.of_body Try.func15 (by kernel_rfl) rfl (by kernel_rfl) (by simp [Try.ntmps15]) ?_
  rw [Try.ntmps15]
  repeat' first | (refine aopsJ_end (hK _ _ ?_); clear hK K) | (refine aopsD_end (hK _ ?_); clear hK K) | (refine aopsJ_go ?_; simp; (try first | (refine OpsJ.gen fun q hq => ?_; cases q <;> (try simp at hq) <;> (try (have hh : True := hq; clear hh hq))))) | (refine aopsD_go ?_; simp; (try first | (refine OpsD.gen fun q hq => ?_; cases q <;> (try simp at hq) <;> (try (have hh : True := hq; clear hh hq))))) | (refine aopsF_end (hK _ ?_); clear hK K) | (refine aopsF_go ?_; simp; (try first | (refine OpsF.gen fun q hq => ?_; cases q <;> (try simp at hq) <;> (try (have hh : True := hq; clear hh hq))))) | (refine wpcallJ_mut (L2 := []) ?_ ?_ (hc) ?_; (focus (solve | exact .refl _)); (focus (solve | (repeat' first | exact FzVs.nil | apply FzVs.cons | apply FzV.c | apply FzV.agg | exact FzL.nil | apply FzL.cons | exact FzC.d | exact FzC.nil | exact FzC.np | (refine FzC.thaw' ?_ (tyK_dp _ _); (focus (solve | simp))) | (refine FzC.thaw' ?_ (tmK_dp _ _ _); (focus (solve | simp)))))); rintro _ _ ⟨rfl, rfl⟩; simp; (try first | (refine OpsJ.gen fun q hq => ?_; cases q <;> (try simp at hq) <;> (try (have hh : True := hq; clear hh hq))))) | refine TJ.rs (fun _ => false) fun K hK => ?_ | refine TJ.rs1 (fun _ => false) fun K hK => ?_ | (refine And.intro (by omega) ?_) | refine TJ.cond rfl (fun hcnd => ?_) (fun hcnd => absurd hcnd (by decide)) | refine TJ.cond rfl (fun hcnd => absurd hcnd (by decide)) (fun hcnd => ?_) | refine TJ.seq ?_ | refine TJ.block ?_ | refine TJ.skip ?_ | refine TJ.exit ?_
  refine TJ.ret (DoneJ.agg (Or.inr rfl) (r := .i K) (r' := .i K) (L' := [(tyK 31 (markS t.kids k), v)]) (M := []) (by simp [Try.results15]) (by simp [DV.scal]) (by simp) ⟨rfl, rfl⟩)

theorem heldTypeS_step (l : List MTy) (k : Nat) (hk : k + nTyS l ≤ 1099511627776) (h : ∀ t ∈ l, ∀ (k : Nat), k + nTyS t.kids ≤ 1099511627776 → ACalls Try.prog 39 [.l ((markS t.kids k).map eTy), .i (k : Int)] [] (.i ((k + nTyS t.kids : Nat) : Int)) [] []) :
    ACalls Try.prog 39 [.l ((markS l k).map eTy), .i (k : Int)] [] (.i ((k + nTyS l : Nat) : Int)) [] [] := by
  have hlen := nTyS_len l
  obtain ⟨Z, hZ⟩ : ∃ Z, Z = markS l k := ⟨_, rfl⟩
  have hZl : Z.length = l.length := by rw [hZ, markS_len]
  rw [← hZ]
  refine ACalls.of_body Try.func39 (by kernel_rfl) rfl (by kernel_rfl) (by simp [Try.ntmps39]) (by simp) ?_
  rw [Try.ntmps39]
  repeat' first | ((first | refine aops_end (hK _ ?_) | refine aopsD_end (hK _ ?_) | refine aopsF_end (hK _ ?_)); clear hK K) | ((first | refine aops_go ?_ | refine aopsD_go ?_ | refine aopsF_go ?_); simp; (try (refine gen fun q hq => ?_; cases q <;> (try simp at hq) <;> (try (have hh : True := hq; clear hh hq))))) | refine T.r0 fun K hK => ?_ | refine T.r1 fun K hK => ?_ | (refine ⟨by omega, ?_⟩) | refine T.ct rfl ?_ | refine T.cf rfl ?_ | refine T.seq ?_ | refine T.block ?_ | refine T.skip ?_ | refine T.exit ?_
  refine T.loopK (α := Nat) [0] (fun j => [(1, .i ((k + nTyS (l.take j) : Nat) : Int)), (5, .i j)]) (fun _ => []) (fun _ => []) (fun j _ => []) (fun j => l.length + 1 - j) (fun j => j ≤ l.length) (by simp; rfl) (fun j hj => ?_) 0 (by simp) (by simp) (by simp) (by simp [nTyS])
  dsimp only at hj ⊢
  simp only [ups, List.cons_append, List.nil_append]
  by_cases hlt : j < l.length
  · obtain ⟨u, hu⟩ := get_lt hlt
    have hum : u ∈ l := List.mem_of_getElem? hu
    have hle := nTyS_take_le l (j + 1)
    have hsu := nTyS_take_succ hu
    have hZj : Z[j]? = some (markR u (k + nTyS (l.take j))) := by rw [hZ]; exact markS_at hu
    obtain ⟨kj, hkj⟩ : ∃ kj, kj = k + nTyS (l.take j) := ⟨_, rfl⟩
    have hkj2 : ((k + nTyS (l.take (j + 1)) : Nat) : Int) = ((kj + 1 + nTyS u.kids : Nat) : Int) := by rw [hsu, hkj]; congr 1; omega
    rw [← hkj] at hZj ⊢
    have hc := h u hum (kj + 1) (by omega)
    have hk1 : (markR u kj).kind = kj := by rw [markR_def, MTy.kind_mk]
    have hk2 : (markR u kj).kids = markS u.kids (kj + 1) := by rw [markR_def, MTy.kids_mk]
    have hnn : ¬ ((kj : Int) + 1 + (nTyS u.kids : Int) < 0) := by omega
    generalize markR u kj = y at hZj hk1 hk2
    rw [← hk2] at hc
    have hgt : ∀ h, Z[j]'h = y := fun hh => by rw [List.getElem?_eq_getElem hh] at hZj; exact Option.some.inj hZj
    repeat' first | ((first | refine aops_end (hK _ ?_) | refine aopsD_end (hK _ ?_) | refine aopsF_end (hK _ ?_)); clear hK K) | ((first | refine aops_go ?_ | refine aopsD_go ?_ | refine aopsF_go ?_); simp [hlt, hZl, hgt, hk1, hnn]; (try simp (disch := omega) only [wrap64]); (try (refine gen fun q hq => ?_; cases q <;> (try simp [hlt, hZl, hgt, hk1, hnn] at hq) <;> (try (have hh : True := hq; clear hh hq))))) | (refine wpcall_pure rfl (hc) ?_; simp [hlt, hZl, hgt, hk1, hnn]; (try simp (disch := omega) only [wrap64]); (try (refine gen fun q hq => ?_; cases q <;> (try simp [hlt, hZl, hgt, hk1, hnn] at hq) <;> (try (have hh : True := hq; clear hh hq))))) | (refine ⟨j + 1, by dsimp only; omega, by dsimp only; omega, ?_⟩; (dsimp only; rw [hkj2]; simp (disch := omega) [wrap64])) | refine T.r0 fun K hK => ?_ | refine T.r1 fun K hK => ?_ | (refine ⟨by omega, ?_⟩) | refine T.ct rfl ?_ | refine T.cf rfl ?_ | refine T.seq ?_ | refine T.block ?_ | refine T.skip ?_ | refine T.exit ?_
  · have hp' : j = l.length := by omega
    subst hp'
    repeat' first | ((first | refine aops_end (hK _ ?_) | refine aopsD_end (hK _ ?_) | refine aopsF_end (hK _ ?_)); clear hK K) | ((first | refine aops_go ?_ | refine aopsD_go ?_ | refine aopsF_go ?_); simp [hlt, hZl]; (try (refine gen fun q hq => ?_; cases q <;> (try simp [hlt, hZl] at hq) <;> (try (have hh : True := hq; clear hh hq))))) | (refine T.ret (Done.data (Or.inr rfl) ?_ ?_) <;> simp [Try.results39] <;> omega) | refine T.r0 fun K hK => ?_ | refine T.r1 fun K hK => ?_ | (refine ⟨by omega, ?_⟩) | refine T.ct rfl ?_ | refine T.cf rfl ?_ | refine T.seq ?_ | refine T.block ?_ | refine T.skip ?_ | refine T.exit ?_

theorem heldTypeS_ok : (l : List MTy) → (k : Nat) → k + nTyS l ≤ 1099511627776 → ACalls Try.prog 39 [.l ((markS l k).map eTy), .i (k : Int)] [] (.i ((k + nTyS l : Nat) : Int)) [] []
  | l, k, hk => heldTypeS_step l k hk (fun t ht k hk => heldTypeS_ok t.kids k hk)
termination_by l => SizeOf.sizeOf l
decreasing_by have := List.sizeOf_lt_of_mem ht; cases t; simp at *; omega

theorem heldType_ok (c : Int) (l : List MTy) (k : Nat) (hk : k + nTyS l ≤ 1099511627776) : ACalls Try.prog 16 [aTy (.mk c (markS l k)), .i (k : Int)] [] (.i ((k + nTyS l : Nat) : Int)) [] [] := by
  have hc := heldTypeS_ok l k hk
  have hn : ¬ ((k + nTyS l : Nat) : Int) < 0 := by omega
  generalize markS l k = Z at *
  generalize ((k + nTyS l : Nat) : Int) = K at *
  refine ACalls.of_body Try.func16 (by kernel_rfl) rfl (by kernel_rfl) (by simp [Try.ntmps16]) (by simp) ?_
  rw [Try.ntmps16]
  repeat' first | ((first | refine aops_end (hK _ ?_) | refine aopsD_end (hK _ ?_) | refine aopsF_end (hK _ ?_)); clear hK K) | ((first | refine aops_go ?_ | refine aopsD_go ?_ | refine aopsF_go ?_); simp [hn]; (try (refine gen fun q hq => ?_; cases q <;> (try simp [hn] at hq) <;> (try (have hh : True := hq; clear hh hq))))) | (refine wpcall_pure rfl (hc) ?_; simp [hn]; (try (refine gen fun q hq => ?_; cases q <;> (try simp [hn] at hq) <;> (try (have hh : True := hq; clear hh hq))))) | (refine T.ret (Done.data (Or.inr rfl) ?_ ?_) <;> simp [Try.results16] <;> omega) | refine T.r0 fun K hK => ?_ | refine T.r1 fun K hK => ?_ | (refine ⟨by omega, ?_⟩) | refine T.ct rfl ?_ | refine T.cf rfl ?_ | refine T.seq ?_ | refine T.block ?_ | refine T.skip ?_ | refine T.exit ?_
end Go.Proofs.Ytgpgcnahoieedaa

namespace Go.Proofs.Ytgpgcnahoieedaa
open Go Go.Av
attribute [local irreducible] T ACalls TX EX LX Draws Some_ ACallsX eTy eTm MTy.kind MTy.kids MTm.kind MTm.name MTm.num MTm.ty MTm.fr MTm.label MTm.kids
attribute [local simp] eTy_def eTm_def
set_option maxHeartbeats 16000000
set_option maxRecDepth 8000
attribute [local irreducible] TJ FCalls tyK tyRows

theorem ownType_tree_step (t : MTy) (hn : t.kids.length ≤ 1099511627776) (h : ∀ u ∈ t.kids, FCalls Try.prog 49 [aTy u] [] fun r L' => ∃ v, r = .agg [.d (.i u.kind), .d (.raw v)] ∧ L' = [(tyK 31 u.kids, v)]) :
    FCalls Try.prog 49 [aTy t] [] fun r L' => ∃ v, r = .agg [.d (.i t.kind), .d (.raw v)] ∧ L' = [(tyK 31 t.kids, v)] := by
  refine FCalls.of_body Try.func49 (by kernel_rfl) rfl (by kernel_rfl) (by simp [Try.ntmps49]) ?_
  rw [Try.ntmps49]
  repeat' first | (refine aopsJ_end (hK _ _ ?_); clear hK K) | (refine aopsD_end (hK _ ?_); clear hK K) | (refine aopsJ_go ?_; simp; (try first | (refine OpsJ.gen fun q hq => ?_; cases q <;> (try simp at hq) <;> (try (have hh : True := hq; clear hh hq))))) | (refine aopsD_go ?_; simp; (try first | (refine OpsD.gen fun q hq => ?_; cases q <;> (try simp at hq) <;> (try (have hh : True := hq; clear hh hq))))) | (refine aopsF_end (hK _ ?_); clear hK K) | (refine aopsF_go ?_; simp; (try first | (refine OpsF.gen fun q hq => ?_; cases q <;> (try simp at hq) <;> (try (have hh : True := hq; clear hh hq))))) | refine TJ.seqT (T.rd1 (id := 5) mixed (fun _ => false) [5, 7] (by kernel_rfl) fun K hK => ?_) | refine TJ.rs (fun _ => false) fun K hK => ?_ | refine TJ.rs1 (fun _ => false) fun K hK => ?_ | (refine And.intro (by omega) ?_) | refine TJ.cond rfl (fun hcnd => ?_) (fun hcnd => absurd hcnd (by decide)) | refine TJ.cond rfl (fun hcnd => absurd hcnd (by decide)) (fun hcnd => ?_) | refine TJ.seq ?_ | refine TJ.block ?_ | refine TJ.skip ?_ | refine TJ.exit ?_
  refine TJ.ownifyObj 2 1 2 31 (row := [.d (.i t.kind), .nil]) (by simp) (by simp) ?_
  refine TJ.loopK (α := List Value × List (List CV)) [2, 3, 10, 11] (fun x => [(12, .i x.1.length)]) (fun x => [(2, [.d (.i t.kind), .own 0 x.1.length])]) (fun x => x.2) (fun x _ => [{ sz := 2, ety := 31, rows := List.zipWith rTy t.kids x.1, wr := true }]) (fun x => (t.kids.map fun t => tyK 31 t.kids).zip x.1) (fun x => t.kids.length + 1 - x.1.length) (fun x => x.1.length ≤ t.kids.length) (by simp; rfl) (fun x hx => ?_) ([], []) (by simp) (by simp) (by simp) (by simp) (M := []) (by simp)
  obtain ⟨vs, G⟩ := x
  dsimp only at hx ⊢
  simp only [ups, List.set_cons_zero, List.set_cons_succ, List.cons_append, List.nil_append]
  by_cases hlt : vs.length < t.kids.length
  · obtain ⟨u, hu⟩ := get_lt hlt
    have hum : u ∈ t.kids := List.mem_of_getElem? hu
    have hgt : t.kids[vs.length] = u := by rw [List.getElem?_eq_getElem hlt] at hu; exact Option.some.inj hu
    have hc := h u hum
    have hzl : (List.zipWith rTy t.kids vs).length = vs.length := by simp; omega
    have hmin : min t.kids.length vs.length = vs.length := by omega
    repeat' first | (refine aopsJ_end (hK _ _ ?_); clear hK K) | (refine aopsD_end (hK _ ?_); clear hK K) | (refine aopsJ_go ?_; simp [hlt, hgt, hzl, hmin]; (try simp (disch := omega) only [wrap64]); (try first | (refine OpsJ.gen fun q hq => ?_; cases q <;> (try simp [hlt, hgt, hzl, hmin] at hq) <;> (try (have hh : True := hq; clear hh hq))))) | (refine aopsD_go ?_; simp [hlt, hgt, hzl, hmin]; (try simp (disch := omega) only [wrap64]); (try first | (refine OpsD.gen fun q hq => ?_; cases q <;> (try simp [hlt, hgt, hzl, hmin] at hq) <;> (try (have hh : True := hq; clear hh hq))))) | (refine aopsF_end (hK _ ?_); clear hK K) | (refine aopsF_go ?_; simp [hlt, hgt, hzl, hmin]; (try simp (disch := omega) only [wrap64]); (try first | (refine OpsF.gen fun q hq => ?_; cases q <;> (try simp [hlt, hgt, hzl, hmin] at hq) <;> (try (have hh : True := hq; clear hh hq))))) | (refine aopsP_end (hK _ _ ?_); clear hK K) | (refine aopsP_go rfl ?_; simp [hlt, hgt, hzl, hmin]; (try simp (disch := omega) only [wrap64]); (try first | (refine OpsP.gen fun q hq => ?_; cases q <;> (try simp [hlt, hgt, hzl, hmin] at hq) <;> (try (have hh : True := hq; clear hh hq))))) | (refine aopsP_call rfl ?_; simp [hlt, hgt, hzl, hmin]; (try simp (disch := omega) only [wrap64]); (try first | (refine OpsP.gen fun q hq => ?_; cases q <;> (try simp [hlt, hgt, hzl, hmin] at hq) <;> (try (have hh : True := hq; clear hh hq))))) | (refine wpcallP_new ?_ (hc) ?_; (focus (solve | (repeat' first | exact FzVs.nil | apply FzVs.cons | apply FzV.c | apply FzV.agg | exact FzL.nil | apply FzL.cons | exact FzC.d | exact FzC.nil | exact FzC.np | (refine FzC.thaw' ?_ (tyK_dp _ _); (focus (solve | simp))) | (refine FzC.thaw' ?_ (tmK_dp _ _ _); (focus (solve | simp)))))); rintro _ _ ⟨v, rfl, rfl⟩; simp [hlt, hgt, hzl, hmin]; (try simp (disch := omega) only [wrap64]); (try first | (refine OpsP.gen fun q hq => ?_; cases q <;> (try simp [hlt, hgt, hzl, hmin] at hq) <;> (try (have hh : True := hq; clear hh hq))))) | (refine wpcallJ_new ?_ (hc) ?_; (focus (solve | (repeat' first | exact FzVs.nil | apply FzVs.cons | apply FzV.c | apply FzV.agg | exact FzL.nil | apply FzL.cons | exact FzC.d | exact FzC.nil | exact FzC.np | (refine FzC.thaw' ?_ (tyK_dp _ _); (focus (solve | simp))) | (refine FzC.thaw' ?_ (tmK_dp _ _ _); (focus (solve | simp)))))); rintro _ _ ⟨v, rfl, rfl⟩; simp [hlt, hgt, hzl, hmin]; (try simp (disch := omega) only [wrap64]); (try first | (refine OpsJ.gen fun q hq => ?_; cases q <;> (try simp [hlt, hgt, hzl, hmin] at hq) <;> (try (have hh : True := hq; clear hh hq))))) | (refine ⟨by omega, by omega, ?_⟩) | (refine TJ.rdP (id := 5) mixed [0, 1, 2, 3, 4, 5, 6, 7] (fun _ => false) [5, 7] [3] (by kernel_rfl) (by kernel_rfl) (by kernel_rfl) fun K hK => ?_; simp only [pickOps, List.map_cons, List.map_nil, List.getD_cons_zero, List.getD_cons_succ]) | (refine TJ.rdP1 (id := 5) mixed [0, 1, 2, 3, 4, 5, 6, 7] (fun _ => false) [5, 7] [3] (by kernel_rfl) (by kernel_rfl) (by kernel_rfl) fun K hK => ?_; simp only [pickOps, List.map_cons, List.map_nil, List.getD_cons_zero, List.getD_cons_succ]) | refine TJ.rs (fun _ => false) fun K hK => ?_ | refine TJ.rs1 (fun _ => false) fun K hK => ?_ | (refine And.intro (by omega) ?_) | refine TJ.cond rfl (fun hcnd => ?_) (fun hcnd => absurd hcnd (by decide)) | refine TJ.cond rfl (fun hcnd => absurd hcnd (by decide)) (fun hcnd => ?_) | refine TJ.seq ?_ | refine TJ.block ?_ | refine TJ.skip ?_ | refine TJ.exit ?_
    refine ⟨(vs ++ [v], G ++ [[.d (.i u.kind), .d (.sl (u.kids.map eTy))]]), [], by dsimp only; rw [List.length_append]; simp; omega, by dsimp only; rw [List.length_append]; simp; omega, ?_, ?_⟩
    · simp (disch := omega) [wrap64, zipWith_snoc hu]
    · dsimp only
      rw [zip_snoc hu, List.append_nil]
      exact List.perm_append_comm (l₁ := [_])
  · have hp' : vs.length = t.kids.length := by omega
    repeat' first | (refine aopsJ_end (hK _ _ ?_); clear hK K) | (refine aopsD_end (hK _ ?_); clear hK K) | (refine aopsJ_go ?_; simp [hlt]; (try first | (refine OpsJ.gen fun q hq => ?_; cases q <;> (try simp [hlt] at hq) <;> (try (have hh : True := hq; clear hh hq))))) | (refine aopsD_go ?_; simp [hlt]; (try first | (refine OpsD.gen fun q hq => ?_; cases q <;> (try simp [hlt] at hq) <;> (try (have hh : True := hq; clear hh hq))))) | (refine aopsF_end (hK _ ?_); clear hK K) | (refine aopsF_go ?_; simp [hlt]; (try first | (refine OpsF.gen fun q hq => ?_; cases q <;> (try simp [hlt] at hq) <;> (try (have hh : True := hq; clear hh hq))))) | refine TJ.seqT (T.rd1 (id := 5) mixed (fun _ => false) [5, 7] (by kernel_rfl) fun K hK => ?_) | refine TJ.rs (fun _ => false) fun K hK => ?_ | refine TJ.rs1 (fun _ => false) fun K hK => ?_ | (refine And.intro (by omega) ?_) | refine TJ.cond rfl (fun hcnd => ?_) (fun hcnd => absurd hcnd (by decide)) | refine TJ.cond rfl (fun hcnd => absurd hcnd (by decide)) (fun hcnd => ?_) | refine TJ.seq ?_ | refine TJ.block ?_ | refine TJ.skip ?_ | refine TJ.exit ?_
    refine TJ.ret (DoneJ.ownR (k := 0) (n := vs.length) (rs := [.agg [.d (.i t.kind), .own 0 vs.length]]) (rs' := fun v => [.agg [.d (.i t.kind), .d (.raw v)]]) (Or.inr rfl) (by simp [Try.results49]) rfl rfl ?_ (mk_tyRows 31 hp') (L2 := []) (by simp) (fun v => by simp [DV.scal]) (fun v => ⟨[(tyK 31 t.kids, v)], [], ?_, v, rfl, rfl⟩))
    · rw [List.length_zipWith]; omega
    · rw [hp', tyK_unf]; exact .refl _

theorem ownType_tree : (t : MTy) → nTy t ≤ 1099511627776 → FCalls Try.prog 49 [aTy t] [] fun r L' => ∃ v, r = .agg [.d (.i t.kind), .d (.raw v)] ∧ L' = [(tyK 31 t.kids, v)]
  | .mk k l, hn => ownType_tree_step (.mk k l) (by rw [nTy_def] at hn; simp only [MTy.kids_mk] at hn ⊢; have := nTyS_len l; omega) (by
    rw [nTy_def] at hn
    simp only [MTy.kids_mk] at hn ⊢
    exact fun t ht => ownType_tree t (by have := nTyS_mem ht; omega))
termination_by t => SizeOf.sizeOf t
decreasing_by have := List.sizeOf_lt_of_mem ht; simp; omega
end Go.Proofs.Ytgpgcnahoieedaa

namespace Go.Proofs.Ytgpgcnahoieedaa
open Go Go.Av
attribute [local irreducible] T ACalls TX EX LX Draws Some_ ACallsX eTy eTm MTy.kind MTy.kids MTm.kind MTm.name MTm.num MTm.ty MTm.fr MTm.label MTm.kids
attribute [local simp] eTy_def eTm_def
set_option maxHeartbeats 16000000
set_option maxRecDepth 8000
attribute [local irreducible] TJ FCalls tyK tyRows tmK tmRows

end Go.Proofs.Ytgpgcnahoieedaa

namespace Go.Proofs.Ytgpgcnahoieedaa
open Go Go.Av
attribute [local irreducible] T ACalls TX EX LX Draws Some_ ACallsX eTy eTm MTy.kind MTy.kids MTm.kind MTm.name MTm.num MTm.ty MTm.fr MTm.label MTm.kids
attribute [local simp] eTy_def eTm_def
set_option maxHeartbeats 16000000
set_option maxRecDepth 8000
attribute [local irreducible] TJ FCalls tyK tyRows tmK tmRows

/-- A type, perhaps, as_ a tree. -/
abbrev tyT (o : Option MTy) (v : Value) : AV := .tup [.agg [.d (.i (o.getD zeroT).kind), .d (.raw v)], .b o.isSome]
theorem nils1 (e : TypeId) : Nils [(tyK e [], .slice none 0 0)] := fun p hp => by
  simp at hp; subst hp
  exact ⟨e, 2, by rw [tyK_unf]; simp [tyRows]⟩
theorem zeroT_kids : zeroT.kids = [] := MTy.kids_mk _ _
theorem zeroT_kind : zeroT.kind = 0 := MTy.kind_mk _ _

theorem TypeIn_tree (ctx : List MBd) (e : MTm) (hl : ctx.length ≤ 1073741800) (hnc : ∀ b ∈ ctx, nTy b.ty ≤ 1099511627776) (hn : nTm e ≤ 1073741824) :
    FCalls Try.prog 20 [aBds ctx, aTm e] [] fun r L' => ∃ v, r = tyT (typeInM ctx e) v ∧ L' = [(tyK 31 ((typeInM ctx e).getD zeroT).kids, v)] := by
  have h1 := CtxValid_ok ctx (by omega) hnc
  have h2 := TermValid_ok e (by omega)
  cases hc : ctxM ctx with
  | false =>
    rw [show typeInM ctx e = none by simp [typeInM, hc]]
    rw [hc] at h1
    refine FCalls.of_body Try.func20 (by kernel_rfl) rfl (by kernel_rfl) (by simp [Try.ntmps20]) ?_
    rw [Try.ntmps20]
    repeat' first | (refine aopsJ_end (hK _ _ ?_); clear hK K) | (refine aopsD_end (hK _ ?_); clear hK K) | (refine aopsJ_go ?_; simp; (try first | (refine OpsJ.gen fun q hq => ?_; cases q <;> (try simp at hq) <;> (try (have hh : True := hq; clear hh hq))))) | (refine aopsD_go ?_; simp; (try first | (refine OpsD.gen fun q hq => ?_; cases q <;> (try simp at hq) <;> (try (have hh : True := hq; clear hh hq))))) | (refine aopsF_end (hK _ ?_); clear hK K) | (refine aopsF_go ?_; simp; (try first | (refine OpsF.gen fun q hq => ?_; cases q <;> (try simp at hq) <;> (try (have hh : True := hq; clear hh hq))))) | (refine wpcallJ_pure rfl (h1) ?_; simp; (try first | (refine OpsJ.gen fun q hq => ?_; cases q <;> (try simp at hq) <;> (try (have hh : True := hq; clear hh hq))))) | (refine wpcall_pure rfl (h1) ?_; simp; (try first | (refine OpsD.gen fun q hq => ?_; cases q <;> (try simp at hq) <;> (try (have hh : True := hq; clear hh hq))) | (refine OpsF.gen fun q hq => ?_; cases q <;> (try simp at hq) <;> (try (have hh : True := hq; clear hh hq))))) | (refine wpcallJ_pure rfl (h2) ?_; simp; (try first | (refine OpsJ.gen fun q hq => ?_; cases q <;> (try simp at hq) <;> (try (have hh : True := hq; clear hh hq))))) | (refine wpcall_pure rfl (h2) ?_; simp; (try first | (refine OpsD.gen fun q hq => ?_; cases q <;> (try simp at hq) <;> (try (have hh : True := hq; clear hh hq))) | (refine OpsF.gen fun q hq => ?_; cases q <;> (try simp at hq) <;> (try (have hh : True := hq; clear hh hq))))) | refine TJ.rs (fun _ => false) fun K hK => ?_ | refine TJ.rs1 (fun _ => false) fun K hK => ?_ | (refine And.intro (by omega) ?_) | refine TJ.cond rfl (fun hcnd => ?_) (fun hcnd => absurd hcnd (by decide)) | refine TJ.cond rfl (fun hcnd => absurd hcnd (by decide)) (fun hcnd => ?_) | refine TJ.seq ?_ | refine TJ.block ?_ | refine TJ.skip ?_ | refine TJ.exit ?_
    refine TJ.ret ?_; (repeat first | refine ThenJ.ret ?_ | refine InBlockJ.ret ?_); refine (DoneJ.nils (rs := [.agg [.d (.i 0), .nil], .b false]) (rs' := [.agg [.d (.i 0), .d (.raw (.slice none 0 0))], .b false]) (Ln := [(tyK 31 [], .slice none 0 0)]) (Or.inr rfl) (by simp [Try.results20]) (by simp [DV.scal]) (nils1 _) ⟨.slice none 0 0, by simp [tyT, one, zeroT_kind], by simp [zeroT_kids]⟩)
  | true =>
    rw [hc] at h1
    cases hv : termValidM e with
    | false =>
      rw [show typeInM ctx e = none by simp [typeInM, hv]]
      rw [hv] at h2
      refine FCalls.of_body Try.func20 (by kernel_rfl) rfl (by kernel_rfl) (by simp [Try.ntmps20]) ?_
      rw [Try.ntmps20]
      repeat' first | (refine aopsJ_end (hK _ _ ?_); clear hK K) | (refine aopsD_end (hK _ ?_); clear hK K) | (refine aopsJ_go ?_; simp; (try first | (refine OpsJ.gen fun q hq => ?_; cases q <;> (try simp at hq) <;> (try (have hh : True := hq; clear hh hq))))) | (refine aopsD_go ?_; simp; (try first | (refine OpsD.gen fun q hq => ?_; cases q <;> (try simp at hq) <;> (try (have hh : True := hq; clear hh hq))))) | (refine aopsF_end (hK _ ?_); clear hK K) | (refine aopsF_go ?_; simp; (try first | (refine OpsF.gen fun q hq => ?_; cases q <;> (try simp at hq) <;> (try (have hh : True := hq; clear hh hq))))) | (refine wpcallJ_pure rfl (h1) ?_; simp; (try first | (refine OpsJ.gen fun q hq => ?_; cases q <;> (try simp at hq) <;> (try (have hh : True := hq; clear hh hq))))) | (refine wpcall_pure rfl (h1) ?_; simp; (try first | (refine OpsD.gen fun q hq => ?_; cases q <;> (try simp at hq) <;> (try (have hh : True := hq; clear hh hq))) | (refine OpsF.gen fun q hq => ?_; cases q <;> (try simp at hq) <;> (try (have hh : True := hq; clear hh hq))))) | (refine wpcallJ_pure rfl (h2) ?_; simp; (try first | (refine OpsJ.gen fun q hq => ?_; cases q <;> (try simp at hq) <;> (try (have hh : True := hq; clear hh hq))))) | (refine wpcall_pure rfl (h2) ?_; simp; (try first | (refine OpsD.gen fun q hq => ?_; cases q <;> (try simp at hq) <;> (try (have hh : True := hq; clear hh hq))) | (refine OpsF.gen fun q hq => ?_; cases q <;> (try simp at hq) <;> (try (have hh : True := hq; clear hh hq))))) | refine TJ.rs (fun _ => false) fun K hK => ?_ | refine TJ.rs1 (fun _ => false) fun K hK => ?_ | (refine And.intro (by omega) ?_) | refine TJ.cond rfl (fun hcnd => ?_) (fun hcnd => absurd hcnd (by decide)) | refine TJ.cond rfl (fun hcnd => absurd hcnd (by decide)) (fun hcnd => ?_) | refine TJ.seq ?_ | refine TJ.block ?_ | refine TJ.skip ?_ | refine TJ.exit ?_
      refine TJ.ret ?_; (repeat first | refine ThenJ.ret ?_ | refine InBlockJ.ret ?_); refine (DoneJ.nils (rs := [.agg [.d (.i 0), .nil], .b false]) (rs' := [.agg [.d (.i 0), .d (.raw (.slice none 0 0))], .b false]) (Ln := [(tyK 31 [], .slice none 0 0)]) (Or.inr rfl) (by simp [Try.results20]) (by simp [DV.scal]) (nils1 _) ⟨.slice none 0 0, by simp [tyT, one, zeroT_kind], by simp [zeroT_kids]⟩)
    | true =>
      rw [hv] at h2
      have hok : okCtx ctx := fun b hb => by
        simp only [ctxM, Bool.and_eq_true, List.all_eq_true] at hc
        exact (hc.1 b hb).2
      have hsh : shapeTm 14 12 e = true := by simp only [termValidM, Bool.and_eq_true] at hv; exact hv.1
      have h3 := term0_ok ctx e 12 hsh (by omega) hok hn
      rw [show typeInM ctx e = typeM ctx e by simp [typeInM, hc, hv]]
      cases hr : typeM ctx e with
      | none =>
        rw [hr] at h3
        simp only [tyRes] at h3 ⊢
        refine FCalls.of_body Try.func20 (by kernel_rfl) rfl (by kernel_rfl) (by simp [Try.ntmps20]) ?_
        rw [Try.ntmps20]
        repeat' first | (refine aopsJ_end (hK _ _ ?_); clear hK K) | (refine aopsD_end (hK _ ?_); clear hK K) | (refine aopsJ_go ?_; simp; (try first | (refine OpsJ.gen fun q hq => ?_; cases q <;> (try simp at hq) <;> (try (have hh : True := hq; clear hh hq))))) | (refine aopsD_go ?_; simp; (try first | (refine OpsD.gen fun q hq => ?_; cases q <;> (try simp at hq) <;> (try (have hh : True := hq; clear hh hq))))) | (refine aopsF_end (hK _ ?_); clear hK K) | (refine aopsF_go ?_; simp; (try first | (refine OpsF.gen fun q hq => ?_; cases q <;> (try simp at hq) <;> (try (have hh : True := hq; clear hh hq))))) | (refine wpcallJ_pure rfl (h1) ?_; simp; (try first | (refine OpsJ.gen fun q hq => ?_; cases q <;> (try simp at hq) <;> (try (have hh : True := hq; clear hh hq))))) | (refine wpcall_pure rfl (h1) ?_; simp; (try first | (refine OpsD.gen fun q hq => ?_; cases q <;> (try simp at hq) <;> (try (have hh : True := hq; clear hh hq))) | (refine OpsF.gen fun q hq => ?_; cases q <;> (try simp at hq) <;> (try (have hh : True := hq; clear hh hq))))) | (refine wpcallJ_pure rfl (h2) ?_; simp; (try first | (refine OpsJ.gen fun q hq => ?_; cases q <;> (try simp at hq) <;> (try (have hh : True := hq; clear hh hq))))) | (refine wpcall_pure rfl (h2) ?_; simp; (try first | (refine OpsD.gen fun q hq => ?_; cases q <;> (try simp at hq) <;> (try (have hh : True := hq; clear hh hq))) | (refine OpsF.gen fun q hq => ?_; cases q <;> (try simp at hq) <;> (try (have hh : True := hq; clear hh hq))))) | (refine wpcallJ_pure rfl (h3) ?_; simp; (try first | (refine OpsJ.gen fun q hq => ?_; cases q <;> (try simp at hq) <;> (try (have hh : True := hq; clear hh hq))))) | (refine wpcall_pure rfl (h3) ?_; simp; (try first | (refine OpsD.gen fun q hq => ?_; cases q <;> (try simp at hq) <;> (try (have hh : True := hq; clear hh hq))) | (refine OpsF.gen fun q hq => ?_; cases q <;> (try simp at hq) <;> (try (have hh : True := hq; clear hh hq))))) | refine TJ.rs (fun _ => false) fun K hK => ?_ | refine TJ.rs1 (fun _ => false) fun K hK => ?_ | (refine And.intro (by omega) ?_) | refine TJ.cond rfl (fun hcnd => ?_) (fun hcnd => absurd hcnd (by decide)) | refine TJ.cond rfl (fun hcnd => absurd hcnd (by decide)) (fun hcnd => ?_) | refine TJ.seq ?_ | refine TJ.block ?_ | refine TJ.skip ?_ | refine TJ.exit ?_
        refine TJ.ret ?_; (repeat first | refine ThenJ.ret ?_ | refine InBlockJ.ret ?_); refine (DoneJ.nils (rs := [.agg [.d (.i 0), .nil], .b false]) (rs' := [.agg [.d (.i 0), .d (.raw (.slice none 0 0))], .b false]) (Ln := [(tyK 31 [], .slice none 0 0)]) (Or.inr rfl) (by simp [Try.results20]) (by simp [DV.scal]) (nils1 _) ⟨.slice none 0 0, by simp [tyT, one, zeroT_kind], by simp [zeroT_kids]⟩)
      | some t =>
        rw [hr] at h3
        have h4 := ownType_tree t (by have := shape4 (typeM_shape e 12 14 ctx t hsh hok hr); omega)
        simp only [tyRes] at h3 ⊢
        refine FCalls.of_body Try.func20 (by kernel_rfl) rfl (by kernel_rfl) (by simp [Try.ntmps20]) ?_
        rw [Try.ntmps20]
        repeat' first | (refine aopsJ_end (hK _ _ ?_); clear hK K) | (refine aopsD_end (hK _ ?_); clear hK K) | (refine aopsJ_go ?_; simp; (try first | (refine OpsJ.gen fun q hq => ?_; cases q <;> (try simp at hq) <;> (try (have hh : True := hq; clear hh hq))))) | (refine aopsD_go ?_; simp; (try first | (refine OpsD.gen fun q hq => ?_; cases q <;> (try simp at hq) <;> (try (have hh : True := hq; clear hh hq))))) | (refine aopsF_end (hK _ ?_); clear hK K) | (refine aopsF_go ?_; simp; (try first | (refine OpsF.gen fun q hq => ?_; cases q <;> (try simp at hq) <;> (try (have hh : True := hq; clear hh hq))))) | (refine wpcallJ_pure rfl (h1) ?_; simp; (try first | (refine OpsJ.gen fun q hq => ?_; cases q <;> (try simp at hq) <;> (try (have hh : True := hq; clear hh hq))))) | (refine wpcall_pure rfl (h1) ?_; simp; (try first | (refine OpsD.gen fun q hq => ?_; cases q <;> (try simp at hq) <;> (try (have hh : True := hq; clear hh hq))) | (refine OpsF.gen fun q hq => ?_; cases q <;> (try simp at hq) <;> (try (have hh : True := hq; clear hh hq))))) | (refine wpcallJ_pure rfl (h2) ?_; simp; (try first | (refine OpsJ.gen fun q hq => ?_; cases q <;> (try simp at hq) <;> (try (have hh : True := hq; clear hh hq))))) | (refine wpcall_pure rfl (h2) ?_; simp; (try first | (refine OpsD.gen fun q hq => ?_; cases q <;> (try simp at hq) <;> (try (have hh : True := hq; clear hh hq))) | (refine OpsF.gen fun q hq => ?_; cases q <;> (try simp at hq) <;> (try (have hh : True := hq; clear hh hq))))) | (refine wpcallJ_pure rfl (h3) ?_; simp; (try first | (refine OpsJ.gen fun q hq => ?_; cases q <;> (try simp at hq) <;> (try (have hh : True := hq; clear hh hq))))) | (refine wpcall_pure rfl (h3) ?_; simp; (try first | (refine OpsD.gen fun q hq => ?_; cases q <;> (try simp at hq) <;> (try (have hh : True := hq; clear hh hq))) | (refine OpsF.gen fun q hq => ?_; cases q <;> (try simp at hq) <;> (try (have hh : True := hq; clear hh hq))))) | (refine wpcallJ_new ?_ (h4) ?_; (focus (solve | (repeat' first | exact FzVs.nil | apply FzVs.cons | apply FzV.c | apply FzV.agg | exact FzL.nil | apply FzL.cons | exact FzC.d | exact FzC.nil | exact FzC.np | exact FzC.fn | (refine FzC.thaw' ?_ (tyK_dp _ _); (focus (solve | simp))) | (refine FzC.thaw' ?_ (tmK_dp _ _ _); (focus (solve | simp)))))); rintro _ _ ⟨v, rfl, rfl⟩; simp; (try first | (refine OpsJ.gen fun q hq => ?_; cases q <;> (try simp at hq) <;> (try (have hh : True := hq; clear hh hq))))) | refine TJ.rs (fun _ => false) fun K hK => ?_ | refine TJ.rs1 (fun _ => false) fun K hK => ?_ | (refine And.intro (by omega) ?_) | refine TJ.cond rfl (fun hcnd => ?_) (fun hcnd => absurd hcnd (by decide)) | refine TJ.cond rfl (fun hcnd => absurd hcnd (by decide)) (fun hcnd => ?_) | refine TJ.seq ?_ | refine TJ.block ?_ | refine TJ.skip ?_ | refine TJ.exit ?_
        refine TJ.ret (DoneJ.tup (rs := [.agg [.d (.i t.kind), .d (.raw v)], .b true]) (rs' := [.agg [.d (.i t.kind), .d (.raw v)], .b true]) (L' := [(tyK 31 t.kids, v)]) (M := []) (Or.inr rfl) (by simp [Try.results20]) (by simp [DV.scal]) (by simp) ⟨v, rfl, rfl⟩)

end Go.Proofs.Ytgpgcnahoieedaa
