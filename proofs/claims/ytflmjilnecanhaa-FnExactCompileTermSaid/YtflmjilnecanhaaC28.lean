/- A part of the library of this seat. -/
import Derived.Test.YtflmjilnecanhaaC27
set_option linter.unusedVariables false
set_option linter.unusedSimpArgs false
namespace Go.Proofs.Ytflmjilnecanhaa
attribute [-simp] Go.Av.callJ
open Go Go.Av
attribute [local irreducible] T ACalls TX EX LX Draws Some_ ACallsX eTy eTm MTy.kind MTy.kids MTm.kind MTm.name MTm.num MTm.ty MTm.fr MTm.label MTm.kids
attribute [local simp] eTy_def eTm_def
set_option maxHeartbeats 16000000
set_option maxRecDepth 8000
attribute [local irreducible] TJ FCalls tyK tyRows tmK tmRows

@[simp] theorem td_u8k : td Try.prog 5 = some { ag := false, sz := 1, by_ := 1, zero := some [.d (.int .u8 0)], el := none, ar := none, fl := [], ik := some .u8, isS := false, isB := false } := keep (by kernel_rfl)
@[simp] theorem td_u8Sk : td Try.prog 22 = some { ag := false, sz := 1, by_ := 24, zero := some [.nil], el := some 5, ar := none, fl := [], ik := none, isS := false, isB := false } := keep (by kernel_rfl)

def decD (n : Nat) : List UInt8 := if n = 0 then [] else Lib.decDigits n
theorem decD_step {n : Nat} (h : 0 < n) (out : List UInt8) : decD n ++ out = decD (n / 10) ++ (UInt8.ofNat (48 + n % 10) :: out) := by
 rw [decD, if_neg (by omega)]
 conv => lhs; rw [Lib.decDigits]
 split
 ·rename_i h1
  have e1 : n / 10 = 0 := by omega
  have e2 : n % 10 = n := by omega
  rw [e1, e2]; simp [decD]
 ·rename_i h1
  rw [decD, if_neg (by omega)]; simp

theorem dec_len_k (n : Nat) : (Lib.decDigits n).length <= n + 1 := by
 induction n using Nat.strongRecOn with
 | _ n ih =>
  rw [Lib.decDigits]
  split
  ·simp
  ·have := ih (n / 10) (by omega)
   simp; omega

theorem markText_ok (k : Nat) (h0 : 1 <= k) (hk : k <= 2199023255552) : ACalls Try.prog 64 [.i (k : Int)] [] (.c (.d (.str (mText k)))) [] [] := by
 have hk0 : ¬ (k : Int) <= 0 := by omega
 have hk1 : ¬ k = 0 := by omega
 refine ACalls.of_body Try.func64 (by kernel_rfl) rfl (by kernel_rfl) (by simp [Try.ntmps64]) (by simp) ?_
 rw [Try.ntmps64]
 repeat' first | (refine aops_end (hK _ ?_); clear hK K) | (refine aops_go ?_; simp [hk0, hk1]; (try (refine gen fun q hq => ?_; cases q <;> (try simp [hk0, hk1] at hq) <;> (try (have hh : True := hq; clear hh hq))))) | refine T.r0 fun K hK => ?_ | refine T.cf rfl ?_ | refine T.seq ?_ | refine T.block ?_ | refine T.skip ?_
 refine T.loopK (α := Nat × List UInt8) [2] (fun x => [(0, .i (x.1 : Int)), (3, .c (.d (.str x.2)))]) (fun _ => []) (fun _ => []) (fun _ _ => []) (fun x => x.1 + 1) (fun x => x.1 <= k /\ decD x.1 ++ x.2 = decD k) (by simp; rfl) (fun x hx => ?_) (k, []) (by simp) (by simp) (by simp) (by simp)
 obtain ⟨n, out⟩ := x
 obtain ⟨hn, ho⟩ := hx
 dsimp only at hn ho ⊢
 simp only [ups, List.cons_append, List.nil_append]
 have hol : out.length <= k + 1 := by
  have h1 : (decD n ++ out).length = (decD k).length := by rw [ho]
  have h2 := dec_len_k k
  rw [decD, decD, if_neg hk1] at h1
  simp at h1; omega
 have key : ∀ k : Nat, k <= 9 -> ∃ z : Int, IntKind.i64.wrap (48 + (k : Int)) = z /\ IntKind.u8.wrap z = z /\ 0 <= z /\ z < 256 /\ UInt8.ofNat z.toNat = UInt8.ofNat (48 + k) := fun k hk => by
  refine ⟨((48 + k : Nat) : Int), ?_, wrap8 (by omega), by omega, by omega, by rw [Int.toNat_natCast]⟩
  rw [wrap64 (by omega) (by omega)]; omega
 have hl1 : 1 + out.length <= 4611686018427387904 := by omega
 by_cases hlt : 0 < n
 ·have hlt' : (0 : Int) < (n : Int) := by omega
  rw [decD_step hlt] at ho
  obtain ⟨q, hq⟩ : ∃ q, n / 10 = q := ⟨_, rfl⟩
  obtain ⟨r, hr⟩ : ∃ r, n % 10 = r := ⟨_, rfl⟩
  obtain ⟨z, z1, z2, z3, z4, z5⟩ := key r (by omega)
  have e1 : (n : Int).tmod 10 = (r : Int) := by rw [Int.tmod_eq_emod_of_nonneg (by omega)]; omega
  have e2 : (n : Int).tdiv 10 = (q : Int) := by rw [Int.tdiv_eq_ediv_of_nonneg (by omega)]; omega
  rw [hq, hr] at ho
  obtain ⟨c, hc⟩ : ∃ c, UInt8.ofNat (48 + r) = c := ⟨_, rfl⟩
  rw [hc] at ho z5
  have hqn : q < n := by omega
  repeat' first | (refine aops_end (hK _ ?_); clear hK K) | (refine aops_go ?_; simp [hlt, hlt', hl1, e1, e2, z1, z2, z3, z4, z5, bytesOf, byteOfRow]; (try simp (disch := omega) only [wrap64, catLe]); (try (refine gen fun q hq => ?_; cases q <;> (try simp [hlt, hlt', hl1, e1, e2, z1, z2, z3, z4, z5, bytesOf, byteOfRow] at hq) <;> (try (have hh : True := hq; clear hh hq))))) | refine T.r0 fun K hK => ?_ | refine T.r1 fun K hK => ?_ | refine T.ct rfl ?_ | refine T.seq ?_ | refine T.block ?_ | refine T.skip ?_
  refine ⟨(q, c :: out), by dsimp only; omega, ⟨by dsimp only; omega, ho⟩, rfl, ?_, ?_⟩ <;> simp (disch := omega) [e2, hlt', wrap64]
 ·have hlt' : ¬ (0 : Int) < (n : Int) := by omega
  obtain rfl : n = 0 := by omega
  simp [decD, hk1] at ho
  repeat' first | (refine aops_end (hK _ ?_); clear hK K) | (refine aops_go ?_; simp [hlt', hl1]; (try (refine gen fun q hq => ?_; cases q <;> (try simp [hlt', hl1] at hq) <;> (try (have hh : True := hq; clear hh hq))))) | (refine T.ret (Done.data (Or.inr rfl) ?_ ?_) <;> simp [Try.results64, mText, ho] <;> omega) | refine T.r0 fun K hK => ?_ | refine T.cf rfl ?_ | refine T.seq ?_ | refine T.exit ?_

theorem markTermS_tree_step (l : List MTm) (k : Nat) (hk : k + cTmS l <= 1099511627776) (hlen : l.length <= 1099511627776) (h : ∀ t ∈ l, ∀ (k : Nat) v, k + cTmS t.kids <= 1099511627776 -> FCalls Try.prog 39 [.c (.d (.raw v)), .i (k : Int)] [(tmK 39 42 t.kids, v)] fun r L' => r = .i ((k + cTmS t.kids : Nat) : Int) /\ L' = [(tmK 39 42 (markSm t.kids k), v)]) (v : Value) :
  FCalls Try.prog 39 [.c (.d (.raw v)), .i (k : Int)] [(tmK 39 42 l, v)] fun r L' => r = .i ((k + cTmS l : Nat) : Int) /\ L' = [(tmK 39 42 (markSm l k), v)] := by
 rw [tmK_unf, tmK_unf, markSm_len]
 refine FCalls.mono (R := fun r L' => ∃ cs', L' = [(.t 42 9 l.length cs', v)] /\ (r = .i ((k + cTmS l : Nat) : Int) /\ cs' = tmRows 39 42 (markSm l k))) ?_ (by rintro r L' ⟨_, rfl, rfl, rfl⟩; exact ⟨rfl, rfl⟩)
 refine FCalls.of_bodyA Try.func39 (by kernel_rfl) rfl (by kernel_rfl) (by simp [Try.ntmps39]) ?_ ?_
 rotate_left
 rw [Try.ntmps39]
 rotate_left
 ·exact tmRows_scal _ _ l
 intro ds Lc hmk hdl
 obtain ⟨vs, hv, hch, rfl⟩ := mk_tmRows_inv _ _ hmk
 rw [hch]
 clear hmk hdl hch
 repeat' first | (refine aopsJ_end (hK _ _ ?_); clear hK K) | (refine aopsJ_go ?_; simp; (try first | (refine OpsJ.gen fun q hq => ?_; cases q <;> (try simp at hq) <;> (try (have hh : True := hq; clear hh hq))))) | refine TJ.rs (fun _ => false) fun K hK => ?_ | refine TJ.seq ?_ | refine TJ.block ?_
 refine TJ.loopK (α := Nat) [0, 4] (fun j => [(1, .i ((k + cTmS (l.take j) : Nat) : Int)), (5, .i j)]) (fun _ => []) (fun _ => []) (fun j _ => [{ sz := 9, ety := 42, rows := List.zipWith rTm (mM l k j) vs, wr := true }]) (fun j => tsTm 39 42 (mM l k j) vs) (fun j => l.length + 1 - j) (fun j => j <= l.length) (by simp; rfl) (fun j hj => ?_) 0 (by simp) (by simp) (by simp [mM_zero]) (by simp [cTmS]) (M := []) (by simp [mM_zero])
 dsimp only at hj ⊢
 simp only [ups, List.cons_append, List.nil_append]
 by_cases hlt : j < l.length
 ·obtain ⟨u, hu⟩ := get_lt hlt
  have hum : u ∈ l := List.mem_of_getElem? hu
  obtain ⟨⟨v1, v2, v3⟩, hv1⟩ := get_lt (l := vs) (i := j) (by omega)
  have hle := cTmS_take_le l (j + 1)
  have hsu := cTmS_take_succ hu
  rw [cTm_def] at hsu
  have hrj := zipWith_at (f := rTm) (mM_at (k := k) hu) hv1
  obtain ⟨kj, hkj⟩ : ∃ kj, kj = k + cTmS (l.take j) := ⟨_, rfl⟩
  have hms := mM_succ (k := k) hu
  rw [<- hkj, markRm_def] at hms
  have hLat : (List.zipWith (tTm 39 42) (mM l k j) vs)[j]? = some (tTm 39 42 u (v1, v2, v3)) := zipWith_at (mM_at hu) hv1
  have hLl : j < (List.zipWith (tTm 39 42) (mM l k j) vs).length := (List.getElem?_eq_some_iff.1 hLat).1
  have hLset : (List.zipWith (tTm 39 42) (mM l k j) vs).set j [(tyK 39 (markS u.ty.kids (kj + 4)), v1), (tyK 39 (markS u.fr.kids (kj + 5 + nTyS u.ty.kids)), v2), (tmK 39 42 (markSm u.kids (kj + 6 + nTyS u.ty.kids + nTyS u.fr.kids)), v3)] = List.zipWith (tTm 39 42) (mM l k (j + 1)) vs := by
   rw [hms, <- zipWith_set1 hv1]
   simp only [tTm, MTm.ty_mk, MTm.fr_mk, MTm.kids_mk, MTy.kids_mk]
  have hrs : (List.zipWith rTm (mM l k j) vs).set j [.i kj, .str (mText (kj + 1)), .i ((kj + 2 : Nat) : Int), .i ((kj + 3 : Nat) : Int), .raw v1, .i ((kj + 4 + nTyS u.ty.kids : Nat) : Int), .raw v2, .i ((kj + 5 + nTyS u.ty.kids + nTyS u.fr.kids : Nat) : Int), .raw v3] = List.zipWith rTm (mM l k (j + 1)) vs := by
   rw [hms, <- zipWith_set1 hv1]
   simp only [rTm, MTm.kind_mk, MTm.name_mk, MTm.num_mk, MTm.ty_mk, MTm.fr_mk, MTm.label_mk, MTy.kind_mk]
  have hrl : (List.zipWith rTm (mM l k j) vs).length = l.length := by rw [List.length_zipWith, mM_len]; omega
  have hkj2 : ((k + cTmS (l.take (j + 1)) : Nat) : Int) = ((kj + 6 + nTyS u.ty.kids + nTyS u.fr.kids + cTmS u.kids : Nat) : Int) := by rw [hsu, hkj]; congr 1; omega
  have hct := markText_ok (kj + 1) (by omega) (by omega)
  have hc1 := markTypeS_tree u.ty.kids (kj + 4) (by omega) v1
  have hc2 := markTypeS_tree u.fr.kids (kj + 5 + nTyS u.ty.kids) (by omega) v2
  have hc3 := h u hum (kj + 6 + nTyS u.ty.kids + nTyS u.fr.kids) v3 (by omega)
  have hpm : (tsTm 39 42 (mM l k j) vs).Perm (((tyK 39 u.ty.kids, v1) :: (tyK 39 u.fr.kids, v2) :: (tmK 39 42 u.kids, v3) :: ((List.zipWith (tTm 39 42) (mM l k j) vs).eraseIdx j).flatten) ++ []) := by
   rw [List.append_nil]; exact flat_out hLat
  have hpi := flat_in [(tyK 39 (markS u.ty.kids (kj + 4)), v1), (tyK 39 (markS u.fr.kids (kj + 5 + nTyS u.ty.kids)), v2), (tmK 39 42 (markSm u.kids (kj + 6 + nTyS u.ty.kids + nTyS u.fr.kids)), v3)] hLl
  rw [hLset] at hpi
  refine TJ.less hpm ?_
  generalize ((List.zipWith (tTm 39 42) (mM l k j) vs).eraseIdx j).flatten = D at *
  rw [<- hkj] at *
  have hrjx := hrj
  obtain ⟨R, hR⟩ : ∃ R, R = List.zipWith rTm (mM l k j) vs := ⟨_, rfl⟩
  rw [<- hR] at hrj hrs hrl ⊢
  have hrj' : ∀ h, R[j]'h = rTm u (v1, v2, v3) := fun hh => by rw [List.getElem?_eq_getElem hh] at hrj; exact Option.some.inj hrj
  have hlt2 : j < R.length := by omega
  generalize nTyS u.ty.kids = na at *
  generalize nTyS u.fr.kids = nb at *
  generalize cTmS u.kids = nc at *
  rw [show ((kj + 5 + na : Nat) : Int) = (kj : Int) + 4 + (na : Int) + 1 by omega] at hc2
  rw [show ((kj + 6 + na + nb : Nat) : Int) = (kj : Int) + 5 + (na : Int) + (nb : Int) + 1 by omega] at hc3
  repeat' first | (refine aopsJ_end (hK _ _ ?_); clear hK K) | (refine aopsJ_go ?_; simp [hlt, hrl, hlt2, hrj']; (try simp (disch := omega) only [wrap64]); (try first | (refine OpsJ.gen fun q hq => ?_; cases q <;> (try simp [hlt, hrl, hlt2, hrj'] at hq) <;> (try (have hh : True := hq; clear hh hq))))) | (refine wpcallJ_pure rfl (hct) ?_; simp [hlt, hrl, hlt2, hrj']; (try simp (disch := omega) only [wrap64]); (try first | (refine OpsJ.gen fun q hq => ?_; cases q <;> (try simp [hlt, hrl, hlt2, hrj'] at hq) <;> (try (have hh : True := hq; clear hh hq))))) | (refine wpcallJ_mut (L2 := (tyK 39 u.fr.kids, v2) :: (tmK 39 42 u.kids, v3) :: D) ?_ ?_ (hc1) ?_; (focus (solve | exact .refl _)); (focus (solve | (repeat' first | exact FzVs.nil | apply FzVs.cons | apply FzV.c | apply FzV.agg | exact FzL.nil | apply FzL.cons | exact FzC.d | exact FzC.nil | exact FzC.np | (refine FzC.thaw' ?_ (tyK_dp _ _); (focus (solve | simp))) | (refine FzC.thaw' ?_ (tmK_dp _ _ _); (focus (solve | simp)))))); rintro _ _ ⟨rfl, rfl⟩; simp [hlt, hrl, hlt2, hrj']; (try simp (disch := omega) only [wrap64]); (try first | (refine OpsJ.gen fun q hq => ?_; cases q <;> (try simp [hlt, hrl, hlt2, hrj'] at hq) <;> (try (have hh : True := hq; clear hh hq))))) | (refine wpcallJ_mut (L2 := (tyK 39 (markS u.ty.kids (kj + 4)), v1) :: (tmK 39 42 u.kids, v3) :: D) ?_ ?_ (hc2) ?_; (focus (solve | exact List.Perm.swap _ _ _)); (focus (solve | (repeat' first | exact FzVs.nil | apply FzVs.cons | apply FzV.c | apply FzV.agg | exact FzL.nil | apply FzL.cons | exact FzC.d | exact FzC.nil | exact FzC.np | (refine FzC.thaw' ?_ (tyK_dp _ _); (focus (solve | simp))) | (refine FzC.thaw' ?_ (tmK_dp _ _ _); (focus (solve | simp)))))); rintro _ _ ⟨rfl, rfl⟩; simp [hlt, hrl, hlt2, hrj']; (try simp (disch := omega) only [wrap64]); (try first | (refine OpsJ.gen fun q hq => ?_; cases q <;> (try simp [hlt, hrl, hlt2, hrj'] at hq) <;> (try (have hh : True := hq; clear hh hq))))) | (refine wpcallJ_mut (L2 := (tyK 39 (markS u.fr.kids (kj + 5 + na)), v2) :: (tyK 39 (markS u.ty.kids (kj + 4)), v1) :: D) ?_ ?_ (hc3) ?_; (focus (solve | exact (List.Perm.cons _ (List.Perm.swap _ _ _)).trans (List.Perm.swap _ _ _))); (focus (solve | (repeat' first | exact FzVs.nil | apply FzVs.cons | apply FzV.c | apply FzV.agg | exact FzL.nil | apply FzL.cons | exact FzC.d | exact FzC.nil | exact FzC.np | (refine FzC.thaw' ?_ (tyK_dp _ _); (focus (solve | simp))) | (refine FzC.thaw' ?_ (tmK_dp _ _ _); (focus (solve | simp)))))); rintro _ _ ⟨rfl, rfl⟩; simp [hlt, hrl, hlt2, hrj']; (try simp (disch := omega) only [wrap64]); (try first | (refine OpsJ.gen fun q hq => ?_; cases q <;> (try simp [hlt, hrl, hlt2, hrj'] at hq) <;> (try (have hh : True := hq; clear hh hq))))) | refine TJ.rs (fun _ => false) fun K hK => ?_ | refine TJ.rs1 (fun _ => false) fun K hK => ?_ | refine TJ.cond rfl (fun hcnd => ?_) (fun hcnd => absurd hcnd (by decide)) | refine TJ.seq ?_ | refine TJ.block ?_ | refine TJ.skip ?_
  refine ⟨j + 1, [], by dsimp only; omega, by dsimp only; omega, ?_, ?_⟩
  ·dsimp only
   rw [<- hrs, hkj2]
   simp (disch := omega) [wrap64]
   simp [Int.add_assoc]
  ·dsimp only
   rw [List.append_nil]
   refine List.Perm.trans ?_ hpi
   exact (List.reverse_perm [(tyK 39 (markS u.ty.kids (kj + 4)), v1), (tyK 39 (markS u.fr.kids (kj + 5 + na)), v2), (tmK 39 42 (markSm u.kids (kj + 6 + na + nb)), v3)]).append_right D
 ·have hp' : j = l.length := by omega
  subst hp'
  rw [mM_all, List.take_length]
  repeat' first | (refine aopsJ_end (hK _ _ ?_); clear hK K) | (refine aopsJ_go ?_; simp [hlt]; (try first | (refine OpsJ.gen fun q hq => ?_; cases q <;> (try simp [hlt] at hq) <;> (try (have hh : True := hq; clear hh hq))))) | refine TJ.rs (fun _ => false) fun K hK => ?_ | refine TJ.cond rfl (fun hcnd => absurd hcnd (by decide)) (fun hcnd => ?_) | refine TJ.seq ?_ | refine TJ.exit ?_
  refine TJ.ret (DoneA.one (r := .i ((k + cTmS l : Nat) : Int)) (Or.inr rfl) (by simp [Try.results39]) (by simp [DV.scal]) rfl ?_ (mk_tmRows 39 42 (l := markSm l k) (by rw [markSm_len]; exact hv)) (M := []) (by simp [tsTm]) ⟨rfl, rfl⟩)
  rw [List.length_zipWith, markSm_len]; omega

theorem markTermS_tree : (l : List MTm) -> (k : Nat) -> k + cTmS l <= 1099511627776 -> (v : Value) -> FCalls Try.prog 39 [.c (.d (.raw v)), .i (k : Int)] [(tmK 39 42 l, v)] fun r L' => r = .i ((k + cTmS l : Nat) : Int) /\ L' = [(tmK 39 42 (markSm l k), v)]
 | l, k, hk, v => markTermS_tree_step l k hk (by have := cTmS_len l; omega) (fun t ht k v hk => markTermS_tree t.kids k hk v) v
termination_by l => SizeOf.sizeOf l
decreasing_by have := List.sizeOf_lt_of_mem ht; cases t; simp at *; omega

theorem markTerm_tree (e : MTm) (k : Nat) (hk : k + cTm e <= 1099511627776) (v : V3) : FCalls Try.prog 14 [.agg ((rTm e v).map CV.d), .i (k : Int)] (tTm 39 42 e v) fun r L' => r = .i ((k + nTyS e.ty.kids + nTyS e.fr.kids + cTmS e.kids : Nat) : Int) /\
  L' = tTm 39 42 (.mk e.kind e.name e.num (.mk e.ty.kind (markS e.ty.kids k)) (.mk e.fr.kind (markS e.fr.kids (k + nTyS e.ty.kids))) e.label (markSm e.kids (k + nTyS e.ty.kids + nTyS e.fr.kids))) v := by
 obtain ⟨v1, v2, v3⟩ := v
 rw [cTm_def] at hk
 have hc1 := markType_tree e.ty k (by omega) v1
 have hc2 := markType_tree e.fr (k + nTyS e.ty.kids) (by omega) v2
 have hc3 := markTermS_tree e.kids (k + nTyS e.ty.kids + nTyS e.fr.kids) (by omega) v3
 simp only [tTm, MTm.ty_mk, MTm.fr_mk, MTm.kids_mk, MTy.kids_mk]
 generalize k + nTyS e.ty.kids + nTyS e.fr.kids = k3 at *
 generalize k + nTyS e.ty.kids = k2 at *
 generalize k3 + cTmS e.kids = k4 at *
 refine FCalls.of_body Try.func14 (by kernel_rfl) rfl (by kernel_rfl) (by simp [Try.ntmps14]) ?_
 rw [Try.ntmps14]
 repeat' first | (refine aopsJ_end (hK _ _ ?_); clear hK K) | (refine aopsJ_go ?_; simp; (try first | (refine OpsJ.gen fun q hq => ?_; cases q <;> (try simp at hq) <;> (try (have hh : True := hq; clear hh hq))))) | (refine wpcallJ_mut (L2 := (tyK 39 e.fr.kids, v2) :: (tmK 39 42 e.kids, v3) :: []) ?_ ?_ (hc1) ?_; (focus (solve | exact .refl _)); (focus (solve | (repeat' first | exact FzVs.nil | apply FzVs.cons | apply FzV.c | apply FzV.agg | exact FzL.nil | apply FzL.cons | exact FzC.d | exact FzC.nil | exact FzC.np | (refine FzC.thaw' ?_ (tyK_dp _ _); (focus (solve | simp))) | (refine FzC.thaw' ?_ (tmK_dp _ _ _); (focus (solve | simp)))))); rintro _ _ ⟨rfl, rfl⟩; simp; (try first | (refine OpsJ.gen fun q hq => ?_; cases q <;> (try simp at hq) <;> (try (have hh : True := hq; clear hh hq))))) | (refine wpcallJ_mut (L2 := (tyK 39 (markS e.ty.kids k), v1) :: (tmK 39 42 e.kids, v3) :: []) ?_ ?_ (hc2) ?_; (focus (solve | exact List.Perm.swap _ _ _)); (focus (solve | (repeat' first | exact FzVs.nil | apply FzVs.cons | apply FzV.c | apply FzV.agg | exact FzL.nil | apply FzL.cons | exact FzC.d | exact FzC.nil | exact FzC.np | (refine FzC.thaw' ?_ (tyK_dp _ _); (focus (solve | simp))) | (refine FzC.thaw' ?_ (tmK_dp _ _ _); (focus (solve | simp)))))); rintro _ _ ⟨rfl, rfl⟩; simp; (try first | (refine OpsJ.gen fun q hq => ?_; cases q <;> (try simp at hq) <;> (try (have hh : True := hq; clear hh hq))))) | (refine wpcallJ_mut (L2 := (tyK 39 (markS e.fr.kids k2), v2) :: (tyK 39 (markS e.ty.kids k), v1) :: []) ?_ ?_ (hc3) ?_; (focus (solve | exact (List.Perm.cons _ (List.Perm.swap _ _ _)).trans (List.Perm.swap _ _ _))); (focus (solve | (repeat' first | exact FzVs.nil | apply FzVs.cons | apply FzV.c | apply FzV.agg | exact FzL.nil | apply FzL.cons | exact FzC.d | exact FzC.nil | exact FzC.np | (refine FzC.thaw' ?_ (tyK_dp _ _); (focus (solve | simp))) | (refine FzC.thaw' ?_ (tmK_dp _ _ _); (focus (solve | simp)))))); rintro _ _ ⟨rfl, rfl⟩; simp; (try first | (refine OpsJ.gen fun q hq => ?_; cases q <;> (try simp at hq) <;> (try (have hh : True := hq; clear hh hq))))) | refine TJ.rs (fun _ => false) fun K hK => ?_
 refine TJ.ret (DoneJ.agg (Or.inr rfl) (r := .i k4) (r' := .i k4) (L' := [(tyK 39 (markS e.ty.kids k), v1), (tyK 39 (markS e.fr.kids k2), v2), (tmK 39 42 (markSm e.kids k3), v3)]) (M := []) (by simp [Try.results14]) (by simp [DV.scal]) ?_ ⟨rfl, rfl⟩)
 rw [List.append_nil]
 exact (List.reverse_perm _).symm
end Go.Proofs.Ytflmjilnecanhaa

namespace Go.Proofs.Ytflmjilnecanhaa
attribute [-simp] Go.Av.callJ
open Go Go.Av
attribute [local irreducible] T ACalls TX EX LX Draws Some_ ACallsX eTy eTm MTy.kind MTy.kids MTm.kind MTm.name MTm.num MTm.ty MTm.fr MTm.label MTm.kids
attribute [local simp] eTy_def eTm_def
set_option maxHeartbeats 16000000
set_option maxRecDepth 8000

end Go.Proofs.Ytflmjilnecanhaa
