/- A part of the library of this seat. -/
import Derived.Test.YtflmjilnecanhaaGreatC18
set_option linter.unusedVariables false
set_option linter.unusedSimpArgs false
namespace Go.Proofs.YtflmjilnecanhaaGreat
attribute [-simp] Go.Av.astepJ Go.Av.relC Go.Av.relL Go.Av.relV Go.Av.relVs Go.Av.callJ
open Go Go.Av
attribute [local irreducible] T ACalls TX EX LX Draws Some_ ACallsX eTy eTm MTy.kind MTy.kids MTm.kind MTm.name MTm.num MTm.ty MTm.fr MTm.label MTm.kids
attribute [local simp] eTy_def eTm_def
set_option maxHeartbeats 16000000
set_option maxRecDepth 8000

@[simp] theorem td_set26 : td Tryz.prog 69 = some { ag := true, sz := 26, by_ := 26, zero := some (rowB noB), el := none, ar := some (26, 4), fl := [], ik := none, isS := false, isB := false } := keep (by kernel_rfl)

theorem inns_rowB (A : List Arr) (ids : List Nat) : ∀ S : List Bool, inns A ids (rowB S) = some (rowB S)
 | [] => rfl
 | b :: r => by simp only [rowB, List.map_cons, inns]; rw [show inns A ids (List.map (fun b => CV.d (DV.bool b)) r) = some (List.map (fun b => CV.d (DV.bool b)) r) from inns_rowB A ids r]; rfl
theorem ress_rowB (A : List Arr) (os ks : List Nat) : ∀ S : List Bool, ress A os ks (rowB S) = some (rowB S)
 | [] => rfl
 | b :: r => by simp only [rowB, List.map_cons, ress]; rw [show ress A os ks (List.map (fun b => CV.d (DV.bool b)) r) = some (List.map (fun b => CV.d (DV.bool b)) r) from ress_rowB A os ks r]; rfl
theorem outn_rowB (ids : List Nat) (n m : Nat) (S : List Bool) : List.map (CV.outn ids n m ∘ fun b => CV.d (DV.bool b)) S = rowB S := List.map_congr_left fun b _ => rfl
theorem seal_rowB : ∀ (S : List Bool) (A : List Arr), List.foldl sealA A (rowB S) = A
 | [], A => rfl
 | b :: r, A => by simp only [rowB, List.map_cons, List.foldl_cons]; exact seal_rowB r A

theorem splice_rowB {S : List Bool} {i : Nat} (h : i < S.length) : splice (rowB S) i [CV.d (.bool true)] = rowB (S.set i true) := by
 simp only [splice, rowB, List.map_set, List.length_singleton]
 rw [List.set_eq_take_append_cons_drop]
 simp [h]

set_option maxRecDepth 100000 in
theorem sliteIndexByte (s : ByteArray) (c : Int) (w : World) :
  Calls Tryz.prog 101 #[.string s, .int .u8 c] w fun e w' => e = .returned (.int .i64 (Lib.indexByte s.data.toList c.toNat.toUInt8)) /\ w' = w := by
 go_enter Tryz.func101, Tryz.ntmps101
 go_wp2
 rw [run_callFunc_extern Tryz.func106 (by kernel_rfl) (by kernel_rfl) (by kernel_rfl) (e := Extern.BytealgIndexByte.indexByte) (by kernel_rfl), Lib.run_indexByteString]
 simp only [Result.andThen]
 rw [Oper.upon_value]
 go_wp2
 go_ret
 exact ⟨rfl, rfl⟩

theorem IndexByte_ok (s : List UInt8) (c : Int) : ACalls Tryz.prog 101 [.s s, .c (.d (.int .u8 c))] [] (.i (Lib.indexByte s c.toNat.toUInt8)) [] [] := by
 unfold ACalls
 refine ⟨enters (c := (Tryz.f101.body).getD .skip) Tryz.func101 rfl (by kernel_rfl), by simp, fun g w vs hg hI hT hl hv => ?_⟩
 have h0 : 0 < vs.size := by rw [hl]; simp
 have h1 : 1 < vs.size := by rw [hl]; simp
 have e0 := hv 0 _ vs[0] rfl (by simp [h0])
 have e1 := hv 1 _ vs[1] rfl (by simp [h1])
 simp only [RepV, RepE, RepC, RepD] at e0 e1
 have e : vs = #[.string (bs s), .int .u8 c] := by
  apply Array.ext
  ·simpa using hl
  ·intro i hi hi'
   match i with
   | 0 => simpa using e0
   | 1 => simpa using e1
   | i + 2 => exact absurd hi' (by simp)
 subst e
 refine (sliteIndexByte (bs s) c w).mono ?_
 rintro e w' ⟨rfl, rfl⟩
 exact ⟨_, g, rfl, by simp [RepV, RepE, RepC, RepD, bs], hI, .refl hT⟩

theorem Index1_ok (s : List UInt8) (c : UInt8) : ACalls Tryz.prog 95 [.s s, .s [c]] [] (.i (Lib.indexByte s c)) [] [] := by
 have h := IndexByte_ok s c.toNat
 have e : (c.toNat : Int).toNat.toUInt8 = c := by simp
 rw [e] at h
 by_cases hs : s = [c]
 ·subst hs
  refine ACalls.of_body Tryz.func95 (by kernel_rfl) rfl (by kernel_rfl) (by simp [Tryz.ntmps95]) (by simp) ?_
  rw [Tryz.ntmps95]
  repeat' first | ((first | refine aops_end (hK _ ?_) | refine aopsD_end (hK _ ?_) | refine aopsF_end (hK _ ?_)); clear hK K) | ((first | refine aops_go ?_ | refine aopsD_go ?_ | refine aopsF_go ?_); simp; (try (refine gen fun q hq => ?_; cases q <;> (try simp at hq) <;> (try (have hh : True := hq; clear hh hq))))) | (refine wpcall_pure rfl (h) ?_; simp; (try (refine gen fun q hq => ?_; cases q <;> (try simp at hq) <;> (try (have hh : True := hq; clear hh hq))))) | (refine T.ret (Done.data (Or.inr rfl) ?_ ?_) <;> simp [Tryz.results95, Lib.indexByte] <;> omega) | refine T.r0 fun K hK => ?_ | refine T.r1 fun K hK => ?_ | (refine ⟨by omega, ?_⟩) | refine T.ct rfl ?_ | refine T.cf rfl ?_ | refine T.seq ?_ | refine T.block ?_ | refine T.skip ?_ | refine T.exit ?_
 ·have hs' : ¬ [c] = s := fun e => hs e.symm
  refine ACalls.of_body Tryz.func95 (by kernel_rfl) rfl (by kernel_rfl) (by simp [Tryz.ntmps95]) (by simp) ?_
  rw [Tryz.ntmps95]
  repeat' first | ((first | refine aops_end (hK _ ?_) | refine aopsD_end (hK _ ?_) | refine aopsF_end (hK _ ?_)); clear hK K) | ((first | refine aops_go ?_ | refine aopsD_go ?_ | refine aopsF_go ?_); simp [hs']; (try (refine gen fun q hq => ?_; cases q <;> (try simp [hs'] at hq) <;> (try (have hh : True := hq; clear hh hq))))) | (refine wpcall_pure rfl (h) ?_; simp [hs']; (try (refine gen fun q hq => ?_; cases q <;> (try simp [hs'] at hq) <;> (try (have hh : True := hq; clear hh hq))))) | (refine T.ret (Done.data (Or.inr rfl) ?_ ?_) <;> simp [Tryz.results95] <;> omega) | refine T.r0 fun K hK => ?_ | refine T.r1 fun K hK => ?_ | (refine ⟨by omega, ?_⟩) | refine T.ct rfl ?_ | refine T.cf rfl ?_ | refine T.seq ?_ | refine T.block ?_ | refine T.skip ?_ | refine T.exit ?_

theorem sIndex1_ok (s : List UInt8) (c : UInt8) : ACalls Tryz.prog 87 [.s s, .s [c]] [] (.i (Lib.indexByte s c)) [] [] := by
 have h := Index1_ok s c
 refine ACalls.of_body Tryz.func87 (by kernel_rfl) rfl (by kernel_rfl) (by simp [Tryz.ntmps87]) (by simp) ?_
 rw [Tryz.ntmps87]
 repeat' first | ((first | refine aops_end (hK _ ?_) | refine aopsD_end (hK _ ?_) | refine aopsF_end (hK _ ?_)); clear hK K) | ((first | refine aops_go ?_ | refine aopsD_go ?_ | refine aopsF_go ?_); simp; (try (refine gen fun q hq => ?_; cases q <;> (try simp at hq) <;> (try (have hh : True := hq; clear hh hq))))) | (refine wpcall_pure rfl (h) ?_; simp; (try (refine gen fun q hq => ?_; cases q <;> (try simp at hq) <;> (try (have hh : True := hq; clear hh hq))))) | (refine T.ret (Done.data (Or.inr rfl) ?_ ?_) <;> simp [Tryz.results87] <;> omega) | refine T.r0 fun K hK => ?_ | refine T.r1 fun K hK => ?_ | (refine ⟨by omega, ?_⟩) | refine T.ct rfl ?_ | refine T.cf rfl ?_ | refine T.seq ?_ | refine T.block ?_ | refine T.skip ?_ | refine T.exit ?_

theorem Contains1_ok (s : List UInt8) (c : UInt8) : ACalls Tryz.prog 71 [.s s, .s [c]] [] (.b (s.contains c)) [] [] := by
 have h := sIndex1_ok s c
 have e : decide (0 <= Lib.indexByte s c) = s.contains c := by
  rw [Bool.eq_iff_iff, decide_eq_true_iff]; exact indexByte_iff s c
 rw [<- e]
 refine ACalls.of_body Tryz.func71 (by kernel_rfl) rfl (by kernel_rfl) (by simp [Tryz.ntmps71]) (by simp) ?_
 rw [Tryz.ntmps71]
 repeat' first | ((first | refine aops_end (hK _ ?_) | refine aopsD_end (hK _ ?_) | refine aopsF_end (hK _ ?_)); clear hK K) | ((first | refine aops_go ?_ | refine aopsD_go ?_ | refine aopsF_go ?_); simp) | (refine wpcall_pure rfl (h) ?_; simp) | (refine T.ret (Done.data (Or.inr rfl) ?_ ?_) <;> simp [Tryz.results71] <;> omega) | refine T.r0 fun K hK => ?_ | refine T.r1 fun K hK => ?_ | (refine ⟨by omega, ?_⟩) | refine T.ct rfl ?_ | refine T.cf rfl ?_ | refine T.seq ?_ | refine T.block ?_ | refine T.skip ?_ | refine T.exit ?_

theorem free_var (e : MTm) (bd : List UInt8) (h1 : e.kind = 1) (z : UInt8) (hz : e.name = [z]) (h97 : 97 <= z.toNat) (h122 : z.toNat <= 122) (hin : bd.contains z = false) (hl : e.kids.length <= 3) (S : List Bool) (hS : S.length = 26)
  (ih : ∀ u ∈ e.kids, ∀ S : List Bool, S.length = 26 -> ACalls Tryz.prog 43 [aTm u, .s (bd), .c (.ptr 0 0)] [rowB S] (.tup []) [rowB (orF (fun c => freeIn c (bd) u) S)] []) :
  ACalls Tryz.prog 43 [aTm e, .s bd, .c (.ptr 0 0)] [rowB S] (.tup []) [rowB (orF (fun c => e.kids.any (freeIn c (bd))) (orF (fun c => decide (c = z)) S))] [] := by
 have hc := Contains1_ok bd z
 rw [hin] at hc
 have hw8 : IntKind.u8.wrap ((z.toNat : Int) - 97) = (z.toNat - 97 : Nat) := by rw [show ((z.toNat : Int) - 97) = ((z.toNat - 97 : Nat) : Int) by omega]; exact wrap8 (by omega)
 rw [<- orF_set hS h97 h122]
 obtain ⟨bd', hbd⟩ : ∃ bd', bd = bd' := ⟨_, rfl⟩
 rw [hbd] at ih ⊢
 rw [hbd] at hc
 obtain ⟨S1, hS1⟩ : ∃ S1, S.set (z.toNat - 97) true = S1 := ⟨_, rfl⟩
 rw [hS1]
 have hl1 : S1.length = 26 := by rw [<- hS1]; simpa using hS
 have hsp : List.take (z.toNat - 97) (rowB S) ++ CV.d (.bool true) :: List.drop (z.toNat - 97 + 1) (rowB S) = rowB S1 := by rw [<- hS1, <- splice_rowB (by omega)]; simp [splice]
 refine ACalls.of_body Tryz.func43 (by kernel_rfl) rfl (by kernel_rfl) (by simp [Tryz.ntmps43]) (by simp) ?_
 rw [Tryz.ntmps43]
 repeat' first | ((first | refine aops_end (hK _ ?_) | refine aopsD_end (hK _ ?_) | refine aopsF_end (hK _ ?_)); clear hK K) | ((first | refine aops_go ?_ | refine aopsD_go ?_ | refine aopsF_go ?_); simp [h1, hz, hin, hw8, hsp]; (try (refine gen fun q hq => ?_; cases q <;> (try simp [h1, hz, hin, hw8, hsp] at hq) <;> (try (have hh : True := hq; clear hh hq))))) | (refine wpcall_pure rfl (hc) ?_; simp [h1, hz, hin, hw8, hsp]; (try (refine gen fun q hq => ?_; cases q <;> (try simp [h1, hz, hin, hw8, hsp] at hq) <;> (try (have hh : True := hq; clear hh hq))))) | refine T.rd (id := 2) mixed (fun _ => false) [7] (by kernel_rfl) fun K hK => ?_ | refine T.rd1 (id := 2) mixed (fun _ => false) [7] (by kernel_rfl) fun K hK => ?_ | refine T.r0 fun K hK => ?_ | refine T.r1 fun K hK => ?_ | (refine ⟨by omega, ?_⟩) | refine T.ct rfl ?_ | refine T.cf rfl ?_ | refine T.seq ?_ | refine T.block ?_ | refine T.skip ?_ | refine T.exit ?_
 refine T.loopK (α := Nat × List (List CV)) [1, 2, 33, 34] (fun x => [(35, .i x.1)]) (fun x => [(0, rowB (orF (fun c => (e.kids.take x.1).any (freeIn c bd')) S1))]) (fun x => x.2) (fun x A => A) (fun x => e.kids.length + 1 - x.1) (fun x => x.1 <= e.kids.length) (by simp; rfl) (fun x hx => ?_) (0, []) (by simp) (by simp [orF_none, hl1]) (by simp) (by simp)
 obtain ⟨p, G⟩ := x
 dsimp only at hx ⊢
 simp only [ups, List.set_cons_zero, List.cons_append, List.nil_append]
 by_cases hlt : p < e.kids.length
 ·obtain ⟨u, ht⟩ := get_lt hlt
  have htm : u ∈ e.kids := List.mem_of_getElem? ht
  have hgt : e.kids[p] = u := by rw [List.getElem?_eq_getElem hlt] at ht; exact Option.some.inj ht
  have hdr : e.kids.drop p = u :: e.kids.drop (p + 1) := by rw [List.drop_eq_getElem_cons hlt, hgt]
  have hlp : (orF (fun c => (e.kids.take p).any (freeIn c bd')) S1).length = 26 := orF_len hl1
  have hu := ih u htm _ hlp
  rw [orF_or hl1] at hu
  have htk : orF (fun c => (e.kids.take (p + 1)).any (freeIn c bd')) S1 = orF (fun c => (e.kids.take p).any (freeIn c bd') || freeIn c bd' u) S1 := orF_congr fun c => by rw [List.take_add_one, ht, List.any_append]; simp
  rw [<- htk] at hu
  generalize orF (fun c => (e.kids.take p).any (freeIn c bd')) S1 = Z at *
  obtain ⟨Z', hZ'⟩ : ∃ Z', orF (fun c => (e.kids.take (p + 1)).any (freeIn c bd')) S1 = Z' := ⟨_, rfl⟩
  rw [hZ'] at hu
  repeat' first | ((first | refine aops_end (hK _ ?_) | refine aopsD_end (hK _ ?_) | refine aopsF_end (hK _ ?_)); clear hK K) | ((first | refine aops_go ?_ | refine aopsD_go ?_ | refine aopsF_go ?_); simp [hlt, hgt]; (try simp (disch := omega) only [wrap64]); (try (refine gen fun q hq => ?_; cases q <;> (try simp [hlt, hgt] at hq) <;> (try (have hh : True := hq; clear hh hq))))) | (refine wpcall_g [0] (by simp) rfl (by simp [inns_rowB]) hu ?_; simp [outn_rowB, seal_rowB]) | refine T.rd (id := 2) mixed (fun _ => false) [7] (by kernel_rfl) fun K hK => ?_ | refine T.rd1 (id := 2) mixed (fun _ => false) [7] (by kernel_rfl) fun K hK => ?_ | refine T.r0 fun K hK => ?_ | refine T.r1 fun K hK => ?_ | (refine ⟨by omega, ?_⟩) | refine T.ct rfl ?_ | refine T.cf rfl ?_ | refine T.seq ?_ | refine T.block ?_ | refine T.skip ?_ | refine T.exit ?_
  refine ⟨(p + 1, G ++ [(aTm u).cells]), by dsimp only; omega, by dsimp only; omega, by dsimp only; rw [hZ']; rfl, ?_, ?_⟩ <;> simp (disch := omega) [wrap64]
 ·have hp' : p = e.kids.length := by omega
  subst hp'
  rw [List.take_length]
  generalize orF (fun c => e.kids.any (freeIn c bd')) S1 = Z at *
  repeat' first | ((first | refine aops_end (hK _ ?_) | refine aopsD_end (hK _ ?_) | refine aopsF_end (hK _ ?_)); clear hK K) | ((first | refine aops_go ?_ | refine aopsD_go ?_ | refine aopsF_go ?_); simp [hlt]; (try (refine gen fun q hq => ?_; cases q <;> (try simp [hlt] at hq) <;> (try (have hh : True := hq; clear hh hq))))) | refine T.rd (id := 2) mixed (fun _ => false) [7] (by kernel_rfl) fun K hK => ?_ | refine T.rd1 (id := 2) mixed (fun _ => false) [7] (by kernel_rfl) fun K hK => ?_ | refine T.r0 fun K hK => ?_ | refine T.r1 fun K hK => ?_ | (refine ⟨by omega, ?_⟩) | refine T.ct rfl ?_ | refine T.cf rfl ?_ | refine T.seq ?_ | refine T.block ?_ | refine T.skip ?_ | refine T.exit ?_
  all_goals (refine Done.g (ys := []) (Or.inl rfl) ?_ rfl ?_ <;> simp [resAs, ress_rowB, Tryz.results43])

theorem free_bnd (e : MTm) (bd : List UInt8) (h1 : e.kind = 1) (z : UInt8) (hz : e.name = [z]) (hin : bd.contains z = true) (hl : e.kids.length <= 3) (S : List Bool) (hS : S.length = 26)
  (ih : ∀ u ∈ e.kids, ∀ S : List Bool, S.length = 26 -> ACalls Tryz.prog 43 [aTm u, .s (bd), .c (.ptr 0 0)] [rowB S] (.tup []) [rowB (orF (fun c => freeIn c (bd) u) S)] []) :
  ACalls Tryz.prog 43 [aTm e, .s bd, .c (.ptr 0 0)] [rowB S] (.tup []) [rowB (orF (fun c => e.kids.any (freeIn c (bd))) (S))] [] := by
 have hc := Contains1_ok bd z
 rw [hin] at hc
 obtain ⟨bd', hbd⟩ : ∃ bd', bd = bd' := ⟨_, rfl⟩
 rw [hbd] at ih ⊢
 rw [hbd] at hc
 obtain ⟨S1, hS1⟩ : ∃ S1, S = S1 := ⟨_, rfl⟩
 rw [hS1] at hS ⊢
 have hl1 : S1.length = 26 := hS
 refine ACalls.of_body Tryz.func43 (by kernel_rfl) rfl (by kernel_rfl) (by simp [Tryz.ntmps43]) (by simp) ?_
 rw [Tryz.ntmps43]
 repeat' first | ((first | refine aops_end (hK _ ?_) | refine aopsD_end (hK _ ?_) | refine aopsF_end (hK _ ?_)); clear hK K) | ((first | refine aops_go ?_ | refine aopsD_go ?_ | refine aopsF_go ?_); simp [h1, hz, hin]; (try (refine gen fun q hq => ?_; cases q <;> (try simp [h1, hz, hin] at hq) <;> (try (have hh : True := hq; clear hh hq))))) | (refine wpcall_pure rfl (hc) ?_; simp [h1, hz, hin]; (try (refine gen fun q hq => ?_; cases q <;> (try simp [h1, hz, hin] at hq) <;> (try (have hh : True := hq; clear hh hq))))) | refine T.rd (id := 2) mixed (fun _ => false) [7] (by kernel_rfl) fun K hK => ?_ | refine T.rd1 (id := 2) mixed (fun _ => false) [7] (by kernel_rfl) fun K hK => ?_ | refine T.r0 fun K hK => ?_ | refine T.r1 fun K hK => ?_ | (refine ⟨by omega, ?_⟩) | refine T.ct rfl ?_ | refine T.cf rfl ?_ | refine T.seq ?_ | refine T.block ?_ | refine T.skip ?_ | refine T.exit ?_
 refine T.loopK (α := Nat × List (List CV)) [1, 2, 33, 34] (fun x => [(35, .i x.1)]) (fun x => [(0, rowB (orF (fun c => (e.kids.take x.1).any (freeIn c bd')) S1))]) (fun x => x.2) (fun x A => A) (fun x => e.kids.length + 1 - x.1) (fun x => x.1 <= e.kids.length) (by simp; rfl) (fun x hx => ?_) (0, []) (by simp) (by simp [orF_none, hl1]) (by simp) (by simp)
 obtain ⟨p, G⟩ := x
 dsimp only at hx ⊢
 simp only [ups, List.set_cons_zero, List.cons_append, List.nil_append]
 by_cases hlt : p < e.kids.length
 ·obtain ⟨u, ht⟩ := get_lt hlt
  have htm : u ∈ e.kids := List.mem_of_getElem? ht
  have hgt : e.kids[p] = u := by rw [List.getElem?_eq_getElem hlt] at ht; exact Option.some.inj ht
  have hdr : e.kids.drop p = u :: e.kids.drop (p + 1) := by rw [List.drop_eq_getElem_cons hlt, hgt]
  have hlp : (orF (fun c => (e.kids.take p).any (freeIn c bd')) S1).length = 26 := orF_len hl1
  have hu := ih u htm _ hlp
  rw [orF_or hl1] at hu
  have htk : orF (fun c => (e.kids.take (p + 1)).any (freeIn c bd')) S1 = orF (fun c => (e.kids.take p).any (freeIn c bd') || freeIn c bd' u) S1 := orF_congr fun c => by rw [List.take_add_one, ht, List.any_append]; simp
  rw [<- htk] at hu
  generalize orF (fun c => (e.kids.take p).any (freeIn c bd')) S1 = Z at *
  obtain ⟨Z', hZ'⟩ : ∃ Z', orF (fun c => (e.kids.take (p + 1)).any (freeIn c bd')) S1 = Z' := ⟨_, rfl⟩
  rw [hZ'] at hu
  repeat' first | ((first | refine aops_end (hK _ ?_) | refine aopsD_end (hK _ ?_) | refine aopsF_end (hK _ ?_)); clear hK K) | ((first | refine aops_go ?_ | refine aopsD_go ?_ | refine aopsF_go ?_); simp [hlt, hgt]; (try simp (disch := omega) only [wrap64]); (try (refine gen fun q hq => ?_; cases q <;> (try simp [hlt, hgt] at hq) <;> (try (have hh : True := hq; clear hh hq))))) | (refine wpcall_g [0] (by simp) rfl (by simp [inns_rowB]) hu ?_; simp [outn_rowB, seal_rowB]) | refine T.rd (id := 2) mixed (fun _ => false) [7] (by kernel_rfl) fun K hK => ?_ | refine T.rd1 (id := 2) mixed (fun _ => false) [7] (by kernel_rfl) fun K hK => ?_ | refine T.r0 fun K hK => ?_ | refine T.r1 fun K hK => ?_ | (refine ⟨by omega, ?_⟩) | refine T.ct rfl ?_ | refine T.cf rfl ?_ | refine T.seq ?_ | refine T.block ?_ | refine T.skip ?_ | refine T.exit ?_
  refine ⟨(p + 1, G ++ [(aTm u).cells]), by dsimp only; omega, by dsimp only; omega, by dsimp only; rw [hZ']; rfl, ?_, ?_⟩ <;> simp (disch := omega) [wrap64]
 ·have hp' : p = e.kids.length := by omega
  subst hp'
  rw [List.take_length]
  generalize orF (fun c => e.kids.any (freeIn c bd')) S1 = Z at *
  repeat' first | ((first | refine aops_end (hK _ ?_) | refine aopsD_end (hK _ ?_) | refine aopsF_end (hK _ ?_)); clear hK K) | ((first | refine aops_go ?_ | refine aopsD_go ?_ | refine aopsF_go ?_); simp [hlt]; (try (refine gen fun q hq => ?_; cases q <;> (try simp [hlt] at hq) <;> (try (have hh : True := hq; clear hh hq))))) | refine T.rd (id := 2) mixed (fun _ => false) [7] (by kernel_rfl) fun K hK => ?_ | refine T.rd1 (id := 2) mixed (fun _ => false) [7] (by kernel_rfl) fun K hK => ?_ | refine T.r0 fun K hK => ?_ | refine T.r1 fun K hK => ?_ | (refine ⟨by omega, ?_⟩) | refine T.ct rfl ?_ | refine T.cf rfl ?_ | refine T.seq ?_ | refine T.block ?_ | refine T.skip ?_ | refine T.exit ?_
  all_goals (refine Done.g (ys := []) (Or.inl rfl) ?_ rfl ?_ <;> simp [resAs, ress_rowB, Tryz.results43])

theorem free_lam (e : MTm) (bd : List UInt8) (h1 : ¬ e.kind = 1) (h5 : e.kind = 5) (hbl : bd.length + e.name.length <= 4611686018427387904) (hl : e.kids.length <= 3) (S : List Bool) (hS : S.length = 26)
  (ih : ∀ u ∈ e.kids, ∀ S : List Bool, S.length = 26 -> ACalls Tryz.prog 43 [aTm u, .s (bd ++ e.name), .c (.ptr 0 0)] [rowB S] (.tup []) [rowB (orF (fun c => freeIn c (bd ++ e.name) u) S)] []) :
  ACalls Tryz.prog 43 [aTm e, .s bd, .c (.ptr 0 0)] [rowB S] (.tup []) [rowB (orF (fun c => e.kids.any (freeIn c (bd ++ e.name))) (S))] [] := by
 obtain ⟨bd', hbd⟩ : ∃ bd', bd ++ e.name = bd' := ⟨_, rfl⟩
 rw [hbd] at ih ⊢
 obtain ⟨S1, hS1⟩ : ∃ S1, S = S1 := ⟨_, rfl⟩
 rw [hS1] at hS ⊢
 have hl1 : S1.length = 26 := hS
 refine ACalls.of_body Tryz.func43 (by kernel_rfl) rfl (by kernel_rfl) (by simp [Tryz.ntmps43]) (by simp) ?_
 rw [Tryz.ntmps43]
 repeat' first | ((first | refine aops_end (hK _ ?_) | refine aopsD_end (hK _ ?_) | refine aopsF_end (hK _ ?_)); clear hK K) | ((first | refine aops_go ?_ | refine aopsD_go ?_ | refine aopsF_go ?_); simp [h1, h5, hbl, hbd]; (try (refine gen fun q hq => ?_; cases q <;> (try simp [h1, h5, hbl, hbd] at hq) <;> (try (have hh : True := hq; clear hh hq))))) | refine T.rd (id := 2) mixed (fun _ => false) [7] (by kernel_rfl) fun K hK => ?_ | refine T.rd1 (id := 2) mixed (fun _ => false) [7] (by kernel_rfl) fun K hK => ?_ | refine T.r0 fun K hK => ?_ | refine T.r1 fun K hK => ?_ | (refine ⟨by omega, ?_⟩) | refine T.ct rfl ?_ | refine T.cf rfl ?_ | refine T.seq ?_ | refine T.block ?_ | refine T.skip ?_ | refine T.exit ?_
 refine T.loopK (α := Nat × List (List CV)) [1, 2, 33, 34] (fun x => [(35, .i x.1)]) (fun x => [(0, rowB (orF (fun c => (e.kids.take x.1).any (freeIn c bd')) S1))]) (fun x => x.2) (fun x A => A) (fun x => e.kids.length + 1 - x.1) (fun x => x.1 <= e.kids.length) (by simp; rfl) (fun x hx => ?_) (0, []) (by simp) (by simp [orF_none, hl1]) (by simp) (by simp)
 obtain ⟨p, G⟩ := x
 dsimp only at hx ⊢
 simp only [ups, List.set_cons_zero, List.cons_append, List.nil_append]
 by_cases hlt : p < e.kids.length
 ·obtain ⟨u, ht⟩ := get_lt hlt
  have htm : u ∈ e.kids := List.mem_of_getElem? ht
  have hgt : e.kids[p] = u := by rw [List.getElem?_eq_getElem hlt] at ht; exact Option.some.inj ht
  have hdr : e.kids.drop p = u :: e.kids.drop (p + 1) := by rw [List.drop_eq_getElem_cons hlt, hgt]
  have hlp : (orF (fun c => (e.kids.take p).any (freeIn c bd')) S1).length = 26 := orF_len hl1
  have hu := ih u htm _ hlp
  rw [orF_or hl1] at hu
  have htk : orF (fun c => (e.kids.take (p + 1)).any (freeIn c bd')) S1 = orF (fun c => (e.kids.take p).any (freeIn c bd') || freeIn c bd' u) S1 := orF_congr fun c => by rw [List.take_add_one, ht, List.any_append]; simp
  rw [<- htk] at hu
  generalize orF (fun c => (e.kids.take p).any (freeIn c bd')) S1 = Z at *
  obtain ⟨Z', hZ'⟩ : ∃ Z', orF (fun c => (e.kids.take (p + 1)).any (freeIn c bd')) S1 = Z' := ⟨_, rfl⟩
  rw [hZ'] at hu
  repeat' first | ((first | refine aops_end (hK _ ?_) | refine aopsD_end (hK _ ?_) | refine aopsF_end (hK _ ?_)); clear hK K) | ((first | refine aops_go ?_ | refine aopsD_go ?_ | refine aopsF_go ?_); simp [hlt, hgt]; (try simp (disch := omega) only [wrap64]); (try (refine gen fun q hq => ?_; cases q <;> (try simp [hlt, hgt] at hq) <;> (try (have hh : True := hq; clear hh hq))))) | (refine wpcall_g [0] (by simp) rfl (by simp [inns_rowB]) hu ?_; simp [outn_rowB, seal_rowB]) | refine T.rd (id := 2) mixed (fun _ => false) [7] (by kernel_rfl) fun K hK => ?_ | refine T.rd1 (id := 2) mixed (fun _ => false) [7] (by kernel_rfl) fun K hK => ?_ | refine T.r0 fun K hK => ?_ | refine T.r1 fun K hK => ?_ | (refine ⟨by omega, ?_⟩) | refine T.ct rfl ?_ | refine T.cf rfl ?_ | refine T.seq ?_ | refine T.block ?_ | refine T.skip ?_ | refine T.exit ?_
  refine ⟨(p + 1, G ++ [(aTm u).cells]), by dsimp only; omega, by dsimp only; omega, by dsimp only; rw [hZ']; rfl, ?_, ?_⟩ <;> simp (disch := omega) [wrap64]
 ·have hp' : p = e.kids.length := by omega
  subst hp'
  rw [List.take_length]
  generalize orF (fun c => e.kids.any (freeIn c bd')) S1 = Z at *
  repeat' first | ((first | refine aops_end (hK _ ?_) | refine aopsD_end (hK _ ?_) | refine aopsF_end (hK _ ?_)); clear hK K) | ((first | refine aops_go ?_ | refine aopsD_go ?_ | refine aopsF_go ?_); simp [hlt]; (try (refine gen fun q hq => ?_; cases q <;> (try simp [hlt] at hq) <;> (try (have hh : True := hq; clear hh hq))))) | refine T.rd (id := 2) mixed (fun _ => false) [7] (by kernel_rfl) fun K hK => ?_ | refine T.rd1 (id := 2) mixed (fun _ => false) [7] (by kernel_rfl) fun K hK => ?_ | refine T.r0 fun K hK => ?_ | refine T.r1 fun K hK => ?_ | (refine ⟨by omega, ?_⟩) | refine T.ct rfl ?_ | refine T.cf rfl ?_ | refine T.seq ?_ | refine T.block ?_ | refine T.skip ?_ | refine T.exit ?_
  all_goals (refine Done.g (ys := []) (Or.inl rfl) ?_ rfl ?_ <;> simp [resAs, ress_rowB, Tryz.results43])

theorem free_non (e : MTm) (bd : List UInt8) (h1 : ¬ e.kind = 1) (h5 : ¬ e.kind = 5) (hl : e.kids.length <= 3) (S : List Bool) (hS : S.length = 26)
  (ih : ∀ u ∈ e.kids, ∀ S : List Bool, S.length = 26 -> ACalls Tryz.prog 43 [aTm u, .s (bd), .c (.ptr 0 0)] [rowB S] (.tup []) [rowB (orF (fun c => freeIn c (bd) u) S)] []) :
  ACalls Tryz.prog 43 [aTm e, .s bd, .c (.ptr 0 0)] [rowB S] (.tup []) [rowB (orF (fun c => e.kids.any (freeIn c (bd))) (S))] [] := by
 obtain ⟨bd', hbd⟩ : ∃ bd', bd = bd' := ⟨_, rfl⟩
 rw [hbd] at ih ⊢
 obtain ⟨S1, hS1⟩ : ∃ S1, S = S1 := ⟨_, rfl⟩
 rw [hS1] at hS ⊢
 have hl1 : S1.length = 26 := hS
 refine ACalls.of_body Tryz.func43 (by kernel_rfl) rfl (by kernel_rfl) (by simp [Tryz.ntmps43]) (by simp) ?_
 rw [Tryz.ntmps43]
 repeat' first | ((first | refine aops_end (hK _ ?_) | refine aopsD_end (hK _ ?_) | refine aopsF_end (hK _ ?_)); clear hK K) | ((first | refine aops_go ?_ | refine aopsD_go ?_ | refine aopsF_go ?_); simp [h1, h5]; (try (refine gen fun q hq => ?_; cases q <;> (try simp [h1, h5] at hq) <;> (try (have hh : True := hq; clear hh hq))))) | refine T.rd (id := 2) mixed (fun _ => false) [7] (by kernel_rfl) fun K hK => ?_ | refine T.rd1 (id := 2) mixed (fun _ => false) [7] (by kernel_rfl) fun K hK => ?_ | refine T.r0 fun K hK => ?_ | refine T.r1 fun K hK => ?_ | (refine ⟨by omega, ?_⟩) | refine T.ct rfl ?_ | refine T.cf rfl ?_ | refine T.seq ?_ | refine T.block ?_ | refine T.skip ?_ | refine T.exit ?_
 refine T.loopK (α := Nat × List (List CV)) [1, 2, 33, 34] (fun x => [(35, .i x.1)]) (fun x => [(0, rowB (orF (fun c => (e.kids.take x.1).any (freeIn c bd')) S1))]) (fun x => x.2) (fun x A => A) (fun x => e.kids.length + 1 - x.1) (fun x => x.1 <= e.kids.length) (by simp; rfl) (fun x hx => ?_) (0, []) (by simp) (by simp [orF_none, hl1]) (by simp) (by simp)
 obtain ⟨p, G⟩ := x
 dsimp only at hx ⊢
 simp only [ups, List.set_cons_zero, List.cons_append, List.nil_append]
 by_cases hlt : p < e.kids.length
 ·obtain ⟨u, ht⟩ := get_lt hlt
  have htm : u ∈ e.kids := List.mem_of_getElem? ht
  have hgt : e.kids[p] = u := by rw [List.getElem?_eq_getElem hlt] at ht; exact Option.some.inj ht
  have hdr : e.kids.drop p = u :: e.kids.drop (p + 1) := by rw [List.drop_eq_getElem_cons hlt, hgt]
  have hlp : (orF (fun c => (e.kids.take p).any (freeIn c bd')) S1).length = 26 := orF_len hl1
  have hu := ih u htm _ hlp
  rw [orF_or hl1] at hu
  have htk : orF (fun c => (e.kids.take (p + 1)).any (freeIn c bd')) S1 = orF (fun c => (e.kids.take p).any (freeIn c bd') || freeIn c bd' u) S1 := orF_congr fun c => by rw [List.take_add_one, ht, List.any_append]; simp
  rw [<- htk] at hu
  generalize orF (fun c => (e.kids.take p).any (freeIn c bd')) S1 = Z at *
  obtain ⟨Z', hZ'⟩ : ∃ Z', orF (fun c => (e.kids.take (p + 1)).any (freeIn c bd')) S1 = Z' := ⟨_, rfl⟩
  rw [hZ'] at hu
  repeat' first | ((first | refine aops_end (hK _ ?_) | refine aopsD_end (hK _ ?_) | refine aopsF_end (hK _ ?_)); clear hK K) | ((first | refine aops_go ?_ | refine aopsD_go ?_ | refine aopsF_go ?_); simp [hlt, hgt]; (try simp (disch := omega) only [wrap64]); (try (refine gen fun q hq => ?_; cases q <;> (try simp [hlt, hgt] at hq) <;> (try (have hh : True := hq; clear hh hq))))) | (refine wpcall_g [0] (by simp) rfl (by simp [inns_rowB]) hu ?_; simp [outn_rowB, seal_rowB]) | refine T.rd (id := 2) mixed (fun _ => false) [7] (by kernel_rfl) fun K hK => ?_ | refine T.rd1 (id := 2) mixed (fun _ => false) [7] (by kernel_rfl) fun K hK => ?_ | refine T.r0 fun K hK => ?_ | refine T.r1 fun K hK => ?_ | (refine ⟨by omega, ?_⟩) | refine T.ct rfl ?_ | refine T.cf rfl ?_ | refine T.seq ?_ | refine T.block ?_ | refine T.skip ?_ | refine T.exit ?_
  refine ⟨(p + 1, G ++ [(aTm u).cells]), by dsimp only; omega, by dsimp only; omega, by dsimp only; rw [hZ']; rfl, ?_, ?_⟩ <;> simp (disch := omega) [wrap64]
 ·have hp' : p = e.kids.length := by omega
  subst hp'
  rw [List.take_length]
  generalize orF (fun c => e.kids.any (freeIn c bd')) S1 = Z at *
  repeat' first | ((first | refine aops_end (hK _ ?_) | refine aopsD_end (hK _ ?_) | refine aopsF_end (hK _ ?_)); clear hK K) | ((first | refine aops_go ?_ | refine aopsD_go ?_ | refine aopsF_go ?_); simp [hlt]; (try (refine gen fun q hq => ?_; cases q <;> (try simp [hlt] at hq) <;> (try (have hh : True := hq; clear hh hq))))) | refine T.rd (id := 2) mixed (fun _ => false) [7] (by kernel_rfl) fun K hK => ?_ | refine T.rd1 (id := 2) mixed (fun _ => false) [7] (by kernel_rfl) fun K hK => ?_ | refine T.r0 fun K hK => ?_ | refine T.r1 fun K hK => ?_ | (refine ⟨by omega, ?_⟩) | refine T.ct rfl ?_ | refine T.cf rfl ?_ | refine T.seq ?_ | refine T.block ?_ | refine T.skip ?_ | refine T.exit ?_
  all_goals (refine Done.g (ys := []) (Or.inl rfl) ?_ rfl ?_ <;> simp [resAs, ress_rowB, Tryz.results43])

theorem free_ok {nt : Int} : ∀ (e : MTm) (d : Nat) (bd : List UInt8) (S : List Bool), shapeTm nt d e = true -> S.length = 26 -> bd.length + d <= 1000000 ->
  ACalls Tryz.prog 43 [aTm e, .s bd, .c (.ptr 0 0)] [rowB S] (.tup []) [rowB (orF (fun c => freeIn c bd e) S)] [] := by
 intro e
 induction e using MTm.ind with
 | h e ih =>
  intro d bd S hs hS hbd
  obtain ⟨d', rfl, hne, hlen, hown, hkids⟩ := shapeTm_kids hs
  have hk3 : e.kids.length <= 3 := by have := kidsM_le e.kind; omega
  have ih' := fun (bd : List UInt8) (hbd : bd.length + d' <= 1000000) u hu (S : List Bool) hS => ih u hu d' bd S (hkids u hu) hS hbd
  by_cases h1 : e.kind = 1
  ·have h5 : ¬ e.kind = 5 := by omega
   obtain ⟨z, hz, h97, h122⟩ := nameM_one (own_named hown (by simp [namedM, h1]))
   have h0 : e.kids = [] := by
    rw [h1] at hlen; simp [kidsM] at hlen; exact List.eq_nil_of_length_eq_zero (by omega)
   cases hin : bd.contains z with
   | false =>
    have := free_var e bd h1 z hz h97 h122 hin hk3 S hS (ih' bd (by omega))
    rw [orF_or hS] at this
    rw [orF_congr (g := fun c => decide (c = z) || e.kids.any (freeIn c bd)) (fun c => ?_)]
    ·exact this
    ·rw [freeIn_def, if_neg h5, hz]
     by_cases e : c = z
     ·subst e; simp only [h1, hin]; simp
     ·simp [h1, e, Ne.symm e]
   | true =>
    have := free_bnd e bd h1 z hz hin hk3 S hS (ih' bd (by omega))
    rw [orF_congr (g := fun c => e.kids.any (freeIn c bd)) (fun c => ?_)]
    ·exact this
    ·rw [freeIn_def, if_neg h5, hz]
     by_cases e : c = z
     ·subst e; simp only [hin]; simp
     ·simp [Ne.symm e]
  ·by_cases h5 : e.kind = 5
   ·obtain ⟨z, hz, _, _⟩ := nameM_one (own_named hown (by simp [namedM, h5]))
    have hnl : e.name.length = 1 := by rw [hz]; rfl
    have := free_lam e bd h1 h5 (by omega) hk3 S hS (ih' (bd ++ e.name) (by simp; omega))
    rw [orF_congr (g := fun c => e.kids.any (freeIn c (bd ++ e.name))) (fun c => ?_)]
    ·exact this
    ·rw [freeIn_def, if_pos h5]; simp [h1]
   ·have := free_non e bd h1 h5 hk3 S hS (ih' bd (by omega))
    rw [orF_congr (g := fun c => e.kids.any (freeIn c bd)) (fun c => ?_)]
    ·exact this
    ·rw [freeIn_def, if_neg h5]; simp [h1]

theorem take_letters {p : Nat} (h : p < 26) : letters.take (p + 1) = letters.take p ++ [UInt8.ofNat (97 + p)] := by
 rw [List.take_add_one, letters_get h]; rfl
theorem freeNames_ok {nt : Int} (e : MTm) (d : Nat) (hd : d <= 1000000) (hs : shapeTm nt d e = true) : ACalls Tryz.prog 16 [aTm e] [] (.s (namesM e)) [] [] := by
 have h1 := free_ok e d [] noB hs noB_len (by simp; omega)
 obtain ⟨Z, hZ⟩ : ∃ Z, orF (fun c => freeIn c [] e) noB = Z := ⟨_, rfl⟩
 rw [hZ] at h1
 have hg : ∀ p, p < 26 -> Z[p]? = some (freeIn (UInt8.ofNat (97 + p)) [] e) := fun p hp => by
  rw [<- hZ, orF_get (b := false) hp (noB_get hp)]; simp
 have hzl : Z.length = 26 := by rw [<- hZ]; exact orF_len noB_len
 have hnm : namesM e = (letters.take 26).filter fun c => freeIn c [] e := by rw [namesM, List.take_of_length_le (by rw [letters_len]; omega)]
 rw [hnm]
 clear hnm hZ
 generalize hf : (fun c => freeIn c [] e) = f at *
 have hg : ∀ p, p < 26 -> Z[p]? = some (f (UInt8.ofNat (97 + p))) := fun p hp => by rw [hg p hp, <- hf]
 have ht26 : List.take 26 (rowB Z) = rowB Z := List.take_of_length_le (by simp [hzl])
 refine ACalls.of_body Tryz.func16 (by kernel_rfl) rfl (by kernel_rfl) (by simp [Tryz.ntmps16]) (by simp) ?_
 rw [Tryz.ntmps16]
 repeat' first | ((first | refine aops_end (hK _ ?_) | refine aopsD_end (hK _ ?_) | refine aopsF_end (hK _ ?_)); clear hK K) | ((first | refine aops_go ?_ | refine aopsD_go ?_ | refine aopsF_go ?_); simp [hzl, ht26]; (try (refine gen fun q hq => ?_; cases q <;> (try simp [hzl, ht26] at hq) <;> (try (have hh : True := hq; clear hh hq))))) | (refine wpcall_g [1] (by simp) rfl (by simp [inns_rowB]) h1 ?_; simp [outn_rowB, seal_rowB, hzl, ht26]) | refine T.r0 fun K hK => ?_ | refine T.r1 fun K hK => ?_ | (refine ⟨by omega, ?_⟩) | refine T.ct rfl ?_ | refine T.cf rfl ?_ | refine T.seq ?_ | refine T.block ?_ | refine T.skip ?_ | refine T.exit ?_
 refine T.loopK (α := Nat × List (List CV)) [2, 9] (fun x => [(4, .s ((letters.take x.1).filter f)), (10, .i x.1)]) (fun x => []) (fun x => x.2) (fun x A => A) (fun x => 27 - x.1) (fun x => x.1 <= 26) (by simp; rfl) (fun x hx => ?_) (0, []) (by simp) (by simp) (by simp) (by simp)
 obtain ⟨p, G⟩ := x
 dsimp only at hx ⊢
 simp only [ups, List.set_cons_zero, List.set_cons_succ, List.cons_append, List.nil_append]
 by_cases hlt : p < 26
 ·have hgp := hg p hlt
  have hw8 : IntKind.u8.wrap (97 + (p : Int)) = (97 + p : Nat) := by rw [show (97 + (p : Int)) = ((97 + p : Nat) : Int) by omega]; exact wrap8 (by omega)
  have hby : bytesOf [[DV.int .u8 ((97 + p : Nat) : Int)]] = some [UInt8.ofNat (97 + p)] := by simp only [bytesOf, byteOfRow]; rw [if_pos (by omega)]; rfl
  have htk := take_letters hlt
  have hcs : ((97 + p : Nat) : Int) = 97 + (p : Int) := by omega
  rw [hcs] at hw8 hby
  clear hcs
  obtain ⟨z, hz⟩ : ∃ z, UInt8.ofNat (97 + p) = z := ⟨_, rfl⟩
  rw [hz] at hgp hby htk
  have hlt' : (p : Int) < 26 := by omega
  have hfl : (List.filter f (List.take p letters)).length <= 4611686018427387903 := by
   have h8 := List.length_filter_le f (letters.take p)
   rw [List.length_take] at h8
   omega
  have hlt'' : ¬ (26 : Int) <= p := by omega
  cases hb : f z <;> rw [hb] at hgp
  ·repeat' first | ((first | refine aops_end (hK _ ?_) | refine aopsD_end (hK _ ?_) | refine aopsF_end (hK _ ?_)); clear hK K) | ((first | refine aops_go ?_ | refine aopsD_go ?_ | refine aopsF_go ?_); simp [hlt, hlt', hlt'', hfl, hgp, hw8, hby]; (try simp (disch := omega) only [wrap64]); (try (refine gen fun q hq => ?_; cases q <;> (try simp [hlt, hlt', hlt'', hfl, hgp, hw8, hby] at hq) <;> (try (have hh : True := hq; clear hh hq))))) | (refine ⟨(p + 1, _), by dsimp only; omega, by dsimp only; omega, rfl, ?_, ?_⟩ <;> simp (disch := omega) [wrap64, htk, hb]) | refine T.r0 fun K hK => ?_ | refine T.r1 fun K hK => ?_ | (refine ⟨by omega, ?_⟩) | refine T.ct rfl ?_ | refine T.cf rfl ?_ | refine T.seq ?_ | refine T.block ?_ | refine T.skip ?_ | refine T.exit ?_
  ·repeat' first | ((first | refine aops_end (hK _ ?_) | refine aopsD_end (hK _ ?_) | refine aopsF_end (hK _ ?_)); clear hK K) | ((first | refine aops_go ?_ | refine aopsD_go ?_ | refine aopsF_go ?_); simp [hlt, hlt', hlt'', hfl, hgp, hw8, hby]; (try simp (disch := omega) only [wrap64]); (try (refine gen fun q hq => ?_; cases q <;> (try simp [hlt, hlt', hlt'', hfl, hgp, hw8, hby] at hq) <;> (try (have hh : True := hq; clear hh hq))))) | (refine ⟨(p + 1, _), by dsimp only; omega, by dsimp only; omega, rfl, ?_, ?_⟩ <;> simp (disch := omega) [wrap64, htk, hb]) | refine T.r0 fun K hK => ?_ | refine T.r1 fun K hK => ?_ | (refine ⟨by omega, ?_⟩) | refine T.ct rfl ?_ | refine T.cf rfl ?_ | refine T.seq ?_ | refine T.block ?_ | refine T.skip ?_ | refine T.exit ?_
 ·have hp' : p = 26 := by omega
  subst hp'
  repeat' first | ((first | refine aops_end (hK _ ?_) | refine aopsD_end (hK _ ?_) | refine aopsF_end (hK _ ?_)); clear hK K) | ((first | refine aops_go ?_ | refine aopsD_go ?_ | refine aopsF_go ?_); simp [hlt]; (try (refine gen fun q hq => ?_; cases q <;> (try simp [hlt] at hq) <;> (try (have hh : True := hq; clear hh hq))))) | (refine T.ret (Done.val (Or.inr rfl) ?_) <;> simp [resAs, Tryz.results16] <;> omega) | refine T.r0 fun K hK => ?_ | refine T.r1 fun K hK => ?_ | (refine ⟨by omega, ?_⟩) | refine T.ct rfl ?_ | refine T.cf rfl ?_ | refine T.seq ?_ | refine T.block ?_ | refine T.skip ?_ | refine T.exit ?_

theorem FreeNames_ok (e : MTm) (hn : nTm e <= 1099511627776) : ACalls Tryz.prog 9 [aTm e] [] (.s (if termValidM e = true then namesM e else [])) [] [] := by
 have h1 := TermValid_ok e hn
 cases hv : termValidM e with
 | false =>
  rw [hv] at h1
  simp only [Bool.false_eq_true, if_false]
  refine ACalls.of_body Tryz.func9 (by kernel_rfl) rfl (by kernel_rfl) (by simp [Tryz.ntmps9]) (by simp) ?_
  rw [Tryz.ntmps9]
  repeat' first | ((first | refine aops_end (hK _ ?_) | refine aopsD_end (hK _ ?_) | refine aopsF_end (hK _ ?_)); clear hK K) | ((first | refine aops_go ?_ | refine aopsD_go ?_ | refine aopsF_go ?_); simp; (try (refine gen fun q hq => ?_; cases q <;> (try simp at hq) <;> (try (have hh : True := hq; clear hh hq))))) | (refine wpcall_pure rfl (h1) ?_; simp; (try (refine gen fun q hq => ?_; cases q <;> (try simp at hq) <;> (try (have hh : True := hq; clear hh hq))))) | (refine T.ret (Done.data (Or.inr rfl) ?_ ?_) <;> simp [Tryz.results9] <;> omega) | refine T.r0 fun K hK => ?_ | refine T.r1 fun K hK => ?_ | (refine ⟨by omega, ?_⟩) | refine T.ct rfl ?_ | refine T.cf rfl ?_ | refine T.seq ?_ | refine T.block ?_ | refine T.skip ?_ | refine T.exit ?_
 | true =>
  rw [hv] at h1
  have h2 := freeNames_ok e 12 (by omega) (termValid_parts hv).shape
  simp only [if_true]
  refine ACalls.of_body Tryz.func9 (by kernel_rfl) rfl (by kernel_rfl) (by simp [Tryz.ntmps9]) (by simp) ?_
  rw [Tryz.ntmps9]
  repeat' first | ((first | refine aops_end (hK _ ?_) | refine aopsD_end (hK _ ?_) | refine aopsF_end (hK _ ?_)); clear hK K) | ((first | refine aops_go ?_ | refine aopsD_go ?_ | refine aopsF_go ?_); simp; (try (refine gen fun q hq => ?_; cases q <;> (try simp at hq) <;> (try (have hh : True := hq; clear hh hq))))) | (refine wpcall_pure rfl (h1) ?_; simp; (try (refine gen fun q hq => ?_; cases q <;> (try simp at hq) <;> (try (have hh : True := hq; clear hh hq))))) | (refine wpcall_pure rfl (h2) ?_; simp; (try (refine gen fun q hq => ?_; cases q <;> (try simp at hq) <;> (try (have hh : True := hq; clear hh hq))))) | (refine T.ret (Done.data (Or.inr rfl) ?_ ?_) <;> simp [Tryz.results9] <;> omega) | refine T.r0 fun K hK => ?_ | refine T.r1 fun K hK => ?_ | (refine ⟨by omega, ?_⟩) | refine T.ct rfl ?_ | refine T.cf rfl ?_ | refine T.seq ?_ | refine T.block ?_ | refine T.skip ?_ | refine T.exit ?_

end Go.Proofs.YtflmjilnecanhaaGreat

namespace Go.Proofs.YtflmjilnecanhaaGreat
attribute [-simp] Go.Av.astepJ Go.Av.relC Go.Av.relL Go.Av.relV Go.Av.relVs Go.Av.callJ
open Go Go.Av
attribute [local irreducible] T ACalls TX EX LX Draws Some_ ACallsX eTy eTm MTy.kind MTy.kids MTm.kind MTm.name MTm.num MTm.ty MTm.fr MTm.label MTm.kids
attribute [local simp] eTy_def eTm_def
set_option maxHeartbeats 16000000
set_option maxRecDepth 8000

def cntP (l : List MTy) (p : Nat) : Nat := ((l.take p).map cntM).sum
end Go.Proofs.YtflmjilnecanhaaGreat

namespace Go.Proofs.YtflmjilnecanhaaGreat
attribute [-simp] Go.Av.astepJ Go.Av.relC Go.Av.relL Go.Av.relV Go.Av.relVs Go.Av.callJ
open Go Go.Av
attribute [local irreducible] T ACalls TX EX LX Draws Some_ ACallsX eTy eTm MTy.kind MTy.kids MTm.kind MTm.name MTm.num MTm.ty MTm.fr MTm.label MTm.kids
attribute [local simp] eTy_def eTm_def
set_option maxHeartbeats 16000000
set_option maxRecDepth 8000
@[simp] theorem td_uint : td Tryz.prog 107 = some { ag := false, sz := 1, by_ := 8, zero := some [.d (.int .u64 0)], el := none, ar := none, fl := [], ik := some .u64, isS := false, isB := false } := keep (by kernel_rfl)
@[simp] theorem td_intS2 : td Tryz.prog 57 = some { ag := false, sz := 1, by_ := 24, zero := some [.nil], el := some 3, ar := none, fl := [], ik := none, isS := false, isB := false } := keep (by kernel_rfl)

end Go.Proofs.YtflmjilnecanhaaGreat
