/- A part of the library of this seat: a value-semantic program logic over the model, plain models, and walks of functions. -/
import Derived.Test.YtfdknjjnifnobaaGreatK12
set_option linter.unusedVariables false
set_option linter.unusedSimpArgs false
namespace Go.Proofs.YtfdknjjnifnobaaGreat
open Go Go.Av
attribute [local irreducible] T ACalls TX EX LX Draws Some_ ACallsX eTy eTm MTy.kind MTy.kids MTm.kind MTm.name MTm.num MTm.ty MTm.fr MTm.label MTm.kids
attribute [local simp] eTy_def eTm_def
set_option linter.unusedSimpArgs false
set_option linter.unusedVariables false
set_option maxHeartbeats 16000000
set_option maxRecDepth 8000

@[simp] theorem td_set26 : td Tryz.prog 107 = some { ag := true, sz := 26, by_ := 26, zero := some (rowB noB), el := none, ar := some (26, 4), fl := [], ik := none, isS := false, isB := false } := keep (by kernel_rfl)

theorem inns_rowB (A : List Arr) (ids : List Nat) : ∀ S : List Bool, inns A ids (rowB S) = some (rowB S)
  | [] => rfl
  | b :: r => by simp only [rowB, List.map_cons, inns]; rw [show inns A ids (List.map (fun b => CV.d (DV.bool b)) r) = some (List.map (fun b => CV.d (DV.bool b)) r) from inns_rowB A ids r]; rfl
theorem ress_rowB (A : List Arr) (os ks : List Nat) : ∀ S : List Bool, ress A os ks (rowB S) = some (rowB S)
  | [] => rfl
  | b :: r => by simp only [rowB, List.map_cons, ress]; rw [show ress A os ks (List.map (fun b => CV.d (DV.bool b)) r) = some (List.map (fun b => CV.d (DV.bool b)) r) from ress_rowB A os ks r]; rfl
theorem outn_rowB (ids : List Nat) (n m : Nat) (S : List Bool) : List.map (CV.outn ids n m ∘ fun b => CV.d (DV.bool b)) S = rowB S := List.map_congr_left fun b _ => rfl
theorem seal_rowB : ∀ (S : List Bool) (A : List Arr), List.foldl sealA A (rowB S) = A
  | [], A => rfl
  | b :: r, A => by simp only [rowB, List.map_cons, List.foldl_cons]; exact seal_rowB r A

theorem splice_rowB {S : List Bool} {i : Nat} (h : i < S.length) : splice (rowB S) i [CV.d (.bool true)] = rowB (S.set i true) := by
  simp only [splice, rowB, List.map_set, List.length_singleton]
  rw [List.set_eq_take_append_cons_drop]
  simp [h]

set_option maxRecDepth 100000 in
theorem sliteIndexByte (s : ByteArray) (c : Int) (w : World) :
    Calls Tryz.prog 250 #[.string s, .int .u8 c] w fun e w' => e = .returned (.int .i64 (Lib.indexByte s.data.toList c.toNat.toUInt8)) ∧ w' = w := by
  go_enter Tryz.func250, Tryz.ntmps250
  go_wp2
  rw [run_callFunc_extern Tryz.func254 (by kernel_rfl) (by kernel_rfl) (by kernel_rfl) (e := Extern.BytealgIndexByte.indexByte) (by kernel_rfl), Lib.run_indexByteString]
  simp only [Result.andThen]
  rw [Oper.upon_value]
  go_wp2
  go_ret
  exact ⟨rfl, rfl⟩

theorem IndexByte_ok (s : List UInt8) (c : Int) : ACalls Tryz.prog 250 [.s s, .c (.d (.int .u8 c))] [] (.i (Lib.indexByte s c.toNat.toUInt8)) [] [] := by
  unfold ACalls
  refine ⟨enters (c := (Tryz.f250.body).getD .skip) Tryz.func250 rfl (by kernel_rfl), by simp, fun g w vs hg hI hl hv => ?_⟩
  have h0 : 0 < vs.size := by rw [hl]; simp
  have h1 : 1 < vs.size := by rw [hl]; simp
  have e0 := hv 0 _ vs[0] rfl (by simp [h0])
  have e1 := hv 1 _ vs[1] rfl (by simp [h1])
  simp only [RepV, RepE, RepC, RepD] at e0 e1
  have e : vs = #[.string (bs s), .int .u8 c] := by
    apply Array.ext
    · simpa using hl
    · intro i hi hi'
      match i with
      | 0 => simpa using e0
      | 1 => simpa using e1
      | i + 2 => exact absurd hi' (by simp)
  subst e
  refine (sliteIndexByte (bs s) c w).mono ?_
  rintro e w' ⟨rfl, rfl⟩
  exact ⟨_, g, rfl, by simp [RepV, RepE, RepC, RepD, bs], hI, .refl⟩

theorem Index1_ok (s : List UInt8) (c : UInt8) : ACalls Tryz.prog 247 [.s s, .s [c]] [] (.i (Lib.indexByte s c)) [] [] := by
  have h := IndexByte_ok s c.toNat
  have e : (c.toNat : Int).toNat.toUInt8 = c := by simp
  rw [e] at h
  by_cases hs : s = [c]
  · subst hs
    refine ACalls.of_body Tryz.func247 (by kernel_rfl) rfl (by kernel_rfl) (by simp [Tryz.ntmps247]) (by simp) ?_
    rw [Tryz.ntmps247]
    repeat' first
      | ((first | refine aops_end (hK _ ?_)); clear hK K)
      | ((first | refine aops_go ?_); simp; (try (refine gen fun q hq => ?_; cases q <;> (try simp at hq) <;> (try (have hh : True := hq; clear hh hq)))))
      | (refine T.ret (Done.data (Or.inr rfl) ?_ ?_) <;> simp [Tryz.results247, Lib.indexByte] <;> omega)
      | refine T.rs (fun _ => false) fun K hK => ?_
      | refine T.cond rfl (fun hcnd => ?_) (fun hcnd => absurd hcnd (by decide))
      | refine T.seq ?_
      | refine T.block ?_
  · have hs' : ¬ [c] = s := fun e => hs e.symm
    refine ACalls.of_body Tryz.func247 (by kernel_rfl) rfl (by kernel_rfl) (by simp [Tryz.ntmps247]) (by simp) ?_
    rw [Tryz.ntmps247]
    repeat' first
      | ((first | refine aops_end (hK _ ?_)); clear hK K)
      | ((first | refine aops_go ?_); simp [hs']; (try (refine gen fun q hq => ?_; cases q <;> (try simp [hs'] at hq) <;> (try (have hh : True := hq; clear hh hq)))))
      | (refine wpcall_pure rfl (h) ?_; simp [hs']; (try (refine gen fun q hq => ?_; cases q <;> (try simp [hs'] at hq) <;> (try (have hh : True := hq; clear hh hq)))))
      | (refine T.ret (Done.data (Or.inr rfl) ?_ ?_) <;> simp [Tryz.results247] <;> omega)
      | refine T.rs (fun _ => false) fun K hK => ?_
      | refine T.cond rfl (fun hcnd => ?_) (fun hcnd => absurd hcnd (by decide))
      | refine T.cond rfl (fun hcnd => absurd hcnd (by decide)) (fun hcnd => ?_)
      | refine T.seq ?_
      | refine T.block ?_

theorem sIndex1_ok (s : List UInt8) (c : UInt8) : ACalls Tryz.prog 234 [.s s, .s [c]] [] (.i (Lib.indexByte s c)) [] [] := by
  have h := Index1_ok s c
  refine ACalls.of_body Tryz.func234 (by kernel_rfl) rfl (by kernel_rfl) (by simp [Tryz.ntmps234]) (by simp) ?_
  rw [Tryz.ntmps234]
  repeat' first
    | ((first | refine aops_end (hK _ ?_)); clear hK K)
    | ((first | refine aops_go ?_); simp; (try (refine gen fun q hq => ?_; cases q <;> (try simp at hq) <;> (try (have hh : True := hq; clear hh hq)))))
    | (refine wpcall_pure rfl (h) ?_; simp; (try (refine gen fun q hq => ?_; cases q <;> (try simp at hq) <;> (try (have hh : True := hq; clear hh hq)))))
    | (refine T.ret (Done.data (Or.inr rfl) ?_ ?_) <;> simp [Tryz.results234] <;> omega)
    | refine T.rs (fun _ => false) fun K hK => ?_

theorem Contains1_ok (s : List UInt8) (c : UInt8) : ACalls Tryz.prog 194 [.s s, .s [c]] [] (.b (s.contains c)) [] [] := by
  have h := sIndex1_ok s c
  have e : decide (0 ≤ Lib.indexByte s c) = s.contains c := by
    rw [Bool.eq_iff_iff, decide_eq_true_iff]; exact indexByte_iff s c
  rw [← e]
  refine ACalls.of_body Tryz.func194 (by kernel_rfl) rfl (by kernel_rfl) (by simp [Tryz.ntmps194]) (by simp) ?_
  rw [Tryz.ntmps194]
  repeat' first
    | ((first | refine aops_end (hK _ ?_)); clear hK K)
    | ((first | refine aops_go ?_); simp)
    | (refine wpcall_pure rfl (h) ?_; simp)
    | (refine T.ret (Done.data (Or.inr rfl) ?_ ?_) <;> simp [Tryz.results194] <;> omega)
    | refine T.rs (fun _ => false) fun K hK => ?_

theorem free_var (e : MTm) (bd : List UInt8) (h1 : e.kind = 1) (z : UInt8) (hz : e.name = [z]) (h97 : 97 ≤ z.toNat) (h122 : z.toNat ≤ 122) (hin : bd.contains z = false) (hl : e.kids.length ≤ 3) (S : List Bool) (hS : S.length = 26)
    (ih : ∀ u ∈ e.kids, ∀ S : List Bool, S.length = 26 → ACalls Tryz.prog 143 [aTm u, .s (bd), .c (.ptr 0 0)] [rowB S] (.tup []) [rowB (orF (fun c => freeIn c (bd) u) S)] []) :
    ACalls Tryz.prog 143 [aTm e, .s bd, .c (.ptr 0 0)] [rowB S] (.tup []) [rowB (orF (fun c => e.kids.any (freeIn c (bd))) (orF (fun c => decide (c = z)) S))] [] := by
  have hc := Contains1_ok bd z
  rw [hin] at hc
  have hw8 : IntKind.u8.wrap ((z.toNat : Int) - 97) = (z.toNat - 97 : Nat) := by rw [show ((z.toNat : Int) - 97) = ((z.toNat - 97 : Nat) : Int) by omega]; exact wrap8 (by omega)
  rw [← orF_set hS h97 h122]
  obtain ⟨bd', hbd⟩ : ∃ bd', bd = bd' := ⟨_, rfl⟩
  rw [hbd] at ih ⊢
  rw [hbd] at hc
  obtain ⟨S1, hS1⟩ : ∃ S1, S.set (z.toNat - 97) true = S1 := ⟨_, rfl⟩
  rw [hS1]
  have hl1 : S1.length = 26 := by rw [← hS1]; simpa using hS
  have hsp : List.take (z.toNat - 97) (rowB S) ++ CV.d (.bool true) :: List.drop (z.toNat - 97 + 1) (rowB S) = rowB S1 := by rw [← hS1, ← splice_rowB (by omega)]; simp [splice]
  refine ACalls.of_body Tryz.func143 (by kernel_rfl) rfl (by kernel_rfl) (by simp [Tryz.ntmps143]) (by simp) ?_
  rw [Tryz.ntmps143]
  repeat' first
    | ((first | refine aops_end (hK _ ?_) | refine aopsD_end (hK _ ?_)); clear hK K)
    | ((first | refine aops_go ?_ | refine aopsD_go ?_); simp [h1, hz, hin, hw8, hsp]; (try (refine gen fun q hq => ?_; cases q <;> (try simp [h1, hz, hin, hw8, hsp] at hq) <;> (try (have hh : True := hq; clear hh hq)))))
    | (refine wpcall_pure rfl (hc) ?_; simp [h1, hz, hin, hw8, hsp]; (try (refine gen fun q hq => ?_; cases q <;> (try simp [h1, hz, hin, hw8, hsp] at hq) <;> (try (have hh : True := hq; clear hh hq)))))
    | refine T.rd1 (id := 2) mixed (fun _ => false) [7] (by kernel_rfl) fun K hK => ?_
    | refine T.rs (fun _ => false) fun K hK => ?_
    | (refine ⟨by omega, ?_⟩)
    | refine T.cond rfl (fun hcnd => ?_) (fun hcnd => absurd hcnd (by decide))
    | refine T.cond rfl (fun hcnd => absurd hcnd (by decide)) (fun hcnd => ?_)
    | refine T.seq ?_
    | refine T.block ?_
    | refine T.skip ?_
  refine T.loopK (α := Nat × List (List CV)) [1, 2, 33, 34] (fun x => [(35, .i x.1)]) (fun x => [(0, rowB (orF (fun c => (e.kids.take x.1).any (freeIn c bd')) S1))]) (fun x => x.2) (fun x A => A) (fun x => e.kids.length + 1 - x.1) (fun x => x.1 ≤ e.kids.length) (by simp; rfl) (fun x hx => ?_) (0, []) (by simp) (by simp [orF_none, hl1]) (by simp) (by simp)
  obtain ⟨p, G⟩ := x
  dsimp only at hx ⊢
  simp only [ups, List.set_cons_zero, List.cons_append, List.nil_append]
  by_cases hlt : p < e.kids.length
  · obtain ⟨u, ht⟩ := get_lt hlt
    have htm : u ∈ e.kids := List.mem_of_getElem? ht
    have hgt : e.kids[p] = u := by rw [List.getElem?_eq_getElem hlt] at ht; exact Option.some.inj ht
    have hdr : e.kids.drop p = u :: e.kids.drop (p + 1) := by rw [List.drop_eq_getElem_cons hlt, hgt]
    have hlp : (orF (fun c => (e.kids.take p).any (freeIn c bd')) S1).length = 26 := orF_len hl1
    have hu := ih u htm _ hlp
    rw [orF_or hl1] at hu
    have htk : orF (fun c => (e.kids.take (p + 1)).any (freeIn c bd')) S1 = orF (fun c => (e.kids.take p).any (freeIn c bd') || freeIn c bd' u) S1 := orF_congr fun c => by rw [List.take_add_one, ht, List.any_append]; simp
    rw [← htk] at hu
    generalize orF (fun c => (e.kids.take p).any (freeIn c bd')) S1 = Z at *
    obtain ⟨Z', hZ'⟩ : ∃ Z', orF (fun c => (e.kids.take (p + 1)).any (freeIn c bd')) S1 = Z' := ⟨_, rfl⟩
    rw [hZ'] at hu
    repeat' first
      | ((first | refine aops_end (hK _ ?_)); clear hK K)
      | ((first | refine aops_go ?_); simp [hlt, hgt]; (try simp (disch := omega) only [wrap64]); (try (refine gen fun q hq => ?_; cases q <;> (try simp [hlt, hgt] at hq) <;> (try (have hh : True := hq; clear hh hq)))))
      | (refine wpcall_g [0] (by simp) rfl (by simp [inns_rowB]) hu ?_; simp [outn_rowB, seal_rowB])
      | refine T.rs (fun _ => false) fun K hK => ?_
      | refine T.rs1 (fun _ => false) fun K hK => ?_
      | refine T.cond rfl (fun hcnd => ?_) (fun hcnd => absurd hcnd (by decide))
      | refine T.seq ?_
      | refine T.block ?_
      | refine T.skip ?_
    refine ⟨(p + 1, G ++ [(aTm u).cells]), by dsimp only; omega, by dsimp only; omega, by dsimp only; rw [hZ']; rfl, ?_, ?_⟩ <;> simp (disch := omega) [wrap64]
  · have hp' : p = e.kids.length := by omega
    subst hp'
    rw [List.take_length]
    generalize orF (fun c => e.kids.any (freeIn c bd')) S1 = Z at *
    repeat' first
      | ((first | refine aops_end (hK _ ?_)); clear hK K)
      | ((first | refine aops_go ?_); simp [hlt]; (try (refine gen fun q hq => ?_; cases q <;> (try simp [hlt] at hq) <;> (try (have hh : True := hq; clear hh hq)))))
      | refine T.rs (fun _ => false) fun K hK => ?_
      | refine T.cond rfl (fun hcnd => absurd hcnd (by decide)) (fun hcnd => ?_)
      | refine T.seq ?_
      | refine T.exit ?_
    all_goals (refine Done.g (ys := []) (Or.inl rfl) ?_ rfl ?_ <;> simp [resAs, ress_rowB, Tryz.results143])

theorem free_bnd (e : MTm) (bd : List UInt8) (h1 : e.kind = 1) (z : UInt8) (hz : e.name = [z]) (hin : bd.contains z = true) (hl : e.kids.length ≤ 3) (S : List Bool) (hS : S.length = 26)
    (ih : ∀ u ∈ e.kids, ∀ S : List Bool, S.length = 26 → ACalls Tryz.prog 143 [aTm u, .s (bd), .c (.ptr 0 0)] [rowB S] (.tup []) [rowB (orF (fun c => freeIn c (bd) u) S)] []) :
    ACalls Tryz.prog 143 [aTm e, .s bd, .c (.ptr 0 0)] [rowB S] (.tup []) [rowB (orF (fun c => e.kids.any (freeIn c (bd))) (S))] [] := by
  have hc := Contains1_ok bd z
  rw [hin] at hc
  obtain ⟨bd', hbd⟩ : ∃ bd', bd = bd' := ⟨_, rfl⟩
  rw [hbd] at ih ⊢
  rw [hbd] at hc
  obtain ⟨S1, hS1⟩ : ∃ S1, S = S1 := ⟨_, rfl⟩
  rw [hS1] at hS ⊢
  have hl1 : S1.length = 26 := hS
  refine ACalls.of_body Tryz.func143 (by kernel_rfl) rfl (by kernel_rfl) (by simp [Tryz.ntmps143]) (by simp) ?_
  rw [Tryz.ntmps143]
  repeat' first
    | ((first | refine aops_end (hK _ ?_)); clear hK K)
    | ((first | refine aops_go ?_); simp [h1, hz, hin]; (try (refine gen fun q hq => ?_; cases q <;> (try simp [h1, hz, hin] at hq) <;> (try (have hh : True := hq; clear hh hq)))))
    | (refine wpcall_pure rfl (hc) ?_; simp [h1, hz, hin]; (try (refine gen fun q hq => ?_; cases q <;> (try simp [h1, hz, hin] at hq) <;> (try (have hh : True := hq; clear hh hq)))))
    | refine T.rs (fun _ => false) fun K hK => ?_
    | refine T.cond rfl (fun hcnd => absurd hcnd (by decide)) (fun hcnd => ?_)
    | refine T.seq ?_
    | refine T.block ?_
    | refine T.skip ?_
  refine T.loopK (α := Nat × List (List CV)) [1, 2, 33, 34] (fun x => [(35, .i x.1)]) (fun x => [(0, rowB (orF (fun c => (e.kids.take x.1).any (freeIn c bd')) S1))]) (fun x => x.2) (fun x A => A) (fun x => e.kids.length + 1 - x.1) (fun x => x.1 ≤ e.kids.length) (by simp; rfl) (fun x hx => ?_) (0, []) (by simp) (by simp [orF_none, hl1]) (by simp) (by simp)
  obtain ⟨p, G⟩ := x
  dsimp only at hx ⊢
  simp only [ups, List.set_cons_zero, List.cons_append, List.nil_append]
  by_cases hlt : p < e.kids.length
  · obtain ⟨u, ht⟩ := get_lt hlt
    have htm : u ∈ e.kids := List.mem_of_getElem? ht
    have hgt : e.kids[p] = u := by rw [List.getElem?_eq_getElem hlt] at ht; exact Option.some.inj ht
    have hdr : e.kids.drop p = u :: e.kids.drop (p + 1) := by rw [List.drop_eq_getElem_cons hlt, hgt]
    have hlp : (orF (fun c => (e.kids.take p).any (freeIn c bd')) S1).length = 26 := orF_len hl1
    have hu := ih u htm _ hlp
    rw [orF_or hl1] at hu
    have htk : orF (fun c => (e.kids.take (p + 1)).any (freeIn c bd')) S1 = orF (fun c => (e.kids.take p).any (freeIn c bd') || freeIn c bd' u) S1 := orF_congr fun c => by rw [List.take_add_one, ht, List.any_append]; simp
    rw [← htk] at hu
    generalize orF (fun c => (e.kids.take p).any (freeIn c bd')) S1 = Z at *
    obtain ⟨Z', hZ'⟩ : ∃ Z', orF (fun c => (e.kids.take (p + 1)).any (freeIn c bd')) S1 = Z' := ⟨_, rfl⟩
    rw [hZ'] at hu
    repeat' first
      | ((first | refine aops_end (hK _ ?_)); clear hK K)
      | ((first | refine aops_go ?_); simp [hlt, hgt]; (try simp (disch := omega) only [wrap64]); (try (refine gen fun q hq => ?_; cases q <;> (try simp [hlt, hgt] at hq) <;> (try (have hh : True := hq; clear hh hq)))))
      | (refine wpcall_g [0] (by simp) rfl (by simp [inns_rowB]) hu ?_; simp [outn_rowB, seal_rowB])
      | refine T.rs (fun _ => false) fun K hK => ?_
      | refine T.rs1 (fun _ => false) fun K hK => ?_
      | refine T.cond rfl (fun hcnd => ?_) (fun hcnd => absurd hcnd (by decide))
      | refine T.seq ?_
      | refine T.block ?_
      | refine T.skip ?_
    refine ⟨(p + 1, G ++ [(aTm u).cells]), by dsimp only; omega, by dsimp only; omega, by dsimp only; rw [hZ']; rfl, ?_, ?_⟩ <;> simp (disch := omega) [wrap64]
  · have hp' : p = e.kids.length := by omega
    subst hp'
    rw [List.take_length]
    generalize orF (fun c => e.kids.any (freeIn c bd')) S1 = Z at *
    repeat' first
      | ((first | refine aops_end (hK _ ?_)); clear hK K)
      | ((first | refine aops_go ?_); simp [hlt]; (try (refine gen fun q hq => ?_; cases q <;> (try simp [hlt] at hq) <;> (try (have hh : True := hq; clear hh hq)))))
      | refine T.rs (fun _ => false) fun K hK => ?_
      | refine T.cond rfl (fun hcnd => absurd hcnd (by decide)) (fun hcnd => ?_)
      | refine T.seq ?_
      | refine T.exit ?_
    all_goals (refine Done.g (ys := []) (Or.inl rfl) ?_ rfl ?_ <;> simp [resAs, ress_rowB, Tryz.results143])

theorem free_lam (e : MTm) (bd : List UInt8) (h1 : ¬ e.kind = 1) (h5 : e.kind = 5) (hbl : bd.length + e.name.length ≤ 4611686018427387904) (hl : e.kids.length ≤ 3) (S : List Bool) (hS : S.length = 26)
    (ih : ∀ u ∈ e.kids, ∀ S : List Bool, S.length = 26 → ACalls Tryz.prog 143 [aTm u, .s (bd ++ e.name), .c (.ptr 0 0)] [rowB S] (.tup []) [rowB (orF (fun c => freeIn c (bd ++ e.name) u) S)] []) :
    ACalls Tryz.prog 143 [aTm e, .s bd, .c (.ptr 0 0)] [rowB S] (.tup []) [rowB (orF (fun c => e.kids.any (freeIn c (bd ++ e.name))) (S))] [] := by
  obtain ⟨bd', hbd⟩ : ∃ bd', bd ++ e.name = bd' := ⟨_, rfl⟩
  rw [hbd] at ih ⊢
  obtain ⟨S1, hS1⟩ : ∃ S1, S = S1 := ⟨_, rfl⟩
  rw [hS1] at hS ⊢
  have hl1 : S1.length = 26 := hS
  refine ACalls.of_body Tryz.func143 (by kernel_rfl) rfl (by kernel_rfl) (by simp [Tryz.ntmps143]) (by simp) ?_
  rw [Tryz.ntmps143]
  repeat' first
    | ((first | refine aops_end (hK _ ?_)); clear hK K)
    | ((first | refine aops_go ?_); simp [h1, h5, hbl, hbd]; (try (refine gen fun q hq => ?_; cases q <;> (try simp [h1, h5, hbl, hbd] at hq) <;> (try (have hh : True := hq; clear hh hq)))))
    | refine T.rs (fun _ => false) fun K hK => ?_
    | refine T.rs1 (fun _ => false) fun K hK => ?_
    | refine T.cond rfl (fun hcnd => ?_) (fun hcnd => absurd hcnd (by decide))
    | refine T.cond rfl (fun hcnd => absurd hcnd (by decide)) (fun hcnd => ?_)
    | refine T.seq ?_
    | refine T.block ?_
    | refine T.skip ?_
  refine T.loopK (α := Nat × List (List CV)) [1, 2, 33, 34] (fun x => [(35, .i x.1)]) (fun x => [(0, rowB (orF (fun c => (e.kids.take x.1).any (freeIn c bd')) S1))]) (fun x => x.2) (fun x A => A) (fun x => e.kids.length + 1 - x.1) (fun x => x.1 ≤ e.kids.length) (by simp; rfl) (fun x hx => ?_) (0, []) (by simp) (by simp [orF_none, hl1]) (by simp) (by simp)
  obtain ⟨p, G⟩ := x
  dsimp only at hx ⊢
  simp only [ups, List.set_cons_zero, List.cons_append, List.nil_append]
  by_cases hlt : p < e.kids.length
  · obtain ⟨u, ht⟩ := get_lt hlt
    have htm : u ∈ e.kids := List.mem_of_getElem? ht
    have hgt : e.kids[p] = u := by rw [List.getElem?_eq_getElem hlt] at ht; exact Option.some.inj ht
    have hdr : e.kids.drop p = u :: e.kids.drop (p + 1) := by rw [List.drop_eq_getElem_cons hlt, hgt]
    have hlp : (orF (fun c => (e.kids.take p).any (freeIn c bd')) S1).length = 26 := orF_len hl1
    have hu := ih u htm _ hlp
    rw [orF_or hl1] at hu
    have htk : orF (fun c => (e.kids.take (p + 1)).any (freeIn c bd')) S1 = orF (fun c => (e.kids.take p).any (freeIn c bd') || freeIn c bd' u) S1 := orF_congr fun c => by rw [List.take_add_one, ht, List.any_append]; simp
    rw [← htk] at hu
    generalize orF (fun c => (e.kids.take p).any (freeIn c bd')) S1 = Z at *
    obtain ⟨Z', hZ'⟩ : ∃ Z', orF (fun c => (e.kids.take (p + 1)).any (freeIn c bd')) S1 = Z' := ⟨_, rfl⟩
    rw [hZ'] at hu
    repeat' first
      | ((first | refine aops_end (hK _ ?_)); clear hK K)
      | ((first | refine aops_go ?_); simp [hlt, hgt]; (try simp (disch := omega) only [wrap64]); (try (refine gen fun q hq => ?_; cases q <;> (try simp [hlt, hgt] at hq) <;> (try (have hh : True := hq; clear hh hq)))))
      | (refine wpcall_g [0] (by simp) rfl (by simp [inns_rowB]) hu ?_; simp [outn_rowB, seal_rowB])
      | refine T.rs (fun _ => false) fun K hK => ?_
      | refine T.rs1 (fun _ => false) fun K hK => ?_
      | refine T.cond rfl (fun hcnd => ?_) (fun hcnd => absurd hcnd (by decide))
      | refine T.seq ?_
      | refine T.block ?_
      | refine T.skip ?_
    refine ⟨(p + 1, G ++ [(aTm u).cells]), by dsimp only; omega, by dsimp only; omega, by dsimp only; rw [hZ']; rfl, ?_, ?_⟩ <;> simp (disch := omega) [wrap64]
  · have hp' : p = e.kids.length := by omega
    subst hp'
    rw [List.take_length]
    generalize orF (fun c => e.kids.any (freeIn c bd')) S1 = Z at *
    repeat' first
      | ((first | refine aops_end (hK _ ?_)); clear hK K)
      | ((first | refine aops_go ?_); simp [hlt]; (try (refine gen fun q hq => ?_; cases q <;> (try simp [hlt] at hq) <;> (try (have hh : True := hq; clear hh hq)))))
      | refine T.rs (fun _ => false) fun K hK => ?_
      | refine T.cond rfl (fun hcnd => absurd hcnd (by decide)) (fun hcnd => ?_)
      | refine T.seq ?_
      | refine T.exit ?_
    all_goals (refine Done.g (ys := []) (Or.inl rfl) ?_ rfl ?_ <;> simp [resAs, ress_rowB, Tryz.results143])

theorem free_non (e : MTm) (bd : List UInt8) (h1 : ¬ e.kind = 1) (h5 : ¬ e.kind = 5) (hl : e.kids.length ≤ 3) (S : List Bool) (hS : S.length = 26)
    (ih : ∀ u ∈ e.kids, ∀ S : List Bool, S.length = 26 → ACalls Tryz.prog 143 [aTm u, .s (bd), .c (.ptr 0 0)] [rowB S] (.tup []) [rowB (orF (fun c => freeIn c (bd) u) S)] []) :
    ACalls Tryz.prog 143 [aTm e, .s bd, .c (.ptr 0 0)] [rowB S] (.tup []) [rowB (orF (fun c => e.kids.any (freeIn c (bd))) (S))] [] := by
  obtain ⟨bd', hbd⟩ : ∃ bd', bd = bd' := ⟨_, rfl⟩
  rw [hbd] at ih ⊢
  obtain ⟨S1, hS1⟩ : ∃ S1, S = S1 := ⟨_, rfl⟩
  rw [hS1] at hS ⊢
  have hl1 : S1.length = 26 := hS
  refine ACalls.of_body Tryz.func143 (by kernel_rfl) rfl (by kernel_rfl) (by simp [Tryz.ntmps143]) (by simp) ?_
  rw [Tryz.ntmps143]
  repeat' first
    | ((first | refine aops_end (hK _ ?_)); clear hK K)
    | ((first | refine aops_go ?_); simp [h1, h5]; (try (refine gen fun q hq => ?_; cases q <;> (try simp [h1, h5] at hq) <;> (try (have hh : True := hq; clear hh hq)))))
    | refine T.rs (fun _ => false) fun K hK => ?_
    | refine T.cond rfl (fun hcnd => absurd hcnd (by decide)) (fun hcnd => ?_)
    | refine T.seq ?_
    | refine T.block ?_
    | refine T.skip ?_
  refine T.loopK (α := Nat × List (List CV)) [1, 2, 33, 34] (fun x => [(35, .i x.1)]) (fun x => [(0, rowB (orF (fun c => (e.kids.take x.1).any (freeIn c bd')) S1))]) (fun x => x.2) (fun x A => A) (fun x => e.kids.length + 1 - x.1) (fun x => x.1 ≤ e.kids.length) (by simp; rfl) (fun x hx => ?_) (0, []) (by simp) (by simp [orF_none, hl1]) (by simp) (by simp)
  obtain ⟨p, G⟩ := x
  dsimp only at hx ⊢
  simp only [ups, List.set_cons_zero, List.cons_append, List.nil_append]
  by_cases hlt : p < e.kids.length
  · obtain ⟨u, ht⟩ := get_lt hlt
    have htm : u ∈ e.kids := List.mem_of_getElem? ht
    have hgt : e.kids[p] = u := by rw [List.getElem?_eq_getElem hlt] at ht; exact Option.some.inj ht
    have hdr : e.kids.drop p = u :: e.kids.drop (p + 1) := by rw [List.drop_eq_getElem_cons hlt, hgt]
    have hlp : (orF (fun c => (e.kids.take p).any (freeIn c bd')) S1).length = 26 := orF_len hl1
    have hu := ih u htm _ hlp
    rw [orF_or hl1] at hu
    have htk : orF (fun c => (e.kids.take (p + 1)).any (freeIn c bd')) S1 = orF (fun c => (e.kids.take p).any (freeIn c bd') || freeIn c bd' u) S1 := orF_congr fun c => by rw [List.take_add_one, ht, List.any_append]; simp
    rw [← htk] at hu
    generalize orF (fun c => (e.kids.take p).any (freeIn c bd')) S1 = Z at *
    obtain ⟨Z', hZ'⟩ : ∃ Z', orF (fun c => (e.kids.take (p + 1)).any (freeIn c bd')) S1 = Z' := ⟨_, rfl⟩
    rw [hZ'] at hu
    repeat' first
      | ((first | refine aops_end (hK _ ?_)); clear hK K)
      | ((first | refine aops_go ?_); simp [hlt, hgt]; (try simp (disch := omega) only [wrap64]); (try (refine gen fun q hq => ?_; cases q <;> (try simp [hlt, hgt] at hq) <;> (try (have hh : True := hq; clear hh hq)))))
      | (refine wpcall_g [0] (by simp) rfl (by simp [inns_rowB]) hu ?_; simp [outn_rowB, seal_rowB])
      | refine T.rs (fun _ => false) fun K hK => ?_
      | refine T.rs1 (fun _ => false) fun K hK => ?_
      | refine T.cond rfl (fun hcnd => ?_) (fun hcnd => absurd hcnd (by decide))
      | refine T.seq ?_
      | refine T.block ?_
      | refine T.skip ?_
    refine ⟨(p + 1, G ++ [(aTm u).cells]), by dsimp only; omega, by dsimp only; omega, by dsimp only; rw [hZ']; rfl, ?_, ?_⟩ <;> simp (disch := omega) [wrap64]
  · have hp' : p = e.kids.length := by omega
    subst hp'
    rw [List.take_length]
    generalize orF (fun c => e.kids.any (freeIn c bd')) S1 = Z at *
    repeat' first
      | ((first | refine aops_end (hK _ ?_)); clear hK K)
      | ((first | refine aops_go ?_); simp [hlt]; (try (refine gen fun q hq => ?_; cases q <;> (try simp [hlt] at hq) <;> (try (have hh : True := hq; clear hh hq)))))
      | refine T.rs (fun _ => false) fun K hK => ?_
      | refine T.cond rfl (fun hcnd => absurd hcnd (by decide)) (fun hcnd => ?_)
      | refine T.seq ?_
      | refine T.exit ?_
    all_goals (refine Done.g (ys := []) (Or.inl rfl) ?_ rfl ?_ <;> simp [resAs, ress_rowB, Tryz.results143])

theorem free_ok {nt : Int} : ∀ (e : MTm) (d : Nat) (bd : List UInt8) (S : List Bool), shapeTm nt d e = true → S.length = 26 → bd.length + d ≤ 1000000 →
    ACalls Tryz.prog 143 [aTm e, .s bd, .c (.ptr 0 0)] [rowB S] (.tup []) [rowB (orF (fun c => freeIn c bd e) S)] [] := by
  intro e
  induction e using MTm.ind with
  | h e ih =>
    intro d bd S hs hS hbd
    obtain ⟨d', rfl, hne, hlen, hown, hkids⟩ := shapeTm_kids hs
    have hk3 : e.kids.length ≤ 3 := by have := kidsM_le e.kind; omega
    have ih' := fun (bd : List UInt8) (hbd : bd.length + d' ≤ 1000000) u hu (S : List Bool) hS => ih u hu d' bd S (hkids u hu) hS hbd
    by_cases h1 : e.kind = 1
    · have h5 : ¬ e.kind = 5 := by omega
      obtain ⟨z, hz, h97, h122⟩ := nameM_one (own_named hown (by simp [namedM, h1]))
      have h0 : e.kids = [] := by
        rw [h1] at hlen; simp [kidsM] at hlen; exact List.eq_nil_of_length_eq_zero (by omega)
      cases hin : bd.contains z with
      | false =>
        have := free_var e bd h1 z hz h97 h122 hin hk3 S hS (ih' bd (by omega))
        rw [orF_or hS] at this
        rw [orF_congr (g := fun c => decide (c = z) || e.kids.any (freeIn c bd)) (fun c => ?_)]
        · exact this
        · rw [freeIn_def, if_neg h5, hz]
          by_cases e : c = z
          · subst e; simp only [h1, hin]; simp
          · simp [h1, e, Ne.symm e]
      | true =>
        have := free_bnd e bd h1 z hz hin hk3 S hS (ih' bd (by omega))
        rw [orF_congr (g := fun c => e.kids.any (freeIn c bd)) (fun c => ?_)]
        · exact this
        · rw [freeIn_def, if_neg h5, hz]
          by_cases e : c = z
          · subst e; simp only [hin]; simp
          · simp [Ne.symm e]
    · by_cases h5 : e.kind = 5
      · obtain ⟨z, hz, _, _⟩ := nameM_one (own_named hown (by simp [namedM, h5]))
        have hnl : e.name.length = 1 := by rw [hz]; rfl
        have := free_lam e bd h1 h5 (by omega) hk3 S hS (ih' (bd ++ e.name) (by simp; omega))
        rw [orF_congr (g := fun c => e.kids.any (freeIn c (bd ++ e.name))) (fun c => ?_)]
        · exact this
        · rw [freeIn_def, if_pos h5]; simp [h1]
      · have := free_non e bd h1 h5 hk3 S hS (ih' bd (by omega))
        rw [orF_congr (g := fun c => e.kids.any (freeIn c bd)) (fun c => ?_)]
        · exact this
        · rw [freeIn_def, if_neg h5]; simp [h1]

theorem take_letters {p : Nat} (h : p < 26) : letters.take (p + 1) = letters.take p ++ [UInt8.ofNat (97 + p)] := by
  rw [List.take_add_one, letters_get h]; rfl
theorem freeNames_ok {nt : Int} (e : MTm) (d : Nat) (hd : d ≤ 1000000) (hs : shapeTm nt d e = true) : ACalls Tryz.prog 75 [aTm e] [] (.s (namesM e)) [] [] := by
  have h1 := free_ok e d [] noB hs noB_len (by simp; omega)
  obtain ⟨Z, hZ⟩ : ∃ Z, orF (fun c => freeIn c [] e) noB = Z := ⟨_, rfl⟩
  rw [hZ] at h1
  have hg : ∀ p, p < 26 → Z[p]? = some (freeIn (UInt8.ofNat (97 + p)) [] e) := fun p hp => by
    rw [← hZ, orF_get (b := false) hp (noB_get hp)]; simp
  have hzl : Z.length = 26 := by rw [← hZ]; exact orF_len noB_len
  have hnm : namesM e = (letters.take 26).filter fun c => freeIn c [] e := by rw [namesM, List.take_of_length_le (by rw [letters_len]; omega)]
  rw [hnm]
  clear hnm hZ
  generalize hf : (fun c => freeIn c [] e) = f at *
  have hg : ∀ p, p < 26 → Z[p]? = some (f (UInt8.ofNat (97 + p))) := fun p hp => by rw [hg p hp, ← hf]
  have ht26 : List.take 26 (rowB Z) = rowB Z := List.take_of_length_le (by simp [hzl])
  refine ACalls.of_body Tryz.func75 (by kernel_rfl) rfl (by kernel_rfl) (by simp [Tryz.ntmps75]) (by simp) ?_
  rw [Tryz.ntmps75]
  repeat' first
    | ((first | refine aops_end (hK _ ?_)); clear hK K)
    | ((first | refine aops_go ?_); simp [hzl, ht26]; (try (refine gen fun q hq => ?_; cases q <;> (try simp [hzl, ht26] at hq) <;> (try (have hh : True := hq; clear hh hq)))))
    | (refine wpcall_g [1] (by simp) rfl (by simp [inns_rowB]) h1 ?_; simp [outn_rowB, seal_rowB, hzl, ht26])
    | refine T.rs (fun _ => false) fun K hK => ?_
    | refine T.seq ?_
    | refine T.block ?_
  refine T.loopK (α := Nat × List (List CV)) [2, 9] (fun x => [(4, .s ((letters.take x.1).filter f)), (10, .i x.1)]) (fun x => []) (fun x => x.2) (fun x A => A) (fun x => 27 - x.1) (fun x => x.1 ≤ 26) (by simp; rfl) (fun x hx => ?_) (0, []) (by simp) (by simp) (by simp) (by simp)
  obtain ⟨p, G⟩ := x
  dsimp only at hx ⊢
  simp only [ups, List.set_cons_zero, List.set_cons_succ, List.cons_append, List.nil_append]
  by_cases hlt : p < 26
  · have hgp := hg p hlt
    have hw8 : IntKind.u8.wrap (97 + (p : Int)) = (97 + p : Nat) := by rw [show (97 + (p : Int)) = ((97 + p : Nat) : Int) by omega]; exact wrap8 (by omega)
    have hby : bytesOf [[DV.int .u8 ((97 + p : Nat) : Int)]] = some [UInt8.ofNat (97 + p)] := by simp only [bytesOf, byteOfRow]; rw [if_pos (by omega)]; rfl
    have htk := take_letters hlt
    have hcs : ((97 + p : Nat) : Int) = 97 + (p : Int) := by omega
    rw [hcs] at hw8 hby
    clear hcs
    obtain ⟨z, hz⟩ : ∃ z, UInt8.ofNat (97 + p) = z := ⟨_, rfl⟩
    rw [hz] at hgp hby htk
    have hlt' : (p : Int) < 26 := by omega
    have hfl : (List.filter f (List.take p letters)).length ≤ 4611686018427387903 := by
      have h8 := List.length_filter_le f (letters.take p)
      rw [List.length_take] at h8
      omega
    have hlt'' : ¬ (26 : Int) ≤ p := by omega
    cases hb : f z <;> rw [hb] at hgp
    · repeat' first
        | ((first | refine aops_end (hK _ ?_)); clear hK K)
        | ((first | refine aops_go ?_); simp [hlt, hlt', hlt'', hfl, hgp, hw8, hby]; (try simp (disch := omega) only [wrap64]); (try (refine gen fun q hq => ?_; cases q <;> (try simp [hlt, hlt', hlt'', hfl, hgp, hw8, hby] at hq) <;> (try (have hh : True := hq; clear hh hq)))))
        | (refine ⟨(p + 1, _), by dsimp only; omega, by dsimp only; omega, rfl, ?_, ?_⟩ <;> simp (disch := omega) [wrap64, htk, hb])
        | refine T.rs (fun _ => false) fun K hK => ?_
        | refine T.rs1 (fun _ => false) fun K hK => ?_
        | refine T.cond rfl (fun hcnd => ?_) (fun hcnd => absurd hcnd (by decide))
        | refine T.cond rfl (fun hcnd => absurd hcnd (by decide)) (fun hcnd => ?_)
        | refine T.seq ?_
        | refine T.block ?_
        | refine T.skip ?_
    · repeat' first
        | ((first | refine aops_end (hK _ ?_)); clear hK K)
        | ((first | refine aops_go ?_); simp [hlt, hlt', hlt'', hfl, hgp, hw8, hby]; (try simp (disch := omega) only [wrap64]); (try (refine gen fun q hq => ?_; cases q <;> (try simp [hlt, hlt', hlt'', hfl, hgp, hw8, hby] at hq) <;> (try (have hh : True := hq; clear hh hq)))))
        | (refine ⟨(p + 1, _), by dsimp only; omega, by dsimp only; omega, rfl, ?_, ?_⟩ <;> simp (disch := omega) [wrap64, htk, hb])
        | refine T.rs (fun _ => false) fun K hK => ?_
        | refine T.rs1 (fun _ => false) fun K hK => ?_
        | refine T.cond rfl (fun hcnd => ?_) (fun hcnd => absurd hcnd (by decide))
        | refine T.seq ?_
        | refine T.block ?_
        | refine T.skip ?_
  · have hp' : p = 26 := by omega
    subst hp'
    repeat' first
      | ((first | refine aops_end (hK _ ?_)); clear hK K)
      | ((first | refine aops_go ?_); simp [hlt]; (try (refine gen fun q hq => ?_; cases q <;> (try simp [hlt] at hq) <;> (try (have hh : True := hq; clear hh hq)))))
      | (refine T.ret (Done.val (Or.inr rfl) ?_) <;> simp [resAs, Tryz.results75] <;> omega)
      | refine T.rs (fun _ => false) fun K hK => ?_
      | refine T.cond rfl (fun hcnd => absurd hcnd (by decide)) (fun hcnd => ?_)
      | refine T.seq ?_
      | refine T.exit ?_

theorem FreeNames_ok (e : MTm) (hn : nTm e ≤ 1099511627776) : ACalls Tryz.prog 19 [aTm e] [] (.s (if termValidM e = true then namesM e else [])) [] [] := by
  have h1 := TermValid_ok e hn
  cases hv : termValidM e with
  | false =>
    rw [hv] at h1
    simp only [Bool.false_eq_true, if_false]
    refine ACalls.of_body Tryz.func19 (by kernel_rfl) rfl (by kernel_rfl) (by simp [Tryz.ntmps19]) (by simp) ?_
    rw [Tryz.ntmps19]
    repeat' first
      | ((first | refine aops_end (hK _ ?_) | refine aopsD_end (hK _ ?_)); clear hK K)
      | ((first | refine aops_go ?_ | refine aopsD_go ?_); simp; (try (refine gen fun q hq => ?_; cases q <;> (try simp at hq) <;> (try (have hh : True := hq; clear hh hq)))))
      | (refine wpcall_pure rfl (h1) ?_; simp; (try (refine gen fun q hq => ?_; cases q <;> (try simp at hq) <;> (try (have hh : True := hq; clear hh hq)))))
      | (refine T.ret (Done.data (Or.inr rfl) ?_ ?_) <;> simp [Tryz.results19] <;> omega)
      | refine T.rs (fun _ => false) fun K hK => ?_
      | refine T.rs1 (fun _ => false) fun K hK => ?_
      | refine T.rd mixed (fun _ => false) [] (by kernel_rfl) fun K hK => ?_
      | refine T.rd1 mixed (fun _ => false) [] (by kernel_rfl) fun K hK => ?_
      | (refine ⟨by omega, ?_⟩)
      | refine T.cond rfl (fun hcnd => ?_) (fun hcnd => absurd hcnd (by decide))
      | refine T.cond rfl (fun hcnd => absurd hcnd (by decide)) (fun hcnd => ?_)
      | refine T.seq ?_
      | refine T.block ?_
      | refine T.skip ?_
      | refine T.exit ?_
  | true =>
    rw [hv] at h1
    have h2 := freeNames_ok e 12 (by omega) (termValid_parts hv).shape
    simp only [if_true]
    refine ACalls.of_body Tryz.func19 (by kernel_rfl) rfl (by kernel_rfl) (by simp [Tryz.ntmps19]) (by simp) ?_
    rw [Tryz.ntmps19]
    repeat' first
      | ((first | refine aops_end (hK _ ?_) | refine aopsD_end (hK _ ?_)); clear hK K)
      | ((first | refine aops_go ?_ | refine aopsD_go ?_); simp; (try (refine gen fun q hq => ?_; cases q <;> (try simp at hq) <;> (try (have hh : True := hq; clear hh hq)))))
      | (refine wpcall_pure rfl (h1) ?_; simp; (try (refine gen fun q hq => ?_; cases q <;> (try simp at hq) <;> (try (have hh : True := hq; clear hh hq)))))
      | (refine wpcall_pure rfl (h2) ?_; simp; (try (refine gen fun q hq => ?_; cases q <;> (try simp at hq) <;> (try (have hh : True := hq; clear hh hq)))))
      | (refine T.ret (Done.data (Or.inr rfl) ?_ ?_) <;> simp [Tryz.results19] <;> omega)
      | refine T.rs (fun _ => false) fun K hK => ?_
      | refine T.rs1 (fun _ => false) fun K hK => ?_
      | refine T.rd mixed (fun _ => false) [] (by kernel_rfl) fun K hK => ?_
      | refine T.rd1 mixed (fun _ => false) [] (by kernel_rfl) fun K hK => ?_
      | (refine ⟨by omega, ?_⟩)
      | refine T.cond rfl (fun hcnd => ?_) (fun hcnd => absurd hcnd (by decide))
      | refine T.cond rfl (fun hcnd => absurd hcnd (by decide)) (fun hcnd => ?_)
      | refine T.seq ?_
      | refine T.block ?_
      | refine T.skip ?_
      | refine T.exit ?_

end Go.Proofs.YtfdknjjnifnobaaGreat

namespace Go.Proofs.YtfdknjjnifnobaaGreat
open Go Go.Av
attribute [local irreducible] T ACalls TX EX LX Draws Some_ ACallsX eTy eTm MTy.kind MTy.kids MTm.kind MTm.name MTm.num MTm.ty MTm.fr MTm.label MTm.kids
attribute [local simp] eTy_def eTm_def
set_option linter.unusedSimpArgs false
set_option linter.unusedVariables false
set_option maxHeartbeats 16000000
set_option maxRecDepth 8000

theorem sum_take_le {α : Type} (f : α → Nat) : ∀ (l : List α) (p : Nat), ((l.take p).map f).sum ≤ (l.map f).sum
  | [], p => by simp
  | x :: r, 0 => by simp
  | x :: r, p + 1 => by have := sum_take_le f r p; simp only [List.take_succ_cons, List.map_cons, List.sum_cons]; omega
theorem sum_take_one {α : Type} (f : α → Nat) {l : List α} {p : Nat} {u : α} (h : l[p]? = some u) : ((l.take (p + 1)).map f).sum = ((l.take p).map f).sum + f u := by
  rw [List.take_add_one, h]; simp
def cntP (l : List MTy) (p : Nat) : Nat := ((l.take p).map cntM).sum
theorem cntP_zero (l : List MTy) : cntP l 0 = 0 := by simp [cntP]
theorem cntP_one {l : List MTy} {p : Nat} {u : MTy} (h : l[p]? = some u) : cntP l (p + 1) = cntP l p + cntM u := sum_take_one cntM h
theorem cntP_le (l : List MTy) (p : Nat) : cntP l p ≤ (l.map cntM).sum := sum_take_le cntM l p
theorem cntP_all (l : List MTy) : cntP l l.length = (l.map cntM).sum := by rw [cntP, List.take_length]

theorem count_i : ∀ (e : MTy), nTy e ≤ 1099511627776 → ACalls Tryz.prog 83 [aTy e] [] (.i (cntM e)) [] [] := by
  intro e
  induction e using MTy.ind with
  | h e ih =>
    intro hn
    have hle := cntM_le e
    rw [cntM_def] at hle ⊢
    by_cases h1 : e.kind = 1
    · simp only [h1, if_true]
      refine ACalls.of_body Tryz.func83 (by kernel_rfl) rfl (by kernel_rfl) (by simp [Tryz.ntmps83]) (by simp) ?_
      rw [Tryz.ntmps83]
      repeat' first
        | ((first | refine aops_end (hK _ ?_) | refine aopsD_end (hK _ ?_) | refine aopsF_end (hK _ ?_)); clear hK K)
        | ((first | refine aops_go ?_ | refine aopsD_go ?_ | refine aopsF_go ?_); simp [h1]; (try (refine gen fun q hq => ?_; cases q <;> (try simp [h1] at hq) <;> (try (have hh : True := hq; clear hh hq)))))
        | (refine T.ret (Done.data (Or.inr rfl) ?_ ?_) <;> simp [Tryz.results83] <;> omega)
        | refine T.rs (fun _ => false) fun K hK => ?_
        | refine T.rs1 (fun _ => false) fun K hK => ?_
        | (refine ⟨by omega, ?_⟩)
        | refine T.cond rfl (fun hcnd => ?_) (fun hcnd => absurd hcnd (by decide))
        | refine T.cond rfl (fun hcnd => absurd hcnd (by decide)) (fun hcnd => ?_)
        | refine T.seq ?_
        | refine T.block ?_
        | refine T.skip ?_
        | refine T.exit ?_
    rw [if_neg h1] at hle ⊢
    have hkl : e.kids.length ≤ 1099511627776 := by have := nTyS_len e.kids; rw [nTy_def] at hn; omega
    refine ACalls.of_body Tryz.func83 (by kernel_rfl) rfl (by kernel_rfl) (by simp [Tryz.ntmps83]) (by simp) ?_
    rw [Tryz.ntmps83]
    repeat' first
      | ((first | refine aops_end (hK _ ?_) | refine aopsD_end (hK _ ?_) | refine aopsF_end (hK _ ?_)); clear hK K)
      | ((first | refine aops_go ?_ | refine aopsD_go ?_ | refine aopsF_go ?_); simp [h1]; (try (refine gen fun q hq => ?_; cases q <;> (try simp [h1] at hq) <;> (try (have hh : True := hq; clear hh hq)))))
      | refine T.rs (fun _ => false) fun K hK => ?_
      | refine T.rs1 (fun _ => false) fun K hK => ?_
      | (refine ⟨by omega, ?_⟩)
      | refine T.cond rfl (fun hcnd => ?_) (fun hcnd => absurd hcnd (by decide))
      | refine T.cond rfl (fun hcnd => absurd hcnd (by decide)) (fun hcnd => ?_)
      | refine T.seq ?_
      | refine T.block ?_
      | refine T.skip ?_
      | refine T.exit ?_
    refine T.loopK (α := Nat × List (List CV)) [2, 10, 11] (fun x => [(3, .i (cntP e.kids x.1)), (12, .i x.1)]) (fun x => []) (fun x => x.2) (fun x A => A) (fun x => e.kids.length + 1 - x.1) (fun x => x.1 ≤ e.kids.length) (by simp; rfl) (fun x hx => ?_) (0, []) (by simp) (by simp) (by simp [cntP_zero]) (by simp [cntP_zero])
    obtain ⟨p, G⟩ := x
    dsimp only at hx ⊢
    simp only [ups, List.set_cons_zero, List.set_cons_succ, List.cons_append, List.nil_append]
    by_cases hlt : p < e.kids.length
    · obtain ⟨u, ht⟩ := get_lt hlt
      have htm : u ∈ e.kids := List.mem_of_getElem? ht
      have hgt : e.kids[p] = u := by rw [List.getElem?_eq_getElem hlt] at ht; exact Option.some.inj ht
      have hdr : e.kids.drop p = u :: e.kids.drop (p + 1) := by rw [List.drop_eq_getElem_cons hlt, hgt]
      have hu := ih u htm (by have := nTyS_mem htm; rw [nTy_def] at hn; omega)
      have hs := cntP_one ht
      have hb := cntP_le e.kids (p + 1)
      generalize cntP e.kids p = S at *
      have hs' : (cntP e.kids (p + 1) : Int) = S + cntM u := by omega
      repeat' first
        | ((first | refine aops_end (hK _ ?_) | refine aopsD_end (hK _ ?_) | refine aopsF_end (hK _ ?_)); clear hK K)
        | ((first | refine aops_go ?_ | refine aopsD_go ?_ | refine aopsF_go ?_); simp [hlt, hgt]; (try simp (disch := omega) only [wrap64]); (try (refine gen fun q hq => ?_; cases q <;> (try simp [hlt, hgt] at hq) <;> (try (have hh : True := hq; clear hh hq)))))
        | (refine wpcall_pure rfl (hu) ?_; simp [hlt, hgt]; (try simp (disch := omega) only [wrap64]); (try (refine gen fun q hq => ?_; cases q <;> (try simp [hlt, hgt] at hq) <;> (try (have hh : True := hq; clear hh hq)))))
        | (refine ⟨(p + 1, _), by dsimp only; omega, by dsimp only; omega, rfl, ?_, ?_⟩ <;> simp (disch := omega) [wrap64, hs'])
        | refine T.rs (fun _ => false) fun K hK => ?_
        | refine T.rs1 (fun _ => false) fun K hK => ?_
        | (refine ⟨by omega, ?_⟩)
        | refine T.cond rfl (fun hcnd => ?_) (fun hcnd => absurd hcnd (by decide))
        | refine T.cond rfl (fun hcnd => absurd hcnd (by decide)) (fun hcnd => ?_)
        | refine T.seq ?_
        | refine T.block ?_
        | refine T.skip ?_
        | refine T.exit ?_
    · have hp' : p = e.kids.length := by omega
      subst hp'
      rw [cntP_all]
      repeat' first
        | ((first | refine aops_end (hK _ ?_) | refine aopsD_end (hK _ ?_) | refine aopsF_end (hK _ ?_)); clear hK K)
        | ((first | refine aops_go ?_ | refine aopsD_go ?_ | refine aopsF_go ?_); simp [hlt]; (try (refine gen fun q hq => ?_; cases q <;> (try simp [hlt] at hq) <;> (try (have hh : True := hq; clear hh hq)))))
        | (refine T.ret (Done.val (Or.inr rfl) ?_) <;> simp [resAs, Tryz.results83] <;> omega)
        | refine T.rs (fun _ => false) fun K hK => ?_
        | refine T.rs1 (fun _ => false) fun K hK => ?_
        | (refine ⟨by omega, ?_⟩)
        | refine T.cond rfl (fun hcnd => ?_) (fun hcnd => absurd hcnd (by decide))
        | refine T.cond rfl (fun hcnd => absurd hcnd (by decide)) (fun hcnd => ?_)
        | refine T.seq ?_
        | refine T.block ?_
        | refine T.skip ?_
        | refine T.exit ?_

theorem count_s : ∀ (e : MTy), nTy e ≤ 1099511627776 → ACalls Tryz.prog 91 [aTy e] [] (.i (cntM e)) [] [] := by
  intro e
  induction e using MTy.ind with
  | h e ih =>
    intro hn
    have hle := cntM_le e
    rw [cntM_def] at hle ⊢
    by_cases h1 : e.kind = 1
    · simp only [h1, if_true]
      refine ACalls.of_body Tryz.func91 (by kernel_rfl) rfl (by kernel_rfl) (by simp [Tryz.ntmps91]) (by simp) ?_
      rw [Tryz.ntmps91]
      repeat' first
        | ((first | refine aops_end (hK _ ?_) | refine aopsD_end (hK _ ?_) | refine aopsF_end (hK _ ?_)); clear hK K)
        | ((first | refine aops_go ?_ | refine aopsD_go ?_ | refine aopsF_go ?_); simp [h1]; (try (refine gen fun q hq => ?_; cases q <;> (try simp [h1] at hq) <;> (try (have hh : True := hq; clear hh hq)))))
        | (refine T.ret (Done.data (Or.inr rfl) ?_ ?_) <;> simp [Tryz.results91] <;> omega)
        | refine T.rs (fun _ => false) fun K hK => ?_
        | refine T.rs1 (fun _ => false) fun K hK => ?_
        | (refine ⟨by omega, ?_⟩)
        | refine T.cond rfl (fun hcnd => ?_) (fun hcnd => absurd hcnd (by decide))
        | refine T.cond rfl (fun hcnd => absurd hcnd (by decide)) (fun hcnd => ?_)
        | refine T.seq ?_
        | refine T.block ?_
        | refine T.skip ?_
        | refine T.exit ?_
    rw [if_neg h1] at hle ⊢
    have hkl : e.kids.length ≤ 1099511627776 := by have := nTyS_len e.kids; rw [nTy_def] at hn; omega
    refine ACalls.of_body Tryz.func91 (by kernel_rfl) rfl (by kernel_rfl) (by simp [Tryz.ntmps91]) (by simp) ?_
    rw [Tryz.ntmps91]
    repeat' first
      | ((first | refine aops_end (hK _ ?_) | refine aopsD_end (hK _ ?_) | refine aopsF_end (hK _ ?_)); clear hK K)
      | ((first | refine aops_go ?_ | refine aopsD_go ?_ | refine aopsF_go ?_); simp [h1]; (try (refine gen fun q hq => ?_; cases q <;> (try simp [h1] at hq) <;> (try (have hh : True := hq; clear hh hq)))))
      | refine T.rs (fun _ => false) fun K hK => ?_
      | refine T.rs1 (fun _ => false) fun K hK => ?_
      | (refine ⟨by omega, ?_⟩)
      | refine T.cond rfl (fun hcnd => ?_) (fun hcnd => absurd hcnd (by decide))
      | refine T.cond rfl (fun hcnd => absurd hcnd (by decide)) (fun hcnd => ?_)
      | refine T.seq ?_
      | refine T.block ?_
      | refine T.skip ?_
      | refine T.exit ?_
    refine T.loopK (α := Nat × List (List CV)) [1, 2] (fun x => [(3, .i (cntP e.kids x.1)), (4, .i x.1)]) (fun x => []) (fun x => x.2) (fun x A => A) (fun x => e.kids.length + 1 - x.1) (fun x => x.1 ≤ e.kids.length) (by simp; rfl) (fun x hx => ?_) (0, []) (by simp) (by simp) (by simp [cntP_zero]) (by simp [cntP_zero])
    obtain ⟨p, G⟩ := x
    dsimp only at hx ⊢
    simp only [ups, List.set_cons_zero, List.set_cons_succ, List.cons_append, List.nil_append]
    by_cases hlt : p < e.kids.length
    · obtain ⟨u, ht⟩ := get_lt hlt
      have htm : u ∈ e.kids := List.mem_of_getElem? ht
      have hgt : e.kids[p] = u := by rw [List.getElem?_eq_getElem hlt] at ht; exact Option.some.inj ht
      have hdr : e.kids.drop p = u :: e.kids.drop (p + 1) := by rw [List.drop_eq_getElem_cons hlt, hgt]
      have hu := ih u htm (by have := nTyS_mem htm; rw [nTy_def] at hn; omega)
      have hs := cntP_one ht
      have hb := cntP_le e.kids (p + 1)
      generalize cntP e.kids p = S at *
      have hs' : (cntP e.kids (p + 1) : Int) = S + cntM u := by omega
      repeat' first
        | ((first | refine aops_end (hK _ ?_) | refine aopsD_end (hK _ ?_) | refine aopsF_end (hK _ ?_)); clear hK K)
        | ((first | refine aops_go ?_ | refine aopsD_go ?_ | refine aopsF_go ?_); simp [hlt, hgt]; (try simp (disch := omega) only [wrap64]); (try (refine gen fun q hq => ?_; cases q <;> (try simp [hlt, hgt] at hq) <;> (try (have hh : True := hq; clear hh hq)))))
        | (refine wpcall_pure rfl (hu) ?_; simp [hlt, hgt]; (try simp (disch := omega) only [wrap64]); (try (refine gen fun q hq => ?_; cases q <;> (try simp [hlt, hgt] at hq) <;> (try (have hh : True := hq; clear hh hq)))))
        | (refine ⟨(p + 1, _), by dsimp only; omega, by dsimp only; omega, rfl, ?_, ?_⟩ <;> simp (disch := omega) [wrap64, hs'])
        | refine T.rs (fun _ => false) fun K hK => ?_
        | refine T.rs1 (fun _ => false) fun K hK => ?_
        | (refine ⟨by omega, ?_⟩)
        | refine T.cond rfl (fun hcnd => ?_) (fun hcnd => absurd hcnd (by decide))
        | refine T.cond rfl (fun hcnd => absurd hcnd (by decide)) (fun hcnd => ?_)
        | refine T.seq ?_
        | refine T.block ?_
        | refine T.skip ?_
        | refine T.exit ?_
    · have hp' : p = e.kids.length := by omega
      subst hp'
      rw [cntP_all]
      repeat' first
        | ((first | refine aops_end (hK _ ?_) | refine aopsD_end (hK _ ?_) | refine aopsF_end (hK _ ?_)); clear hK K)
        | ((first | refine aops_go ?_ | refine aopsD_go ?_ | refine aopsF_go ?_); simp [hlt]; (try (refine gen fun q hq => ?_; cases q <;> (try simp [hlt] at hq) <;> (try (have hh : True := hq; clear hh hq)))))
        | (refine T.ret (Done.val (Or.inr rfl) ?_) <;> simp [resAs, Tryz.results91] <;> omega)
        | refine T.rs (fun _ => false) fun K hK => ?_
        | refine T.rs1 (fun _ => false) fun K hK => ?_
        | (refine ⟨by omega, ?_⟩)
        | refine T.cond rfl (fun hcnd => ?_) (fun hcnd => absurd hcnd (by decide))
        | refine T.cond rfl (fun hcnd => absurd hcnd (by decide)) (fun hcnd => ?_)
        | refine T.seq ?_
        | refine T.block ?_
        | refine T.skip ?_
        | refine T.exit ?_

theorem IsStatic_ok (t : MTy) (hn : nTy t ≤ 1099511627776) : ACalls Tryz.prog 34 [aTy t] [] (.b (shapeTy 4 t && decide (cntM t = 0))) [] [] := by
  have h1 := TypeValid_ok t hn
  have h2 := count_i t hn
  have e : decide (cntM t = 0) = decide ((cntM t : Int) = 0) := decide_eq_decide.2 (by omega)
  rw [e]
  generalize cntM t = n at *
  refine ACalls.of_body Tryz.func34 (by kernel_rfl) rfl (by kernel_rfl) (by simp [Tryz.ntmps34]) (by simp) ?_
  rw [Tryz.ntmps34]
  repeat' first
    | ((first | refine aops_end (hK _ ?_) | refine aopsD_end (hK _ ?_) | refine aopsF_end (hK _ ?_)); clear hK K)
    | ((first | refine aops_go ?_ | refine aopsD_go ?_ | refine aopsF_go ?_); simp; (try (refine gen fun q hq => ?_; cases q <;> (try simp at hq) <;> (try (have hh : True := hq; clear hh hq)))))
    | (refine wpcall_pure rfl (h1) ?_; simp; (try (refine gen fun q hq => ?_; cases q <;> (try simp at hq) <;> (try (have hh : True := hq; clear hh hq)))))
    | (refine wpcall_pure rfl (h2) ?_; simp; (try (refine gen fun q hq => ?_; cases q <;> (try simp at hq) <;> (try (have hh : True := hq; clear hh hq)))))
    | (refine T.ret (Done.data (Or.inr rfl) ?_ ?_) <;> simp [Tryz.results34, *] <;> omega)
    | refine T.rs (fun _ => false) fun K hK => ?_
    | refine T.rs1 (fun _ => false) fun K hK => ?_
    | (refine ⟨by omega, ?_⟩)
    | refine T.cond rfl (fun hcnd => ?_) (fun hcnd => absurd hcnd (by decide))
    | refine T.cond rfl (fun hcnd => absurd hcnd (by decide)) (fun hcnd => ?_)
    | refine T.seq ?_
    | refine T.block ?_
    | refine T.skip ?_
    | refine T.exit ?_

theorem Static1_ok (t : MTy) (hn : nTy t ≤ 1099511627776) : ACalls Tryz.prog 82 [aTy t] [] (.b (decide (0 < cntM t))) [] [] := by
  have h2 := count_i t hn
  have e : decide (0 < cntM t) = decide ((0 : Int) < cntM t) := decide_eq_decide.2 (by omega)
  rw [e]
  generalize cntM t = n at *
  refine ACalls.of_body Tryz.func82 (by kernel_rfl) rfl (by kernel_rfl) (by simp [Tryz.ntmps82]) (by simp) ?_
  rw [Tryz.ntmps82]
  repeat' first
    | ((first | refine aops_end (hK _ ?_) | refine aopsD_end (hK _ ?_) | refine aopsF_end (hK _ ?_)); clear hK K)
    | ((first | refine aops_go ?_ | refine aopsD_go ?_ | refine aopsF_go ?_); simp)
    | (refine wpcall_pure rfl (h2) ?_; simp)
    | (refine T.ret (Done.data (Or.inr rfl) ?_ ?_) <;> simp [Tryz.results82, *] <;> omega)
    | refine T.rs (fun _ => false) fun K hK => ?_
    | refine T.rs1 (fun _ => false) fun K hK => ?_
    | (refine ⟨by omega, ?_⟩)
    | refine T.cond rfl (fun hcnd => ?_) (fun hcnd => absurd hcnd (by decide))
    | refine T.cond rfl (fun hcnd => absurd hcnd (by decide)) (fun hcnd => ?_)
    | refine T.seq ?_
    | refine T.block ?_
    | refine T.skip ?_
    | refine T.exit ?_

theorem types_yes (e : MTm) (hh : hasTyM e.kind = true) (hn : nTm e ≤ 1099511627776)
    (ih : ∀ u ∈ e.kids, ACalls Tryz.prog 81 [aTm u] [] (.c (.own 0 (typesM u).length)) [] [{ sz := 2, ety := 25, rows := (typesM u).map eTy, wr := true }]) :
    ACalls Tryz.prog 81 [aTm e] [] (.c (.own 0 ([e.ty] ++ typesS e.kids).length)) [] [{ sz := 2, ety := 25, rows := ([e.ty] ++ typesS e.kids).map eTy, wr := true }] := by
  obtain ⟨hnt, hnf, hnk, hnu⟩ := nTm_parts hn
  have h1 := ownType_ok e.ty hnt
  have h2 := hasType_ok e
  rw [hh] at h2
  have hsm : (typesS e.kids).length ≤ 1099511627777 := by have := (typesM_small e).2; rw [typesM_def] at this; simp only [List.length_append] at this; omega
  refine ACalls.of_body Tryz.func81 (by kernel_rfl) rfl (by kernel_rfl) (by simp [Tryz.ntmps81]) (by simp) ?_
  rw [Tryz.ntmps81]
  repeat' first
    | ((first | refine aops_end (hK _ ?_) | refine aopsD_end (hK _ ?_) | refine aopsF_end (hK _ ?_)); clear hK K)
    | ((first | refine aops_go ?_ | refine aopsD_go ?_ | refine aopsF_go ?_); simp; (try (refine gen fun q hq => ?_; cases q <;> (try simp at hq) <;> (try (have hh : True := hq; clear hh hq)))))
    | (refine wpcall_pure rfl (h2) ?_; simp; (try (refine gen fun q hq => ?_; cases q <;> (try simp at hq) <;> (try (have hh : True := hq; clear hh hq)))))
    | (refine wpcall_pure rfl (h1) ?_; simp; (try (refine gen fun q hq => ?_; cases q <;> (try simp at hq) <;> (try (have hh : True := hq; clear hh hq)))))
    | (refine ⟨by omega, by omega, ?_⟩)
    | refine T.rs (fun _ => false) fun K hK => ?_
    | refine T.rs1 (fun _ => false) fun K hK => ?_
    | (refine ⟨by omega, ?_⟩)
    | refine T.cond rfl (fun hcnd => ?_) (fun hcnd => absurd hcnd (by decide))
    | refine T.cond rfl (fun hcnd => absurd hcnd (by decide)) (fun hcnd => ?_)
    | refine T.seq ?_
    | refine T.block ?_
    | refine T.skip ?_
    | refine T.exit ?_
  refine T.loopK (α := Nat × List (List CV) × List Arr) [2, 15, 16] (fun x => [(3, .c (.own 0 ([e.ty] ++ typesS (e.kids.take x.1)).length)), (17, .i x.1)]) (fun x => []) (fun x => x.2.1) (fun x _ => { sz := 2, ety := 25, rows := ([e.ty] ++ typesS (e.kids.take x.1)).map eTy, wr := true } :: x.2.2) (fun x => e.kids.length + 1 - x.1) (fun x => x.1 ≤ e.kids.length) (by simp; rfl) (fun x hx => ?_) (0, [], []) (by simp) (by simp) (by simp [typesS, eTy_def]) (by simp [typesS])
  obtain ⟨p, G, GA⟩ := x
  dsimp only at hx ⊢
  simp only [ups, List.set_cons_zero, List.set_cons_succ, List.cons_append, List.nil_append]
  by_cases hlt : p < e.kids.length
  · obtain ⟨u, ht⟩ := get_lt hlt
    have htm : u ∈ e.kids := List.mem_of_getElem? ht
    have hgt : e.kids[p] = u := by rw [List.getElem?_eq_getElem hlt] at ht; exact Option.some.inj ht
    have hdr : e.kids.drop p = u :: e.kids.drop (p + 1) := by rw [List.drop_eq_getElem_cons hlt, hgt]
    have hu := ih u htm
    have htk : typesS (e.kids.take (p + 1)) = typesS (e.kids.take p) ++ typesM u := typesS_take ht
    have hle := typesS_le e.kids (p + 1)
    rw [htk, List.length_append] at hle
    generalize typesS (e.kids.take p) = Z at *
    generalize typesM u = tu at *
    repeat' first
      | ((first | refine aops_end (hK _ ?_) | refine aopsD_end (hK _ ?_) | refine aopsF_end (hK _ ?_)); clear hK K)
      | ((first | refine aops_go ?_ | refine aopsD_go ?_ | refine aopsF_go ?_); simp [hlt, hgt]; (try simp (disch := omega) only [wrap64]); (try (refine gen fun q hq => ?_; cases q <;> (try simp [hlt, hgt] at hq) <;> (try (have hh : True := hq; clear hh hq)))))
      | (refine wpcall_own rfl (hu) ?_; simp [hlt, hgt]; (try simp (disch := omega) only [wrap64]); (try (refine gen fun q hq => ?_; cases q <;> (try simp [hlt, hgt] at hq) <;> (try (have hh : True := hq; clear hh hq)))))
      | (refine ⟨by omega, by omega, ?_⟩)
      | (refine ⟨(p + 1, _, GA ++ [{ sz := 2, ety := 25, rows := tu.map eTy, wr := true }]), by dsimp only; omega, by dsimp only; omega, rfl, ?_, ?_⟩ <;> simp (disch := omega) [wrap64, htk, eTy_def] <;> omega)
      | refine T.rs (fun _ => false) fun K hK => ?_
      | refine T.rs1 (fun _ => false) fun K hK => ?_
      | (refine ⟨by omega, ?_⟩)
      | refine T.cond rfl (fun hcnd => ?_) (fun hcnd => absurd hcnd (by decide))
      | refine T.cond rfl (fun hcnd => absurd hcnd (by decide)) (fun hcnd => ?_)
      | refine T.seq ?_
      | refine T.block ?_
      | refine T.skip ?_
      | refine T.exit ?_
  · have hp' : p = e.kids.length := by omega
    subst hp'
    rw [List.take_length]
    repeat' first
      | ((first | refine aops_end (hK _ ?_) | refine aopsD_end (hK _ ?_) | refine aopsF_end (hK _ ?_)); clear hK K)
      | ((first | refine aops_go ?_ | refine aopsD_go ?_ | refine aopsF_go ?_); simp [hlt]; (try (refine gen fun q hq => ?_; cases q <;> (try simp [hlt] at hq) <;> (try (have hh : True := hq; clear hh hq)))))
      | refine T.rs (fun _ => false) fun K hK => ?_
      | refine T.rs1 (fun _ => false) fun K hK => ?_
      | (refine ⟨by omega, ?_⟩)
      | refine T.cond rfl (fun hcnd => ?_) (fun hcnd => absurd hcnd (by decide))
      | refine T.cond rfl (fun hcnd => absurd hcnd (by decide)) (fun hcnd => ?_)
      | refine T.seq ?_
      | refine T.block ?_
      | refine T.skip ?_
      | refine T.exit ?_
    all_goals (refine T.ret (Done.own1 0 (Or.inr rfl) (ys := [_]) ?_ rfl ?_) <;> simp [resAs, Tryz.results81])

theorem types_no (e : MTm) (hh : hasTyM e.kind = false) (hn : nTm e ≤ 1099511627776)
    (ih : ∀ u ∈ e.kids, ACalls Tryz.prog 81 [aTm u] [] (.c (.own 0 (typesM u).length)) [] [{ sz := 2, ety := 25, rows := (typesM u).map eTy, wr := true }]) :
    ACalls Tryz.prog 81 [aTm e] [] (.c (.own 0 ([] ++ typesS e.kids).length)) [] [{ sz := 2, ety := 25, rows := ([] ++ typesS e.kids).map eTy, wr := true }] := by
  obtain ⟨hnt, hnf, hnk, hnu⟩ := nTm_parts hn
  have h1 := ownType_ok e.ty hnt
  have h2 := hasType_ok e
  rw [hh] at h2
  have hsm : (typesS e.kids).length ≤ 1099511627777 := by have := (typesM_small e).2; rw [typesM_def] at this; simp only [List.length_append] at this; omega
  refine ACalls.of_body Tryz.func81 (by kernel_rfl) rfl (by kernel_rfl) (by simp [Tryz.ntmps81]) (by simp) ?_
  rw [Tryz.ntmps81]
  repeat' first
    | ((first | refine aops_end (hK _ ?_) | refine aopsD_end (hK _ ?_) | refine aopsF_end (hK _ ?_)); clear hK K)
    | ((first | refine aops_go ?_ | refine aopsD_go ?_ | refine aopsF_go ?_); simp; (try (refine gen fun q hq => ?_; cases q <;> (try simp at hq) <;> (try (have hh : True := hq; clear hh hq)))))
    | (refine wpcall_pure rfl (h2) ?_; simp; (try (refine gen fun q hq => ?_; cases q <;> (try simp at hq) <;> (try (have hh : True := hq; clear hh hq)))))
    | (refine wpcall_pure rfl (h1) ?_; simp; (try (refine gen fun q hq => ?_; cases q <;> (try simp at hq) <;> (try (have hh : True := hq; clear hh hq)))))
    | (refine ⟨by omega, by omega, ?_⟩)
    | refine T.rs (fun _ => false) fun K hK => ?_
    | refine T.rs1 (fun _ => false) fun K hK => ?_
    | (refine ⟨by omega, ?_⟩)
    | refine T.cond rfl (fun hcnd => ?_) (fun hcnd => absurd hcnd (by decide))
    | refine T.cond rfl (fun hcnd => absurd hcnd (by decide)) (fun hcnd => ?_)
    | refine T.seq ?_
    | refine T.block ?_
    | refine T.skip ?_
    | refine T.exit ?_
  refine T.ownify 3 2 25 (by simp) ?_
  refine T.loopK (α := Nat × List (List CV) × List Arr) [2, 15, 16] (fun x => [(3, .c (.own 0 ([] ++ typesS (e.kids.take x.1)).length)), (17, .i x.1)]) (fun x => []) (fun x => x.2.1) (fun x _ => { sz := 2, ety := 25, rows := ([] ++ typesS (e.kids.take x.1)).map eTy, wr := true } :: x.2.2) (fun x => e.kids.length + 1 - x.1) (fun x => x.1 ≤ e.kids.length) (by simp; rfl) (fun x hx => ?_) (0, [], []) (by simp) (by simp) (by simp [typesS, eTy_def]) (by simp [typesS])
  obtain ⟨p, G, GA⟩ := x
  dsimp only at hx ⊢
  simp only [ups, List.set_cons_zero, List.set_cons_succ, List.cons_append, List.nil_append]
  by_cases hlt : p < e.kids.length
  · obtain ⟨u, ht⟩ := get_lt hlt
    have htm : u ∈ e.kids := List.mem_of_getElem? ht
    have hgt : e.kids[p] = u := by rw [List.getElem?_eq_getElem hlt] at ht; exact Option.some.inj ht
    have hdr : e.kids.drop p = u :: e.kids.drop (p + 1) := by rw [List.drop_eq_getElem_cons hlt, hgt]
    have hu := ih u htm
    have htk : typesS (e.kids.take (p + 1)) = typesS (e.kids.take p) ++ typesM u := typesS_take ht
    have hle := typesS_le e.kids (p + 1)
    rw [htk, List.length_append] at hle
    generalize typesS (e.kids.take p) = Z at *
    generalize typesM u = tu at *
    repeat' first
      | ((first | refine aops_end (hK _ ?_) | refine aopsD_end (hK _ ?_) | refine aopsF_end (hK _ ?_)); clear hK K)
      | ((first | refine aops_go ?_ | refine aopsD_go ?_ | refine aopsF_go ?_); simp [hlt, hgt]; (try simp (disch := omega) only [wrap64]); (try (refine gen fun q hq => ?_; cases q <;> (try simp [hlt, hgt] at hq) <;> (try (have hh : True := hq; clear hh hq)))))
      | (refine wpcall_own rfl (hu) ?_; simp [hlt, hgt]; (try simp (disch := omega) only [wrap64]); (try (refine gen fun q hq => ?_; cases q <;> (try simp [hlt, hgt] at hq) <;> (try (have hh : True := hq; clear hh hq)))))
      | (refine ⟨by omega, by omega, ?_⟩)
      | (refine ⟨(p + 1, _, GA ++ [{ sz := 2, ety := 25, rows := tu.map eTy, wr := true }]), by dsimp only; omega, by dsimp only; omega, rfl, ?_, ?_⟩ <;> simp (disch := omega) [wrap64, htk, eTy_def] <;> omega)
      | refine T.rs (fun _ => false) fun K hK => ?_
      | refine T.rs1 (fun _ => false) fun K hK => ?_
      | (refine ⟨by omega, ?_⟩)
      | refine T.cond rfl (fun hcnd => ?_) (fun hcnd => absurd hcnd (by decide))
      | refine T.cond rfl (fun hcnd => absurd hcnd (by decide)) (fun hcnd => ?_)
      | refine T.seq ?_
      | refine T.block ?_
      | refine T.skip ?_
      | refine T.exit ?_
  · have hp' : p = e.kids.length := by omega
    subst hp'
    rw [List.take_length]
    repeat' first
      | ((first | refine aops_end (hK _ ?_) | refine aopsD_end (hK _ ?_) | refine aopsF_end (hK _ ?_)); clear hK K)
      | ((first | refine aops_go ?_ | refine aopsD_go ?_ | refine aopsF_go ?_); simp [hlt]; (try (refine gen fun q hq => ?_; cases q <;> (try simp [hlt] at hq) <;> (try (have hh : True := hq; clear hh hq)))))
      | refine T.rs (fun _ => false) fun K hK => ?_
      | refine T.rs1 (fun _ => false) fun K hK => ?_
      | (refine ⟨by omega, ?_⟩)
      | refine T.cond rfl (fun hcnd => ?_) (fun hcnd => absurd hcnd (by decide))
      | refine T.cond rfl (fun hcnd => absurd hcnd (by decide)) (fun hcnd => ?_)
      | refine T.seq ?_
      | refine T.block ?_
      | refine T.skip ?_
      | refine T.exit ?_
    all_goals (refine T.ret (Done.own1 0 (Or.inr rfl) (ys := [_]) ?_ rfl ?_) <;> simp [resAs, Tryz.results81])

theorem types_own : ∀ (e : MTm), nTm e ≤ 1099511627776 → ACalls Tryz.prog 81 [aTm e] [] (.c (.own 0 (typesM e).length)) [] [{ sz := 2, ety := 25, rows := (typesM e).map eTy, wr := true }] := by
  intro e
  induction e using MTm.ind with
  | h e ih =>
    intro hn
    obtain ⟨_, _, _, hnu⟩ := nTm_parts hn
    have ih' := fun u hu => ih u hu (hnu u hu)
    rw [typesM_def]
    cases hh : hasTyM e.kind with
    | true => rw [if_pos rfl]; exact types_yes e hh hn ih'
    | false => rw [if_neg (by simp)]; exact types_no e hh hn ih'

theorem StaticTerm_ok (e : MTm) (hn : nTm e ≤ 1073741824) : ACalls Tryz.prog 24 [aTm e] [] (.b (staticM e)) [] [] := by
  have h1 := TermValid_ok e (by omega)
  simp only [staticM]
  cases hv : termValidM e with
  | false =>
    rw [hv] at h1
    refine ACalls.of_body Tryz.func24 (by kernel_rfl) rfl (by kernel_rfl) (by simp [Tryz.ntmps24]) (by simp) ?_
    rw [Tryz.ntmps24]
    repeat' first
      | ((first | refine aops_end (hK _ ?_) | refine aopsD_end (hK _ ?_) | refine aopsF_end (hK _ ?_)); clear hK K)
      | ((first | refine aops_go ?_ | refine aopsD_go ?_ | refine aopsF_go ?_); simp; (try (refine gen fun q hq => ?_; cases q <;> (try simp at hq) <;> (try (have hh : True := hq; clear hh hq)))))
      | (refine wpcall_pure rfl (h1) ?_; simp; (try (refine gen fun q hq => ?_; cases q <;> (try simp at hq) <;> (try (have hh : True := hq; clear hh hq)))))
      | (refine T.ret (Done.data (Or.inr rfl) ?_ ?_) <;> simp [Tryz.results24] <;> omega)
      | refine T.rs (fun _ => false) fun K hK => ?_
      | refine T.rs1 (fun _ => false) fun K hK => ?_
      | (refine ⟨by omega, ?_⟩)
      | refine T.cond rfl (fun hcnd => ?_) (fun hcnd => absurd hcnd (by decide))
      | refine T.cond rfl (fun hcnd => absurd hcnd (by decide)) (fun hcnd => ?_)
      | refine T.seq ?_
      | refine T.block ?_
      | refine T.skip ?_
      | refine T.exit ?_
  | true =>
    rw [hv] at h1
    have h2 := types_own e (by omega)
    have hs := fun t ht => shape4 ((termValidM_iff.1 hv).1.types.1 t ht)
    have hl := (termValidM_iff.1 hv).1.types.2
    have h30 := (termValidM_iff.1 hv).2
    have h3 := containsFuncTy_0 82 (typesM e) (fun t => decide (0 < cntM t)) (by omega) (fun t ht => Static1_ok t (by have := hs t ht; omega))
    generalize (typesM e).any (fun t => decide (0 < cntM t)) = R at *
    generalize typesM e = ts at *
    refine ACalls.of_body Tryz.func24 (by kernel_rfl) rfl (by kernel_rfl) (by simp [Tryz.ntmps24]) (by simp) ?_
    rw [Tryz.ntmps24]
    repeat' first
      | ((first | refine aops_end (hK _ ?_) | refine aopsD_end (hK _ ?_) | refine aopsF_end (hK _ ?_)); clear hK K)
      | ((first | refine aops_go ?_ | refine aopsD_go ?_ | refine aopsF_go ?_); simp; (try (refine gen fun q hq => ?_; cases q <;> (try simp at hq) <;> (try (have hh : True := hq; clear hh hq)))))
      | (refine wpcall_pure rfl (h1) ?_; simp; (try (refine gen fun q hq => ?_; cases q <;> (try simp at hq) <;> (try (have hh : True := hq; clear hh hq)))))
      | (refine wpcall_pure ?_ (h3) ?_; (focus (solve | simp)); simp; (try (refine gen fun q hq => ?_; cases q <;> (try simp at hq) <;> (try (have hh : True := hq; clear hh hq)))))
      | (refine wpcall_own rfl (h2) ?_; simp; (try (refine gen fun q hq => ?_; cases q <;> (try simp at hq) <;> (try (have hh : True := hq; clear hh hq)))))
      | (refine T.ret (Done.data (Or.inr rfl) ?_ ?_) <;> simp [Tryz.results24, *] <;> omega)
      | refine T.rs (fun _ => false) fun K hK => ?_
      | refine T.rs1 (fun _ => false) fun K hK => ?_
      | (refine ⟨by omega, ?_⟩)
      | refine T.cond rfl (fun hcnd => ?_) (fun hcnd => absurd hcnd (by decide))
      | refine T.cond rfl (fun hcnd => absurd hcnd (by decide)) (fun hcnd => ?_)
      | refine T.seq ?_
      | refine T.block ?_
      | refine T.skip ?_
      | refine T.exit ?_

theorem StaticTermS_ok (e : MTm) (hn : nTm e ≤ 1073741824) : ACalls Tryz.prog 32 [aTm e] [] (.b (staticM e)) [] [] := by
  have h1 := TermTypesS_own e (by omega)
  have h2 := TermValidS_ok e (by omega)
  simp only [staticM]
  cases hv : termValidM e with
  | false =>
    rw [hv] at h2
    simp only [termTypesM, hv, Bool.false_eq_true, if_false, List.length_nil, List.map_nil] at h1
    refine ACalls.of_body Tryz.func32 (by kernel_rfl) rfl (by kernel_rfl) (by simp [Tryz.ntmps32]) (by simp) ?_
    rw [Tryz.ntmps32]
    repeat' first
      | ((first | refine aops_end (hK _ ?_) | refine aopsD_end (hK _ ?_) | refine aopsF_end (hK _ ?_)); clear hK K)
      | ((first | refine aops_go ?_ | refine aopsD_go ?_ | refine aopsF_go ?_); simp; (try (refine gen fun q hq => ?_; cases q <;> (try simp at hq) <;> (try (have hh : True := hq; clear hh hq)))))
      | (refine wpcall_own rfl (h1) ?_; simp; (try (refine gen fun q hq => ?_; cases q <;> (try simp at hq) <;> (try (have hh : True := hq; clear hh hq)))))
      | refine T.rs (fun _ => false) fun K hK => ?_
      | refine T.rs1 (fun _ => false) fun K hK => ?_
      | (refine ⟨by omega, ?_⟩)
      | refine T.cond rfl (fun hcnd => ?_) (fun hcnd => absurd hcnd (by decide))
      | refine T.cond rfl (fun hcnd => absurd hcnd (by decide)) (fun hcnd => ?_)
      | refine T.seq ?_
      | refine T.block ?_
      | refine T.skip ?_
      | refine T.exit ?_
    refine T.loopK (α := Unit) [1, 3] (fun x => [(4, .i 0)]) (fun x => []) (fun x => []) (fun x A => A) (fun x => 0) (fun x => True) (by simp; rfl) (fun x hx => ?_) () trivial (by simp) (by simp) (by simp)
    simp only [ups, List.set_cons_zero, List.set_cons_succ, List.cons_append, List.nil_append, List.append_nil]
    repeat' first
      | ((first | refine aops_end (hK _ ?_) | refine aopsD_end (hK _ ?_) | refine aopsF_end (hK _ ?_)); clear hK K)
      | ((first | refine aops_go ?_ | refine aopsD_go ?_ | refine aopsF_go ?_); simp; (try (refine gen fun q hq => ?_; cases q <;> (try simp at hq) <;> (try (have hh : True := hq; clear hh hq)))))
      | (refine wpcall_pure rfl (h2) ?_; simp; (try (refine gen fun q hq => ?_; cases q <;> (try simp at hq) <;> (try (have hh : True := hq; clear hh hq)))))
      | (refine T.ret (Done.data (Or.inr rfl) ?_ ?_) <;> simp [Tryz.results32] <;> omega)
      | refine T.rs (fun _ => false) fun K hK => ?_
      | refine T.rs1 (fun _ => false) fun K hK => ?_
      | (refine ⟨by omega, ?_⟩)
      | refine T.cond rfl (fun hcnd => ?_) (fun hcnd => absurd hcnd (by decide))
      | refine T.cond rfl (fun hcnd => absurd hcnd (by decide)) (fun hcnd => ?_)
      | refine T.seq ?_
      | refine T.block ?_
      | refine T.skip ?_
      | refine T.exit ?_
  | true =>
    rw [hv] at h2
    simp only [termTypesM, hv, if_true] at h1
    have hs := fun t ht => shape4 ((termValidM_iff.1 hv).1.types.1 t ht)
    have hl := (termValidM_iff.1 hv).1.types.2
    have h30 := (termValidM_iff.1 hv).2
    obtain ⟨R, hR⟩ : ∃ R, (typesM e).any (fun t => decide (0 < cntM t)) = R := ⟨_, rfl⟩
    rw [hR, Bool.true_and]
    generalize typesM e = ts at *
    refine ACalls.of_body Tryz.func32 (by kernel_rfl) rfl (by kernel_rfl) (by simp [Tryz.ntmps32]) (by simp) ?_
    rw [Tryz.ntmps32]
    repeat' first
      | ((first | refine aops_end (hK _ ?_) | refine aopsD_end (hK _ ?_) | refine aopsF_end (hK _ ?_)); clear hK K)
      | ((first | refine aops_go ?_ | refine aopsD_go ?_ | refine aopsF_go ?_); simp; (try (refine gen fun q hq => ?_; cases q <;> (try simp at hq) <;> (try (have hh : True := hq; clear hh hq)))))
      | (refine wpcall_own rfl (h1) ?_; simp; (try (refine gen fun q hq => ?_; cases q <;> (try simp at hq) <;> (try (have hh : True := hq; clear hh hq)))))
      | refine T.rs (fun _ => false) fun K hK => ?_
      | refine T.rs1 (fun _ => false) fun K hK => ?_
      | (refine ⟨by omega, ?_⟩)
      | refine T.cond rfl (fun hcnd => ?_) (fun hcnd => absurd hcnd (by decide))
      | refine T.cond rfl (fun hcnd => absurd hcnd (by decide)) (fun hcnd => ?_)
      | refine T.seq ?_
      | refine T.block ?_
      | refine T.skip ?_
      | refine T.exit ?_
    refine T.loopK (α := Nat × List (List CV)) [1, 3] (fun x => [(2, .b false), (4, .i x.1)]) (fun x => []) (fun x => x.2) (fun x A => A) (fun x => ts.length + 1 - x.1) (fun x => x.1 ≤ ts.length ∧ (ts.drop x.1).any (fun t => decide (0 < cntM t)) = R) (by simp; rfl) (fun x hx => ?_) (0, []) (by simpa using hR) (by simp) (by simp) (by simp)
    obtain ⟨p, G⟩ := x
    obtain ⟨hi, hq⟩ := hx
    dsimp only at hi hq ⊢
    simp only [ups, List.set_cons_zero, List.set_cons_succ, List.cons_append, List.nil_append]
    by_cases hlt : p < ts.length
    · obtain ⟨u, ht⟩ := get_lt hlt
      have htm : u ∈ ts := List.mem_of_getElem? ht
      have hgt : ts[p] = u := by rw [List.getElem?_eq_getElem hlt] at ht; exact Option.some.inj ht
      have hdr : ts.drop p = u :: ts.drop (p + 1) := by rw [List.drop_eq_getElem_cons hlt, hgt]
      have hu := count_s u (by have := hs u htm; omega)
      rw [hdr, List.any_cons] at hq
      by_cases hc : 0 < cntM u
      · have hc' : (0 : Int) < cntM u := by omega
        rw [decide_eq_true hc, Bool.true_or] at hq
        subst hq
        repeat' first
          | ((first | refine aops_end (hK _ ?_) | refine aopsD_end (hK _ ?_) | refine aopsF_end (hK _ ?_)); clear hK K)
          | ((first | refine aops_go ?_ | refine aopsD_go ?_ | refine aopsF_go ?_); simp [hlt, hgt, hc, hc']; (try simp (disch := omega) only [wrap64]); (try (refine gen fun q hq => ?_; cases q <;> (try simp [hlt, hgt, hc, hc'] at hq) <;> (try (have hh : True := hq; clear hh hq)))))
          | (refine wpcall_pure rfl (hu) ?_; simp [hlt, hgt, hc, hc']; (try simp (disch := omega) only [wrap64]); (try (refine gen fun q hq => ?_; cases q <;> (try simp [hlt, hgt, hc, hc'] at hq) <;> (try (have hh : True := hq; clear hh hq)))))
          | (refine T.ret (Done.data (Or.inr rfl) ?_ ?_) <;> simp [Tryz.results32] <;> omega)
          | refine T.rs (fun _ => false) fun K hK => ?_
          | refine T.rs1 (fun _ => false) fun K hK => ?_
          | (refine ⟨by omega, ?_⟩)
          | refine T.cond rfl (fun hcnd => ?_) (fun hcnd => absurd hcnd (by decide))
          | refine T.cond rfl (fun hcnd => absurd hcnd (by decide)) (fun hcnd => ?_)
          | refine T.seq ?_
          | refine T.block ?_
          | refine T.skip ?_
          | refine T.exit ?_
      · have hc' : ¬ (0 : Int) < cntM u := by omega
        have hc'' : (cntM u : Int) ≤ 0 := by omega
        rw [decide_eq_false hc, Bool.false_or] at hq
        repeat' first
          | ((first | refine aops_end (hK _ ?_) | refine aopsD_end (hK _ ?_) | refine aopsF_end (hK _ ?_)); clear hK K)
          | ((first | refine aops_go ?_ | refine aopsD_go ?_ | refine aopsF_go ?_); simp [hlt, hgt, hc, hc', hc'']; (try simp (disch := omega) only [wrap64]); (try (refine gen fun q hq => ?_; cases q <;> (try simp [hlt, hgt, hc, hc', hc''] at hq) <;> (try (have hh : True := hq; clear hh hq)))))
          | (refine wpcall_pure rfl (hu) ?_; simp [hlt, hgt, hc, hc', hc'']; (try simp (disch := omega) only [wrap64]); (try (refine gen fun q hq => ?_; cases q <;> (try simp [hlt, hgt, hc, hc', hc''] at hq) <;> (try (have hh : True := hq; clear hh hq)))))
          | (refine ⟨(p + 1, _), by dsimp only; omega, ⟨by dsimp only; omega, by simpa using hq⟩, rfl, ?_, ?_⟩ <;> simp (disch := omega) [wrap64])
          | refine T.rs (fun _ => false) fun K hK => ?_
          | refine T.rs1 (fun _ => false) fun K hK => ?_
          | (refine ⟨by omega, ?_⟩)
          | refine T.cond rfl (fun hcnd => ?_) (fun hcnd => absurd hcnd (by decide))
          | refine T.cond rfl (fun hcnd => absurd hcnd (by decide)) (fun hcnd => ?_)
          | refine T.seq ?_
          | refine T.block ?_
          | refine T.skip ?_
          | refine T.exit ?_
    · have hp' : p = ts.length := by omega
      subst hp'
      simp at hq
      subst hq
      repeat' first
        | ((first | refine aops_end (hK _ ?_) | refine aopsD_end (hK _ ?_) | refine aopsF_end (hK _ ?_)); clear hK K)
        | ((first | refine aops_go ?_ | refine aopsD_go ?_ | refine aopsF_go ?_); simp [hlt]; (try (refine gen fun q hq => ?_; cases q <;> (try simp [hlt] at hq) <;> (try (have hh : True := hq; clear hh hq)))))
        | (refine wpcall_pure rfl (h2) ?_; simp [hlt]; (try (refine gen fun q hq => ?_; cases q <;> (try simp [hlt] at hq) <;> (try (have hh : True := hq; clear hh hq)))))
        | (refine T.ret (Done.data (Or.inr rfl) ?_ ?_) <;> simp [Tryz.results32] <;> omega)
        | refine T.rs (fun _ => false) fun K hK => ?_
        | refine T.rs1 (fun _ => false) fun K hK => ?_
        | (refine ⟨by omega, ?_⟩)
        | refine T.cond rfl (fun hcnd => ?_) (fun hcnd => absurd hcnd (by decide))
        | refine T.cond rfl (fun hcnd => absurd hcnd (by decide)) (fun hcnd => ?_)
        | refine T.seq ?_
        | refine T.block ?_
        | refine T.skip ?_
        | refine T.exit ?_

end Go.Proofs.YtfdknjjnifnobaaGreat

namespace Go.Proofs.YtfdknjjnifnobaaGreat
open Go Go.Av
attribute [local irreducible] T ACalls TX EX LX Draws Some_ ACallsX eTy eTm MTy.kind MTy.kids MTm.kind MTm.name MTm.num MTm.ty MTm.fr MTm.label MTm.kids
attribute [local simp] eTy_def eTm_def
set_option linter.unusedSimpArgs false
set_option linter.unusedVariables false
set_option maxHeartbeats 16000000
set_option maxRecDepth 8000
@[simp] theorem td_uint : td Tryz.prog 132 = some { ag := false, sz := 1, by_ := 8, zero := some [.d (.int .u64 0)], el := none, ar := none, fl := [], ik := some .u64, isS := false, isB := false } := keep (by kernel_rfl)
@[simp] theorem td_intS2 : td Tryz.prog 51 = some { ag := false, sz := 1, by_ := 24, zero := some [.nil], el := some 3, ar := none, fl := [], ik := none, isS := false, isB := false } := keep (by kernel_rfl)

theorem casts_small : ∀ (e : MTm), (castsM e).length ≤ nTm e + 1 := by
  intro e
  induction e using MTm.ind with
  | h e ih =>
    have hs : ∀ l : List MTm, (∀ u ∈ l, (castsM u).length ≤ nTm u + 1) → (castsS l).length ≤ nTmS l := by
      intro l
      induction l with
      | nil => intro _; simp [castsS]
      | cons u r ihr =>
        intro h
        have h1 := h u (by simp)
        have h2 := ihr fun v hv => h v (by simp [hv])
        simp only [castsS, List.length_append, nTmS]
        omega
    have h1 := hs e.kids ih
    rw [castsM_def, nTm_def]
    split
    · simp only [List.length_append, List.length_singleton]; omega
    · simp only [List.nil_append]; omega

theorem casts_yes (e : MTm) (hh : e.kind = 14) (hn : nTm e ≤ 1073741824)
    (ih : ∀ u ∈ e.kids, ACalls Tryz.prog 108 [aTm u] [] (.c (.own 0 (castsM u).length)) [] [{ sz := 9, ety := 28, rows := (castsM u).map eTm, wr := true }]) :
    ACalls Tryz.prog 108 [aTm e] [] (.c (.own 0 ([e] ++ castsS e.kids).length)) [] [{ sz := 9, ety := 28, rows := ([e] ++ castsS e.kids).map eTm, wr := true }] := by
  obtain ⟨hnt, hnf, hnk, hnu⟩ := nTm_parts (show nTm e ≤ 1099511627776 by omega)
  have hsm : (castsS e.kids).length ≤ 1073741825 := by have := casts_small e; rw [castsM_def] at this; simp only [List.length_append] at this; omega
  refine ACalls.of_body Tryz.func108 (by kernel_rfl) rfl (by kernel_rfl) (by simp [Tryz.ntmps108]) (by simp) ?_
  rw [Tryz.ntmps108]
  repeat' first
    | ((first | refine aops_end (hK _ ?_) | refine aopsD_end (hK _ ?_) | refine aopsF_end (hK _ ?_)); clear hK K)
    | ((first | refine aops_go ?_ | refine aopsD_go ?_ | refine aopsF_go ?_); simp [hh]; (try (refine gen fun q hq => ?_; cases q <;> (try simp [hh] at hq) <;> (try (have hh : True := hq; clear hh hq)))))
    | (refine ⟨by omega, by omega, ?_⟩)
    | refine T.rs (fun _ => false) fun K hK => ?_
    | refine T.rs1 (fun _ => false) fun K hK => ?_
    | (refine ⟨by omega, ?_⟩)
    | refine T.cond rfl (fun hcnd => ?_) (fun hcnd => absurd hcnd (by decide))
    | refine T.cond rfl (fun hcnd => absurd hcnd (by decide)) (fun hcnd => ?_)
    | refine T.seq ?_
    | refine T.block ?_
    | refine T.skip ?_
    | refine T.exit ?_
  refine T.loopK (α := Nat × List (List CV) × List Arr) [2, 14, 15] (fun x => [(3, .c (.own 0 ([e] ++ castsS (e.kids.take x.1)).length)), (16, .i x.1)]) (fun x => []) (fun x => x.2.1) (fun x _ => { sz := 9, ety := 28, rows := ([e] ++ castsS (e.kids.take x.1)).map eTm, wr := true } :: x.2.2) (fun x => e.kids.length + 1 - x.1) (fun x => x.1 ≤ e.kids.length) (by simp; rfl) (fun x hx => ?_) (0, [], []) (by simp) (by simp) (by simp [castsS, eTm_def, hh]) (by simp [castsS])
  obtain ⟨p, G, GA⟩ := x
  dsimp only at hx ⊢
  simp only [ups, List.set_cons_zero, List.set_cons_succ, List.cons_append, List.nil_append]
  by_cases hlt : p < e.kids.length
  · obtain ⟨u, ht⟩ := get_lt hlt
    have htm : u ∈ e.kids := List.mem_of_getElem? ht
    have hgt : e.kids[p] = u := by rw [List.getElem?_eq_getElem hlt] at ht; exact Option.some.inj ht
    have hdr : e.kids.drop p = u :: e.kids.drop (p + 1) := by rw [List.drop_eq_getElem_cons hlt, hgt]
    have hu := ih u htm
    have htk : castsS (e.kids.take (p + 1)) = castsS (e.kids.take p) ++ castsM u := castsS_take ht
    have hle := castsS_le e.kids (p + 1)
    rw [htk, List.length_append] at hle
    generalize castsS (e.kids.take p) = Z at *
    generalize castsM u = tu at *
    repeat' first
      | ((first | refine aops_end (hK _ ?_) | refine aopsD_end (hK _ ?_) | refine aopsF_end (hK _ ?_)); clear hK K)
      | ((first | refine aops_go ?_ | refine aopsD_go ?_ | refine aopsF_go ?_); simp [hlt, hgt]; (try simp (disch := omega) only [wrap64]); (try (refine gen fun q hq => ?_; cases q <;> (try simp [hlt, hgt] at hq) <;> (try (have hh : True := hq; clear hh hq)))))
      | (refine wpcall_own rfl (hu) ?_; simp [hlt, hgt]; (try simp (disch := omega) only [wrap64]); (try (refine gen fun q hq => ?_; cases q <;> (try simp [hlt, hgt] at hq) <;> (try (have hh : True := hq; clear hh hq)))))
      | (refine ⟨by omega, by omega, ?_⟩)
      | (refine ⟨(p + 1, _, GA ++ [{ sz := 9, ety := 28, rows := tu.map eTm, wr := true }]), by dsimp only; omega, by dsimp only; omega, rfl, ?_, ?_⟩ <;> simp (disch := omega) [wrap64, htk, eTm_def] <;> omega)
      | refine T.rs (fun _ => false) fun K hK => ?_
      | refine T.rs1 (fun _ => false) fun K hK => ?_
      | (refine ⟨by omega, ?_⟩)
      | refine T.cond rfl (fun hcnd => ?_) (fun hcnd => absurd hcnd (by decide))
      | refine T.cond rfl (fun hcnd => absurd hcnd (by decide)) (fun hcnd => ?_)
      | refine T.seq ?_
      | refine T.block ?_
      | refine T.skip ?_
      | refine T.exit ?_
  · have hp' : p = e.kids.length := by omega
    subst hp'
    rw [List.take_length]
    repeat' first
      | ((first | refine aops_end (hK _ ?_) | refine aopsD_end (hK _ ?_) | refine aopsF_end (hK _ ?_)); clear hK K)
      | ((first | refine aops_go ?_ | refine aopsD_go ?_ | refine aopsF_go ?_); simp [hlt]; (try (refine gen fun q hq => ?_; cases q <;> (try simp [hlt] at hq) <;> (try (have hh : True := hq; clear hh hq)))))
      | refine T.rs (fun _ => false) fun K hK => ?_
      | refine T.rs1 (fun _ => false) fun K hK => ?_
      | (refine ⟨by omega, ?_⟩)
      | refine T.cond rfl (fun hcnd => ?_) (fun hcnd => absurd hcnd (by decide))
      | refine T.cond rfl (fun hcnd => absurd hcnd (by decide)) (fun hcnd => ?_)
      | refine T.seq ?_
      | refine T.block ?_
      | refine T.skip ?_
      | refine T.exit ?_
    all_goals (refine T.ret (Done.own1 0 (Or.inr rfl) (ys := [_]) ?_ rfl ?_) <;> simp [resAs, Tryz.results108])

theorem casts_no (e : MTm) (hh : ¬ e.kind = 14) (hn : nTm e ≤ 1073741824)
    (ih : ∀ u ∈ e.kids, ACalls Tryz.prog 108 [aTm u] [] (.c (.own 0 (castsM u).length)) [] [{ sz := 9, ety := 28, rows := (castsM u).map eTm, wr := true }]) :
    ACalls Tryz.prog 108 [aTm e] [] (.c (.own 0 ([] ++ castsS e.kids).length)) [] [{ sz := 9, ety := 28, rows := ([] ++ castsS e.kids).map eTm, wr := true }] := by
  obtain ⟨hnt, hnf, hnk, hnu⟩ := nTm_parts (show nTm e ≤ 1099511627776 by omega)
  have hsm : (castsS e.kids).length ≤ 1073741825 := by have := casts_small e; rw [castsM_def] at this; simp only [List.length_append] at this; omega
  refine ACalls.of_body Tryz.func108 (by kernel_rfl) rfl (by kernel_rfl) (by simp [Tryz.ntmps108]) (by simp) ?_
  rw [Tryz.ntmps108]
  repeat' first
    | ((first | refine aops_end (hK _ ?_) | refine aopsD_end (hK _ ?_) | refine aopsF_end (hK _ ?_)); clear hK K)
    | ((first | refine aops_go ?_ | refine aopsD_go ?_ | refine aopsF_go ?_); simp [hh]; (try (refine gen fun q hq => ?_; cases q <;> (try simp [hh] at hq) <;> (try (have hh : True := hq; clear hh hq)))))
    | (refine ⟨by omega, by omega, ?_⟩)
    | refine T.rs (fun _ => false) fun K hK => ?_
    | refine T.rs1 (fun _ => false) fun K hK => ?_
    | (refine ⟨by omega, ?_⟩)
    | refine T.cond rfl (fun hcnd => ?_) (fun hcnd => absurd hcnd (by decide))
    | refine T.cond rfl (fun hcnd => absurd hcnd (by decide)) (fun hcnd => ?_)
    | refine T.seq ?_
    | refine T.block ?_
    | refine T.skip ?_
    | refine T.exit ?_
  refine T.ownify 3 9 28 (by simp) ?_
  refine T.loopK (α := Nat × List (List CV) × List Arr) [2, 14, 15] (fun x => [(3, .c (.own 0 ([] ++ castsS (e.kids.take x.1)).length)), (16, .i x.1)]) (fun x => []) (fun x => x.2.1) (fun x _ => { sz := 9, ety := 28, rows := ([] ++ castsS (e.kids.take x.1)).map eTm, wr := true } :: x.2.2) (fun x => e.kids.length + 1 - x.1) (fun x => x.1 ≤ e.kids.length) (by simp; rfl) (fun x hx => ?_) (0, [], []) (by simp) (by simp) (by simp [castsS, eTm_def, hh]) (by simp [castsS])
  obtain ⟨p, G, GA⟩ := x
  dsimp only at hx ⊢
  simp only [ups, List.set_cons_zero, List.set_cons_succ, List.cons_append, List.nil_append]
  by_cases hlt : p < e.kids.length
  · obtain ⟨u, ht⟩ := get_lt hlt
    have htm : u ∈ e.kids := List.mem_of_getElem? ht
    have hgt : e.kids[p] = u := by rw [List.getElem?_eq_getElem hlt] at ht; exact Option.some.inj ht
    have hdr : e.kids.drop p = u :: e.kids.drop (p + 1) := by rw [List.drop_eq_getElem_cons hlt, hgt]
    have hu := ih u htm
    have htk : castsS (e.kids.take (p + 1)) = castsS (e.kids.take p) ++ castsM u := castsS_take ht
    have hle := castsS_le e.kids (p + 1)
    rw [htk, List.length_append] at hle
    generalize castsS (e.kids.take p) = Z at *
    generalize castsM u = tu at *
    repeat' first
      | ((first | refine aops_end (hK _ ?_) | refine aopsD_end (hK _ ?_) | refine aopsF_end (hK _ ?_)); clear hK K)
      | ((first | refine aops_go ?_ | refine aopsD_go ?_ | refine aopsF_go ?_); simp [hlt, hgt]; (try simp (disch := omega) only [wrap64]); (try (refine gen fun q hq => ?_; cases q <;> (try simp [hlt, hgt] at hq) <;> (try (have hh : True := hq; clear hh hq)))))
      | (refine wpcall_own rfl (hu) ?_; simp [hlt, hgt]; (try simp (disch := omega) only [wrap64]); (try (refine gen fun q hq => ?_; cases q <;> (try simp [hlt, hgt] at hq) <;> (try (have hh : True := hq; clear hh hq)))))
      | (refine ⟨by omega, by omega, ?_⟩)
      | (refine ⟨(p + 1, _, GA ++ [{ sz := 9, ety := 28, rows := tu.map eTm, wr := true }]), by dsimp only; omega, by dsimp only; omega, rfl, ?_, ?_⟩ <;> simp (disch := omega) [wrap64, htk, eTm_def] <;> omega)
      | refine T.rs (fun _ => false) fun K hK => ?_
      | refine T.rs1 (fun _ => false) fun K hK => ?_
      | (refine ⟨by omega, ?_⟩)
      | refine T.cond rfl (fun hcnd => ?_) (fun hcnd => absurd hcnd (by decide))
      | refine T.cond rfl (fun hcnd => absurd hcnd (by decide)) (fun hcnd => ?_)
      | refine T.seq ?_
      | refine T.block ?_
      | refine T.skip ?_
      | refine T.exit ?_
  · have hp' : p = e.kids.length := by omega
    subst hp'
    rw [List.take_length]
    repeat' first
      | ((first | refine aops_end (hK _ ?_) | refine aopsD_end (hK _ ?_) | refine aopsF_end (hK _ ?_)); clear hK K)
      | ((first | refine aops_go ?_ | refine aopsD_go ?_ | refine aopsF_go ?_); simp [hlt]; (try (refine gen fun q hq => ?_; cases q <;> (try simp [hlt] at hq) <;> (try (have hh : True := hq; clear hh hq)))))
      | refine T.rs (fun _ => false) fun K hK => ?_
      | refine T.rs1 (fun _ => false) fun K hK => ?_
      | (refine ⟨by omega, ?_⟩)
      | refine T.cond rfl (fun hcnd => ?_) (fun hcnd => absurd hcnd (by decide))
      | refine T.cond rfl (fun hcnd => absurd hcnd (by decide)) (fun hcnd => ?_)
      | refine T.seq ?_
      | refine T.block ?_
      | refine T.skip ?_
      | refine T.exit ?_
    all_goals (refine T.ret (Done.own1 0 (Or.inr rfl) (ys := [_]) ?_ rfl ?_) <;> simp [resAs, Tryz.results108])

theorem casts_own : ∀ (e : MTm), nTm e ≤ 1073741824 → ACalls Tryz.prog 108 [aTm e] [] (.c (.own 0 (castsM e).length)) [] [{ sz := 9, ety := 28, rows := (castsM e).map eTm, wr := true }] := by
  intro e
  induction e using MTm.ind with
  | h e ih =>
    intro hn
    have ih' := fun u hu => ih u hu (by have := nTmS_mem hu; rw [nTm_def] at hn; omega)
    rw [castsM_def]
    by_cases hh : e.kind = 14
    · rw [if_pos hh]; exact casts_yes e hh hn ih'
    · rw [if_neg hh]; exact casts_no e hh hn ih'

theorem wrap_u8_0 : IntKind.u8.wrap 0 = 0 := by decide
theorem wrap_i64_0 : IntKind.i64.wrap 0 = 0 := by decide
theorem Len64_0 : ACalls Tryz.prog 231 [.c (.d (.int .u64 0))] [] (.i 0) [] [] := by
  refine ACalls.of_body Tryz.func231 (by kernel_rfl) rfl (by kernel_rfl) (by simp [Tryz.ntmps231]) (by simp) ?_
  rw [Tryz.ntmps231]
  repeat' first
    | ((first | refine aops_end (hK _ ?_) | refine aopsD_end (hK _ ?_) | refine aopsF_end (hK _ ?_)); clear hK K)
    | ((first | refine aops_go ?_ | refine aopsD_go ?_ | refine aopsF_go ?_); simp [wrap_u8_0, wrap_i64_0])
    | (refine T.ret (Done.data (Or.inr rfl) ?_ ?_) <;> simp [Tryz.results231, wrap_i64_0] <;> omega)
    | refine T.rs (fun _ => false) fun K hK => ?_
    | refine T.rs1 (fun _ => false) fun K hK => ?_
    | (refine ⟨by omega, ?_⟩)
    | refine T.cond rfl (fun hcnd => ?_) (fun hcnd => absurd hcnd (by decide))
    | refine T.cond rfl (fun hcnd => absurd hcnd (by decide)) (fun hcnd => ?_)
    | refine T.seq ?_
    | refine T.block ?_
    | refine T.skip ?_
    | refine T.exit ?_

theorem Len_0 : ACalls Tryz.prog 185 [.c (.d (.int .u64 0))] [] (.i 0) [] [] := by
  refine ACalls.of_body Tryz.func185 (by kernel_rfl) rfl (by kernel_rfl) (by simp [Tryz.ntmps185]) (by simp) ?_
  rw [Tryz.ntmps185]
  repeat' first
    | ((first | refine aops_end (hK _ ?_) | refine aopsD_end (hK _ ?_) | refine aopsF_end (hK _ ?_)); clear hK K)
    | ((first | refine aops_go ?_ | refine aopsD_go ?_ | refine aopsF_go ?_); simp)
    | (refine wpcall_pure rfl (Len64_0) ?_; simp)
    | (refine T.ret (Done.data (Or.inr rfl) ?_ ?_) <;> simp [Tryz.results185] <;> omega)
    | refine T.rs (fun _ => false) fun K hK => ?_
    | refine T.rs1 (fun _ => false) fun K hK => ?_
    | (refine ⟨by omega, ?_⟩)
    | refine T.cond rfl (fun hcnd => ?_) (fun hcnd => absurd hcnd (by decide))
    | refine T.cond rfl (fun hcnd => absurd hcnd (by decide)) (fun hcnd => ?_)
    | refine T.seq ?_
    | refine T.block ?_
    | refine T.skip ?_
    | refine T.exit ?_

theorem insSort_0 : ACalls Tryz.prog 221 [.l [], .i 0, .i 0] [] (.tup []) [] [] := by
  refine ACalls.of_body Tryz.func221 (by kernel_rfl) rfl (by kernel_rfl) (by simp [Tryz.ntmps221]) (by simp) ?_
  rw [Tryz.ntmps221]
  repeat' first
    | ((first | refine aops_end (hK _ ?_) | refine aopsD_end (hK _ ?_) | refine aopsF_end (hK _ ?_)); clear hK K)
    | ((first | refine aops_go ?_ | refine aopsD_go ?_ | refine aopsF_go ?_); simp; (try simp (disch := omega) only [wrap64]))
    | refine T.rd (id := 4) mixed (fun _ => false) [] (by kernel_rfl) fun K hK => ?_
    | refine T.rd1 (id := 4) mixed (fun _ => false) [] (by kernel_rfl) fun K hK => ?_
    | refine T.rd (id := 6) mixed (fun _ => false) [15, 17] (by kernel_rfl) fun K hK => ?_
    | refine T.rd1 (id := 6) mixed (fun _ => false) [15, 17] (by kernel_rfl) fun K hK => ?_
    | refine T.rs (fun _ => false) fun K hK => ?_
    | refine T.rs1 (fun _ => false) fun K hK => ?_
    | (refine ⟨by omega, ?_⟩)
    | refine T.cond rfl (fun hcnd => ?_) (fun hcnd => absurd hcnd (by decide))
    | refine T.cond rfl (fun hcnd => absurd hcnd (by decide)) (fun hcnd => ?_)
    | refine T.seq ?_
    | refine T.block ?_
    | refine T.skip ?_
    | refine T.exit ?_
  refine T.loopK (α := Unit) [0, 1, 2] (fun x => [(6, .i 1)]) (fun x => []) (fun x => []) (fun x A => A) (fun x => 0) (fun x => True) (by simp; rfl) (fun x hx => ?_) () trivial (by simp) (by simp) (by simp)
  simp only [ups, List.set_cons_zero, List.set_cons_succ, List.cons_append, List.nil_append, List.append_nil]
  repeat' first
    | ((first | refine aops_end (hK _ ?_) | refine aopsD_end (hK _ ?_) | refine aopsF_end (hK _ ?_)); clear hK K)
    | ((first | refine aops_go ?_ | refine aopsD_go ?_ | refine aopsF_go ?_); simp; (try simp (disch := omega) only [wrap64]))
    | refine T.rd (id := 4) mixed (fun _ => false) [] (by kernel_rfl) fun K hK => ?_
    | refine T.rd1 (id := 4) mixed (fun _ => false) [] (by kernel_rfl) fun K hK => ?_
    | refine T.rd (id := 6) mixed (fun _ => false) [15, 17] (by kernel_rfl) fun K hK => ?_
    | refine T.rd1 (id := 6) mixed (fun _ => false) [15, 17] (by kernel_rfl) fun K hK => ?_
    | refine T.rs (fun _ => false) fun K hK => ?_
    | refine T.rs1 (fun _ => false) fun K hK => ?_
    | (refine ⟨by omega, ?_⟩)
    | refine T.cond rfl (fun hcnd => ?_) (fun hcnd => absurd hcnd (by decide))
    | refine T.cond rfl (fun hcnd => absurd hcnd (by decide)) (fun hcnd => ?_)
    | refine T.seq ?_
    | refine T.block ?_
    | refine T.skip ?_
    | refine T.exit ?_
  all_goals (refine Done.g (ys := []) (Or.inl rfl) ?_ rfl ?_ <;> simp [resAs, Tryz.results221])

theorem pdq_0 (l : Int) : ACalls Tryz.prog 184 [.l [], .i 0, .i 0, .i l] [] (.tup []) [] [] := by
  refine ACalls.of_body Tryz.func184 (by kernel_rfl) rfl (by kernel_rfl) (by simp [Tryz.ntmps184]) (by simp) ?_
  rw [Tryz.ntmps184]
  repeat' first
    | ((first | refine aops_end (hK _ ?_) | refine aopsD_end (hK _ ?_) | refine aopsF_end (hK _ ?_)); clear hK K)
    | ((first | refine aops_go ?_ | refine aopsD_go ?_ | refine aopsF_go ?_); simp; (try simp (disch := omega) only [wrap64]))
    | refine T.rd (id := 17) mixed (fun _ => false) [] (by kernel_rfl) fun K hK => ?_
    | refine T.rd1 (id := 17) mixed (fun _ => false) [] (by kernel_rfl) fun K hK => ?_
    | refine T.rs (fun _ => false) fun K hK => ?_
    | refine T.rs1 (fun _ => false) fun K hK => ?_
    | (refine ⟨by omega, ?_⟩)
    | refine T.cond rfl (fun hcnd => ?_) (fun hcnd => absurd hcnd (by decide))
    | refine T.cond rfl (fun hcnd => absurd hcnd (by decide)) (fun hcnd => ?_)
    | refine T.seq ?_
    | refine T.block ?_
    | refine T.skip ?_
    | refine T.exit ?_
  refine T.loopK (α := Unit) [0] (fun x => [(1, .i 0), (2, .i 0), (3, .i l), (8, .b true), (9, .b true)]) (fun x => []) (fun x => []) (fun x A => A) (fun x => 0) (fun x => True) (by simp; rfl) (fun x hx => ?_) () trivial (by simp) (by simp) (by simp)
  simp only [ups, List.set_cons_zero, List.set_cons_succ, List.cons_append, List.nil_append, List.append_nil]
  repeat' first
    | ((first | refine aops_end (hK _ ?_) | refine aopsD_end (hK _ ?_) | refine aopsF_end (hK _ ?_)); clear hK K)
    | ((first | refine aops_go ?_ | refine aopsD_go ?_ | refine aopsF_go ?_); simp; (try simp (disch := omega) only [wrap64]))
    | (refine wpcall_pure rfl (insSort_0) ?_; simp; (try simp (disch := omega) only [wrap64]))
    | refine T.rd (id := 17) mixed (fun _ => false) [] (by kernel_rfl) fun K hK => ?_
    | refine T.rd1 (id := 17) mixed (fun _ => false) [] (by kernel_rfl) fun K hK => ?_
    | refine T.rs (fun _ => false) fun K hK => ?_
    | refine T.rs1 (fun _ => false) fun K hK => ?_
    | (refine ⟨by omega, ?_⟩)
    | refine T.cond rfl (fun hcnd => ?_) (fun hcnd => absurd hcnd (by decide))
    | refine T.cond rfl (fun hcnd => absurd hcnd (by decide)) (fun hcnd => ?_)
    | refine T.seq ?_
    | refine T.block ?_
    | refine T.skip ?_
    | refine T.exit ?_
  all_goals (refine T.ret (Done.g (ys := []) (Or.inr rfl) ?_ rfl ?_) <;> simp [resAs, Tryz.results184])

theorem Sort_0 : ACalls Tryz.prog 118 [.l []] [] (.tup []) [] [] := by
  refine ACalls.of_body Tryz.func118 (by kernel_rfl) rfl (by kernel_rfl) (by simp [Tryz.ntmps118]) (by simp) ?_
  rw [Tryz.ntmps118]
  repeat' first
    | ((first | refine aops_end (hK _ ?_) | refine aopsD_end (hK _ ?_) | refine aopsF_end (hK _ ?_)); clear hK K)
    | ((first | refine aops_go ?_ | refine aopsD_go ?_ | refine aopsF_go ?_); simp)
    | (refine wpcall_pure rfl (Len_0) ?_; simp)
    | (refine wpcall_pure rfl (pdq_0 0) ?_; simp)
    | refine T.rs (fun _ => false) fun K hK => ?_
    | refine T.rs1 (fun _ => false) fun K hK => ?_
    | (refine ⟨by omega, ?_⟩)
    | refine T.cond rfl (fun hcnd => ?_) (fun hcnd => absurd hcnd (by decide))
    | refine T.cond rfl (fun hcnd => absurd hcnd (by decide)) (fun hcnd => ?_)
    | refine T.seq ?_
    | refine T.block ?_
    | refine T.skip ?_
    | refine T.exit ?_
  all_goals (refine Done.g (ys := []) (Or.inl rfl) ?_ rfl ?_ <;> simp [resAs, Tryz.results118])

theorem Compact_0 : ACalls Tryz.prog 119 [.l []] [] (.l []) [] [] := by
  refine ACalls.of_body Tryz.func119 (by kernel_rfl) rfl (by kernel_rfl) (by simp [Tryz.ntmps119]) (by simp) ?_
  rw [Tryz.ntmps119]
  repeat' first
    | ((first | refine aops_end (hK _ ?_) | refine aopsD_end (hK _ ?_) | refine aopsF_end (hK _ ?_)); clear hK K)
    | ((first | refine aops_go ?_ | refine aopsD_go ?_ | refine aopsF_go ?_); simp)
    | (refine T.ret (Done.data (Or.inr rfl) ?_ ?_) <;> simp [Tryz.results119] <;> omega)
    | refine T.rd (id := 6) mixed (fun _ => false) [] (by kernel_rfl) fun K hK => ?_
    | refine T.rd1 (id := 6) mixed (fun _ => false) [] (by kernel_rfl) fun K hK => ?_
    | refine T.rd (id := 11) mixed (fun _ => false) [] (by kernel_rfl) fun K hK => ?_
    | refine T.rd1 (id := 11) mixed (fun _ => false) [] (by kernel_rfl) fun K hK => ?_
    | refine T.rs (fun _ => false) fun K hK => ?_
    | refine T.rs1 (fun _ => false) fun K hK => ?_
    | (refine ⟨by omega, ?_⟩)
    | refine T.cond rfl (fun hcnd => ?_) (fun hcnd => absurd hcnd (by decide))
    | refine T.cond rfl (fun hcnd => absurd hcnd (by decide)) (fun hcnd => ?_)
    | refine T.seq ?_
    | refine T.block ?_
    | refine T.skip ?_
    | refine T.exit ?_

theorem CastLabels_nil (e : MTm) (hn : nTm e ≤ 1073741824) (hv : castValidM e = true) (h0 : castsM e = []) : ACalls Tryz.prog 56 [aTm e] [] (.l []) [] [] := by
  have h1 := CastValid_ok e (by omega)
  rw [hv] at h1
  have h2 := casts_own e (by omega)
  rw [h0] at h2
  simp only [List.length_nil, List.map_nil] at h2
  refine ACalls.of_body Tryz.func56 (by kernel_rfl) rfl (by kernel_rfl) (by simp [Tryz.ntmps56]) (by simp) ?_
  rw [Tryz.ntmps56]
  repeat' first
    | ((first | refine aops_end (hK _ ?_) | refine aopsD_end (hK _ ?_) | refine aopsF_end (hK _ ?_)); clear hK K)
    | ((first | refine aops_go ?_ | refine aopsD_go ?_ | refine aopsF_go ?_); simp; (try (refine gen fun q hq => ?_; cases q <;> (try simp at hq) <;> (try (have hh : True := hq; clear hh hq)))))
    | (refine wpcall_pure rfl (h1) ?_; simp; (try (refine gen fun q hq => ?_; cases q <;> (try simp at hq) <;> (try (have hh : True := hq; clear hh hq)))))
    | (refine wpcall_own rfl (h2) ?_; simp; (try (refine gen fun q hq => ?_; cases q <;> (try simp at hq) <;> (try (have hh : True := hq; clear hh hq)))))
    | refine T.rs (fun _ => false) fun K hK => ?_
    | refine T.rs1 (fun _ => false) fun K hK => ?_
    | (refine ⟨by omega, ?_⟩)
    | refine T.cond rfl (fun hcnd => ?_) (fun hcnd => absurd hcnd (by decide))
    | refine T.cond rfl (fun hcnd => absurd hcnd (by decide)) (fun hcnd => ?_)
    | refine T.seq ?_
    | refine T.block ?_
    | refine T.skip ?_
    | refine T.exit ?_
  refine T.loopK (α := Unit) [2, 10, 11] (fun x => [(3, .c .nil), (12, .i 0)]) (fun x => []) (fun x => []) (fun x A => A) (fun x => 0) (fun x => True) (by simp; rfl) (fun x hx => ?_) () trivial (by simp) (by simp) (by simp)
  simp only [ups, List.set_cons_zero, List.set_cons_succ, List.cons_append, List.nil_append, List.append_nil]
  repeat' first
    | ((first | refine aops_end (hK _ ?_) | refine aopsD_end (hK _ ?_) | refine aopsF_end (hK _ ?_)); clear hK K)
    | ((first | refine aops_go ?_ | refine aopsD_go ?_ | refine aopsF_go ?_); simp; (try (refine gen fun q hq => ?_; cases q <;> (try simp at hq) <;> (try (have hh : True := hq; clear hh hq)))))
    | (refine wpcall_pure rfl (Sort_0) ?_; simp; (try (refine gen fun q hq => ?_; cases q <;> (try simp at hq) <;> (try (have hh : True := hq; clear hh hq)))))
    | (refine wpcall_pure rfl (Compact_0) ?_; simp; (try (refine gen fun q hq => ?_; cases q <;> (try simp at hq) <;> (try (have hh : True := hq; clear hh hq)))))
    | (refine T.ret (Done.val (Or.inr rfl) ?_) <;> simp [resAs, Tryz.results56] <;> omega)
    | refine T.rs (fun _ => false) fun K hK => ?_
    | refine T.rs1 (fun _ => false) fun K hK => ?_
    | (refine ⟨by omega, ?_⟩)
    | refine T.cond rfl (fun hcnd => ?_) (fun hcnd => absurd hcnd (by decide))
    | refine T.cond rfl (fun hcnd => absurd hcnd (by decide)) (fun hcnd => ?_)
    | refine T.seq ?_
    | refine T.block ?_
    | refine T.skip ?_
    | refine T.exit ?_

end Go.Proofs.YtfdknjjnifnobaaGreat

namespace Go.Proofs.YtfdknjjnifnobaaGreat
open Go Go.Av
attribute [local irreducible] T ACalls TX EX LX Draws Some_ ACallsX eTy eTm MTy.kind MTy.kids MTm.kind MTm.name MTm.num MTm.ty MTm.fr MTm.label MTm.kids
attribute [local simp] eTy_def eTm_def
set_option linter.unusedSimpArgs false
set_option linter.unusedVariables false
set_option maxHeartbeats 16000000
set_option maxRecDepth 8000

theorem static_elab {e : MTm} {t : MTy} (h : typeInM [] e = some t) : ∃ x m, elabM [] e 0 = (some (x, t), m) ∧ EV [] e 0 x t m := by
  obtain ⟨_, hv, h1, hok, _⟩ := typeIn_some h
  have hp := termValid_parts hv
  have h2 := elab_type e 12 [] 0 hp.shape hok
  rw [h1] at h2
  cases he : elabM [] e 0 with
  | mk o m =>
    rw [he] at h2
    cases o with
    | none => simp at h2
    | some p =>
      obtain ⟨x, u⟩ := p
      simp at h2
      subst h2
      exact ⟨x, m, rfl, EV.of hp he⟩
theorem static_type {e : MTm} {t : MTy} (h : typeInM [] e = some t) (hs : staticM e = true) : cntM t = 0 := by
  obtain ⟨x, m, _, he⟩ := static_elab h
  obtain ⟨hv, ht⟩ := staticM_iff.1 hs
  exact (he.static (typeIn_some h).2.2.2.1 (termValid_parts hv) (by intro b hb; simp at hb) ht).1

theorem lawTypeStatic_ok (b : List Int) (hb : ∀ n ∈ b, 0 ≤ n ∧ n ≤ 255) : ACalls Tryz.prog 6 [.l (rB b)] [] (.b true) [] [] := by
  by_cases h1 : (1048576 : Int) < b.length
  · refine ACalls.of_body Tryz.func6 (by kernel_rfl) rfl (by kernel_rfl) (by simp [Tryz.ntmps6]) (by simp) ?_
    rw [Tryz.ntmps6]
    repeat' first
      | ((first | refine aops_end (hK _ ?_) | refine aopsD_end (hK _ ?_) | refine aopsF_end (hK _ ?_)); clear hK K)
      | ((first | refine aops_go ?_ | refine aopsD_go ?_ | refine aopsF_go ?_); simp [h1, rB_len]; (try (refine gen fun q hq => ?_; cases q <;> (try simp [h1, rB_len] at hq) <;> (try (have hh : True := hq; clear hh hq)))))
      | (refine T.ret (Done.data (Or.inr rfl) ?_ ?_) <;> simp [Tryz.results6] <;> omega)
      | refine T.rs (fun _ => false) fun K hK => ?_
      | refine T.rs1 (fun _ => false) fun K hK => ?_
      | (refine ⟨by omega, ?_⟩)
      | refine T.cond rfl (fun hcnd => ?_) (fun hcnd => absurd hcnd (by decide))
      | refine T.cond rfl (fun hcnd => absurd hcnd (by decide)) (fun hcnd => ?_)
      | refine T.seq ?_
      | refine T.block ?_
      | refine T.skip ?_
      | refine T.exit ?_
  obtain ⟨e, he, d1⟩ := (DrawStaticTerm_ok b hb).elim
  have k1 := TypeOf_ok e (by omega)
  have k2 := TypeOfS_ok e (by omega)
  have k3 := StaticTerm_ok e (by omega)
  have k4 := StaticTermS_ok e (by omega)
  cases hr : typeInM [] e with
  | none =>
    have kz := TypeSame_ok zeroT zeroT (by simp [nTy_mk, nTyS])
    rw [sameTy_refl] at kz
    rw [hr] at k1 k2
    simp only [tyRes] at k1 k2
    cases hs : staticM e <;> rw [hs] at k3 k4
    · refine ACalls.of_body Tryz.func6 (by kernel_rfl) rfl (by kernel_rfl) (by simp [Tryz.ntmps6]) (by simp) ?_
      rw [Tryz.ntmps6]
      repeat' first
        | ((first | refine aops_end (hK _ ?_) | refine aopsD_end (hK _ ?_) | refine aopsF_end (hK _ ?_)); clear hK K)
        | ((first | refine aops_go ?_ | refine aopsD_go ?_ | refine aopsF_go ?_); simp [h1, rB_len]; (try (refine gen fun q hq => ?_; cases q <;> (try simp [h1, rB_len] at hq) <;> (try (have hh : True := hq; clear hh hq)))))
        | (refine wpcall_pure rfl (d1) ?_; simp [h1, rB_len]; (try (refine gen fun q hq => ?_; cases q <;> (try simp [h1, rB_len] at hq) <;> (try (have hh : True := hq; clear hh hq)))))
        | (refine wpcall_pure rfl (k1) ?_; simp [h1, rB_len]; (try (refine gen fun q hq => ?_; cases q <;> (try simp [h1, rB_len] at hq) <;> (try (have hh : True := hq; clear hh hq)))))
        | (refine wpcall_pure rfl (k2) ?_; simp [h1, rB_len]; (try (refine gen fun q hq => ?_; cases q <;> (try simp [h1, rB_len] at hq) <;> (try (have hh : True := hq; clear hh hq)))))
        | (refine wpcall_pure rfl (k3) ?_; simp [h1, rB_len]; (try (refine gen fun q hq => ?_; cases q <;> (try simp [h1, rB_len] at hq) <;> (try (have hh : True := hq; clear hh hq)))))
        | (refine wpcall_pure rfl (k4) ?_; simp [h1, rB_len]; (try (refine gen fun q hq => ?_; cases q <;> (try simp [h1, rB_len] at hq) <;> (try (have hh : True := hq; clear hh hq)))))
        | (refine wpcall_pure ?_ (kz) ?_; (focus (solve | simp [h1, rB_len])); simp [h1, rB_len]; (try (refine gen fun q hq => ?_; cases q <;> (try simp [h1, rB_len] at hq) <;> (try (have hh : True := hq; clear hh hq)))))
        | (refine T.ret (Done.data (Or.inr rfl) ?_ ?_) <;> simp [Tryz.results6] <;> omega)
        | refine T.rs (fun _ => false) fun K hK => ?_
        | refine T.rs1 (fun _ => false) fun K hK => ?_
        | (refine ⟨by omega, ?_⟩)
        | refine T.cond rfl (fun hcnd => ?_) (fun hcnd => absurd hcnd (by decide))
        | refine T.cond rfl (fun hcnd => absurd hcnd (by decide)) (fun hcnd => ?_)
        | refine T.seq ?_
        | refine T.block ?_
        | refine T.skip ?_
        | refine T.exit ?_
    · refine ACalls.of_body Tryz.func6 (by kernel_rfl) rfl (by kernel_rfl) (by simp [Tryz.ntmps6]) (by simp) ?_
      rw [Tryz.ntmps6]
      repeat' first
        | ((first | refine aops_end (hK _ ?_) | refine aopsD_end (hK _ ?_) | refine aopsF_end (hK _ ?_)); clear hK K)
        | ((first | refine aops_go ?_ | refine aopsD_go ?_ | refine aopsF_go ?_); simp [h1, rB_len]; (try (refine gen fun q hq => ?_; cases q <;> (try simp [h1, rB_len] at hq) <;> (try (have hh : True := hq; clear hh hq)))))
        | (refine wpcall_pure rfl (d1) ?_; simp [h1, rB_len]; (try (refine gen fun q hq => ?_; cases q <;> (try simp [h1, rB_len] at hq) <;> (try (have hh : True := hq; clear hh hq)))))
        | (refine wpcall_pure rfl (k1) ?_; simp [h1, rB_len]; (try (refine gen fun q hq => ?_; cases q <;> (try simp [h1, rB_len] at hq) <;> (try (have hh : True := hq; clear hh hq)))))
        | (refine wpcall_pure rfl (k2) ?_; simp [h1, rB_len]; (try (refine gen fun q hq => ?_; cases q <;> (try simp [h1, rB_len] at hq) <;> (try (have hh : True := hq; clear hh hq)))))
        | (refine wpcall_pure rfl (k3) ?_; simp [h1, rB_len]; (try (refine gen fun q hq => ?_; cases q <;> (try simp [h1, rB_len] at hq) <;> (try (have hh : True := hq; clear hh hq)))))
        | (refine wpcall_pure rfl (k4) ?_; simp [h1, rB_len]; (try (refine gen fun q hq => ?_; cases q <;> (try simp [h1, rB_len] at hq) <;> (try (have hh : True := hq; clear hh hq)))))
        | (refine wpcall_pure ?_ (kz) ?_; (focus (solve | simp [h1, rB_len])); simp [h1, rB_len]; (try (refine gen fun q hq => ?_; cases q <;> (try simp [h1, rB_len] at hq) <;> (try (have hh : True := hq; clear hh hq)))))
        | (refine T.ret (Done.data (Or.inr rfl) ?_ ?_) <;> simp [Tryz.results6] <;> omega)
        | refine T.rs (fun _ => false) fun K hK => ?_
        | refine T.rs1 (fun _ => false) fun K hK => ?_
        | (refine ⟨by omega, ?_⟩)
        | refine T.cond rfl (fun hcnd => ?_) (fun hcnd => absurd hcnd (by decide))
        | refine T.cond rfl (fun hcnd => absurd hcnd (by decide)) (fun hcnd => ?_)
        | refine T.seq ?_
        | refine T.block ?_
        | refine T.skip ?_
        | refine T.exit ?_
  | some t =>
    obtain ⟨_, hv, ht, _, htv⟩ := typeIn_some hr
    have st := shape4 htv.shape
    have k5 := TypeSame_ok t t (by omega)
    rw [sameTy_refl] at k5
    have k6 := TypeValid_ok t (by omega)
    rw [htv.shape] at k6
    have k7 := FreeNames_ok e (by omega)
    rw [if_pos hv, typed_names (termValid_parts hv) ht] at k7
    have k8 := IsStatic_ok t (by omega)
    rw [htv.shape] at k8
    rw [hr] at k1 k2
    simp only [tyRes] at k1 k2
    cases hs : staticM e <;> rw [hs] at k3 k4
    · refine ACalls.of_body Tryz.func6 (by kernel_rfl) rfl (by kernel_rfl) (by simp [Tryz.ntmps6]) (by simp) ?_
      rw [Tryz.ntmps6]
      repeat' first
        | ((first | refine aops_end (hK _ ?_) | refine aopsD_end (hK _ ?_) | refine aopsF_end (hK _ ?_)); clear hK K)
        | ((first | refine aops_go ?_ | refine aopsD_go ?_ | refine aopsF_go ?_); simp [h1, rB_len]; (try (refine gen fun q hq => ?_; cases q <;> (try simp [h1, rB_len] at hq) <;> (try (have hh : True := hq; clear hh hq)))))
        | (refine wpcall_pure rfl (d1) ?_; simp [h1, rB_len]; (try (refine gen fun q hq => ?_; cases q <;> (try simp [h1, rB_len] at hq) <;> (try (have hh : True := hq; clear hh hq)))))
        | (refine wpcall_pure rfl (k1) ?_; simp [h1, rB_len]; (try (refine gen fun q hq => ?_; cases q <;> (try simp [h1, rB_len] at hq) <;> (try (have hh : True := hq; clear hh hq)))))
        | (refine wpcall_pure rfl (k2) ?_; simp [h1, rB_len]; (try (refine gen fun q hq => ?_; cases q <;> (try simp [h1, rB_len] at hq) <;> (try (have hh : True := hq; clear hh hq)))))
        | (refine wpcall_pure rfl (k3) ?_; simp [h1, rB_len]; (try (refine gen fun q hq => ?_; cases q <;> (try simp [h1, rB_len] at hq) <;> (try (have hh : True := hq; clear hh hq)))))
        | (refine wpcall_pure rfl (k4) ?_; simp [h1, rB_len]; (try (refine gen fun q hq => ?_; cases q <;> (try simp [h1, rB_len] at hq) <;> (try (have hh : True := hq; clear hh hq)))))
        | (refine wpcall_pure rfl (k5) ?_; simp [h1, rB_len]; (try (refine gen fun q hq => ?_; cases q <;> (try simp [h1, rB_len] at hq) <;> (try (have hh : True := hq; clear hh hq)))))
        | (refine wpcall_pure rfl (k6) ?_; simp [h1, rB_len]; (try (refine gen fun q hq => ?_; cases q <;> (try simp [h1, rB_len] at hq) <;> (try (have hh : True := hq; clear hh hq)))))
        | (refine wpcall_pure rfl (k7) ?_; simp [h1, rB_len]; (try (refine gen fun q hq => ?_; cases q <;> (try simp [h1, rB_len] at hq) <;> (try (have hh : True := hq; clear hh hq)))))
        | (refine T.ret (Done.data (Or.inr rfl) ?_ ?_) <;> simp [Tryz.results6] <;> omega)
        | refine T.rs (fun _ => false) fun K hK => ?_
        | refine T.rs1 (fun _ => false) fun K hK => ?_
        | (refine ⟨by omega, ?_⟩)
        | refine T.cond rfl (fun hcnd => ?_) (fun hcnd => absurd hcnd (by decide))
        | refine T.cond rfl (fun hcnd => absurd hcnd (by decide)) (fun hcnd => ?_)
        | refine T.seq ?_
        | refine T.block ?_
        | refine T.skip ?_
        | refine T.exit ?_
    · rw [static_type hr hs] at k8
      simp only [decide_true, Bool.true_and] at k8
      refine ACalls.of_body Tryz.func6 (by kernel_rfl) rfl (by kernel_rfl) (by simp [Tryz.ntmps6]) (by simp) ?_
      rw [Tryz.ntmps6]
      repeat' first
        | ((first | refine aops_end (hK _ ?_) | refine aopsD_end (hK _ ?_) | refine aopsF_end (hK _ ?_)); clear hK K)
        | ((first | refine aops_go ?_ | refine aopsD_go ?_ | refine aopsF_go ?_); simp [h1, rB_len]; (try (refine gen fun q hq => ?_; cases q <;> (try simp [h1, rB_len] at hq) <;> (try (have hh : True := hq; clear hh hq)))))
        | (refine wpcall_pure rfl (d1) ?_; simp [h1, rB_len]; (try (refine gen fun q hq => ?_; cases q <;> (try simp [h1, rB_len] at hq) <;> (try (have hh : True := hq; clear hh hq)))))
        | (refine wpcall_pure rfl (k1) ?_; simp [h1, rB_len]; (try (refine gen fun q hq => ?_; cases q <;> (try simp [h1, rB_len] at hq) <;> (try (have hh : True := hq; clear hh hq)))))
        | (refine wpcall_pure rfl (k2) ?_; simp [h1, rB_len]; (try (refine gen fun q hq => ?_; cases q <;> (try simp [h1, rB_len] at hq) <;> (try (have hh : True := hq; clear hh hq)))))
        | (refine wpcall_pure rfl (k3) ?_; simp [h1, rB_len]; (try (refine gen fun q hq => ?_; cases q <;> (try simp [h1, rB_len] at hq) <;> (try (have hh : True := hq; clear hh hq)))))
        | (refine wpcall_pure rfl (k4) ?_; simp [h1, rB_len]; (try (refine gen fun q hq => ?_; cases q <;> (try simp [h1, rB_len] at hq) <;> (try (have hh : True := hq; clear hh hq)))))
        | (refine wpcall_pure rfl (k5) ?_; simp [h1, rB_len]; (try (refine gen fun q hq => ?_; cases q <;> (try simp [h1, rB_len] at hq) <;> (try (have hh : True := hq; clear hh hq)))))
        | (refine wpcall_pure rfl (k6) ?_; simp [h1, rB_len]; (try (refine gen fun q hq => ?_; cases q <;> (try simp [h1, rB_len] at hq) <;> (try (have hh : True := hq; clear hh hq)))))
        | (refine wpcall_pure rfl (k7) ?_; simp [h1, rB_len]; (try (refine gen fun q hq => ?_; cases q <;> (try simp [h1, rB_len] at hq) <;> (try (have hh : True := hq; clear hh hq)))))
        | (refine wpcall_pure rfl (k8) ?_; simp [h1, rB_len]; (try (refine gen fun q hq => ?_; cases q <;> (try simp [h1, rB_len] at hq) <;> (try (have hh : True := hq; clear hh hq)))))
        | (refine T.ret (Done.data (Or.inr rfl) ?_ ?_) <;> simp [Tryz.results6] <;> omega)
        | refine T.rs (fun _ => false) fun K hK => ?_
        | refine T.rs1 (fun _ => false) fun K hK => ?_
        | (refine ⟨by omega, ?_⟩)
        | refine T.cond rfl (fun hcnd => ?_) (fun hcnd => absurd hcnd (by decide))
        | refine T.cond rfl (fun hcnd => absurd hcnd (by decide)) (fun hcnd => ?_)
        | refine T.seq ?_
        | refine T.block ?_
        | refine T.skip ?_
        | refine T.exit ?_

theorem lawInsertStatic_ok (b : List Int) (hb : ∀ n ∈ b, 0 ≤ n ∧ n ≤ 255) : ACalls Tryz.prog 12 [.l (rB b)] [] (.b true) [] [] := by
  by_cases h1 : (1048576 : Int) < b.length
  · refine ACalls.of_body Tryz.func12 (by kernel_rfl) rfl (by kernel_rfl) (by simp [Tryz.ntmps12]) (by simp) ?_
    rw [Tryz.ntmps12]
    repeat' first
      | ((first | refine aops_end (hK _ ?_) | refine aopsD_end (hK _ ?_) | refine aopsF_end (hK _ ?_)); clear hK K)
      | ((first | refine aops_go ?_ | refine aopsD_go ?_ | refine aopsF_go ?_); simp [h1, rB_len]; (try (refine gen fun q hq => ?_; cases q <;> (try simp [h1, rB_len] at hq) <;> (try (have hh : True := hq; clear hh hq)))))
      | (refine T.ret (Done.data (Or.inr rfl) ?_ ?_) <;> simp [Tryz.results12] <;> omega)
      | refine T.rs (fun _ => false) fun K hK => ?_
      | refine T.rs1 (fun _ => false) fun K hK => ?_
      | (refine ⟨by omega, ?_⟩)
      | refine T.cond rfl (fun hcnd => ?_) (fun hcnd => absurd hcnd (by decide))
      | refine T.cond rfl (fun hcnd => absurd hcnd (by decide)) (fun hcnd => ?_)
      | refine T.seq ?_
      | refine T.block ?_
      | refine T.skip ?_
      | refine T.exit ?_
  obtain ⟨e, he, d1⟩ := (DrawInsertCasts_ok b hb).elim
  have k1 := InsertCasts_ok e (by omega)
  have k2 := InsertCastsS_ok e (by omega)
  cases hr : insertM e with
  | none =>
    have kz := TermSame_ok zeroE zeroE (by simp [nTm_mk, nTmS, nTy_mk, nTyS])
    rw [sameTm_refl] at kz
    rw [hr] at k1 k2
    simp only [elRes] at k1 k2
    refine ACalls.of_body Tryz.func12 (by kernel_rfl) rfl (by kernel_rfl) (by simp [Tryz.ntmps12]) (by simp) ?_
    rw [Tryz.ntmps12]
    repeat' first
      | ((first | refine aops_end (hK _ ?_) | refine aopsD_end (hK _ ?_) | refine aopsF_end (hK _ ?_)); clear hK K)
      | ((first | refine aops_go ?_ | refine aopsD_go ?_ | refine aopsF_go ?_); simp [h1, rB_len]; (try (refine gen fun q hq => ?_; cases q <;> (try simp [h1, rB_len] at hq) <;> (try (have hh : True := hq; clear hh hq)))))
      | (refine wpcall_pure rfl (d1) ?_; simp [h1, rB_len]; (try (refine gen fun q hq => ?_; cases q <;> (try simp [h1, rB_len] at hq) <;> (try (have hh : True := hq; clear hh hq)))))
      | (refine wpcall_pure rfl (k1) ?_; simp [h1, rB_len]; (try (refine gen fun q hq => ?_; cases q <;> (try simp [h1, rB_len] at hq) <;> (try (have hh : True := hq; clear hh hq)))))
      | (refine wpcall_pure rfl (k2) ?_; simp [h1, rB_len]; (try (refine gen fun q hq => ?_; cases q <;> (try simp [h1, rB_len] at hq) <;> (try (have hh : True := hq; clear hh hq)))))
      | (refine wpcall_pure ?_ (kz) ?_; (focus (solve | simp [h1, rB_len])); simp [h1, rB_len]; (try (refine gen fun q hq => ?_; cases q <;> (try simp [h1, rB_len] at hq) <;> (try (have hh : True := hq; clear hh hq)))))
      | (refine T.ret (Done.data (Or.inr rfl) ?_ ?_) <;> simp [Tryz.results12] <;> omega)
      | refine T.rs (fun _ => false) fun K hK => ?_
      | refine T.rs1 (fun _ => false) fun K hK => ?_
      | (refine ⟨by omega, ?_⟩)
      | refine T.cond rfl (fun hcnd => ?_) (fun hcnd => absurd hcnd (by decide))
      | refine T.cond rfl (fun hcnd => absurd hcnd (by decide)) (fun hcnd => ?_)
      | refine T.seq ?_
      | refine T.block ?_
      | refine T.skip ?_
      | refine T.exit ?_
  | some p =>
    obtain ⟨x, t⟩ := p
    obtain ⟨hv, hty, m, hm, hev, hvx, hst, h0m, hmn, hn30, hnx, hct, hsm⟩ := insert_some hr
    have hcv : castValidM x = true := castValidM_iff.2 ⟨hvx.mono (by omega), by omega⟩
    have k3 := TermSame_ok x x (by omega)
    rw [sameTm_refl] at k3
    have k4 := StaticTerm_ok e (by omega)
    rw [hr] at k1 k2
    simp only [elRes] at k1 k2
    cases hs : staticM e <;> rw [hs] at k4
    · refine ACalls.of_body Tryz.func12 (by kernel_rfl) rfl (by kernel_rfl) (by simp [Tryz.ntmps12]) (by simp) ?_
      rw [Tryz.ntmps12]
      repeat' first
        | ((first | refine aops_end (hK _ ?_) | refine aopsD_end (hK _ ?_) | refine aopsF_end (hK _ ?_)); clear hK K)
        | ((first | refine aops_go ?_ | refine aopsD_go ?_ | refine aopsF_go ?_); simp [h1, rB_len]; (try (refine gen fun q hq => ?_; cases q <;> (try simp [h1, rB_len] at hq) <;> (try (have hh : True := hq; clear hh hq)))))
        | (refine wpcall_pure rfl (d1) ?_; simp [h1, rB_len]; (try (refine gen fun q hq => ?_; cases q <;> (try simp [h1, rB_len] at hq) <;> (try (have hh : True := hq; clear hh hq)))))
        | (refine wpcall_pure rfl (k1) ?_; simp [h1, rB_len]; (try (refine gen fun q hq => ?_; cases q <;> (try simp [h1, rB_len] at hq) <;> (try (have hh : True := hq; clear hh hq)))))
        | (refine wpcall_pure rfl (k2) ?_; simp [h1, rB_len]; (try (refine gen fun q hq => ?_; cases q <;> (try simp [h1, rB_len] at hq) <;> (try (have hh : True := hq; clear hh hq)))))
        | (refine wpcall_pure rfl (k3) ?_; simp [h1, rB_len]; (try (refine gen fun q hq => ?_; cases q <;> (try simp [h1, rB_len] at hq) <;> (try (have hh : True := hq; clear hh hq)))))
        | (refine wpcall_pure rfl (k4) ?_; simp [h1, rB_len]; (try (refine gen fun q hq => ?_; cases q <;> (try simp [h1, rB_len] at hq) <;> (try (have hh : True := hq; clear hh hq)))))
        | (refine T.ret (Done.data (Or.inr rfl) ?_ ?_) <;> simp [Tryz.results12] <;> omega)
        | refine T.rs (fun _ => false) fun K hK => ?_
        | refine T.rs1 (fun _ => false) fun K hK => ?_
        | (refine ⟨by omega, ?_⟩)
        | refine T.cond rfl (fun hcnd => ?_) (fun hcnd => absurd hcnd (by decide))
        | refine T.cond rfl (fun hcnd => absurd hcnd (by decide)) (fun hcnd => ?_)
        | refine T.seq ?_
        | refine T.block ?_
        | refine T.skip ?_
        | refine T.exit ?_
    · obtain ⟨_, hts⟩ := staticM_iff.1 hs
      have k5 := CastLabels_nil x (by omega) hcv (hev.static (fun b hb => by simp at hb) (termValid_parts hv) (by intro b hb; simp at hb) hts).2.1
      refine ACalls.of_body Tryz.func12 (by kernel_rfl) rfl (by kernel_rfl) (by simp [Tryz.ntmps12]) (by simp) ?_
      rw [Tryz.ntmps12]
      repeat' first
        | ((first | refine aops_end (hK _ ?_) | refine aopsD_end (hK _ ?_) | refine aopsF_end (hK _ ?_)); clear hK K)
        | ((first | refine aops_go ?_ | refine aopsD_go ?_ | refine aopsF_go ?_); simp [h1, rB_len]; (try (refine gen fun q hq => ?_; cases q <;> (try simp [h1, rB_len] at hq) <;> (try (have hh : True := hq; clear hh hq)))))
        | (refine wpcall_pure rfl (d1) ?_; simp [h1, rB_len]; (try (refine gen fun q hq => ?_; cases q <;> (try simp [h1, rB_len] at hq) <;> (try (have hh : True := hq; clear hh hq)))))
        | (refine wpcall_pure rfl (k1) ?_; simp [h1, rB_len]; (try (refine gen fun q hq => ?_; cases q <;> (try simp [h1, rB_len] at hq) <;> (try (have hh : True := hq; clear hh hq)))))
        | (refine wpcall_pure rfl (k2) ?_; simp [h1, rB_len]; (try (refine gen fun q hq => ?_; cases q <;> (try simp [h1, rB_len] at hq) <;> (try (have hh : True := hq; clear hh hq)))))
        | (refine wpcall_pure rfl (k3) ?_; simp [h1, rB_len]; (try (refine gen fun q hq => ?_; cases q <;> (try simp [h1, rB_len] at hq) <;> (try (have hh : True := hq; clear hh hq)))))
        | (refine wpcall_pure rfl (k4) ?_; simp [h1, rB_len]; (try (refine gen fun q hq => ?_; cases q <;> (try simp [h1, rB_len] at hq) <;> (try (have hh : True := hq; clear hh hq)))))
        | (refine wpcall_pure rfl (k5) ?_; simp [h1, rB_len]; (try (refine gen fun q hq => ?_; cases q <;> (try simp [h1, rB_len] at hq) <;> (try (have hh : True := hq; clear hh hq)))))
        | (refine T.ret (Done.data (Or.inr rfl) ?_ ?_) <;> simp [Tryz.results12] <;> omega)
        | refine T.rs (fun _ => false) fun K hK => ?_
        | refine T.rs1 (fun _ => false) fun K hK => ?_
        | (refine ⟨by omega, ?_⟩)
        | refine T.cond rfl (fun hcnd => ?_) (fun hcnd => absurd hcnd (by decide))
        | refine T.cond rfl (fun hcnd => absurd hcnd (by decide)) (fun hcnd => ?_)
        | refine T.seq ?_
        | refine T.block ?_
        | refine T.skip ?_
        | refine T.exit ?_
end Go.Proofs.YtfdknjjnifnobaaGreat
