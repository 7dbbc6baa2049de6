/- A part of the library of this seat: a value-semantic program logic over the model, plain models, and walks of functions. -/
import Derived.Test.YtfdknjjnifnobaaGreatK13
set_option linter.unusedVariables false
set_option linter.unusedSimpArgs false
namespace Go.Proofs.YtfdknjjnifnobaaGreat
open Go Go.Av
attribute [local irreducible] T ACalls TX EX LX Draws Some_ ACallsX eTy eTm MTy.kind MTy.kids MTm.kind MTm.name MTm.num MTm.ty MTm.fr MTm.label MTm.kids
attribute [local simp] eTy_def eTm_def
set_option linter.unusedSimpArgs false
set_option linter.unusedVariables false
set_option maxHeartbeats 16000000
set_option maxRecDepth 8000

@[simp] theorem td_set26 : td Tryz.prog 107 = some { ag := true, sz := 26, by_ := 26, zero := some (rowB noB), el := none, ar := some (26, 4), fl := [], ik := none, isS := false, isB := false } := keep (by kernel_rfl)

theorem inns_rowB (A : List Arr) (ids : List Nat) : ∀ S : List Bool, inns A ids (rowB S) = some (rowB S)
  | [] => rfl
  | b :: r => by simp only [rowB, List.map_cons, inns]; rw [show inns A ids (List.map (fun b => CV.d (DV.bool b)) r) = some (List.map (fun b => CV.d (DV.bool b)) r) from inns_rowB A ids r]; rfl
theorem ress_rowB (A : List Arr) (os ks : List Nat) : ∀ S : List Bool, ress A os ks (rowB S) = some (rowB S)
  | [] => rfl
  | b :: r => by simp only [rowB, List.map_cons, ress]; rw [show ress A os ks (List.map (fun b => CV.d (DV.bool b)) r) = some (List.map (fun b => CV.d (DV.bool b)) r) from ress_rowB A os ks r]; rfl
theorem outn_rowB (ids : List Nat) (n m : Nat) (S : List Bool) : List.map (CV.outn ids n m ∘ fun b => CV.d (DV.bool b)) S = rowB S := List.map_congr_left fun b _ => rfl
theorem seal_rowB : ∀ (S : List Bool) (A : List Arr), List.foldl sealA A (rowB S) = A
  | [], A => rfl
  | b :: r, A => by simp only [rowB, List.map_cons, List.foldl_cons]; exact seal_rowB r A

theorem splice_rowB {S : List Bool} {i : Nat} (h : i < S.length) : splice (rowB S) i [CV.d (.bool true)] = rowB (S.set i true) := by
  simp only [splice, rowB, List.map_set, List.length_singleton]
  rw [List.set_eq_take_append_cons_drop]
  simp [h]

set_option maxRecDepth 100000 in
theorem sliteIndexByte (s : ByteArray) (c : Int) (w : World) :
    Calls Tryz.prog 250 #[.string s, .int .u8 c] w fun e w' => e = .returned (.int .i64 (Lib.indexByte s.data.toList c.toNat.toUInt8)) ∧ w' = w := by
  go_enter Tryz.func250, Tryz.ntmps250
  go_wp2
  rw [run_callFunc_extern Tryz.func254 (by kernel_rfl) (by kernel_rfl) (by kernel_rfl) (e := Extern.BytealgIndexByte.indexByte) (by kernel_rfl), Lib.run_indexByteString]
  simp only [Result.andThen]
  rw [Oper.upon_value]
  go_wp2
  go_ret
  exact ⟨rfl, rfl⟩

theorem IndexByte_ok (s : List UInt8) (c : Int) : ACalls Tryz.prog 250 [.s s, .c (.d (.int .u8 c))] [] (.i (Lib.indexByte s c.toNat.toUInt8)) [] [] := by
  unfold ACalls
  refine ⟨enters (c := (Tryz.f250.body).getD .skip) Tryz.func250 rfl (by kernel_rfl), by simp, fun g w vs hg hI hl hv => ?_⟩
  have h0 : 0 < vs.size := by rw [hl]; simp
  have h1 : 1 < vs.size := by rw [hl]; simp
  have e0 := hv 0 _ vs[0] rfl (by simp [h0])
  have e1 := hv 1 _ vs[1] rfl (by simp [h1])
  simp only [RepV, RepE, RepC, RepD] at e0 e1
  have e : vs = #[.string (bs s), .int .u8 c] := by
    apply Array.ext
    · simpa using hl
    · intro i hi hi'
      match i with
      | 0 => simpa using e0
      | 1 => simpa using e1
      | i + 2 => exact absurd hi' (by simp)
  subst e
  refine (sliteIndexByte (bs s) c w).mono ?_
  rintro e w' ⟨rfl, rfl⟩
  exact ⟨_, g, rfl, by simp [RepV, RepE, RepC, RepD, bs], hI, .refl⟩

theorem Index1_ok (s : List UInt8) (c : UInt8) : ACalls Tryz.prog 247 [.s s, .s [c]] [] (.i (Lib.indexByte s c)) [] [] := by
  have h := IndexByte_ok s c.toNat
  have e : (c.toNat : Int).toNat.toUInt8 = c := by simp
  rw [e] at h
  by_cases hs : s = [c]
  · subst hs
    refine ACalls.of_body Tryz.func247 (by kernel_rfl) rfl (by kernel_rfl) (by simp [Tryz.ntmps247]) (by simp) ?_
    rw [Tryz.ntmps247]
    repeat' first
      | ((first | refine aops_end (hK _ ?_)); clear hK K)
      | ((first | refine aops_go ?_); simp; (try (refine gen fun q hq => ?_; cases q <;> (try simp at hq) <;> (try (have hh : True := hq; clear hh hq)))))
      | (refine T.ret (Done.data (Or.inr rfl) ?_ ?_) <;> simp [Tryz.results247, Lib.indexByte] <;> omega)
      | refine T.rs (fun _ => false) fun K hK => ?_
      | refine T.cond rfl (fun hcnd => ?_) (fun hcnd => absurd hcnd (by decide))
      | refine T.seq ?_
      | refine T.block ?_
  · have hs' : ¬ [c] = s := fun e => hs e.symm
    refine ACalls.of_body Tryz.func247 (by kernel_rfl) rfl (by kernel_rfl) (by simp [Tryz.ntmps247]) (by simp) ?_
    rw [Tryz.ntmps247]
    repeat' first
      | ((first | refine aops_end (hK _ ?_)); clear hK K)
      | ((first | refine aops_go ?_); simp [hs']; (try (refine gen fun q hq => ?_; cases q <;> (try simp [hs'] at hq) <;> (try (have hh : True := hq; clear hh hq)))))
      | (refine wpcall_pure rfl (h) ?_; simp [hs']; (try (refine gen fun q hq => ?_; cases q <;> (try simp [hs'] at hq) <;> (try (have hh : True := hq; clear hh hq)))))
      | (refine T.ret (Done.data (Or.inr rfl) ?_ ?_) <;> simp [Tryz.results247] <;> omega)
      | refine T.rs (fun _ => false) fun K hK => ?_
      | refine T.cond rfl (fun hcnd => ?_) (fun hcnd => absurd hcnd (by decide))
      | refine T.cond rfl (fun hcnd => absurd hcnd (by decide)) (fun hcnd => ?_)
      | refine T.seq ?_
      | refine T.block ?_

theorem sIndex1_ok (s : List UInt8) (c : UInt8) : ACalls Tryz.prog 234 [.s s, .s [c]] [] (.i (Lib.indexByte s c)) [] [] := by
  have h := Index1_ok s c
  refine ACalls.of_body Tryz.func234 (by kernel_rfl) rfl (by kernel_rfl) (by simp [Tryz.ntmps234]) (by simp) ?_
  rw [Tryz.ntmps234]
  repeat' first
    | ((first | refine aops_end (hK _ ?_)); clear hK K)
    | ((first | refine aops_go ?_); simp; (try (refine gen fun q hq => ?_; cases q <;> (try simp at hq) <;> (try (have hh : True := hq; clear hh hq)))))
    | (refine wpcall_pure rfl (h) ?_; simp; (try (refine gen fun q hq => ?_; cases q <;> (try simp at hq) <;> (try (have hh : True := hq; clear hh hq)))))
    | (refine T.ret (Done.data (Or.inr rfl) ?_ ?_) <;> simp [Tryz.results234] <;> omega)
    | refine T.rs (fun _ => false) fun K hK => ?_

theorem Contains1_ok (s : List UInt8) (c : UInt8) : ACalls Tryz.prog 194 [.s s, .s [c]] [] (.b (s.contains c)) [] [] := by
  have h := sIndex1_ok s c
  have e : decide (0 ≤ Lib.indexByte s c) = s.contains c := by
    rw [Bool.eq_iff_iff, decide_eq_true_iff]; exact indexByte_iff s c
  rw [← e]
  refine ACalls.of_body Tryz.func194 (by kernel_rfl) rfl (by kernel_rfl) (by simp [Tryz.ntmps194]) (by simp) ?_
  rw [Tryz.ntmps194]
  repeat' first
    | ((first | refine aops_end (hK _ ?_)); clear hK K)
    | ((first | refine aops_go ?_); simp)
    | (refine wpcall_pure rfl (h) ?_; simp)
    | (refine T.ret (Done.data (Or.inr rfl) ?_ ?_) <;> simp [Tryz.results194] <;> omega)
    | refine T.rs (fun _ => false) fun K hK => ?_

theorem free_var (e : MTm) (bd : List UInt8) (h1 : e.kind = 1) (z : UInt8) (hz : e.name = [z]) (h97 : 97 ≤ z.toNat) (h122 : z.toNat ≤ 122) (hin : bd.contains z = false) (hl : e.kids.length ≤ 3) (S : List Bool) (hS : S.length = 26)
    (ih : ∀ u ∈ e.kids, ∀ S : List Bool, S.length = 26 → ACalls Tryz.prog 143 [aTm u, .s (bd), .c (.ptr 0 0)] [rowB S] (.tup []) [rowB (orF (fun c => freeIn c (bd) u) S)] []) :
    ACalls Tryz.prog 143 [aTm e, .s bd, .c (.ptr 0 0)] [rowB S] (.tup []) [rowB (orF (fun c => e.kids.any (freeIn c (bd))) (orF (fun c => decide (c = z)) S))] [] := by
  have hc := Contains1_ok bd z
  rw [hin] at hc
  have hw8 : IntKind.u8.wrap ((z.toNat : Int) - 97) = (z.toNat - 97 : Nat) := by rw [show ((z.toNat : Int) - 97) = ((z.toNat - 97 : Nat) : Int) by omega]; exact wrap8 (by omega)
  rw [← orF_set hS h97 h122]
  obtain ⟨bd', hbd⟩ : ∃ bd', bd = bd' := ⟨_, rfl⟩
  rw [hbd] at ih ⊢
  rw [hbd] at hc
  obtain ⟨S1, hS1⟩ : ∃ S1, S.set (z.toNat - 97) true = S1 := ⟨_, rfl⟩
  rw [hS1]
  have hl1 : S1.length = 26 := by rw [← hS1]; simpa using hS
  have hsp : List.take (z.toNat - 97) (rowB S) ++ CV.d (.bool true) :: List.drop (z.toNat - 97 + 1) (rowB S) = rowB S1 := by rw [← hS1, ← splice_rowB (by omega)]; simp [splice]
  refine ACalls.of_body Tryz.func143 (by kernel_rfl) rfl (by kernel_rfl) (by simp [Tryz.ntmps143]) (by simp) ?_
  rw [Tryz.ntmps143]
  repeat' first
    | ((first | refine aops_end (hK _ ?_) | refine aopsD_end (hK _ ?_)); clear hK K)
    | ((first | refine aops_go ?_ | refine aopsD_go ?_); simp [h1, hz, hin, hw8, hsp]; (try (refine gen fun q hq => ?_; cases q <;> (try simp [h1, hz, hin, hw8, hsp] at hq) <;> (try (have hh : True := hq; clear hh hq)))))
    | (refine wpcall_pure rfl (hc) ?_; simp [h1, hz, hin, hw8, hsp]; (try (refine gen fun q hq => ?_; cases q <;> (try simp [h1, hz, hin, hw8, hsp] at hq) <;> (try (have hh : True := hq; clear hh hq)))))
    | refine T.rd1 (id := 2) mixed (fun _ => false) [7] (by kernel_rfl) fun K hK => ?_
    | refine T.rs (fun _ => false) fun K hK => ?_
    | (refine ⟨by omega, ?_⟩)
    | refine T.cond rfl (fun hcnd => ?_) (fun hcnd => absurd hcnd (by decide))
    | refine T.cond rfl (fun hcnd => absurd hcnd (by decide)) (fun hcnd => ?_)
    | refine T.seq ?_
    | refine T.block ?_
    | refine T.skip ?_
  refine T.loopK (α := Nat × List (List CV)) [1, 2, 33, 34] (fun x => [(35, .i x.1)]) (fun x => [(0, rowB (orF (fun c => (e.kids.take x.1).any (freeIn c bd')) S1))]) (fun x => x.2) (fun x A => A) (fun x => e.kids.length + 1 - x.1) (fun x => x.1 ≤ e.kids.length) (by simp; rfl) (fun x hx => ?_) (0, []) (by simp) (by simp [orF_none, hl1]) (by simp) (by simp)
  obtain ⟨p, G⟩ := x
  dsimp only at hx ⊢
  simp only [ups, List.set_cons_zero, List.cons_append, List.nil_append]
  by_cases hlt : p < e.kids.length
  · obtain ⟨u, ht⟩ := get_lt hlt
    have htm : u ∈ e.kids := List.mem_of_getElem? ht
    have hgt : e.kids[p] = u := by rw [List.getElem?_eq_getElem hlt] at ht; exact Option.some.inj ht
    have hdr : e.kids.drop p = u :: e.kids.drop (p + 1) := by rw [List.drop_eq_getElem_cons hlt, hgt]
    have hlp : (orF (fun c => (e.kids.take p).any (freeIn c bd')) S1).length = 26 := orF_len hl1
    have hu := ih u htm _ hlp
    rw [orF_or hl1] at hu
    have htk : orF (fun c => (e.kids.take (p + 1)).any (freeIn c bd')) S1 = orF (fun c => (e.kids.take p).any (freeIn c bd') || freeIn c bd' u) S1 := orF_congr fun c => by rw [List.take_add_one, ht, List.any_append]; simp
    rw [← htk] at hu
    generalize orF (fun c => (e.kids.take p).any (freeIn c bd')) S1 = Z at *
    obtain ⟨Z', hZ'⟩ : ∃ Z', orF (fun c => (e.kids.take (p + 1)).any (freeIn c bd')) S1 = Z' := ⟨_, rfl⟩
    rw [hZ'] at hu
    repeat' first
      | ((first | refine aops_end (hK _ ?_)); clear hK K)
      | ((first | refine aops_go ?_); simp [hlt, hgt]; (try simp (disch := omega) only [wrap64]); (try (refine gen fun q hq => ?_; cases q <;> (try simp [hlt, hgt] at hq) <;> (try (have hh : True := hq; clear hh hq)))))
      | (refine wpcall_g [0] (by simp) rfl (by simp [inns_rowB]) hu ?_; simp [outn_rowB, seal_rowB])
      | refine T.rs (fun _ => false) fun K hK => ?_
      | refine T.rs1 (fun _ => false) fun K hK => ?_
      | refine T.cond rfl (fun hcnd => ?_) (fun hcnd => absurd hcnd (by decide))
      | refine T.seq ?_
      | refine T.block ?_
      | refine T.skip ?_
    refine ⟨(p + 1, G ++ [(aTm u).cells]), by dsimp only; omega, by dsimp only; omega, by dsimp only; rw [hZ']; rfl, ?_, ?_⟩ <;> simp (disch := omega) [wrap64]
  · have hp' : p = e.kids.length := by omega
    subst hp'
    rw [List.take_length]
    generalize orF (fun c => e.kids.any (freeIn c bd')) S1 = Z at *
    repeat' first
      | ((first | refine aops_end (hK _ ?_)); clear hK K)
      | ((first | refine aops_go ?_); simp [hlt]; (try (refine gen fun q hq => ?_; cases q <;> (try simp [hlt] at hq) <;> (try (have hh : True := hq; clear hh hq)))))
      | refine T.rs (fun _ => false) fun K hK => ?_
      | refine T.cond rfl (fun hcnd => absurd hcnd (by decide)) (fun hcnd => ?_)
      | refine T.seq ?_
      | refine T.exit ?_
    all_goals (refine Done.g (ys := []) (Or.inl rfl) ?_ rfl ?_ <;> simp [resAs, ress_rowB, Tryz.results143])

theorem free_bnd (e : MTm) (bd : List UInt8) (h1 : e.kind = 1) (z : UInt8) (hz : e.name = [z]) (hin : bd.contains z = true) (hl : e.kids.length ≤ 3) (S : List Bool) (hS : S.length = 26)
    (ih : ∀ u ∈ e.kids, ∀ S : List Bool, S.length = 26 → ACalls Tryz.prog 143 [aTm u, .s (bd), .c (.ptr 0 0)] [rowB S] (.tup []) [rowB (orF (fun c => freeIn c (bd) u) S)] []) :
    ACalls Tryz.prog 143 [aTm e, .s bd, .c (.ptr 0 0)] [rowB S] (.tup []) [rowB (orF (fun c => e.kids.any (freeIn c (bd))) (S))] [] := by
  have hc := Contains1_ok bd z
  rw [hin] at hc
  obtain ⟨bd', hbd⟩ : ∃ bd', bd = bd' := ⟨_, rfl⟩
  rw [hbd] at ih ⊢
  rw [hbd] at hc
  obtain ⟨S1, hS1⟩ : ∃ S1, S = S1 := ⟨_, rfl⟩
  rw [hS1] at hS ⊢
  have hl1 : S1.length = 26 := hS
  refine ACalls.of_body Tryz.func143 (by kernel_rfl) rfl (by kernel_rfl) (by simp [Tryz.ntmps143]) (by simp) ?_
  rw [Tryz.ntmps143]
  repeat' first
    | ((first | refine aops_end (hK _ ?_)); clear hK K)
    | ((first | refine aops_go ?_); simp [h1, hz, hin]; (try (refine gen fun q hq => ?_; cases q <;> (try simp [h1, hz, hin] at hq) <;> (try (have hh : True := hq; clear hh hq)))))
    | (refine wpcall_pure rfl (hc) ?_; simp [h1, hz, hin]; (try (refine gen fun q hq => ?_; cases q <;> (try simp [h1, hz, hin] at hq) <;> (try (have hh : True := hq; clear hh hq)))))
    | refine T.rs (fun _ => false) fun K hK => ?_
    | refine T.cond rfl (fun hcnd => absurd hcnd (by decide)) (fun hcnd => ?_)
    | refine T.seq ?_
    | refine T.block ?_
    | refine T.skip ?_
  refine T.loopK (α := Nat × List (List CV)) [1, 2, 33, 34] (fun x => [(35, .i x.1)]) (fun x => [(0, rowB (orF (fun c => (e.kids.take x.1).any (freeIn c bd')) S1))]) (fun x => x.2) (fun x A => A) (fun x => e.kids.length + 1 - x.1) (fun x => x.1 ≤ e.kids.length) (by simp; rfl) (fun x hx => ?_) (0, []) (by simp) (by simp [orF_none, hl1]) (by simp) (by simp)
  obtain ⟨p, G⟩ := x
  dsimp only at hx ⊢
  simp only [ups, List.set_cons_zero, List.cons_append, List.nil_append]
  by_cases hlt : p < e.kids.length
  · obtain ⟨u, ht⟩ := get_lt hlt
    have htm : u ∈ e.kids := List.mem_of_getElem? ht
    have hgt : e.kids[p] = u := by rw [List.getElem?_eq_getElem hlt] at ht; exact Option.some.inj ht
    have hdr : e.kids.drop p = u :: e.kids.drop (p + 1) := by rw [List.drop_eq_getElem_cons hlt, hgt]
    have hlp : (orF (fun c => (e.kids.take p).any (freeIn c bd')) S1).length = 26 := orF_len hl1
    have hu := ih u htm _ hlp
    rw [orF_or hl1] at hu
    have htk : orF (fun c => (e.kids.take (p + 1)).any (freeIn c bd')) S1 = orF (fun c => (e.kids.take p).any (freeIn c bd') || freeIn c bd' u) S1 := orF_congr fun c => by rw [List.take_add_one, ht, List.any_append]; simp
    rw [← htk] at hu
    generalize orF (fun c => (e.kids.take p).any (freeIn c bd')) S1 = Z at *
    obtain ⟨Z', hZ'⟩ : ∃ Z', orF (fun c => (e.kids.take (p + 1)).any (freeIn c bd')) S1 = Z' := ⟨_, rfl⟩
    rw [hZ'] at hu
    repeat' first
      | ((first | refine aops_end (hK _ ?_)); clear hK K)
      | ((first | refine aops_go ?_); simp [hlt, hgt]; (try simp (disch := omega) only [wrap64]); (try (refine gen fun q hq => ?_; cases q <;> (try simp [hlt, hgt] at hq) <;> (try (have hh : True := hq; clear hh hq)))))
      | (refine wpcall_g [0] (by simp) rfl (by simp [inns_rowB]) hu ?_; simp [outn_rowB, seal_rowB])
      | refine T.rs (fun _ => false) fun K hK => ?_
      | refine T.rs1 (fun _ => false) fun K hK => ?_
      | refine T.cond rfl (fun hcnd => ?_) (fun hcnd => absurd hcnd (by decide))
      | refine T.seq ?_
      | refine T.block ?_
      | refine T.skip ?_
    refine ⟨(p + 1, G ++ [(aTm u).cells]), by dsimp only; omega, by dsimp only; omega, by dsimp only; rw [hZ']; rfl, ?_, ?_⟩ <;> simp (disch := omega) [wrap64]
  · have hp' : p = e.kids.length := by omega
    subst hp'
    rw [List.take_length]
    generalize orF (fun c => e.kids.any (freeIn c bd')) S1 = Z at *
    repeat' first
      | ((first | refine aops_end (hK _ ?_)); clear hK K)
      | ((first | refine aops_go ?_); simp [hlt]; (try (refine gen fun q hq => ?_; cases q <;> (try simp [hlt] at hq) <;> (try (have hh : True := hq; clear hh hq)))))
      | refine T.rs (fun _ => false) fun K hK => ?_
      | refine T.cond rfl (fun hcnd => absurd hcnd (by decide)) (fun hcnd => ?_)
      | refine T.seq ?_
      | refine T.exit ?_
    all_goals (refine Done.g (ys := []) (Or.inl rfl) ?_ rfl ?_ <;> simp [resAs, ress_rowB, Tryz.results143])

theorem free_lam (e : MTm) (bd : List UInt8) (h1 : ¬ e.kind = 1) (h5 : e.kind = 5) (hbl : bd.length + e.name.length ≤ 4611686018427387904) (hl : e.kids.length ≤ 3) (S : List Bool) (hS : S.length = 26)
    (ih : ∀ u ∈ e.kids, ∀ S : List Bool, S.length = 26 → ACalls Tryz.prog 143 [aTm u, .s (bd ++ e.name), .c (.ptr 0 0)] [rowB S] (.tup []) [rowB (orF (fun c => freeIn c (bd ++ e.name) u) S)] []) :
    ACalls Tryz.prog 143 [aTm e, .s bd, .c (.ptr 0 0)] [rowB S] (.tup []) [rowB (orF (fun c => e.kids.any (freeIn c (bd ++ e.name))) (S))] [] := by
  obtain ⟨bd', hbd⟩ : ∃ bd', bd ++ e.name = bd' := ⟨_, rfl⟩
  rw [hbd] at ih ⊢
  obtain ⟨S1, hS1⟩ : ∃ S1, S = S1 := ⟨_, rfl⟩
  rw [hS1] at hS ⊢
  have hl1 : S1.length = 26 := hS
  refine ACalls.of_body Tryz.func143 (by kernel_rfl) rfl (by kernel_rfl) (by simp [Tryz.ntmps143]) (by simp) ?_
  rw [Tryz.ntmps143]
  repeat' first
    | ((first | refine aops_end (hK _ ?_)); clear hK K)
    | ((first | refine aops_go ?_); simp [h1, h5, hbl, hbd]; (try (refine gen fun q hq => ?_; cases q <;> (try simp [h1, h5, hbl, hbd] at hq) <;> (try (have hh : True := hq; clear hh hq)))))
    | refine T.rs (fun _ => false) fun K hK => ?_
    | refine T.rs1 (fun _ => false) fun K hK => ?_
    | refine T.cond rfl (fun hcnd => ?_) (fun hcnd => absurd hcnd (by decide))
    | refine T.cond rfl (fun hcnd => absurd hcnd (by decide)) (fun hcnd => ?_)
    | refine T.seq ?_
    | refine T.block ?_
    | refine T.skip ?_
  refine T.loopK (α := Nat × List (List CV)) [1, 2, 33, 34] (fun x => [(35, .i x.1)]) (fun x => [(0, rowB (orF (fun c => (e.kids.take x.1).any (freeIn c bd')) S1))]) (fun x => x.2) (fun x A => A) (fun x => e.kids.length + 1 - x.1) (fun x => x.1 ≤ e.kids.length) (by simp; rfl) (fun x hx => ?_) (0, []) (by simp) (by simp [orF_none, hl1]) (by simp) (by simp)
  obtain ⟨p, G⟩ := x
  dsimp only at hx ⊢
  simp only [ups, List.set_cons_zero, List.cons_append, List.nil_append]
  by_cases hlt : p < e.kids.length
  · obtain ⟨u, ht⟩ := get_lt hlt
    have htm : u ∈ e.kids := List.mem_of_getElem? ht
    have hgt : e.kids[p] = u := by rw [List.getElem?_eq_getElem hlt] at ht; exact Option.some.inj ht
    have hdr : e.kids.drop p = u :: e.kids.drop (p + 1) := by rw [List.drop_eq_getElem_cons hlt, hgt]
    have hlp : (orF (fun c => (e.kids.take p).any (freeIn c bd')) S1).length = 26 := orF_len hl1
    have hu := ih u htm _ hlp
    rw [orF_or hl1] at hu
    have htk : orF (fun c => (e.kids.take (p + 1)).any (freeIn c bd')) S1 = orF (fun c => (e.kids.take p).any (freeIn c bd') || freeIn c bd' u) S1 := orF_congr fun c => by rw [List.take_add_one, ht, List.any_append]; simp
    rw [← htk] at hu
    generalize orF (fun c => (e.kids.take p).any (freeIn c bd')) S1 = Z at *
    obtain ⟨Z', hZ'⟩ : ∃ Z', orF (fun c => (e.kids.take (p + 1)).any (freeIn c bd')) S1 = Z' := ⟨_, rfl⟩
    rw [hZ'] at hu
    repeat' first
      | ((first | refine aops_end (hK _ ?_)); clear hK K)
      | ((first | refine aops_go ?_); simp [hlt, hgt]; (try simp (disch := omega) only [wrap64]); (try (refine gen fun q hq => ?_; cases q <;> (try simp [hlt, hgt] at hq) <;> (try (have hh : True := hq; clear hh hq)))))
      | (refine wpcall_g [0] (by simp) rfl (by simp [inns_rowB]) hu ?_; simp [outn_rowB, seal_rowB])
      | refine T.rs (fun _ => false) fun K hK => ?_
      | refine T.rs1 (fun _ => false) fun K hK => ?_
      | refine T.cond rfl (fun hcnd => ?_) (fun hcnd => absurd hcnd (by decide))
      | refine T.seq ?_
      | refine T.block ?_
      | refine T.skip ?_
    refine ⟨(p + 1, G ++ [(aTm u).cells]), by dsimp only; omega, by dsimp only; omega, by dsimp only; rw [hZ']; rfl, ?_, ?_⟩ <;> simp (disch := omega) [wrap64]
  · have hp' : p = e.kids.length := by omega
    subst hp'
    rw [List.take_length]
    generalize orF (fun c => e.kids.any (freeIn c bd')) S1 = Z at *
    repeat' first
      | ((first | refine aops_end (hK _ ?_)); clear hK K)
      | ((first | refine aops_go ?_); simp [hlt]; (try (refine gen fun q hq => ?_; cases q <;> (try simp [hlt] at hq) <;> (try (have hh : True := hq; clear hh hq)))))
      | refine T.rs (fun _ => false) fun K hK => ?_
      | refine T.cond rfl (fun hcnd => absurd hcnd (by decide)) (fun hcnd => ?_)
      | refine T.seq ?_
      | refine T.exit ?_
    all_goals (refine Done.g (ys := []) (Or.inl rfl) ?_ rfl ?_ <;> simp [resAs, ress_rowB, Tryz.results143])

theorem free_non (e : MTm) (bd : List UInt8) (h1 : ¬ e.kind = 1) (h5 : ¬ e.kind = 5) (hl : e.kids.length ≤ 3) (S : List Bool) (hS : S.length = 26)
    (ih : ∀ u ∈ e.kids, ∀ S : List Bool, S.length = 26 → ACalls Tryz.prog 143 [aTm u, .s (bd), .c (.ptr 0 0)] [rowB S] (.tup []) [rowB (orF (fun c => freeIn c (bd) u) S)] []) :
    ACalls Tryz.prog 143 [aTm e, .s bd, .c (.ptr 0 0)] [rowB S] (.tup []) [rowB (orF (fun c => e.kids.any (freeIn c (bd))) (S))] [] := by
  obtain ⟨bd', hbd⟩ : ∃ bd', bd = bd' := ⟨_, rfl⟩
  rw [hbd] at ih ⊢
  obtain ⟨S1, hS1⟩ : ∃ S1, S = S1 := ⟨_, rfl⟩
  rw [hS1] at hS ⊢
  have hl1 : S1.length = 26 := hS
  refine ACalls.of_body Tryz.func143 (by kernel_rfl) rfl (by kernel_rfl) (by simp [Tryz.ntmps143]) (by simp) ?_
  rw [Tryz.ntmps143]
  repeat' first
    | ((first | refine aops_end (hK _ ?_)); clear hK K)
    | ((first | refine aops_go ?_); simp [h1, h5]; (try (refine gen fun q hq => ?_; cases q <;> (try simp [h1, h5] at hq) <;> (try (have hh : True := hq; clear hh hq)))))
    | refine T.rs (fun _ => false) fun K hK => ?_
    | refine T.cond rfl (fun hcnd => absurd hcnd (by decide)) (fun hcnd => ?_)
    | refine T.seq ?_
    | refine T.block ?_
    | refine T.skip ?_
  refine T.loopK (α := Nat × List (List CV)) [1, 2, 33, 34] (fun x => [(35, .i x.1)]) (fun x => [(0, rowB (orF (fun c => (e.kids.take x.1).any (freeIn c bd')) S1))]) (fun x => x.2) (fun x A => A) (fun x => e.kids.length + 1 - x.1) (fun x => x.1 ≤ e.kids.length) (by simp; rfl) (fun x hx => ?_) (0, []) (by simp) (by simp [orF_none, hl1]) (by simp) (by simp)
  obtain ⟨p, G⟩ := x
  dsimp only at hx ⊢
  simp only [ups, List.set_cons_zero, List.cons_append, List.nil_append]
  by_cases hlt : p < e.kids.length
  · obtain ⟨u, ht⟩ := get_lt hlt
    have htm : u ∈ e.kids := List.mem_of_getElem? ht
    have hgt : e.kids[p] = u := by rw [List.getElem?_eq_getElem hlt] at ht; exact Option.some.inj ht
    have hdr : e.kids.drop p = u :: e.kids.drop (p + 1) := by rw [List.drop_eq_getElem_cons hlt, hgt]
    have hlp : (orF (fun c => (e.kids.take p).any (freeIn c bd')) S1).length = 26 := orF_len hl1
    have hu := ih u htm _ hlp
    rw [orF_or hl1] at hu
    have htk : orF (fun c => (e.kids.take (p + 1)).any (freeIn c bd')) S1 = orF (fun c => (e.kids.take p).any (freeIn c bd') || freeIn c bd' u) S1 := orF_congr fun c => by rw [List.take_add_one, ht, List.any_append]; simp
    rw [← htk] at hu
    generalize orF (fun c => (e.kids.take p).any (freeIn c bd')) S1 = Z at *
    obtain ⟨Z', hZ'⟩ : ∃ Z', orF (fun c => (e.kids.take (p + 1)).any (freeIn c bd')) S1 = Z' := ⟨_, rfl⟩
    rw [hZ'] at hu
    repeat' first
      | ((first | refine aops_end (hK _ ?_)); clear hK K)
      | ((first | refine aops_go ?_); simp [hlt, hgt]; (try simp (disch := omega) only [wrap64]); (try (refine gen fun q hq => ?_; cases q <;> (try simp [hlt, hgt] at hq) <;> (try (have hh : True := hq; clear hh hq)))))
      | (refine wpcall_g [0] (by simp) rfl (by simp [inns_rowB]) hu ?_; simp [outn_rowB, seal_rowB])
      | refine T.rs (fun _ => false) fun K hK => ?_
      | refine T.rs1 (fun _ => false) fun K hK => ?_
      | refine T.cond rfl (fun hcnd => ?_) (fun hcnd => absurd hcnd (by decide))
      | refine T.seq ?_
      | refine T.block ?_
      | refine T.skip ?_
    refine ⟨(p + 1, G ++ [(aTm u).cells]), by dsimp only; omega, by dsimp only; omega, by dsimp only; rw [hZ']; rfl, ?_, ?_⟩ <;> simp (disch := omega) [wrap64]
  · have hp' : p = e.kids.length := by omega
    subst hp'
    rw [List.take_length]
    generalize orF (fun c => e.kids.any (freeIn c bd')) S1 = Z at *
    repeat' first
      | ((first | refine aops_end (hK _ ?_)); clear hK K)
      | ((first | refine aops_go ?_); simp [hlt]; (try (refine gen fun q hq => ?_; cases q <;> (try simp [hlt] at hq) <;> (try (have hh : True := hq; clear hh hq)))))
      | refine T.rs (fun _ => false) fun K hK => ?_
      | refine T.cond rfl (fun hcnd => absurd hcnd (by decide)) (fun hcnd => ?_)
      | refine T.seq ?_
      | refine T.exit ?_
    all_goals (refine Done.g (ys := []) (Or.inl rfl) ?_ rfl ?_ <;> simp [resAs, ress_rowB, Tryz.results143])

theorem free_ok {nt : Int} : ∀ (e : MTm) (d : Nat) (bd : List UInt8) (S : List Bool), shapeTm nt d e = true → S.length = 26 → bd.length + d ≤ 1000000 →
    ACalls Tryz.prog 143 [aTm e, .s bd, .c (.ptr 0 0)] [rowB S] (.tup []) [rowB (orF (fun c => freeIn c bd e) S)] [] := by
  intro e
  induction e using MTm.ind with
  | h e ih =>
    intro d bd S hs hS hbd
    obtain ⟨d', rfl, hne, hlen, hown, hkids⟩ := shapeTm_kids hs
    have hk3 : e.kids.length ≤ 3 := by have := kidsM_le e.kind; omega
    have ih' := fun (bd : List UInt8) (hbd : bd.length + d' ≤ 1000000) u hu (S : List Bool) hS => ih u hu d' bd S (hkids u hu) hS hbd
    by_cases h1 : e.kind = 1
    · have h5 : ¬ e.kind = 5 := by omega
      obtain ⟨z, hz, h97, h122⟩ := nameM_one (own_named hown (by simp [namedM, h1]))
      have h0 : e.kids = [] := by
        rw [h1] at hlen; simp [kidsM] at hlen; exact List.eq_nil_of_length_eq_zero (by omega)
      cases hin : bd.contains z with
      | false =>
        have := free_var e bd h1 z hz h97 h122 hin hk3 S hS (ih' bd (by omega))
        rw [orF_or hS] at this
        rw [orF_congr (g := fun c => decide (c = z) || e.kids.any (freeIn c bd)) (fun c => ?_)]
        · exact this
        · rw [freeIn_def, if_neg h5, hz]
          by_cases e : c = z
          · subst e; simp only [h1, hin]; simp
          · simp [h1, e, Ne.symm e]
      | true =>
        have := free_bnd e bd h1 z hz hin hk3 S hS (ih' bd (by omega))
        rw [orF_congr (g := fun c => e.kids.any (freeIn c bd)) (fun c => ?_)]
        · exact this
        · rw [freeIn_def, if_neg h5, hz]
          by_cases e : c = z
          · subst e; simp only [hin]; simp
          · simp [Ne.symm e]
    · by_cases h5 : e.kind = 5
      · obtain ⟨z, hz, _, _⟩ := nameM_one (own_named hown (by simp [namedM, h5]))
        have hnl : e.name.length = 1 := by rw [hz]; rfl
        have := free_lam e bd h1 h5 (by omega) hk3 S hS (ih' (bd ++ e.name) (by simp; omega))
        rw [orF_congr (g := fun c => e.kids.any (freeIn c (bd ++ e.name))) (fun c => ?_)]
        · exact this
        · rw [freeIn_def, if_pos h5]; simp [h1]
      · have := free_non e bd h1 h5 hk3 S hS (ih' bd (by omega))
        rw [orF_congr (g := fun c => e.kids.any (freeIn c bd)) (fun c => ?_)]
        · exact this
        · rw [freeIn_def, if_neg h5]; simp [h1]

theorem take_letters {p : Nat} (h : p < 26) : letters.take (p + 1) = letters.take p ++ [UInt8.ofNat (97 + p)] := by
  rw [List.take_add_one, letters_get h]; rfl
theorem freeNames_ok {nt : Int} (e : MTm) (d : Nat) (hd : d ≤ 1000000) (hs : shapeTm nt d e = true) : ACalls Tryz.prog 75 [aTm e] [] (.s (namesM e)) [] [] := by
  have h1 := free_ok e d [] noB hs noB_len (by simp; omega)
  obtain ⟨Z, hZ⟩ : ∃ Z, orF (fun c => freeIn c [] e) noB = Z := ⟨_, rfl⟩
  rw [hZ] at h1
  have hg : ∀ p, p < 26 → Z[p]? = some (freeIn (UInt8.ofNat (97 + p)) [] e) := fun p hp => by
    rw [← hZ, orF_get (b := false) hp (noB_get hp)]; simp
  have hzl : Z.length = 26 := by rw [← hZ]; exact orF_len noB_len
  have hnm : namesM e = (letters.take 26).filter fun c => freeIn c [] e := by rw [namesM, List.take_of_length_le (by rw [letters_len]; omega)]
  rw [hnm]
  clear hnm hZ
  generalize hf : (fun c => freeIn c [] e) = f at *
  have hg : ∀ p, p < 26 → Z[p]? = some (f (UInt8.ofNat (97 + p))) := fun p hp => by rw [hg p hp, ← hf]
  have ht26 : List.take 26 (rowB Z) = rowB Z := List.take_of_length_le (by simp [hzl])
  refine ACalls.of_body Tryz.func75 (by kernel_rfl) rfl (by kernel_rfl) (by simp [Tryz.ntmps75]) (by simp) ?_
  rw [Tryz.ntmps75]
  repeat' first
    | ((first | refine aops_end (hK _ ?_)); clear hK K)
    | ((first | refine aops_go ?_); simp [hzl, ht26]; (try (refine gen fun q hq => ?_; cases q <;> (try simp [hzl, ht26] at hq) <;> (try (have hh : True := hq; clear hh hq)))))
    | (refine wpcall_g [1] (by simp) rfl (by simp [inns_rowB]) h1 ?_; simp [outn_rowB, seal_rowB, hzl, ht26])
    | refine T.rs (fun _ => false) fun K hK => ?_
    | refine T.seq ?_
    | refine T.block ?_
  refine T.loopK (α := Nat × List (List CV)) [2, 9] (fun x => [(4, .s ((letters.take x.1).filter f)), (10, .i x.1)]) (fun x => []) (fun x => x.2) (fun x A => A) (fun x => 27 - x.1) (fun x => x.1 ≤ 26) (by simp; rfl) (fun x hx => ?_) (0, []) (by simp) (by simp) (by simp) (by simp)
  obtain ⟨p, G⟩ := x
  dsimp only at hx ⊢
  simp only [ups, List.set_cons_zero, List.set_cons_succ, List.cons_append, List.nil_append]
  by_cases hlt : p < 26
  · have hgp := hg p hlt
    have hw8 : IntKind.u8.wrap (97 + (p : Int)) = (97 + p : Nat) := by rw [show (97 + (p : Int)) = ((97 + p : Nat) : Int) by omega]; exact wrap8 (by omega)
    have hby : bytesOf [[DV.int .u8 ((97 + p : Nat) : Int)]] = some [UInt8.ofNat (97 + p)] := by simp only [bytesOf, byteOfRow]; rw [if_pos (by omega)]; rfl
    have htk := take_letters hlt
    have hcs : ((97 + p : Nat) : Int) = 97 + (p : Int) := by omega
    rw [hcs] at hw8 hby
    clear hcs
    obtain ⟨z, hz⟩ : ∃ z, UInt8.ofNat (97 + p) = z := ⟨_, rfl⟩
    rw [hz] at hgp hby htk
    have hlt' : (p : Int) < 26 := by omega
    have hfl : (List.filter f (List.take p letters)).length ≤ 4611686018427387903 := by
      have h8 := List.length_filter_le f (letters.take p)
      rw [List.length_take] at h8
      omega
    have hlt'' : ¬ (26 : Int) ≤ p := by omega
    cases hb : f z <;> rw [hb] at hgp
    · repeat' first
        | ((first | refine aops_end (hK _ ?_)); clear hK K)
        | ((first | refine aops_go ?_); simp [hlt, hlt', hlt'', hfl, hgp, hw8, hby]; (try simp (disch := omega) only [wrap64]); (try (refine gen fun q hq => ?_; cases q <;> (try simp [hlt, hlt', hlt'', hfl, hgp, hw8, hby] at hq) <;> (try (have hh : True := hq; clear hh hq)))))
        | (refine ⟨(p + 1, _), by dsimp only; omega, by dsimp only; omega, rfl, ?_, ?_⟩ <;> simp (disch := omega) [wrap64, htk, hb])
        | refine T.rs (fun _ => false) fun K hK => ?_
        | refine T.rs1 (fun _ => false) fun K hK => ?_
        | refine T.cond rfl (fun hcnd => ?_) (fun hcnd => absurd hcnd (by decide))
        | refine T.cond rfl (fun hcnd => absurd hcnd (by decide)) (fun hcnd => ?_)
        | refine T.seq ?_
        | refine T.block ?_
        | refine T.skip ?_
    · repeat' first
        | ((first | refine aops_end (hK _ ?_)); clear hK K)
        | ((first | refine aops_go ?_); simp [hlt, hlt', hlt'', hfl, hgp, hw8, hby]; (try simp (disch := omega) only [wrap64]); (try (refine gen fun q hq => ?_; cases q <;> (try simp [hlt, hlt', hlt'', hfl, hgp, hw8, hby] at hq) <;> (try (have hh : True := hq; clear hh hq)))))
        | (refine ⟨(p + 1, _), by dsimp only; omega, by dsimp only; omega, rfl, ?_, ?_⟩ <;> simp (disch := omega) [wrap64, htk, hb])
        | refine T.rs (fun _ => false) fun K hK => ?_
        | refine T.rs1 (fun _ => false) fun K hK => ?_
        | refine T.cond rfl (fun hcnd => ?_) (fun hcnd => absurd hcnd (by decide))
        | refine T.seq ?_
        | refine T.block ?_
        | refine T.skip ?_
  · have hp' : p = 26 := by omega
    subst hp'
    repeat' first
      | ((first | refine aops_end (hK _ ?_)); clear hK K)
      | ((first | refine aops_go ?_); simp [hlt]; (try (refine gen fun q hq => ?_; cases q <;> (try simp [hlt] at hq) <;> (try (have hh : True := hq; clear hh hq)))))
      | (refine T.ret (Done.val (Or.inr rfl) ?_) <;> simp [resAs, Tryz.results75] <;> omega)
      | refine T.rs (fun _ => false) fun K hK => ?_
      | refine T.cond rfl (fun hcnd => absurd hcnd (by decide)) (fun hcnd => ?_)
      | refine T.seq ?_
      | refine T.exit ?_

theorem FreeNames_ok (e : MTm) (hn : nTm e ≤ 1099511627776) : ACalls Tryz.prog 19 [aTm e] [] (.s (if termValidM e = true then namesM e else [])) [] [] := by
  have h1 := TermValid_ok e hn
  cases hv : termValidM e with
  | false =>
    rw [hv] at h1
    simp only [Bool.false_eq_true, if_false]
    refine ACalls.of_body Tryz.func19 (by kernel_rfl) rfl (by kernel_rfl) (by simp [Tryz.ntmps19]) (by simp) ?_
    rw [Tryz.ntmps19]
    repeat' first
      | ((first | refine aops_end (hK _ ?_) | refine aopsD_end (hK _ ?_)); clear hK K)
      | ((first | refine aops_go ?_ | refine aopsD_go ?_); simp; (try (refine gen fun q hq => ?_; cases q <;> (try simp at hq) <;> (try (have hh : True := hq; clear hh hq)))))
      | (refine wpcall_pure rfl (h1) ?_; simp; (try (refine gen fun q hq => ?_; cases q <;> (try simp at hq) <;> (try (have hh : True := hq; clear hh hq)))))
      | (refine T.ret (Done.data (Or.inr rfl) ?_ ?_) <;> simp [Tryz.results19] <;> omega)
      | refine T.rs (fun _ => false) fun K hK => ?_
      | refine T.rs1 (fun _ => false) fun K hK => ?_
      | refine T.rd mixed (fun _ => false) [] (by kernel_rfl) fun K hK => ?_
      | refine T.rd1 mixed (fun _ => false) [] (by kernel_rfl) fun K hK => ?_
      | (refine ⟨by omega, ?_⟩)
      | refine T.cond rfl (fun hcnd => ?_) (fun hcnd => absurd hcnd (by decide))
      | refine T.cond rfl (fun hcnd => absurd hcnd (by decide)) (fun hcnd => ?_)
      | refine T.seq ?_
      | refine T.block ?_
      | refine T.skip ?_
      | refine T.exit ?_
  | true =>
    rw [hv] at h1
    have h2 := freeNames_ok e 12 (by omega) (termValid_parts hv).shape
    simp only [if_true]
    refine ACalls.of_body Tryz.func19 (by kernel_rfl) rfl (by kernel_rfl) (by simp [Tryz.ntmps19]) (by simp) ?_
    rw [Tryz.ntmps19]
    repeat' first
      | ((first | refine aops_end (hK _ ?_) | refine aopsD_end (hK _ ?_)); clear hK K)
      | ((first | refine aops_go ?_ | refine aopsD_go ?_); simp; (try (refine gen fun q hq => ?_; cases q <;> (try simp at hq) <;> (try (have hh : True := hq; clear hh hq)))))
      | (refine wpcall_pure rfl (h1) ?_; simp; (try (refine gen fun q hq => ?_; cases q <;> (try simp at hq) <;> (try (have hh : True := hq; clear hh hq)))))
      | (refine wpcall_pure rfl (h2) ?_; simp; (try (refine gen fun q hq => ?_; cases q <;> (try simp at hq) <;> (try (have hh : True := hq; clear hh hq)))))
      | (refine T.ret (Done.data (Or.inr rfl) ?_ ?_) <;> simp [Tryz.results19] <;> omega)
      | refine T.rs (fun _ => false) fun K hK => ?_
      | refine T.rs1 (fun _ => false) fun K hK => ?_
      | refine T.rd mixed (fun _ => false) [] (by kernel_rfl) fun K hK => ?_
      | refine T.rd1 mixed (fun _ => false) [] (by kernel_rfl) fun K hK => ?_
      | (refine ⟨by omega, ?_⟩)
      | refine T.cond rfl (fun hcnd => ?_) (fun hcnd => absurd hcnd (by decide))
      | refine T.cond rfl (fun hcnd => absurd hcnd (by decide)) (fun hcnd => ?_)
      | refine T.seq ?_
      | refine T.block ?_
      | refine T.skip ?_
      | refine T.exit ?_

theorem subst_nm (e v : MTm) (x : List UInt8) (hx : ¬ e.name = x) (hn : e.kids.length ≤ 1099511627776)
    (ih : ∀ u ∈ e.kids, ACalls Tryz.prog 206 [aTm u, .s x, aTm v] [] (aTm (substM x v u)) [] []) :
    ACalls Tryz.prog 206 [aTm e, .s x, aTm v] [] (aTm (.mk e.kind e.name e.num e.ty e.fr e.label (e.kids.map (substM x v)))) [] [] := by
  refine ACalls.of_body Tryz.func206 (by kernel_rfl) rfl (by kernel_rfl) (by simp [Tryz.ntmps206]) (by simp) ?_
  rw [Tryz.ntmps206]
  repeat' first
    | ((first | refine aops_end (hK _ ?_)); clear hK K)
    | ((first | refine aops_go ?_); simp [hx]; (try (refine gen fun q hq => ?_; cases q <;> (try simp [hx] at hq) <;> (try (have hh : True := hq; clear hh hq)))))
    | refine T.rs (fun _ => false) fun K hK => ?_
    | refine T.cond rfl (fun hcnd => absurd hcnd (by decide)) (fun hcnd => ?_)
    | refine T.seq ?_
    | refine T.block ?_
    | refine T.skip ?_
  all_goals refine T.ownifyObj 3 8 9 28 rfl rfl ?_
  all_goals refine T.loopK (α := Nat × List (List CV)) [1, 5, 6, 7, 35, 36] (fun x => [(37, .i x.1)]) (fun x => [(3, [.d (.i e.kind), .d (.str e.name), .d (.i e.num), .d (.i e.ty.kind), .d (.sl (e.ty.kids.map eTy)), .d (.i e.fr.kind), .d (.sl (e.fr.kids.map eTy)), .d (.i e.label), .own 0 x.1])]) (fun x => x.2) (fun y _ => [{ sz := 9, ety := 28, rows := ((e.kids.map (substM x v)).take y.1).map eTm, wr := true }]) (fun x => e.kids.length + 1 - x.1) (fun x => x.1 ≤ e.kids.length) (by simp; rfl) (fun y hy => ?_) (0, []) (by simp) (by simp) (by simp) (by simp)
  all_goals
    obtain ⟨p, G⟩ := y
    dsimp only at hy ⊢
    simp only [ups, List.set_cons_zero, List.set_cons_succ, List.cons_append, List.nil_append]
    have hwl : (e.kids.map (substM x v)).length = e.kids.length := by simp
    by_cases hlt : p < e.kids.length
    · obtain ⟨u, ht⟩ := get_lt hlt
      have htm : u ∈ e.kids := List.mem_of_getElem? ht
      have hgt : e.kids[p] = u := by rw [List.getElem?_eq_getElem hlt] at ht; exact Option.some.inj ht
      have hdr : e.kids.drop p = u :: e.kids.drop (p + 1) := by rw [List.drop_eq_getElem_cons hlt, hgt]
      have hu := ih u htm
      have htk : (e.kids.map (substM x v)).take (p + 1) = (e.kids.map (substM x v)).take p ++ [substM x v u] := by rw [List.take_add_one, List.getElem?_map, ht]; rfl
      have hlm : min p e.kids.length = p := by omega
      generalize (e.kids.map (substM x v)) = Z at *
      generalize substM x v u = wu at *
      repeat' first
        | ((first | refine aops_end (hK _ ?_) | refine aopsD_end (hK _ ?_)); clear hK K)
        | ((first | refine aops_go ?_ | refine aopsD_go ?_); simp [hlt, hgt, hlm, hwl]; (try simp (disch := omega) only [wrap64]); (try (refine gen fun q hq => ?_; cases q <;> (try simp [hlt, hgt, hlm, hwl] at hq) <;> (try (have hh : True := hq; clear hh hq)))))
        | (refine wpcall_pure rfl (hu) ?_; simp [hlt, hgt, hlm, hwl]; (try simp (disch := omega) only [wrap64]); (try (refine gen fun q hq => ?_; cases q <;> (try simp [hlt, hgt, hlm, hwl] at hq) <;> (try (have hh : True := hq; clear hh hq)))))
        | (refine ⟨(p + 1, _), by dsimp only; omega, by dsimp only; omega, rfl, ?_, ?_⟩ <;> simp (disch := omega) [wrap64, htk, eTm_def])
        | refine T.rd1 (id := 10) mixed (fun _ => false) [7, 9] (by kernel_rfl) fun K hK => ?_
        | refine T.rs (fun _ => false) fun K hK => ?_
        | refine T.rs1 (fun _ => false) fun K hK => ?_
        | (refine ⟨by omega, ?_⟩)
        | refine T.cond rfl (fun hcnd => ?_) (fun hcnd => absurd hcnd (by decide))
        | refine T.seq ?_
        | refine T.block ?_
        | refine T.skip ?_
    · have hp' : p = e.kids.length := by omega
      subst hp'
      rw [List.take_of_length_le (by omega)]
      generalize (e.kids.map (substM x v)) = Z at *
      repeat' first
        | ((first | refine aops_end (hK _ ?_)); clear hK K)
        | ((first | refine aops_go ?_); simp [hlt, hwl]; (try (refine gen fun q hq => ?_; cases q <;> (try simp [hlt, hwl] at hq) <;> (try (have hh : True := hq; clear hh hq)))))
        | (refine T.ret (Done.val (Or.inr rfl) ?_) <;> simp [resAs, Tryz.results206, eTm_def, hwl] <;> omega)
        | refine T.rs (fun _ => false) fun K hK => ?_
        | refine T.cond rfl (fun hcnd => absurd hcnd (by decide)) (fun hcnd => ?_)
        | refine T.seq ?_
        | refine T.exit ?_

theorem subst_kd (e v : MTm) (x : List UInt8) (h1 : ¬ e.kind = 1) (h5 : ¬ e.kind = 5) (hn : e.kids.length ≤ 1099511627776)
    (ih : ∀ u ∈ e.kids, ACalls Tryz.prog 206 [aTm u, .s x, aTm v] [] (aTm (substM x v u)) [] []) :
    ACalls Tryz.prog 206 [aTm e, .s x, aTm v] [] (aTm (.mk e.kind e.name e.num e.ty e.fr e.label (e.kids.map (substM x v)))) [] [] := by
  refine ACalls.of_body Tryz.func206 (by kernel_rfl) rfl (by kernel_rfl) (by simp [Tryz.ntmps206]) (by simp) ?_
  rw [Tryz.ntmps206]
  repeat' first
    | ((first | refine aops_end (hK _ ?_)); clear hK K)
    | ((first | refine aops_go ?_); simp [h1, h5]; (try (refine gen fun q hq => ?_; cases q <;> (try simp [h1, h5] at hq) <;> (try (have hh : True := hq; clear hh hq)))))
    | refine T.rs (fun _ => false) fun K hK => ?_
    | refine T.cond rfl (fun hcnd => absurd hcnd (by decide)) (fun hcnd => ?_)
    | refine T.seq ?_
    | refine T.block ?_
    | refine T.skip ?_
  all_goals refine T.ownifyObj 3 8 9 28 rfl rfl ?_
  all_goals refine T.loopK (α := Nat × List (List CV)) [1, 5, 6, 7, 35, 36] (fun x => [(37, .i x.1)]) (fun x => [(3, [.d (.i e.kind), .d (.str e.name), .d (.i e.num), .d (.i e.ty.kind), .d (.sl (e.ty.kids.map eTy)), .d (.i e.fr.kind), .d (.sl (e.fr.kids.map eTy)), .d (.i e.label), .own 0 x.1])]) (fun x => x.2) (fun y _ => [{ sz := 9, ety := 28, rows := ((e.kids.map (substM x v)).take y.1).map eTm, wr := true }]) (fun x => e.kids.length + 1 - x.1) (fun x => x.1 ≤ e.kids.length) (by simp; rfl) (fun y hy => ?_) (0, []) (by simp) (by simp) (by simp) (by simp)
  all_goals
    obtain ⟨p, G⟩ := y
    dsimp only at hy ⊢
    simp only [ups, List.set_cons_zero, List.set_cons_succ, List.cons_append, List.nil_append]
    have hwl : (e.kids.map (substM x v)).length = e.kids.length := by simp
    by_cases hlt : p < e.kids.length
    · obtain ⟨u, ht⟩ := get_lt hlt
      have htm : u ∈ e.kids := List.mem_of_getElem? ht
      have hgt : e.kids[p] = u := by rw [List.getElem?_eq_getElem hlt] at ht; exact Option.some.inj ht
      have hdr : e.kids.drop p = u :: e.kids.drop (p + 1) := by rw [List.drop_eq_getElem_cons hlt, hgt]
      have hu := ih u htm
      have htk : (e.kids.map (substM x v)).take (p + 1) = (e.kids.map (substM x v)).take p ++ [substM x v u] := by rw [List.take_add_one, List.getElem?_map, ht]; rfl
      have hlm : min p e.kids.length = p := by omega
      generalize (e.kids.map (substM x v)) = Z at *
      generalize substM x v u = wu at *
      repeat' first
        | ((first | refine aops_end (hK _ ?_) | refine aopsD_end (hK _ ?_)); clear hK K)
        | ((first | refine aops_go ?_ | refine aopsD_go ?_); simp [hlt, hgt, hlm, hwl]; (try simp (disch := omega) only [wrap64]); (try (refine gen fun q hq => ?_; cases q <;> (try simp [hlt, hgt, hlm, hwl] at hq) <;> (try (have hh : True := hq; clear hh hq)))))
        | (refine wpcall_pure rfl (hu) ?_; simp [hlt, hgt, hlm, hwl]; (try simp (disch := omega) only [wrap64]); (try (refine gen fun q hq => ?_; cases q <;> (try simp [hlt, hgt, hlm, hwl] at hq) <;> (try (have hh : True := hq; clear hh hq)))))
        | (refine ⟨(p + 1, _), by dsimp only; omega, by dsimp only; omega, rfl, ?_, ?_⟩ <;> simp (disch := omega) [wrap64, htk, eTm_def])
        | refine T.rd1 (id := 10) mixed (fun _ => false) [7, 9] (by kernel_rfl) fun K hK => ?_
        | refine T.rs (fun _ => false) fun K hK => ?_
        | refine T.rs1 (fun _ => false) fun K hK => ?_
        | (refine ⟨by omega, ?_⟩)
        | refine T.cond rfl (fun hcnd => ?_) (fun hcnd => absurd hcnd (by decide))
        | refine T.seq ?_
        | refine T.block ?_
        | refine T.skip ?_
    · have hp' : p = e.kids.length := by omega
      subst hp'
      rw [List.take_of_length_le (by omega)]
      generalize (e.kids.map (substM x v)) = Z at *
      repeat' first
        | ((first | refine aops_end (hK _ ?_)); clear hK K)
        | ((first | refine aops_go ?_); simp [hlt, hwl]; (try (refine gen fun q hq => ?_; cases q <;> (try simp [hlt, hwl] at hq) <;> (try (have hh : True := hq; clear hh hq)))))
        | (refine T.ret (Done.val (Or.inr rfl) ?_) <;> simp [resAs, Tryz.results206, eTm_def, hwl] <;> omega)
        | refine T.rs (fun _ => false) fun K hK => ?_
        | refine T.cond rfl (fun hcnd => absurd hcnd (by decide)) (fun hcnd => ?_)
        | refine T.seq ?_
        | refine T.exit ?_

theorem subst_ok (v : MTm) (x : List UInt8) : ∀ (e : MTm), nTm e ≤ 1099511627776 → ACalls Tryz.prog 206 [aTm e, .s x, aTm v] [] (aTm (substM x v e)) [] [] := by
  intro e
  induction e using MTm.ind with
  | h e ih =>
    intro hn
    obtain ⟨_, _, hnk, hnu⟩ := nTm_parts hn
    have ih' := fun u hu => ih u hu (hnu u hu)
    rw [substM_def]
    by_cases hx : e.name = x
    · by_cases h1 : e.kind = 1
      · simp only [h1, hx, and_self, if_true]
        refine ACalls.of_body Tryz.func206 (by kernel_rfl) rfl (by kernel_rfl) (by simp [Tryz.ntmps206]) (by simp) ?_
        rw [Tryz.ntmps206]
        repeat' first
          | ((first | refine aops_end (hK _ ?_)); clear hK K)
          | ((first | refine aops_go ?_); simp [h1, hx]; (try (refine gen fun q hq => ?_; cases q <;> (try simp [h1, hx] at hq) <;> (try (have hh : True := hq; clear hh hq)))))
          | (refine T.ret (Done.val (Or.inr rfl) ?_) <;> simp [resAs, Tryz.results206] <;> omega)
          | refine T.rs (fun _ => false) fun K hK => ?_
          | refine T.cond rfl (fun hcnd => ?_) (fun hcnd => absurd hcnd (by decide))
          | refine T.seq ?_
          | refine T.block ?_
      · by_cases h5 : e.kind = 5
        · rw [if_neg (by simp [h1]), if_pos ⟨h5, hx⟩]
          refine ACalls.of_body Tryz.func206 (by kernel_rfl) rfl (by kernel_rfl) (by simp [Tryz.ntmps206]) (by simp) ?_
          rw [Tryz.ntmps206]
          repeat' first
            | ((first | refine aops_end (hK _ ?_)); clear hK K)
            | ((first | refine aops_go ?_); simp [h1, h5, hx]; (try (refine gen fun q hq => ?_; cases q <;> (try simp [h1, h5, hx] at hq) <;> (try (have hh : True := hq; clear hh hq)))))
            | (refine T.ret (Done.val (Or.inr rfl) ?_) <;> simp [resAs, Tryz.results206, h5, hx] <;> omega)
            | refine T.rs (fun _ => false) fun K hK => ?_
            | refine T.cond rfl (fun hcnd => ?_) (fun hcnd => absurd hcnd (by decide))
            | refine T.cond rfl (fun hcnd => absurd hcnd (by decide)) (fun hcnd => ?_)
            | refine T.seq ?_
            | refine T.block ?_
        · rw [if_neg (by simp [h1]), if_neg (by simp [h5])]
          exact subst_kd e v x h1 h5 hnk ih'
    · rw [if_neg (by simp [hx]), if_neg (by simp [hx])]
      exact subst_nm e v x hx hnk ih'

end Go.Proofs.YtfdknjjnifnobaaGreat

namespace Go.Proofs.YtfdknjjnifnobaaGreat
open Go Go.Av
attribute [local irreducible] T ACalls TX EX LX Draws Some_ ACallsX eTy eTm MTy.kind MTy.kids MTm.kind MTm.name MTm.num MTm.ty MTm.fr MTm.label MTm.kids
attribute [local simp] eTy_def eTm_def
set_option linter.unusedSimpArgs false
set_option linter.unusedVariables false
set_option maxHeartbeats 16000000
set_option maxRecDepth 8000
attribute [local simp] Option.bind

theorem cloneTm_own (l : List MTm) (hl : l.length ≤ 1073741824) : ACalls Tryz.prog 172 [.l (l.map eTm)] [] (.c (.own 0 l.length)) [] [{ sz := 9, ety := 28, rows := l.map eTm, wr := true }] := by
  refine ACalls.of_body Tryz.func172 (by kernel_rfl) rfl (by kernel_rfl) (by simp [Tryz.ntmps172]) (by simp) ?_
  rw [Tryz.ntmps172]
  refine T.rs (fun _ => false) fun K hK => ?_
  refine aops_go ?_
  simp
  refine aops_end (hK _ ?_)
  clear hK K
  refine T.seq ?_
  refine T.eqNil rfl rfl rfl rfl rfl rfl td_implTermS rfl (by simp; rfl) fun bb hbb => ?_
  cases bb
  · repeat' first
      | ((first | refine aops_end (hK _ ?_) | refine aopsD_end (hK _ ?_) | refine aopsF_end (hK _ ?_)); clear hK K)
      | ((first | refine aops_go ?_ | refine aopsD_go ?_ | refine aopsF_go ?_); simp [eTm_def]; (try (refine gen fun q hq => ?_; cases q <;> (try simp [eTm_def] at hq) <;> (try (have hh : True := hq; clear hh hq)))))
      | (refine ⟨by omega, by omega, ?_⟩)
      | refine T.rs (id := 3) (fun i => i == 0) fun K hK => ?_
      | refine T.rs1 (id := 3) (fun i => i == 0) fun K hK => ?_
      | refine T.rs (id := 0) (fun _ => false) fun K hK => ?_
      | refine T.rs1 (id := 0) (fun _ => false) fun K hK => ?_
      | refine T.rs (id := 1) (fun _ => false) fun K hK => ?_
      | refine T.rs1 (id := 1) (fun _ => false) fun K hK => ?_
      | refine T.rs (id := 2) (fun _ => false) fun K hK => ?_
      | refine T.rs1 (id := 2) (fun _ => false) fun K hK => ?_
      | (refine ⟨by omega, ?_⟩)
      | refine T.cond rfl (fun hcnd => ?_) (fun hcnd => absurd hcnd (by decide))
      | refine T.cond rfl (fun hcnd => absurd hcnd (by decide)) (fun hcnd => ?_)
      | refine T.seq ?_
      | refine T.block ?_
      | refine T.skip ?_
      | refine T.exit ?_
    refine T.ret (Done.own1 0 (Or.inr rfl) (ys := [_]) ?_ rfl ?_) <;> simp [resAs, Tryz.results172, eTm_def] <;> rfl
  · have : l = [] := by simpa using hbb rfl
    subst this
    refine T.cond rfl (fun hcnd => ?_) (fun hcnd => absurd hcnd (by decide))
    refine T.rs (fun _ => false) fun K hK => ?_
    refine aops_go ?_
    simp
    refine aops_end (hK _ ?_)
    clear hK K
    refine T.ownify 2 9 28 (by simp) ?_
    refine T.ret (Done.own1 0 (Or.inr rfl) (ys := [_]) ?_ rfl ?_) <;> simp [resAs, Tryz.results172]

theorem ground_ok (k : Int) : ACalls Tryz.prog 235 [.i k] [] (aTy (groundT k)) [] [] := by
  have h1 := base_ok 1
  by_cases h4 : k = 4
  · subst h4
    rw [show groundT 4 = .mk 4 [anyT, anyT] from rfl]
    have h2 := both_ok 4 anyT anyT
    refine ACalls.of_body Tryz.func235 (by kernel_rfl) rfl (by kernel_rfl) (by simp [Tryz.ntmps235]) (by simp) ?_
    rw [Tryz.ntmps235]
    repeat' first
      | ((first | refine aops_end (hK _ ?_) | refine aopsD_end (hK _ ?_) | refine aopsF_end (hK _ ?_)); clear hK K)
      | ((first | refine aops_go ?_ | refine aopsD_go ?_ | refine aopsF_go ?_); simp; (try (refine gen fun q hq => ?_; cases q <;> (try simp at hq) <;> (try (have hh : True := hq; clear hh hq)))))
      | (refine wpcall_pure rfl (h1) ?_; simp; (try (refine gen fun q hq => ?_; cases q <;> (try simp at hq) <;> (try (have hh : True := hq; clear hh hq)))))
      | (refine wpcall_pure ?_ (h2) ?_; (focus (solve | simp)); simp; (try (refine gen fun q hq => ?_; cases q <;> (try simp at hq) <;> (try (have hh : True := hq; clear hh hq)))))
      | (refine T.ret (Done.val (Or.inr rfl) ?_) <;> simp [resAs, Tryz.results235] <;> omega)
      | refine T.rs (fun _ => false) fun K hK => ?_
      | refine T.rs1 (fun _ => false) fun K hK => ?_
      | (refine ⟨by omega, ?_⟩)
      | refine T.cond rfl (fun hcnd => ?_) (fun hcnd => absurd hcnd (by decide))
      | refine T.cond rfl (fun hcnd => absurd hcnd (by decide)) (fun hcnd => ?_)
      | refine T.seq ?_
      | refine T.block ?_
      | refine T.skip ?_
      | refine T.exit ?_
  by_cases h5 : k = 5
  · subst h5
    rw [show groundT 5 = .mk 5 [anyT, anyT] from rfl]
    have h2 := both_ok 5 anyT anyT
    refine ACalls.of_body Tryz.func235 (by kernel_rfl) rfl (by kernel_rfl) (by simp [Tryz.ntmps235]) (by simp) ?_
    rw [Tryz.ntmps235]
    repeat' first
      | ((first | refine aops_end (hK _ ?_) | refine aopsD_end (hK _ ?_) | refine aopsF_end (hK _ ?_)); clear hK K)
      | ((first | refine aops_go ?_ | refine aopsD_go ?_ | refine aopsF_go ?_); simp; (try (refine gen fun q hq => ?_; cases q <;> (try simp at hq) <;> (try (have hh : True := hq; clear hh hq)))))
      | (refine wpcall_pure rfl (h1) ?_; simp; (try (refine gen fun q hq => ?_; cases q <;> (try simp at hq) <;> (try (have hh : True := hq; clear hh hq)))))
      | (refine wpcall_pure ?_ (h2) ?_; (focus (solve | simp)); simp; (try (refine gen fun q hq => ?_; cases q <;> (try simp at hq) <;> (try (have hh : True := hq; clear hh hq)))))
      | (refine T.ret (Done.val (Or.inr rfl) ?_) <;> simp [resAs, Tryz.results235] <;> omega)
      | refine T.rs (fun _ => false) fun K hK => ?_
      | refine T.rs1 (fun _ => false) fun K hK => ?_
      | (refine ⟨by omega, ?_⟩)
      | refine T.cond rfl (fun hcnd => ?_) (fun hcnd => absurd hcnd (by decide))
      | refine T.cond rfl (fun hcnd => absurd hcnd (by decide)) (fun hcnd => ?_)
      | refine T.seq ?_
      | refine T.block ?_
      | refine T.skip ?_
      | refine T.exit ?_
  · rw [show groundT k = .mk k [] by simp [groundT, h4, h5]]
    have h3 := base_ok k
    refine ACalls.of_body Tryz.func235 (by kernel_rfl) rfl (by kernel_rfl) (by simp [Tryz.ntmps235]) (by simp) ?_
    rw [Tryz.ntmps235]
    repeat' first
      | ((first | refine aops_end (hK _ ?_) | refine aopsD_end (hK _ ?_) | refine aopsF_end (hK _ ?_)); clear hK K)
      | ((first | refine aops_go ?_ | refine aopsD_go ?_ | refine aopsF_go ?_); simp [h4, h5]; (try (refine gen fun q hq => ?_; cases q <;> (try simp [h4, h5] at hq) <;> (try (have hh : True := hq; clear hh hq)))))
      | (refine wpcall_pure rfl (h3) ?_; simp [h4, h5]; (try (refine gen fun q hq => ?_; cases q <;> (try simp [h4, h5] at hq) <;> (try (have hh : True := hq; clear hh hq)))))
      | (refine T.ret (Done.val (Or.inr rfl) ?_) <;> simp [resAs, Tryz.results235] <;> omega)
      | refine T.rs (fun _ => false) fun K hK => ?_
      | refine T.rs1 (fun _ => false) fun K hK => ?_
      | (refine ⟨by omega, ?_⟩)
      | refine T.cond rfl (fun hcnd => ?_) (fun hcnd => absurd hcnd (by decide))
      | refine T.cond rfl (fun hcnd => absurd hcnd (by decide)) (fun hcnd => ?_)
      | refine T.seq ?_
      | refine T.block ?_
      | refine T.skip ?_
      | refine T.exit ?_

theorem isGround_ok (t : MTy) (hn : nTy t ≤ 1099511627776) : ACalls Tryz.prog 205 [aTy t] [] (.b (isGroundM t)) [] [] := by
  have h1 := ground_ok t.kind
  have h2 := TypeSame_ok t (groundT t.kind) hn
  rw [isGroundM]
  generalize sameTy t (groundT t.kind) = q at *
  generalize groundT t.kind = G at *
  by_cases hk : t.kind = 1
  · simp only [hk, ne_eq, not_true_eq_false, decide_false, Bool.false_and]
    refine ACalls.of_body Tryz.func205 (by kernel_rfl) rfl (by kernel_rfl) (by simp [Tryz.ntmps205]) (by simp) ?_
    rw [Tryz.ntmps205]
    repeat' first
      | ((first | refine aops_end (hK _ ?_) | refine aopsD_end (hK _ ?_) | refine aopsF_end (hK _ ?_)); clear hK K)
      | ((first | refine aops_go ?_ | refine aopsD_go ?_ | refine aopsF_go ?_); simp [hk]; (try (refine gen fun q hq => ?_; cases q <;> (try simp [hk] at hq) <;> (try (have hh : True := hq; clear hh hq)))))
      | (refine wpcall_pure rfl (h1) ?_; simp [hk]; (try (refine gen fun q hq => ?_; cases q <;> (try simp [hk] at hq) <;> (try (have hh : True := hq; clear hh hq)))))
      | (refine wpcall_pure rfl (h2) ?_; simp [hk]; (try (refine gen fun q hq => ?_; cases q <;> (try simp [hk] at hq) <;> (try (have hh : True := hq; clear hh hq)))))
      | (refine T.ret (Done.data (Or.inr rfl) ?_ ?_) <;> simp [Tryz.results205] <;> omega)
      | refine T.rd (id := 1) mixed (fun _ => false) [] (by kernel_rfl) fun K hK => ?_
      | refine T.rd1 (id := 1) mixed (fun _ => false) [] (by kernel_rfl) fun K hK => ?_
      | refine T.rs (fun _ => false) fun K hK => ?_
      | refine T.rs1 (fun _ => false) fun K hK => ?_
      | (refine ⟨by omega, ?_⟩)
      | refine T.cond rfl (fun hcnd => ?_) (fun hcnd => absurd hcnd (by decide))
      | refine T.cond rfl (fun hcnd => absurd hcnd (by decide)) (fun hcnd => ?_)
      | refine T.seq ?_
      | refine T.block ?_
      | refine T.skip ?_
      | refine T.exit ?_
  · simp only [hk, ne_eq, not_false_eq_true, decide_true, Bool.true_and]
    refine ACalls.of_body Tryz.func205 (by kernel_rfl) rfl (by kernel_rfl) (by simp [Tryz.ntmps205]) (by simp) ?_
    rw [Tryz.ntmps205]
    repeat' first
      | ((first | refine aops_end (hK _ ?_) | refine aopsD_end (hK _ ?_) | refine aopsF_end (hK _ ?_)); clear hK K)
      | ((first | refine aops_go ?_ | refine aopsD_go ?_ | refine aopsF_go ?_); simp [hk]; (try (refine gen fun q hq => ?_; cases q <;> (try simp [hk] at hq) <;> (try (have hh : True := hq; clear hh hq)))))
      | (refine wpcall_pure rfl (h1) ?_; simp [hk]; (try (refine gen fun q hq => ?_; cases q <;> (try simp [hk] at hq) <;> (try (have hh : True := hq; clear hh hq)))))
      | (refine wpcall_pure rfl (h2) ?_; simp [hk]; (try (refine gen fun q hq => ?_; cases q <;> (try simp [hk] at hq) <;> (try (have hh : True := hq; clear hh hq)))))
      | (refine T.ret (Done.data (Or.inr rfl) ?_ ?_) <;> simp [Tryz.results205, *] <;> omega)
      | refine T.rd (id := 1) mixed (fun _ => false) [] (by kernel_rfl) fun K hK => ?_
      | refine T.rd1 (id := 1) mixed (fun _ => false) [] (by kernel_rfl) fun K hK => ?_
      | refine T.rs (fun _ => false) fun K hK => ?_
      | refine T.rs1 (fun _ => false) fun K hK => ?_
      | (refine ⟨by omega, ?_⟩)
      | refine T.cond rfl (fun hcnd => ?_) (fun hcnd => absurd hcnd (by decide))
      | refine T.cond rfl (fun hcnd => absurd hcnd (by decide)) (fun hcnd => ?_)
      | refine T.seq ?_
      | refine T.block ?_
      | refine T.skip ?_
      | refine T.exit ?_

theorem isProxy_ok (e : MTm) : ACalls Tryz.prog 167 [aTm e] [] (.b (proxyM e)) [] [] := by
  rw [proxyM]
  refine ACalls.of_body Tryz.func167 (by kernel_rfl) rfl (by kernel_rfl) (by simp [Tryz.ntmps167]) (by simp) ?_
  rw [Tryz.ntmps167]
  repeat' first
    | ((first | refine aops_end (hK _ ?_) | refine aopsD_end (hK _ ?_) | refine aopsF_end (hK _ ?_)); clear hK K)
    | ((first | refine aops_go ?_ | refine aopsD_go ?_ | refine aopsF_go ?_); simp; (try (refine gen fun q hq => ?_; cases q <;> (try simp at hq) <;> (try (have hh : True := hq; clear hh hq)))))
    | (refine T.ret (Done.data (Or.inr rfl) ?_ ?_) <;> simp [Tryz.results167, *] <;> omega)
    | refine T.rs (fun _ => false) fun K hK => ?_
    | refine T.rs1 (fun _ => false) fun K hK => ?_
    | (refine ⟨by omega, ?_⟩)
    | refine T.cond rfl (fun hcnd => ?_) (fun hcnd => absurd hcnd (by decide))
    | refine T.cond rfl (fun hcnd => absurd hcnd (by decide)) (fun hcnd => ?_)
    | refine T.seq ?_
    | refine T.block ?_
    | refine T.skip ?_
    | refine T.exit ?_

theorem isInjection_ok (e : MTm) (hn : nTy e.fr ≤ 1099511627776) : ACalls Tryz.prog 168 [aTm e] [] (.b (injM e)) [] [] := by
  have h1 := isGround_ok e.fr hn
  rw [injM]
  generalize isGroundM e.fr = q at *
  refine ACalls.of_body Tryz.func168 (by kernel_rfl) rfl (by kernel_rfl) (by simp [Tryz.ntmps168]) (by simp) ?_
  rw [Tryz.ntmps168]
  repeat' first
    | ((first | refine aops_end (hK _ ?_) | refine aopsD_end (hK _ ?_) | refine aopsF_end (hK _ ?_)); clear hK K)
    | ((first | refine aops_go ?_ | refine aopsD_go ?_ | refine aopsF_go ?_); simp; (try (refine gen fun q hq => ?_; cases q <;> (try simp at hq) <;> (try (have hh : True := hq; clear hh hq)))))
    | (refine wpcall_pure rfl (h1) ?_; simp; (try (refine gen fun q hq => ?_; cases q <;> (try simp at hq) <;> (try (have hh : True := hq; clear hh hq)))))
    | (refine T.ret (Done.data (Or.inr rfl) ?_ ?_) <;> simp [Tryz.results168, *] <;> omega)
    | refine T.rs (fun _ => false) fun K hK => ?_
    | refine T.rs1 (fun _ => false) fun K hK => ?_
    | (refine ⟨by omega, ?_⟩)
    | refine T.cond rfl (fun hcnd => ?_) (fun hcnd => absurd hcnd (by decide))
    | refine T.cond rfl (fun hcnd => absurd hcnd (by decide)) (fun hcnd => ?_)
    | refine T.seq ?_
    | refine T.block ?_
    | refine T.skip ?_
    | refine T.exit ?_

theorem isPlain_ok (e : MTm) : ACalls Tryz.prog 170 [aTm e] [] (.b (plainM e)) [] [] := by
  rw [plainM]
  refine ACalls.of_body Tryz.func170 (by kernel_rfl) rfl (by kernel_rfl) (by simp [Tryz.ntmps170]) (by simp) ?_
  rw [Tryz.ntmps170]
  repeat' first
    | ((first | refine aops_end (hK _ ?_) | refine aopsD_end (hK _ ?_) | refine aopsF_end (hK _ ?_)); clear hK K)
    | ((first | refine aops_go ?_ | refine aopsD_go ?_ | refine aopsF_go ?_); simp; (try (refine gen fun q hq => ?_; cases q <;> (try simp at hq) <;> (try (have hh : True := hq; clear hh hq)))))
    | (refine T.ret (Done.data (Or.inr rfl) ?_ ?_) <;> simp [Tryz.results170, *] <;> omega)
    | refine T.rs (fun _ => false) fun K hK => ?_
    | refine T.rs1 (fun _ => false) fun K hK => ?_
    | (refine ⟨by omega, ?_⟩)
    | refine T.cond rfl (fun hcnd => ?_) (fun hcnd => absurd hcnd (by decide))
    | refine T.cond rfl (fun hcnd => absurd hcnd (by decide)) (fun hcnd => ?_)
    | refine T.seq ?_
    | refine T.block ?_
    | refine T.skip ?_
    | refine T.exit ?_

theorem isValue1_ok (e : MTm) (q : Bool) (h : ACalls Tryz.prog 107 [aTm e] [] (.b q) [] []) : ACalls Tryz.prog 169 [aTm e] [] (.b (!q)) [] [] := by
  refine ACalls.of_body Tryz.func169 (by kernel_rfl) rfl (by kernel_rfl) (by simp [Tryz.ntmps169]) (by simp) ?_
  rw [Tryz.ntmps169]
  repeat' first
    | ((first | refine aops_end (hK _ ?_) | refine aopsD_end (hK _ ?_) | refine aopsF_end (hK _ ?_)); clear hK K)
    | ((first | refine aops_go ?_ | refine aopsD_go ?_ | refine aopsF_go ?_); simp)
    | (refine wpcall_pure rfl (h) ?_; simp)
    | (refine T.ret (Done.data (Or.inr rfl) ?_ ?_) <;> simp [Tryz.results169] <;> omega)
    | refine T.rs (fun _ => false) fun K hK => ?_
    | refine T.rs1 (fun _ => false) fun K hK => ?_
    | (refine ⟨by omega, ?_⟩)
    | refine T.cond rfl (fun hcnd => ?_) (fun hcnd => absurd hcnd (by decide))
    | refine T.cond rfl (fun hcnd => absurd hcnd (by decide)) (fun hcnd => ?_)
    | refine T.seq ?_
    | refine T.block ?_
    | refine T.skip ?_
    | refine T.exit ?_

theorem isValue_ok : ∀ (e : MTm), nTm e ≤ 1099511627776 → ACalls Tryz.prog 107 [aTm e] [] (.b (valM e)) [] [] := by
  intro e
  induction e using MTm.ind with
  | h e ih =>
    intro hn
    obtain ⟨hnt, hnf, hnk, hnu⟩ := nTm_parts hn
    have hcf := containsFuncTm_0 169 e.kids (fun t => !valM t) (by omega) (fun u hu => isValue1_ok u _ (ih u hu (hnu u hu)))
    have h1 := isProxy_ok e
    have h2 := isInjection_ok e hnf
    have h3 := isPlain_ok e
    rw [valM_def, ← not_any_not]
    generalize (e.kids.any fun t => !valM t) = R at hcf ⊢
    generalize proxyM e = q1 at *
    generalize injM e = q2 at *
    generalize plainM e = q3 at *
    by_cases hk : e.kind = 10
    · simp only [hk, decide_true, Bool.true_or, if_true]
      refine ACalls.of_body Tryz.func107 (by kernel_rfl) rfl (by kernel_rfl) (by simp [Tryz.ntmps107]) (by simp) ?_
      rw [Tryz.ntmps107]
      repeat' first
        | ((first | refine aops_end (hK _ ?_) | refine aopsD_end (hK _ ?_) | refine aopsF_end (hK _ ?_)); clear hK K)
        | ((first | refine aops_go ?_ | refine aopsD_go ?_ | refine aopsF_go ?_); simp [hk]; (try (refine gen fun q hq => ?_; cases q <;> (try simp [hk] at hq) <;> (try (have hh : True := hq; clear hh hq)))))
        | (refine wpcall_pure rfl (hcf) ?_; simp [hk]; (try (refine gen fun q hq => ?_; cases q <;> (try simp [hk] at hq) <;> (try (have hh : True := hq; clear hh hq)))))
        | (refine T.ret (Done.data (Or.inr rfl) ?_ ?_) <;> simp [Tryz.results107, *] <;> omega)
        | refine T.rs (fun _ => false) fun K hK => ?_
        | refine T.rs1 (fun _ => false) fun K hK => ?_
        | (refine ⟨by omega, ?_⟩)
        | refine T.cond rfl (fun hcnd => ?_) (fun hcnd => absurd hcnd (by decide))
        | refine T.cond rfl (fun hcnd => absurd hcnd (by decide)) (fun hcnd => ?_)
        | refine T.seq ?_
        | refine T.block ?_
        | refine T.skip ?_
        | refine T.exit ?_
    · simp only [hk, decide_false, Bool.false_or]
      cases q1
      · cases q2
        · simp only [Bool.or_self, Bool.false_eq_true, if_false]
          refine ACalls.of_body Tryz.func107 (by kernel_rfl) rfl (by kernel_rfl) (by simp [Tryz.ntmps107]) (by simp) ?_
          rw [Tryz.ntmps107]
          repeat' first
            | ((first | refine aops_end (hK _ ?_) | refine aopsD_end (hK _ ?_) | refine aopsF_end (hK _ ?_)); clear hK K)
            | ((first | refine aops_go ?_ | refine aopsD_go ?_ | refine aopsF_go ?_); simp [hk]; (try (refine gen fun q hq => ?_; cases q <;> (try simp [hk] at hq) <;> (try (have hh : True := hq; clear hh hq)))))
            | (refine wpcall_pure rfl (h1) ?_; simp [hk]; (try (refine gen fun q hq => ?_; cases q <;> (try simp [hk] at hq) <;> (try (have hh : True := hq; clear hh hq)))))
            | (refine wpcall_pure rfl (h2) ?_; simp [hk]; (try (refine gen fun q hq => ?_; cases q <;> (try simp [hk] at hq) <;> (try (have hh : True := hq; clear hh hq)))))
            | (refine wpcall_pure rfl (h3) ?_; simp [hk]; (try (refine gen fun q hq => ?_; cases q <;> (try simp [hk] at hq) <;> (try (have hh : True := hq; clear hh hq)))))
            | (refine T.ret (Done.data (Or.inr rfl) ?_ ?_) <;> simp [Tryz.results107, *] <;> omega)
            | refine T.rs (fun _ => false) fun K hK => ?_
            | refine T.rs1 (fun _ => false) fun K hK => ?_
            | (refine ⟨by omega, ?_⟩)
            | refine T.cond rfl (fun hcnd => ?_) (fun hcnd => absurd hcnd (by decide))
            | refine T.cond rfl (fun hcnd => absurd hcnd (by decide)) (fun hcnd => ?_)
            | refine T.seq ?_
            | refine T.block ?_
            | refine T.skip ?_
            | refine T.exit ?_
        · simp only [Bool.or_true, if_true]
          refine ACalls.of_body Tryz.func107 (by kernel_rfl) rfl (by kernel_rfl) (by simp [Tryz.ntmps107]) (by simp) ?_
          rw [Tryz.ntmps107]
          repeat' first
            | ((first | refine aops_end (hK _ ?_) | refine aopsD_end (hK _ ?_) | refine aopsF_end (hK _ ?_)); clear hK K)
            | ((first | refine aops_go ?_ | refine aopsD_go ?_ | refine aopsF_go ?_); simp [hk]; (try (refine gen fun q hq => ?_; cases q <;> (try simp [hk] at hq) <;> (try (have hh : True := hq; clear hh hq)))))
            | (refine wpcall_pure rfl (h1) ?_; simp [hk]; (try (refine gen fun q hq => ?_; cases q <;> (try simp [hk] at hq) <;> (try (have hh : True := hq; clear hh hq)))))
            | (refine wpcall_pure rfl (h2) ?_; simp [hk]; (try (refine gen fun q hq => ?_; cases q <;> (try simp [hk] at hq) <;> (try (have hh : True := hq; clear hh hq)))))
            | (refine wpcall_pure rfl (hcf) ?_; simp [hk]; (try (refine gen fun q hq => ?_; cases q <;> (try simp [hk] at hq) <;> (try (have hh : True := hq; clear hh hq)))))
            | (refine T.ret (Done.data (Or.inr rfl) ?_ ?_) <;> simp [Tryz.results107, *] <;> omega)
            | refine T.rs (fun _ => false) fun K hK => ?_
            | refine T.rs1 (fun _ => false) fun K hK => ?_
            | (refine ⟨by omega, ?_⟩)
            | refine T.cond rfl (fun hcnd => ?_) (fun hcnd => absurd hcnd (by decide))
            | refine T.cond rfl (fun hcnd => absurd hcnd (by decide)) (fun hcnd => ?_)
            | refine T.seq ?_
            | refine T.block ?_
            | refine T.skip ?_
            | refine T.exit ?_
      · simp only [Bool.true_or, if_true]
        refine ACalls.of_body Tryz.func107 (by kernel_rfl) rfl (by kernel_rfl) (by simp [Tryz.ntmps107]) (by simp) ?_
        rw [Tryz.ntmps107]
        repeat' first
          | ((first | refine aops_end (hK _ ?_) | refine aopsD_end (hK _ ?_) | refine aopsF_end (hK _ ?_)); clear hK K)
          | ((first | refine aops_go ?_ | refine aopsD_go ?_ | refine aopsF_go ?_); simp [hk]; (try (refine gen fun q hq => ?_; cases q <;> (try simp [hk] at hq) <;> (try (have hh : True := hq; clear hh hq)))))
          | (refine wpcall_pure rfl (h1) ?_; simp [hk]; (try (refine gen fun q hq => ?_; cases q <;> (try simp [hk] at hq) <;> (try (have hh : True := hq; clear hh hq)))))
          | (refine wpcall_pure rfl (hcf) ?_; simp [hk]; (try (refine gen fun q hq => ?_; cases q <;> (try simp [hk] at hq) <;> (try (have hh : True := hq; clear hh hq)))))
          | (refine T.ret (Done.data (Or.inr rfl) ?_ ?_) <;> simp [Tryz.results107, *] <;> omega)
          | refine T.rs (fun _ => false) fun K hK => ?_
          | refine T.rs1 (fun _ => false) fun K hK => ?_
          | (refine ⟨by omega, ?_⟩)
          | refine T.cond rfl (fun hcnd => ?_) (fun hcnd => absurd hcnd (by decide))
          | refine T.cond rfl (fun hcnd => absurd hcnd (by decide)) (fun hcnd => ?_)
          | refine T.seq ?_
          | refine T.block ?_
          | refine T.skip ?_
          | refine T.exit ?_

theorem IsValue_ok (e : MTm) (hn : nTm e ≤ 1099511627776) : ACalls Tryz.prog 44 [aTm e] [] (.b (castValidM e && valM e)) [] [] := by
  have h1 := CastValid_ok e hn
  have h2 := isValue_ok e hn
  generalize castValidM e = a at *
  generalize valM e = b at *
  refine ACalls.of_body Tryz.func44 (by kernel_rfl) rfl (by kernel_rfl) (by simp [Tryz.ntmps44]) (by simp) ?_
  rw [Tryz.ntmps44]
  repeat' first
    | ((first | refine aops_end (hK _ ?_) | refine aopsD_end (hK _ ?_) | refine aopsF_end (hK _ ?_)); clear hK K)
    | ((first | refine aops_go ?_ | refine aopsD_go ?_ | refine aopsF_go ?_); simp; (try (refine gen fun q hq => ?_; cases q <;> (try simp at hq) <;> (try (have hh : True := hq; clear hh hq)))))
    | (refine wpcall_pure rfl (h1) ?_; simp; (try (refine gen fun q hq => ?_; cases q <;> (try simp at hq) <;> (try (have hh : True := hq; clear hh hq)))))
    | (refine wpcall_pure rfl (h2) ?_; simp; (try (refine gen fun q hq => ?_; cases q <;> (try simp at hq) <;> (try (have hh : True := hq; clear hh hq)))))
    | (refine T.ret (Done.data (Or.inr rfl) ?_ ?_) <;> simp [Tryz.results44, *] <;> omega)
    | refine T.rs (fun _ => false) fun K hK => ?_
    | refine T.rs1 (fun _ => false) fun K hK => ?_
    | (refine ⟨by omega, ?_⟩)
    | refine T.cond rfl (fun hcnd => ?_) (fun hcnd => absurd hcnd (by decide))
    | refine T.cond rfl (fun hcnd => absurd hcnd (by decide)) (fun hcnd => ?_)
    | refine T.seq ?_
    | refine T.block ?_
    | refine T.skip ?_
    | refine T.exit ?_

theorem counts_ok (e : MTm) : ACalls Tryz.prog 171 [aTm e] [] (.i (countsM e)) [] [] := by
  by_cases hk : e.kind = 9
  · rw [show countsM e = 1 by simp [countsM, hk]]
    refine ACalls.of_body Tryz.func171 (by kernel_rfl) rfl (by kernel_rfl) (by simp [Tryz.ntmps171]) (by simp) ?_
    rw [Tryz.ntmps171]
    repeat' first
      | ((first | refine aops_end (hK _ ?_) | refine aopsD_end (hK _ ?_) | refine aopsF_end (hK _ ?_)); clear hK K)
      | ((first | refine aops_go ?_ | refine aopsD_go ?_ | refine aopsF_go ?_); simp [hk]; (try (refine gen fun q hq => ?_; cases q <;> (try simp [hk] at hq) <;> (try (have hh : True := hq; clear hh hq)))))
      | (refine T.ret (Done.data (Or.inr rfl) ?_ ?_) <;> simp [Tryz.results171] <;> omega)
      | refine T.rs (fun _ => false) fun K hK => ?_
      | refine T.rs1 (fun _ => false) fun K hK => ?_
      | (refine ⟨by omega, ?_⟩)
      | refine T.cond rfl (fun hcnd => ?_) (fun hcnd => absurd hcnd (by decide))
      | refine T.cond rfl (fun hcnd => absurd hcnd (by decide)) (fun hcnd => ?_)
      | refine T.seq ?_
      | refine T.block ?_
      | refine T.skip ?_
      | refine T.exit ?_
  · rw [show countsM e = e.kids.length by simp [countsM, hk]]
    refine ACalls.of_body Tryz.func171 (by kernel_rfl) rfl (by kernel_rfl) (by simp [Tryz.ntmps171]) (by simp) ?_
    rw [Tryz.ntmps171]
    repeat' first
      | ((first | refine aops_end (hK _ ?_) | refine aopsD_end (hK _ ?_) | refine aopsF_end (hK _ ?_)); clear hK K)
      | ((first | refine aops_go ?_ | refine aopsD_go ?_ | refine aopsF_go ?_); simp [hk]; (try (refine gen fun q hq => ?_; cases q <;> (try simp [hk] at hq) <;> (try (have hh : True := hq; clear hh hq)))))
      | (refine T.ret (Done.data (Or.inr rfl) ?_ ?_) <;> simp [Tryz.results171] <;> omega)
      | refine T.rs (fun _ => false) fun K hK => ?_
      | refine T.rs1 (fun _ => false) fun K hK => ?_
      | (refine ⟨by omega, ?_⟩)
      | refine T.cond rfl (fun hcnd => ?_) (fun hcnd => absurd hcnd (by decide))
      | refine T.cond rfl (fun hcnd => absurd hcnd (by decide)) (fun hcnd => ?_)
      | refine T.seq ?_
      | refine T.block ?_
      | refine T.skip ?_
      | refine T.exit ?_

theorem wrong_ok (e : MTm) : ACalls Tryz.prog 174 [aTm e] [] (.i (wrongM e.kind)) [] [] := by
  by_cases h6 : e.kind = 6
  · simp only [wrongM, h6]
    refine ACalls.of_body Tryz.func174 (by kernel_rfl) rfl (by kernel_rfl) (by simp [Tryz.ntmps174]) (by simp) ?_
    rw [Tryz.ntmps174]
    repeat' first
      | ((first | refine aops_end (hK _ ?_) | refine aopsD_end (hK _ ?_) | refine aopsF_end (hK _ ?_)); clear hK K)
      | ((first | refine aops_go ?_ | refine aopsD_go ?_ | refine aopsF_go ?_); simp [h6]; (try (refine gen fun q hq => ?_; cases q <;> (try simp [h6] at hq) <;> (try (have hh : True := hq; clear hh hq)))))
      | (refine T.ret (Done.data (Or.inr rfl) ?_ ?_) <;> simp [Tryz.results174] <;> omega)
      | refine T.rs (fun _ => false) fun K hK => ?_
      | refine T.rs1 (fun _ => false) fun K hK => ?_
      | (refine ⟨by omega, ?_⟩)
      | refine T.cond rfl (fun hcnd => ?_) (fun hcnd => absurd hcnd (by decide))
      | refine T.cond rfl (fun hcnd => absurd hcnd (by decide)) (fun hcnd => ?_)
      | refine T.seq ?_
      | refine T.block ?_
      | refine T.skip ?_
      | refine T.exit ?_
  by_cases h7 : e.kind = 7
  · simp only [wrongM, h7]
    refine ACalls.of_body Tryz.func174 (by kernel_rfl) rfl (by kernel_rfl) (by simp [Tryz.ntmps174]) (by simp) ?_
    rw [Tryz.ntmps174]
    repeat' first
      | ((first | refine aops_end (hK _ ?_) | refine aopsD_end (hK _ ?_) | refine aopsF_end (hK _ ?_)); clear hK K)
      | ((first | refine aops_go ?_ | refine aopsD_go ?_ | refine aopsF_go ?_); simp [h7]; (try (refine gen fun q hq => ?_; cases q <;> (try simp [h7] at hq) <;> (try (have hh : True := hq; clear hh hq)))))
      | (refine T.ret (Done.data (Or.inr rfl) ?_ ?_) <;> simp [Tryz.results174] <;> omega)
      | refine T.rs (fun _ => false) fun K hK => ?_
      | refine T.rs1 (fun _ => false) fun K hK => ?_
      | (refine ⟨by omega, ?_⟩)
      | refine T.cond rfl (fun hcnd => ?_) (fun hcnd => absurd hcnd (by decide))
      | refine T.cond rfl (fun hcnd => absurd hcnd (by decide)) (fun hcnd => ?_)
      | refine T.seq ?_
      | refine T.block ?_
      | refine T.skip ?_
      | refine T.exit ?_
  by_cases h8 : e.kind = 8
  · simp only [wrongM, h8]
    refine ACalls.of_body Tryz.func174 (by kernel_rfl) rfl (by kernel_rfl) (by simp [Tryz.ntmps174]) (by simp) ?_
    rw [Tryz.ntmps174]
    repeat' first
      | ((first | refine aops_end (hK _ ?_) | refine aopsD_end (hK _ ?_) | refine aopsF_end (hK _ ?_)); clear hK K)
      | ((first | refine aops_go ?_ | refine aopsD_go ?_ | refine aopsF_go ?_); simp [h8]; (try (refine gen fun q hq => ?_; cases q <;> (try simp [h8] at hq) <;> (try (have hh : True := hq; clear hh hq)))))
      | (refine T.ret (Done.data (Or.inr rfl) ?_ ?_) <;> simp [Tryz.results174] <;> omega)
      | refine T.rs (fun _ => false) fun K hK => ?_
      | refine T.rs1 (fun _ => false) fun K hK => ?_
      | (refine ⟨by omega, ?_⟩)
      | refine T.cond rfl (fun hcnd => ?_) (fun hcnd => absurd hcnd (by decide))
      | refine T.cond rfl (fun hcnd => absurd hcnd (by decide)) (fun hcnd => ?_)
      | refine T.seq ?_
      | refine T.block ?_
      | refine T.skip ?_
      | refine T.exit ?_
  by_cases h9 : e.kind = 9
  · simp only [wrongM, h9]
    refine ACalls.of_body Tryz.func174 (by kernel_rfl) rfl (by kernel_rfl) (by simp [Tryz.ntmps174]) (by simp) ?_
    rw [Tryz.ntmps174]
    repeat' first
      | ((first | refine aops_end (hK _ ?_) | refine aopsD_end (hK _ ?_) | refine aopsF_end (hK _ ?_)); clear hK K)
      | ((first | refine aops_go ?_ | refine aopsD_go ?_ | refine aopsF_go ?_); simp [h9]; (try (refine gen fun q hq => ?_; cases q <;> (try simp [h9] at hq) <;> (try (have hh : True := hq; clear hh hq)))))
      | (refine T.ret (Done.data (Or.inr rfl) ?_ ?_) <;> simp [Tryz.results174] <;> omega)
      | refine T.rs (fun _ => false) fun K hK => ?_
      | refine T.rs1 (fun _ => false) fun K hK => ?_
      | (refine ⟨by omega, ?_⟩)
      | refine T.cond rfl (fun hcnd => ?_) (fun hcnd => absurd hcnd (by decide))
      | refine T.cond rfl (fun hcnd => absurd hcnd (by decide)) (fun hcnd => ?_)
      | refine T.seq ?_
      | refine T.block ?_
      | refine T.skip ?_
      | refine T.exit ?_
  by_cases h11 : e.kind = 11
  · simp only [wrongM, h11]
    refine ACalls.of_body Tryz.func174 (by kernel_rfl) rfl (by kernel_rfl) (by simp [Tryz.ntmps174]) (by simp) ?_
    rw [Tryz.ntmps174]
    repeat' first
      | ((first | refine aops_end (hK _ ?_) | refine aopsD_end (hK _ ?_) | refine aopsF_end (hK _ ?_)); clear hK K)
      | ((first | refine aops_go ?_ | refine aopsD_go ?_ | refine aopsF_go ?_); simp [h11]; (try (refine gen fun q hq => ?_; cases q <;> (try simp [h11] at hq) <;> (try (have hh : True := hq; clear hh hq)))))
      | (refine T.ret (Done.data (Or.inr rfl) ?_ ?_) <;> simp [Tryz.results174] <;> omega)
      | refine T.rs (fun _ => false) fun K hK => ?_
      | refine T.rs1 (fun _ => false) fun K hK => ?_
      | (refine ⟨by omega, ?_⟩)
      | refine T.cond rfl (fun hcnd => ?_) (fun hcnd => absurd hcnd (by decide))
      | refine T.cond rfl (fun hcnd => absurd hcnd (by decide)) (fun hcnd => ?_)
      | refine T.seq ?_
      | refine T.block ?_
      | refine T.skip ?_
      | refine T.exit ?_
  by_cases h12 : e.kind = 12
  · simp only [wrongM, h12]
    refine ACalls.of_body Tryz.func174 (by kernel_rfl) rfl (by kernel_rfl) (by simp [Tryz.ntmps174]) (by simp) ?_
    rw [Tryz.ntmps174]
    repeat' first
      | ((first | refine aops_end (hK _ ?_) | refine aopsD_end (hK _ ?_) | refine aopsF_end (hK _ ?_)); clear hK K)
      | ((first | refine aops_go ?_ | refine aopsD_go ?_ | refine aopsF_go ?_); simp [h12]; (try (refine gen fun q hq => ?_; cases q <;> (try simp [h12] at hq) <;> (try (have hh : True := hq; clear hh hq)))))
      | (refine T.ret (Done.data (Or.inr rfl) ?_ ?_) <;> simp [Tryz.results174] <;> omega)
      | refine T.rs (fun _ => false) fun K hK => ?_
      | refine T.rs1 (fun _ => false) fun K hK => ?_
      | (refine ⟨by omega, ?_⟩)
      | refine T.cond rfl (fun hcnd => ?_) (fun hcnd => absurd hcnd (by decide))
      | refine T.cond rfl (fun hcnd => absurd hcnd (by decide)) (fun hcnd => ?_)
      | refine T.seq ?_
      | refine T.block ?_
      | refine T.skip ?_
      | refine T.exit ?_
  simp only [wrongM, h6, h7, h8, h9, h11, h12, or_self, if_false]
  refine ACalls.of_body Tryz.func174 (by kernel_rfl) rfl (by kernel_rfl) (by simp [Tryz.ntmps174]) (by simp) ?_
  rw [Tryz.ntmps174]
  repeat' first
    | ((first | refine aops_end (hK _ ?_) | refine aopsD_end (hK _ ?_) | refine aopsF_end (hK _ ?_)); clear hK K)
    | ((first | refine aops_go ?_ | refine aopsD_go ?_ | refine aopsF_go ?_); simp [h6, h7, h8, h9, h11, h12]; (try (refine gen fun q hq => ?_; cases q <;> (try simp [h6, h7, h8, h9, h11, h12] at hq) <;> (try (have hh : True := hq; clear hh hq)))))
    | (refine T.ret (Done.data (Or.inr rfl) ?_ ?_) <;> simp [Tryz.results174] <;> omega)
    | refine T.rs (fun _ => false) fun K hK => ?_
    | refine T.rs1 (fun _ => false) fun K hK => ?_
    | (refine ⟨by omega, ?_⟩)
    | refine T.cond rfl (fun hcnd => ?_) (fun hcnd => absurd hcnd (by decide))
    | refine T.cond rfl (fun hcnd => absurd hcnd (by decide)) (fun hcnd => ?_)
    | refine T.seq ?_
    | refine T.block ?_
    | refine T.skip ?_
    | refine T.exit ?_

theorem node0l_ok (k : Int) : ACalls Tryz.prog 238 [.i k, .l []] [] (aTm (.mk k [] 0 zeroT zeroT 0 [])) [] [] := by
  refine ACalls.of_body Tryz.func238 (by kernel_rfl) rfl (by kernel_rfl) (by simp [Tryz.ntmps238]) (by simp) ?_
  rw [Tryz.ntmps238]
  repeat' first
    | ((first | refine aops_end (hK _ ?_) | refine aopsD_end (hK _ ?_) | refine aopsF_end (hK _ ?_)); clear hK K)
    | ((first | refine aops_go ?_ | refine aopsD_go ?_ | refine aopsF_go ?_); simp; (try (refine gen fun q hq => ?_; cases q <;> (try simp at hq) <;> (try (have hh : True := hq; clear hh hq)))))
    | (refine T.ret (Done.val (Or.inr rfl) ?_) <;> simp [resAs, Tryz.results238] <;> omega)
    | refine T.rs (fun _ => false) fun K hK => ?_
    | refine T.rs1 (fun _ => false) fun K hK => ?_
    | (refine ⟨by omega, ?_⟩)
    | refine T.cond rfl (fun hcnd => ?_) (fun hcnd => absurd hcnd (by decide))
    | refine T.cond rfl (fun hcnd => absurd hcnd (by decide)) (fun hcnd => ?_)
    | refine T.seq ?_
    | refine T.block ?_
    | refine T.skip ?_
    | refine T.exit ?_

theorem truth_ok (b : Bool) : ACalls Tryz.prog 207 [.b b] [] (aTm (truthM b)) [] [] := by
  have h3 := node0l_ok 3
  have h4 := node0l_ok 4
  cases b
  · rw [show truthM false = tFalse from rfl]
    refine ACalls.of_body Tryz.func207 (by kernel_rfl) rfl (by kernel_rfl) (by simp [Tryz.ntmps207]) (by simp) ?_
    rw [Tryz.ntmps207]
    repeat' first
      | ((first | refine aops_end (hK _ ?_) | refine aopsD_end (hK _ ?_) | refine aopsF_end (hK _ ?_)); clear hK K)
      | ((first | refine aops_go ?_ | refine aopsD_go ?_ | refine aopsF_go ?_); simp; (try (refine gen fun q hq => ?_; cases q <;> (try simp at hq) <;> (try (have hh : True := hq; clear hh hq)))))
      | (refine wpcall_pure rfl (h3) ?_; simp; (try (refine gen fun q hq => ?_; cases q <;> (try simp at hq) <;> (try (have hh : True := hq; clear hh hq)))))
      | (refine wpcall_pure rfl (h4) ?_; simp; (try (refine gen fun q hq => ?_; cases q <;> (try simp at hq) <;> (try (have hh : True := hq; clear hh hq)))))
      | (refine T.ret (Done.val (Or.inr rfl) ?_) <;> simp [resAs, Tryz.results207] <;> omega)
      | refine T.rs (fun _ => false) fun K hK => ?_
      | refine T.rs1 (fun _ => false) fun K hK => ?_
      | (refine ⟨by omega, ?_⟩)
      | refine T.cond rfl (fun hcnd => ?_) (fun hcnd => absurd hcnd (by decide))
      | refine T.cond rfl (fun hcnd => absurd hcnd (by decide)) (fun hcnd => ?_)
      | refine T.seq ?_
      | refine T.block ?_
      | refine T.skip ?_
      | refine T.exit ?_
  · rw [show truthM true = tTrue from rfl]
    refine ACalls.of_body Tryz.func207 (by kernel_rfl) rfl (by kernel_rfl) (by simp [Tryz.ntmps207]) (by simp) ?_
    rw [Tryz.ntmps207]
    repeat' first
      | ((first | refine aops_end (hK _ ?_) | refine aopsD_end (hK _ ?_) | refine aopsF_end (hK _ ?_)); clear hK K)
      | ((first | refine aops_go ?_ | refine aopsD_go ?_ | refine aopsF_go ?_); simp; (try (refine gen fun q hq => ?_; cases q <;> (try simp at hq) <;> (try (have hh : True := hq; clear hh hq)))))
      | (refine wpcall_pure rfl (h3) ?_; simp; (try (refine gen fun q hq => ?_; cases q <;> (try simp at hq) <;> (try (have hh : True := hq; clear hh hq)))))
      | (refine wpcall_pure rfl (h4) ?_; simp; (try (refine gen fun q hq => ?_; cases q <;> (try simp at hq) <;> (try (have hh : True := hq; clear hh hq)))))
      | (refine T.ret (Done.val (Or.inr rfl) ?_) <;> simp [resAs, Tryz.results207] <;> omega)
      | refine T.rs (fun _ => false) fun K hK => ?_
      | refine T.rs1 (fun _ => false) fun K hK => ?_
      | (refine ⟨by omega, ?_⟩)
      | refine T.cond rfl (fun hcnd => ?_) (fun hcnd => absurd hcnd (by decide))
      | refine T.cond rfl (fun hcnd => absurd hcnd (by decide)) (fun hcnd => ?_)
      | refine T.seq ?_
      | refine T.block ?_
      | refine T.skip ?_
      | refine T.exit ?_

abbrev ruleR (o : Option MTm) : List AV := match o with
  | some x => [aTm x, .i 1]
  | none => [aTm zeroE, .i 3]

theorem rule_ok (e : MTm) (d : Nat) (hv : TmV 13 d e) (hn : nTm e ≤ 1073741824) : ACalls Tryz.prog 173 [aTm e] [] (.tup (ruleR (ruleM e))) [] [] := by
  rcases hv.cases13 with ⟨s, rfl⟩ | ⟨k, rfl, h1, h2⟩ | rfl | rfl | ⟨s, t, b, rfl⟩ | ⟨a, f, t, l, rfl⟩ | ⟨k, a, rfl, hk, _, ha⟩ | ⟨p, a, b, rfl, _, hp⟩ | ⟨k, a, b, rfl, hk, ⟨_, ha⟩, _, hb⟩
  · skip
    rw [show ruleM (tVar s) = none by simp [ruleM]]
    refine ACalls.of_body Tryz.func173 (by kernel_rfl) rfl (by kernel_rfl) (by simp [Tryz.ntmps173]) (by simp) ?_
    rw [Tryz.ntmps173]
    repeat' first
      | ((first | refine aops_end (hK _ ?_) | refine aopsD_end (hK _ ?_) | refine aopsF_end (hK _ ?_)); clear hK K)
      | ((first | refine aops_go ?_ | refine aopsD_go ?_ | refine aopsF_go ?_); simp; (try (refine gen fun q hq => ?_; cases q <;> (try simp at hq) <;> (try (have hh : True := hq; clear hh hq)))))
      | (refine T.ret (Done.tup (Or.inr rfl) ?_) <;> simp [resAs, Tryz.results173] <;> omega)
      | refine T.rd (id := 7) mixed (fun _ => false) [11] (by kernel_rfl) fun K hK => ?_
      | refine T.rd1 (id := 7) mixed (fun _ => false) [11] (by kernel_rfl) fun K hK => ?_
      | refine T.rs (fun _ => false) fun K hK => ?_
      | refine T.rs1 (fun _ => false) fun K hK => ?_
      | (refine ⟨by omega, ?_⟩)
      | refine T.cond rfl (fun hcnd => ?_) (fun hcnd => absurd hcnd (by decide))
      | refine T.cond rfl (fun hcnd => absurd hcnd (by decide)) (fun hcnd => ?_)
      | refine T.seq ?_
      | refine T.block ?_
      | refine T.skip ?_
      | refine T.exit ?_
  · skip
    rw [show ruleM (tNum k) = none by simp [ruleM]]
    refine ACalls.of_body Tryz.func173 (by kernel_rfl) rfl (by kernel_rfl) (by simp [Tryz.ntmps173]) (by simp) ?_
    rw [Tryz.ntmps173]
    repeat' first
      | ((first | refine aops_end (hK _ ?_) | refine aopsD_end (hK _ ?_) | refine aopsF_end (hK _ ?_)); clear hK K)
      | ((first | refine aops_go ?_ | refine aopsD_go ?_ | refine aopsF_go ?_); simp; (try (refine gen fun q hq => ?_; cases q <;> (try simp at hq) <;> (try (have hh : True := hq; clear hh hq)))))
      | (refine T.ret (Done.tup (Or.inr rfl) ?_) <;> simp [resAs, Tryz.results173] <;> omega)
      | refine T.rd (id := 7) mixed (fun _ => false) [11] (by kernel_rfl) fun K hK => ?_
      | refine T.rd1 (id := 7) mixed (fun _ => false) [11] (by kernel_rfl) fun K hK => ?_
      | refine T.rs (fun _ => false) fun K hK => ?_
      | refine T.rs1 (fun _ => false) fun K hK => ?_
      | (refine ⟨by omega, ?_⟩)
      | refine T.cond rfl (fun hcnd => ?_) (fun hcnd => absurd hcnd (by decide))
      | refine T.cond rfl (fun hcnd => absurd hcnd (by decide)) (fun hcnd => ?_)
      | refine T.seq ?_
      | refine T.block ?_
      | refine T.skip ?_
      | refine T.exit ?_
  · skip
    rw [show ruleM tTrue = none by simp [ruleM]]
    refine ACalls.of_body Tryz.func173 (by kernel_rfl) rfl (by kernel_rfl) (by simp [Tryz.ntmps173]) (by simp) ?_
    rw [Tryz.ntmps173]
    repeat' first
      | ((first | refine aops_end (hK _ ?_) | refine aopsD_end (hK _ ?_) | refine aopsF_end (hK _ ?_)); clear hK K)
      | ((first | refine aops_go ?_ | refine aopsD_go ?_ | refine aopsF_go ?_); simp; (try (refine gen fun q hq => ?_; cases q <;> (try simp at hq) <;> (try (have hh : True := hq; clear hh hq)))))
      | (refine T.ret (Done.tup (Or.inr rfl) ?_) <;> simp [resAs, Tryz.results173] <;> omega)
      | refine T.rd (id := 7) mixed (fun _ => false) [11] (by kernel_rfl) fun K hK => ?_
      | refine T.rd1 (id := 7) mixed (fun _ => false) [11] (by kernel_rfl) fun K hK => ?_
      | refine T.rs (fun _ => false) fun K hK => ?_
      | refine T.rs1 (fun _ => false) fun K hK => ?_
      | (refine ⟨by omega, ?_⟩)
      | refine T.cond rfl (fun hcnd => ?_) (fun hcnd => absurd hcnd (by decide))
      | refine T.cond rfl (fun hcnd => absurd hcnd (by decide)) (fun hcnd => ?_)
      | refine T.seq ?_
      | refine T.block ?_
      | refine T.skip ?_
      | refine T.exit ?_
  · skip
    rw [show ruleM tFalse = none by simp [ruleM]]
    refine ACalls.of_body Tryz.func173 (by kernel_rfl) rfl (by kernel_rfl) (by simp [Tryz.ntmps173]) (by simp) ?_
    rw [Tryz.ntmps173]
    repeat' first
      | ((first | refine aops_end (hK _ ?_) | refine aopsD_end (hK _ ?_) | refine aopsF_end (hK _ ?_)); clear hK K)
      | ((first | refine aops_go ?_ | refine aopsD_go ?_ | refine aopsF_go ?_); simp; (try (refine gen fun q hq => ?_; cases q <;> (try simp at hq) <;> (try (have hh : True := hq; clear hh hq)))))
      | (refine T.ret (Done.tup (Or.inr rfl) ?_) <;> simp [resAs, Tryz.results173] <;> omega)
      | refine T.rd (id := 7) mixed (fun _ => false) [11] (by kernel_rfl) fun K hK => ?_
      | refine T.rd1 (id := 7) mixed (fun _ => false) [11] (by kernel_rfl) fun K hK => ?_
      | refine T.rs (fun _ => false) fun K hK => ?_
      | refine T.rs1 (fun _ => false) fun K hK => ?_
      | (refine ⟨by omega, ?_⟩)
      | refine T.cond rfl (fun hcnd => ?_) (fun hcnd => absurd hcnd (by decide))
      | refine T.cond rfl (fun hcnd => absurd hcnd (by decide)) (fun hcnd => ?_)
      | refine T.seq ?_
      | refine T.block ?_
      | refine T.skip ?_
      | refine T.exit ?_
  · skip
    rw [show ruleM (tLam s t b) = none by simp [ruleM]]
    refine ACalls.of_body Tryz.func173 (by kernel_rfl) rfl (by kernel_rfl) (by simp [Tryz.ntmps173]) (by simp) ?_
    rw [Tryz.ntmps173]
    repeat' first
      | ((first | refine aops_end (hK _ ?_) | refine aopsD_end (hK _ ?_) | refine aopsF_end (hK _ ?_)); clear hK K)
      | ((first | refine aops_go ?_ | refine aopsD_go ?_ | refine aopsF_go ?_); simp [eTm_def]; (try (refine gen fun q hq => ?_; cases q <;> (try simp [eTm_def] at hq) <;> (try (have hh : True := hq; clear hh hq)))))
      | (refine T.ret (Done.tup (Or.inr rfl) ?_) <;> simp [resAs, Tryz.results173] <;> omega)
      | refine T.rd (id := 7) mixed (fun _ => false) [11] (by kernel_rfl) fun K hK => ?_
      | refine T.rd1 (id := 7) mixed (fun _ => false) [11] (by kernel_rfl) fun K hK => ?_
      | refine T.rs (fun _ => false) fun K hK => ?_
      | refine T.rs1 (fun _ => false) fun K hK => ?_
      | (refine ⟨by omega, ?_⟩)
      | refine T.cond rfl (fun hcnd => ?_) (fun hcnd => absurd hcnd (by decide))
      | refine T.cond rfl (fun hcnd => absurd hcnd (by decide)) (fun hcnd => ?_)
      | refine T.seq ?_
      | refine T.block ?_
      | refine T.skip ?_
      | refine T.exit ?_
  · skip
    rw [show ruleM (tCast a f t l) = none by simp [ruleM]]
    refine ACalls.of_body Tryz.func173 (by kernel_rfl) rfl (by kernel_rfl) (by simp [Tryz.ntmps173]) (by simp) ?_
    rw [Tryz.ntmps173]
    repeat' first
      | ((first | refine aops_end (hK _ ?_) | refine aopsD_end (hK _ ?_) | refine aopsF_end (hK _ ?_)); clear hK K)
      | ((first | refine aops_go ?_ | refine aopsD_go ?_ | refine aopsF_go ?_); simp [eTm_def]; (try (refine gen fun q hq => ?_; cases q <;> (try simp [eTm_def] at hq) <;> (try (have hh : True := hq; clear hh hq)))))
      | (refine T.ret (Done.tup (Or.inr rfl) ?_) <;> simp [resAs, Tryz.results173] <;> omega)
      | refine T.rd (id := 7) mixed (fun _ => false) [11] (by kernel_rfl) fun K hK => ?_
      | refine T.rd1 (id := 7) mixed (fun _ => false) [11] (by kernel_rfl) fun K hK => ?_
      | refine T.rs (fun _ => false) fun K hK => ?_
      | refine T.rs1 (fun _ => false) fun K hK => ?_
      | (refine ⟨by omega, ?_⟩)
      | refine T.cond rfl (fun hcnd => ?_) (fun hcnd => absurd hcnd (by decide))
      | refine T.cond rfl (fun hcnd => absurd hcnd (by decide)) (fun hcnd => ?_)
      | refine T.seq ?_
      | refine T.block ?_
      | refine T.skip ?_
      | refine T.exit ?_
  · skip
    by_cases h10 : a.kind = 10
    · obtain ⟨x, y, rfl⟩ := ha.kind10 h10
      rcases hk with rfl | rfl
      · rw [show ruleM (tN1 11 (tN2 10 x y)) = some x by simp [ruleM]]
        refine ACalls.of_body Tryz.func173 (by kernel_rfl) rfl (by kernel_rfl) (by simp [Tryz.ntmps173]) (by simp) ?_
        rw [Tryz.ntmps173]
        repeat' first
          | ((first | refine aops_end (hK _ ?_) | refine aopsD_end (hK _ ?_) | refine aopsF_end (hK _ ?_)); clear hK K)
          | ((first | refine aops_go ?_ | refine aopsD_go ?_ | refine aopsF_go ?_); simp [eTm_def]; (try simp (disch := omega) only [wrap64]); (try (refine gen fun q hq => ?_; cases q <;> (try simp [eTm_def] at hq) <;> (try (have hh : True := hq; clear hh hq)))))
          | (refine T.ret (Done.tup (Or.inr rfl) ?_) <;> simp [resAs, Tryz.results173, eTm_def] <;> omega)
          | refine T.rd (id := 7) mixed (fun _ => false) [11] (by kernel_rfl) fun K hK => ?_
          | refine T.rd1 (id := 7) mixed (fun _ => false) [11] (by kernel_rfl) fun K hK => ?_
          | refine T.rs (fun _ => false) fun K hK => ?_
          | refine T.rs1 (fun _ => false) fun K hK => ?_
          | (refine ⟨by omega, ?_⟩)
          | refine T.cond rfl (fun hcnd => ?_) (fun hcnd => absurd hcnd (by decide))
          | refine T.cond rfl (fun hcnd => absurd hcnd (by decide)) (fun hcnd => ?_)
          | refine T.seq ?_
          | refine T.block ?_
          | refine T.skip ?_
          | refine T.exit ?_
      · rw [show ruleM (tN1 12 (tN2 10 x y)) = some y by simp [ruleM]]
        refine ACalls.of_body Tryz.func173 (by kernel_rfl) rfl (by kernel_rfl) (by simp [Tryz.ntmps173]) (by simp) ?_
        rw [Tryz.ntmps173]
        repeat' first
          | ((first | refine aops_end (hK _ ?_) | refine aopsD_end (hK _ ?_) | refine aopsF_end (hK _ ?_)); clear hK K)
          | ((first | refine aops_go ?_ | refine aopsD_go ?_ | refine aopsF_go ?_); simp [eTm_def]; (try simp (disch := omega) only [wrap64]); (try (refine gen fun q hq => ?_; cases q <;> (try simp [eTm_def] at hq) <;> (try (have hh : True := hq; clear hh hq)))))
          | (refine T.ret (Done.tup (Or.inr rfl) ?_) <;> simp [resAs, Tryz.results173, eTm_def] <;> omega)
          | refine T.rd (id := 7) mixed (fun _ => false) [11] (by kernel_rfl) fun K hK => ?_
          | refine T.rd1 (id := 7) mixed (fun _ => false) [11] (by kernel_rfl) fun K hK => ?_
          | refine T.rs (fun _ => false) fun K hK => ?_
          | refine T.rs1 (fun _ => false) fun K hK => ?_
          | (refine ⟨by omega, ?_⟩)
          | refine T.cond rfl (fun hcnd => ?_) (fun hcnd => absurd hcnd (by decide))
          | refine T.cond rfl (fun hcnd => absurd hcnd (by decide)) (fun hcnd => ?_)
          | refine T.seq ?_
          | refine T.block ?_
          | refine T.skip ?_
          | refine T.exit ?_
    · rcases hk with rfl | rfl
      · rw [show ruleM (tN1 11 a) = none by simp [ruleM, h10]]
        refine ACalls.of_body Tryz.func173 (by kernel_rfl) rfl (by kernel_rfl) (by simp [Tryz.ntmps173]) (by simp) ?_
        rw [Tryz.ntmps173]
        repeat' first
          | ((first | refine aops_end (hK _ ?_) | refine aopsD_end (hK _ ?_) | refine aopsF_end (hK _ ?_)); clear hK K)
          | ((first | refine aops_go ?_ | refine aopsD_go ?_ | refine aopsF_go ?_); simp [eTm_def, h10]; (try (refine gen fun q hq => ?_; cases q <;> (try simp [eTm_def, h10] at hq) <;> (try (have hh : True := hq; clear hh hq)))))
          | (refine T.ret (Done.tup (Or.inr rfl) ?_) <;> simp [resAs, Tryz.results173] <;> omega)
          | refine T.rd (id := 7) mixed (fun _ => false) [11] (by kernel_rfl) fun K hK => ?_
          | refine T.rd1 (id := 7) mixed (fun _ => false) [11] (by kernel_rfl) fun K hK => ?_
          | refine T.rs (fun _ => false) fun K hK => ?_
          | refine T.rs1 (fun _ => false) fun K hK => ?_
          | (refine ⟨by omega, ?_⟩)
          | refine T.cond rfl (fun hcnd => ?_) (fun hcnd => absurd hcnd (by decide))
          | refine T.cond rfl (fun hcnd => absurd hcnd (by decide)) (fun hcnd => ?_)
          | refine T.seq ?_
          | refine T.block ?_
          | refine T.skip ?_
          | refine T.exit ?_
      · rw [show ruleM (tN1 12 a) = none by simp [ruleM, h10]]
        refine ACalls.of_body Tryz.func173 (by kernel_rfl) rfl (by kernel_rfl) (by simp [Tryz.ntmps173]) (by simp) ?_
        rw [Tryz.ntmps173]
        repeat' first
          | ((first | refine aops_end (hK _ ?_) | refine aopsD_end (hK _ ?_) | refine aopsF_end (hK _ ?_)); clear hK K)
          | ((first | refine aops_go ?_ | refine aopsD_go ?_ | refine aopsF_go ?_); simp [eTm_def, h10]; (try (refine gen fun q hq => ?_; cases q <;> (try simp [eTm_def, h10] at hq) <;> (try (have hh : True := hq; clear hh hq)))))
          | (refine T.ret (Done.tup (Or.inr rfl) ?_) <;> simp [resAs, Tryz.results173] <;> omega)
          | refine T.rd (id := 7) mixed (fun _ => false) [11] (by kernel_rfl) fun K hK => ?_
          | refine T.rd1 (id := 7) mixed (fun _ => false) [11] (by kernel_rfl) fun K hK => ?_
          | refine T.rs (fun _ => false) fun K hK => ?_
          | refine T.rs1 (fun _ => false) fun K hK => ?_
          | (refine ⟨by omega, ?_⟩)
          | refine T.cond rfl (fun hcnd => ?_) (fun hcnd => absurd hcnd (by decide))
          | refine T.cond rfl (fun hcnd => absurd hcnd (by decide)) (fun hcnd => ?_)
          | refine T.seq ?_
          | refine T.block ?_
          | refine T.skip ?_
          | refine T.exit ?_
  · skip
    by_cases h3 : p.kind = 3
    · rw [show ruleM (tIf p a b) = some a by simp [ruleM, h3]]
      refine ACalls.of_body Tryz.func173 (by kernel_rfl) rfl (by kernel_rfl) (by simp [Tryz.ntmps173]) (by simp) ?_
      rw [Tryz.ntmps173]
      repeat' first
        | ((first | refine aops_end (hK _ ?_) | refine aopsD_end (hK _ ?_) | refine aopsF_end (hK _ ?_)); clear hK K)
        | ((first | refine aops_go ?_ | refine aopsD_go ?_ | refine aopsF_go ?_); simp [eTm_def, h3]; (try (refine gen fun q hq => ?_; cases q <;> (try simp [eTm_def, h3] at hq) <;> (try (have hh : True := hq; clear hh hq)))))
        | (refine T.ret (Done.tup (Or.inr rfl) ?_) <;> simp [resAs, Tryz.results173, eTm_def] <;> omega)
        | refine T.rd (id := 7) mixed (fun _ => false) [11] (by kernel_rfl) fun K hK => ?_
        | refine T.rd1 (id := 7) mixed (fun _ => false) [11] (by kernel_rfl) fun K hK => ?_
        | refine T.rs (fun _ => false) fun K hK => ?_
        | refine T.rs1 (fun _ => false) fun K hK => ?_
        | (refine ⟨by omega, ?_⟩)
        | refine T.cond rfl (fun hcnd => ?_) (fun hcnd => absurd hcnd (by decide))
        | refine T.cond rfl (fun hcnd => absurd hcnd (by decide)) (fun hcnd => ?_)
        | refine T.seq ?_
        | refine T.block ?_
        | refine T.skip ?_
        | refine T.exit ?_
    by_cases h4 : p.kind = 4
    · rw [show ruleM (tIf p a b) = some b by simp [ruleM, h4]]
      refine ACalls.of_body Tryz.func173 (by kernel_rfl) rfl (by kernel_rfl) (by simp [Tryz.ntmps173]) (by simp) ?_
      rw [Tryz.ntmps173]
      repeat' first
        | ((first | refine aops_end (hK _ ?_) | refine aopsD_end (hK _ ?_) | refine aopsF_end (hK _ ?_)); clear hK K)
        | ((first | refine aops_go ?_ | refine aopsD_go ?_ | refine aopsF_go ?_); simp [eTm_def, h4]; (try (refine gen fun q hq => ?_; cases q <;> (try simp [eTm_def, h4] at hq) <;> (try (have hh : True := hq; clear hh hq)))))
        | (refine T.ret (Done.tup (Or.inr rfl) ?_) <;> simp [resAs, Tryz.results173, eTm_def] <;> omega)
        | refine T.rd (id := 7) mixed (fun _ => false) [11] (by kernel_rfl) fun K hK => ?_
        | refine T.rd1 (id := 7) mixed (fun _ => false) [11] (by kernel_rfl) fun K hK => ?_
        | refine T.rs (fun _ => false) fun K hK => ?_
        | refine T.rs1 (fun _ => false) fun K hK => ?_
        | (refine ⟨by omega, ?_⟩)
        | refine T.cond rfl (fun hcnd => ?_) (fun hcnd => absurd hcnd (by decide))
        | refine T.cond rfl (fun hcnd => absurd hcnd (by decide)) (fun hcnd => ?_)
        | refine T.seq ?_
        | refine T.block ?_
        | refine T.skip ?_
        | refine T.exit ?_
    · rw [show ruleM (tIf p a b) = none by simp [ruleM, h3, h4]]
      refine ACalls.of_body Tryz.func173 (by kernel_rfl) rfl (by kernel_rfl) (by simp [Tryz.ntmps173]) (by simp) ?_
      rw [Tryz.ntmps173]
      repeat' first
        | ((first | refine aops_end (hK _ ?_) | refine aopsD_end (hK _ ?_) | refine aopsF_end (hK _ ?_)); clear hK K)
        | ((first | refine aops_go ?_ | refine aopsD_go ?_ | refine aopsF_go ?_); simp [eTm_def, h3, h4]; (try (refine gen fun q hq => ?_; cases q <;> (try simp [eTm_def, h3, h4] at hq) <;> (try (have hh : True := hq; clear hh hq)))))
        | (refine T.ret (Done.tup (Or.inr rfl) ?_) <;> simp [resAs, Tryz.results173] <;> omega)
        | refine T.rd (id := 7) mixed (fun _ => false) [11] (by kernel_rfl) fun K hK => ?_
        | refine T.rd1 (id := 7) mixed (fun _ => false) [11] (by kernel_rfl) fun K hK => ?_
        | refine T.rs (fun _ => false) fun K hK => ?_
        | refine T.rs1 (fun _ => false) fun K hK => ?_
        | (refine ⟨by omega, ?_⟩)
        | refine T.cond rfl (fun hcnd => ?_) (fun hcnd => absurd hcnd (by decide))
        | refine T.cond rfl (fun hcnd => absurd hcnd (by decide)) (fun hcnd => ?_)
        | refine T.seq ?_
        | refine T.block ?_
        | refine T.skip ?_
        | refine T.exit ?_
  · skip
    rcases hk with rfl | rfl | rfl | rfl
    · by_cases h5 : a.kind = 5
      · obtain ⟨s, t, x, rfl⟩ := ha.kind5 h5
        rw [show ruleM (tN2 6 (tLam s t x) b) = some (substM s b x) by simp [ruleM]]
        have k1 := subst_ok b s x (by simp [nTm_mk, nTmS] at hn; omega)
        generalize substM s b x = R at *
        refine ACalls.of_body Tryz.func173 (by kernel_rfl) rfl (by kernel_rfl) (by simp [Tryz.ntmps173]) (by simp) ?_
        rw [Tryz.ntmps173]
        repeat' first
          | ((first | refine aops_end (hK _ ?_) | refine aopsD_end (hK _ ?_) | refine aopsF_end (hK _ ?_)); clear hK K)
          | ((first | refine aops_go ?_ | refine aopsD_go ?_ | refine aopsF_go ?_); simp [eTm_def]; (try (refine gen fun q hq => ?_; cases q <;> (try simp [eTm_def] at hq) <;> (try (have hh : True := hq; clear hh hq)))))
          | (refine wpcall_pure ?_ (k1) ?_; (focus (solve | simp [eTm_def])); simp [eTm_def]; (try (refine gen fun q hq => ?_; cases q <;> (try simp [eTm_def] at hq) <;> (try (have hh : True := hq; clear hh hq)))))
          | (refine T.ret (Done.tup (Or.inr rfl) ?_) <;> simp [resAs, Tryz.results173] <;> omega)
          | refine T.rd (id := 7) mixed (fun _ => false) [11] (by kernel_rfl) fun K hK => ?_
          | refine T.rd1 (id := 7) mixed (fun _ => false) [11] (by kernel_rfl) fun K hK => ?_
          | refine T.rs (fun _ => false) fun K hK => ?_
          | refine T.rs1 (fun _ => false) fun K hK => ?_
          | (refine ⟨by omega, ?_⟩)
          | refine T.cond rfl (fun hcnd => ?_) (fun hcnd => absurd hcnd (by decide))
          | refine T.cond rfl (fun hcnd => absurd hcnd (by decide)) (fun hcnd => ?_)
          | refine T.seq ?_
          | refine T.block ?_
          | refine T.skip ?_
          | refine T.exit ?_
      · rw [show ruleM (tN2 6 a b) = none by simp [ruleM, h5]]
        refine ACalls.of_body Tryz.func173 (by kernel_rfl) rfl (by kernel_rfl) (by simp [Tryz.ntmps173]) (by simp) ?_
        rw [Tryz.ntmps173]
        repeat' first
          | ((first | refine aops_end (hK _ ?_) | refine aopsD_end (hK _ ?_) | refine aopsF_end (hK _ ?_)); clear hK K)
          | ((first | refine aops_go ?_ | refine aopsD_go ?_ | refine aopsF_go ?_); simp [eTm_def, h5]; (try (refine gen fun q hq => ?_; cases q <;> (try simp [eTm_def, h5] at hq) <;> (try (have hh : True := hq; clear hh hq)))))
          | (refine T.ret (Done.tup (Or.inr rfl) ?_) <;> simp [resAs, Tryz.results173] <;> omega)
          | refine T.rd (id := 7) mixed (fun _ => false) [11] (by kernel_rfl) fun K hK => ?_
          | refine T.rd1 (id := 7) mixed (fun _ => false) [11] (by kernel_rfl) fun K hK => ?_
          | refine T.rs (fun _ => false) fun K hK => ?_
          | refine T.rs1 (fun _ => false) fun K hK => ?_
          | (refine ⟨by omega, ?_⟩)
          | refine T.cond rfl (fun hcnd => ?_) (fun hcnd => absurd hcnd (by decide))
          | refine T.cond rfl (fun hcnd => absurd hcnd (by decide)) (fun hcnd => ?_)
          | refine T.seq ?_
          | refine T.block ?_
          | refine T.skip ?_
          | refine T.exit ?_
    · by_cases h2 : a.kind = 2 ∧ b.kind = 2
      · obtain ⟨m, rfl, hm1, hm2⟩ := ha.kind2 h2.1
        obtain ⟨n, rfl, hn1, hn2⟩ := hb.kind2 h2.2
        rw [show ruleM (tN2 7 (tNum m) (tNum n)) = some (tNum ((m + n).tmod 1000)) by simp [ruleM]]
        refine ACalls.of_body Tryz.func173 (by kernel_rfl) rfl (by kernel_rfl) (by simp [Tryz.ntmps173]) (by simp) ?_
        rw [Tryz.ntmps173]
        repeat' first
          | ((first | refine aops_end (hK _ ?_) | refine aopsD_end (hK _ ?_) | refine aopsF_end (hK _ ?_)); clear hK K)
          | ((first | refine aops_go ?_ | refine aopsD_go ?_ | refine aopsF_go ?_); simp [eTm_def]; (try simp (disch := omega) only [wrap64]); (try (refine gen fun q hq => ?_; cases q <;> (try simp [eTm_def] at hq) <;> (try (have hh : True := hq; clear hh hq)))))
          | (refine T.ret (Done.tup (Or.inr rfl) ?_) <;> simp [resAs, Tryz.results173] <;> omega)
          | refine T.rd (id := 7) mixed (fun _ => false) [11] (by kernel_rfl) fun K hK => ?_
          | refine T.rd1 (id := 7) mixed (fun _ => false) [11] (by kernel_rfl) fun K hK => ?_
          | refine T.rs (fun _ => false) fun K hK => ?_
          | refine T.rs1 (fun _ => false) fun K hK => ?_
          | (refine ⟨by omega, ?_⟩)
          | refine T.cond rfl (fun hcnd => ?_) (fun hcnd => absurd hcnd (by decide))
          | refine T.cond rfl (fun hcnd => absurd hcnd (by decide)) (fun hcnd => ?_)
          | refine T.seq ?_
          | refine T.block ?_
          | refine T.skip ?_
          | refine T.exit ?_
      · rw [show ruleM (tN2 7 a b) = none by simp [ruleM]; omega]
        by_cases ha2 : a.kind = 2
        · have hb2 : ¬ b.kind = 2 := fun h => h2 ⟨ha2, h⟩
          refine ACalls.of_body Tryz.func173 (by kernel_rfl) rfl (by kernel_rfl) (by simp [Tryz.ntmps173]) (by simp) ?_
          rw [Tryz.ntmps173]
          repeat' first
            | ((first | refine aops_end (hK _ ?_) | refine aopsD_end (hK _ ?_) | refine aopsF_end (hK _ ?_)); clear hK K)
            | ((first | refine aops_go ?_ | refine aopsD_go ?_ | refine aopsF_go ?_); simp [eTm_def, ha2, hb2]; (try (refine gen fun q hq => ?_; cases q <;> (try simp [eTm_def, ha2, hb2] at hq) <;> (try (have hh : True := hq; clear hh hq)))))
            | (refine T.ret (Done.tup (Or.inr rfl) ?_) <;> simp [resAs, Tryz.results173] <;> omega)
            | refine T.rd (id := 7) mixed (fun _ => false) [11] (by kernel_rfl) fun K hK => ?_
            | refine T.rd1 (id := 7) mixed (fun _ => false) [11] (by kernel_rfl) fun K hK => ?_
            | refine T.rs (fun _ => false) fun K hK => ?_
            | refine T.rs1 (fun _ => false) fun K hK => ?_
            | (refine ⟨by omega, ?_⟩)
            | refine T.cond rfl (fun hcnd => ?_) (fun hcnd => absurd hcnd (by decide))
            | refine T.cond rfl (fun hcnd => absurd hcnd (by decide)) (fun hcnd => ?_)
            | refine T.seq ?_
            | refine T.block ?_
            | refine T.skip ?_
            | refine T.exit ?_
        · refine ACalls.of_body Tryz.func173 (by kernel_rfl) rfl (by kernel_rfl) (by simp [Tryz.ntmps173]) (by simp) ?_
          rw [Tryz.ntmps173]
          repeat' first
            | ((first | refine aops_end (hK _ ?_) | refine aopsD_end (hK _ ?_) | refine aopsF_end (hK _ ?_)); clear hK K)
            | ((first | refine aops_go ?_ | refine aopsD_go ?_ | refine aopsF_go ?_); simp [eTm_def, ha2]; (try (refine gen fun q hq => ?_; cases q <;> (try simp [eTm_def, ha2] at hq) <;> (try (have hh : True := hq; clear hh hq)))))
            | (refine T.ret (Done.tup (Or.inr rfl) ?_) <;> simp [resAs, Tryz.results173] <;> omega)
            | refine T.rd (id := 7) mixed (fun _ => false) [11] (by kernel_rfl) fun K hK => ?_
            | refine T.rd1 (id := 7) mixed (fun _ => false) [11] (by kernel_rfl) fun K hK => ?_
            | refine T.rs (fun _ => false) fun K hK => ?_
            | refine T.rs1 (fun _ => false) fun K hK => ?_
            | (refine ⟨by omega, ?_⟩)
            | refine T.cond rfl (fun hcnd => ?_) (fun hcnd => absurd hcnd (by decide))
            | refine T.cond rfl (fun hcnd => absurd hcnd (by decide)) (fun hcnd => ?_)
            | refine T.seq ?_
            | refine T.block ?_
            | refine T.skip ?_
            | refine T.exit ?_
    · by_cases h2 : a.kind = 2 ∧ b.kind = 2
      · obtain ⟨m, rfl, hm1, hm2⟩ := ha.kind2 h2.1
        obtain ⟨n, rfl, hn1, hn2⟩ := hb.kind2 h2.2
        by_cases hmn : m < n
        · rw [show ruleM (tN2 8 (tNum m) (tNum n)) = some tTrue by simp [ruleM, truthM, hmn]]
          have k1 := truth_ok true
          rw [show truthM true = tTrue from rfl] at k1
          refine ACalls.of_body Tryz.func173 (by kernel_rfl) rfl (by kernel_rfl) (by simp [Tryz.ntmps173]) (by simp) ?_
          rw [Tryz.ntmps173]
          repeat' first
            | ((first | refine aops_end (hK _ ?_) | refine aopsD_end (hK _ ?_) | refine aopsF_end (hK _ ?_)); clear hK K)
            | ((first | refine aops_go ?_ | refine aopsD_go ?_ | refine aopsF_go ?_); simp [eTm_def, hmn]; (try simp (disch := omega) only [wrap64]); (try (refine gen fun q hq => ?_; cases q <;> (try simp [eTm_def, hmn] at hq) <;> (try (have hh : True := hq; clear hh hq)))))
            | (refine wpcall_pure rfl (k1) ?_; simp [eTm_def, hmn]; (try simp (disch := omega) only [wrap64]); (try (refine gen fun q hq => ?_; cases q <;> (try simp [eTm_def, hmn] at hq) <;> (try (have hh : True := hq; clear hh hq)))))
            | (refine T.ret (Done.tup (Or.inr rfl) ?_) <;> simp [resAs, Tryz.results173] <;> omega)
            | refine T.rd (id := 7) mixed (fun _ => false) [11] (by kernel_rfl) fun K hK => ?_
            | refine T.rd1 (id := 7) mixed (fun _ => false) [11] (by kernel_rfl) fun K hK => ?_
            | refine T.rs (fun _ => false) fun K hK => ?_
            | refine T.rs1 (fun _ => false) fun K hK => ?_
            | (refine ⟨by omega, ?_⟩)
            | refine T.cond rfl (fun hcnd => ?_) (fun hcnd => absurd hcnd (by decide))
            | refine T.cond rfl (fun hcnd => absurd hcnd (by decide)) (fun hcnd => ?_)
            | refine T.seq ?_
            | refine T.block ?_
            | refine T.skip ?_
            | refine T.exit ?_
        · rw [show ruleM (tN2 8 (tNum m) (tNum n)) = some tFalse by simp [ruleM, truthM, hmn]]
          have k1 := truth_ok false
          rw [show truthM false = tFalse from rfl] at k1
          refine ACalls.of_body Tryz.func173 (by kernel_rfl) rfl (by kernel_rfl) (by simp [Tryz.ntmps173]) (by simp) ?_
          rw [Tryz.ntmps173]
          repeat' first
            | ((first | refine aops_end (hK _ ?_) | refine aopsD_end (hK _ ?_) | refine aopsF_end (hK _ ?_)); clear hK K)
            | ((first | refine aops_go ?_ | refine aopsD_go ?_ | refine aopsF_go ?_); simp [eTm_def, hmn]; (try simp (disch := omega) only [wrap64]); (try (refine gen fun q hq => ?_; cases q <;> (try simp [eTm_def, hmn] at hq) <;> (try (have hh : True := hq; clear hh hq)))))
            | (refine wpcall_pure rfl (k1) ?_; simp [eTm_def, hmn]; (try simp (disch := omega) only [wrap64]); (try (refine gen fun q hq => ?_; cases q <;> (try simp [eTm_def, hmn] at hq) <;> (try (have hh : True := hq; clear hh hq)))))
            | (refine T.ret (Done.tup (Or.inr rfl) ?_) <;> simp [resAs, Tryz.results173] <;> omega)
            | refine T.rd (id := 7) mixed (fun _ => false) [11] (by kernel_rfl) fun K hK => ?_
            | refine T.rd1 (id := 7) mixed (fun _ => false) [11] (by kernel_rfl) fun K hK => ?_
            | refine T.rs (fun _ => false) fun K hK => ?_
            | refine T.rs1 (fun _ => false) fun K hK => ?_
            | (refine ⟨by omega, ?_⟩)
            | refine T.cond rfl (fun hcnd => ?_) (fun hcnd => absurd hcnd (by decide))
            | refine T.cond rfl (fun hcnd => absurd hcnd (by decide)) (fun hcnd => ?_)
            | refine T.seq ?_
            | refine T.block ?_
            | refine T.skip ?_
            | refine T.exit ?_
      · rw [show ruleM (tN2 8 a b) = none by simp [ruleM]; omega]
        by_cases ha2 : a.kind = 2
        · have hb2 : ¬ b.kind = 2 := fun h => h2 ⟨ha2, h⟩
          refine ACalls.of_body Tryz.func173 (by kernel_rfl) rfl (by kernel_rfl) (by simp [Tryz.ntmps173]) (by simp) ?_
          rw [Tryz.ntmps173]
          repeat' first
            | ((first | refine aops_end (hK _ ?_) | refine aopsD_end (hK _ ?_) | refine aopsF_end (hK _ ?_)); clear hK K)
            | ((first | refine aops_go ?_ | refine aopsD_go ?_ | refine aopsF_go ?_); simp [eTm_def, ha2, hb2]; (try (refine gen fun q hq => ?_; cases q <;> (try simp [eTm_def, ha2, hb2] at hq) <;> (try (have hh : True := hq; clear hh hq)))))
            | (refine T.ret (Done.tup (Or.inr rfl) ?_) <;> simp [resAs, Tryz.results173] <;> omega)
            | refine T.rd (id := 7) mixed (fun _ => false) [11] (by kernel_rfl) fun K hK => ?_
            | refine T.rd1 (id := 7) mixed (fun _ => false) [11] (by kernel_rfl) fun K hK => ?_
            | refine T.rs (fun _ => false) fun K hK => ?_
            | refine T.rs1 (fun _ => false) fun K hK => ?_
            | (refine ⟨by omega, ?_⟩)
            | refine T.cond rfl (fun hcnd => ?_) (fun hcnd => absurd hcnd (by decide))
            | refine T.cond rfl (fun hcnd => absurd hcnd (by decide)) (fun hcnd => ?_)
            | refine T.seq ?_
            | refine T.block ?_
            | refine T.skip ?_
            | refine T.exit ?_
        · refine ACalls.of_body Tryz.func173 (by kernel_rfl) rfl (by kernel_rfl) (by simp [Tryz.ntmps173]) (by simp) ?_
          rw [Tryz.ntmps173]
          repeat' first
            | ((first | refine aops_end (hK _ ?_) | refine aopsD_end (hK _ ?_) | refine aopsF_end (hK _ ?_)); clear hK K)
            | ((first | refine aops_go ?_ | refine aopsD_go ?_ | refine aopsF_go ?_); simp [eTm_def, ha2]; (try (refine gen fun q hq => ?_; cases q <;> (try simp [eTm_def, ha2] at hq) <;> (try (have hh : True := hq; clear hh hq)))))
            | (refine T.ret (Done.tup (Or.inr rfl) ?_) <;> simp [resAs, Tryz.results173] <;> omega)
            | refine T.rd (id := 7) mixed (fun _ => false) [11] (by kernel_rfl) fun K hK => ?_
            | refine T.rd1 (id := 7) mixed (fun _ => false) [11] (by kernel_rfl) fun K hK => ?_
            | refine T.rs (fun _ => false) fun K hK => ?_
            | refine T.rs1 (fun _ => false) fun K hK => ?_
            | (refine ⟨by omega, ?_⟩)
            | refine T.cond rfl (fun hcnd => ?_) (fun hcnd => absurd hcnd (by decide))
            | refine T.cond rfl (fun hcnd => absurd hcnd (by decide)) (fun hcnd => ?_)
            | refine T.seq ?_
            | refine T.block ?_
            | refine T.skip ?_
            | refine T.exit ?_
    · rw [show ruleM (tN2 10 a b) = none by simp [ruleM]]
      refine ACalls.of_body Tryz.func173 (by kernel_rfl) rfl (by kernel_rfl) (by simp [Tryz.ntmps173]) (by simp) ?_
      rw [Tryz.ntmps173]
      repeat' first
        | ((first | refine aops_end (hK _ ?_) | refine aopsD_end (hK _ ?_) | refine aopsF_end (hK _ ?_)); clear hK K)
        | ((first | refine aops_go ?_ | refine aopsD_go ?_ | refine aopsF_go ?_); simp [eTm_def]; (try (refine gen fun q hq => ?_; cases q <;> (try simp [eTm_def] at hq) <;> (try (have hh : True := hq; clear hh hq)))))
        | (refine T.ret (Done.tup (Or.inr rfl) ?_) <;> simp [resAs, Tryz.results173] <;> omega)
        | refine T.rd (id := 7) mixed (fun _ => false) [11] (by kernel_rfl) fun K hK => ?_
        | refine T.rd1 (id := 7) mixed (fun _ => false) [11] (by kernel_rfl) fun K hK => ?_
        | refine T.rs (fun _ => false) fun K hK => ?_
        | refine T.rs1 (fun _ => false) fun K hK => ?_
        | (refine ⟨by omega, ?_⟩)
        | refine T.cond rfl (fun hcnd => ?_) (fun hcnd => absurd hcnd (by decide))
        | refine T.cond rfl (fun hcnd => absurd hcnd (by decide)) (fun hcnd => ?_)
        | refine T.seq ?_
        | refine T.block ?_
        | refine T.skip ?_
        | refine T.exit ?_

end Go.Proofs.YtfdknjjnifnobaaGreat

namespace Go.Proofs.YtfdknjjnifnobaaGreat
open Go Go.Av
attribute [local irreducible] T ACalls TX EX LX Draws Some_ ACallsX eTy eTm MTy.kind MTy.kids MTm.kind MTm.name MTm.num MTm.ty MTm.fr MTm.label MTm.kids
attribute [local simp] eTy_def eTm_def
set_option linter.unusedSimpArgs false
set_option linter.unusedVariables false
set_option maxHeartbeats 16000000
set_option maxRecDepth 8000

def cntP (l : List MTy) (p : Nat) : Nat := ((l.take p).map cntM).sum
end Go.Proofs.YtfdknjjnifnobaaGreat

namespace Go.Proofs.YtfdknjjnifnobaaGreat
open Go Go.Av
attribute [local irreducible] T ACalls TX EX LX Draws Some_ ACallsX eTy eTm MTy.kind MTy.kids MTm.kind MTm.name MTm.num MTm.ty MTm.fr MTm.label MTm.kids
attribute [local simp] eTy_def eTm_def
set_option linter.unusedSimpArgs false
set_option linter.unusedVariables false
set_option maxHeartbeats 16000000
set_option maxRecDepth 8000
@[simp] theorem td_uint : td Tryz.prog 132 = some { ag := false, sz := 1, by_ := 8, zero := some [.d (.int .u64 0)], el := none, ar := none, fl := [], ik := some .u64, isS := false, isB := false } := keep (by kernel_rfl)
@[simp] theorem td_intS2 : td Tryz.prog 51 = some { ag := false, sz := 1, by_ := 24, zero := some [.nil], el := some 3, ar := none, fl := [], ik := none, isS := false, isB := false } := keep (by kernel_rfl)

end Go.Proofs.YtfdknjjnifnobaaGreat

namespace Go.Proofs.YtfdknjjnifnobaaGreat
open Go Go.Av
attribute [local irreducible] T ACalls TX EX LX Draws Some_ ACallsX eTy eTm MTy.kind MTy.kids MTm.kind MTm.name MTm.num MTm.ty MTm.fr MTm.label MTm.kids
attribute [local simp] eTy_def eTm_def
set_option linter.unusedSimpArgs false
set_option linter.unusedVariables false
set_option maxHeartbeats 16000000
set_option maxRecDepth 8000

def redM (e : MTm) : Int := if castValidM e = true then ((castsM e).length : Int) - (castsM (simpM e)).length else 0

/-- A copy whose operands the caller may change. -/
abbrev tmOwn (e : MTm) : AV := .agg [.d (.i e.kind), .d (.str e.name), .d (.i e.num), .d (.i e.ty.kind), .d (.sl (e.ty.kids.map eTy)), .d (.i e.fr.kind), .d (.sl (e.fr.kids.map eTy)), .d (.i e.label), .own 0 e.kids.length]
/-- The operands, simplified as_ far as_ a place. -/
def mixM (l : List MTm) (p : Nat) : List MTm := (l.map simpM).take p ++ l.drop p
end Go.Proofs.YtfdknjjnifnobaaGreat

namespace Go.Proofs.YtfdknjjnifnobaaGreat
open Go Go.Av
attribute [local irreducible] T ACalls TX EX LX Draws Some_ ACallsX eTy eTm MTy.kind MTy.kids MTm.kind MTm.name MTm.num MTm.ty MTm.fr MTm.label MTm.kids
attribute [local simp] eTy_def eTm_def
set_option linter.unusedSimpArgs false
set_option linter.unusedVariables false
set_option maxHeartbeats 16000000
set_option maxRecDepth 8000
attribute [local simp] Option.bind

abbrev stepR (p : MTm × Int × Int) : List AV := [aTm p.1, .i p.2.1, .i p.2.2]

/-- The step of a term, by the first operand that is no value. -/
theorem stepB_at {e : MTm} {i : Nat} {u : MTm} (h : firstNV (e.kids.take (countsM e)) = some i) (hu : e.kids[i]? = some u) :
    stepB e = (.mk e.kind e.name e.num e.ty e.fr e.label (e.kids.set i (stepB u).1), (stepB u).2.1, (stepB u).2.2) := by
  have : e.kids.getD i zeroE = u := by rw [List.getD_eq_getElem?_getD, hu]; rfl
  rw [stepB_def, stepBS_first, h]
  simp only [this]
theorem stepB_none {e : MTm} (h : firstNV (e.kids.take (countsM e)) = none) : stepB e = match ruleM e with
    | some x => (x, 1, 0)
    | none => (zeroE, 2, wrongM e.kind) := by
  rw [stepB_def, stepBS_first, h]
  cases ruleM e <;> rfl

theorem bareStep_node (e : MTm) (hlen : e.kids.length ≤ 3) (hcnt : countsM e ≤ e.kids.length) (hr : ACalls Tryz.prog 173 [aTm e] [] (.tup (ruleR (ruleM e))) [] []) (hnu : ∀ u ∈ e.kids, nTm u ≤ 1073741824)
    (ih : ∀ u ∈ e.kids, ACalls Tryz.prog 111 [aTm u] [] (.tup (stepR (stepB u))) [] []) : ACalls Tryz.prog 111 [aTm e] [] (.tup (stepR (stepB e))) [] [] := by
  have hc := counts_ok e
  have hw := wrong_ok e
  have hcl := cloneTm_own e.kids (by omega)
  obtain ⟨R, hR⟩ : ∃ R, firstNV (e.kids.take (countsM e)) = R := ⟨_, rfl⟩
  have hat : ∀ i u, e.kids[i]? = some u → R = some i → stepB e = (.mk e.kind e.name e.num e.ty e.fr e.label (e.kids.set i (stepB u).1), (stepB u).2.1, (stepB u).2.2) := fun i u h1 h2 => stepB_at (hR.trans h2) h1
  have hnone : R = none → stepB e = match ruleM e with
    | some x => (x, 1, 0)
    | none => (zeroE, 2, wrongM e.kind) := fun h => stepB_none (hR.trans h)
  generalize stepB e = S at *
  obtain ⟨n, hn⟩ : ∃ n, countsM e = n := ⟨_, rfl⟩
  rw [hn] at hR hcnt hc
  obtain ⟨L, hL⟩ : ∃ L, e.kids.take n = L := ⟨_, rfl⟩
  have hLm : List.take n (List.map eTm e.kids) = L.map eTm := by rw [← hL, List.map_take]
  have hLl : L.length = n := by rw [← hL]; simp; omega
  have hLu : ∀ i u, L[i]? = some u → e.kids[i]? = some u := fun i u h => by
    rw [← hL] at h
    have hi : i < n := by have := (List.getElem?_eq_some_iff.1 h).1; simp at this; omega
    rwa [List.getElem?_take_of_lt hi] at h
  rw [hL] at hR
  have hnl : (n : Int) ≤ e.kids.length := by omega
  subst hLl
  refine ACalls.of_body Tryz.func111 (by kernel_rfl) rfl (by kernel_rfl) (by simp [Tryz.ntmps111]) (by simp) ?_
  rw [Tryz.ntmps111]
  repeat' first
    | ((first | refine aops_end (hK _ ?_) | refine aopsD_end (hK _ ?_) | refine aopsF_end (hK _ ?_)); clear hK K)
    | ((first | refine aops_go ?_ | refine aopsD_go ?_ | refine aopsF_go ?_); simp [hLm, hnl]; (try (refine gen fun q hq => ?_; cases q <;> (try simp [hLm, hnl] at hq) <;> (try (have hh : True := hq; clear hh hq)))))
    | (refine wpcall_pure rfl (hc) ?_; simp [hLm, hnl]; (try (refine gen fun q hq => ?_; cases q <;> (try simp [hLm, hnl] at hq) <;> (try (have hh : True := hq; clear hh hq)))))
    | refine T.rd (id := 1) mixed (fun _ => false) [] (by kernel_rfl) fun K hK => ?_
    | refine T.rd1 (id := 1) mixed (fun _ => false) [] (by kernel_rfl) fun K hK => ?_
    | refine T.rs (fun _ => false) fun K hK => ?_
    | refine T.rs1 (fun _ => false) fun K hK => ?_
    | (refine ⟨by omega, ?_⟩)
    | refine T.cond rfl (fun hcnd => ?_) (fun hcnd => absurd hcnd (by decide))
    | refine T.cond rfl (fun hcnd => absurd hcnd (by decide)) (fun hcnd => ?_)
    | refine T.seq ?_
    | refine T.block ?_
    | refine T.skip ?_
    | refine T.exit ?_
  refine T.loopK (α := Nat × List (List CV)) [1, 2, 17, 18] (fun x => [(3, .i 0), (4, .i 0), (19, .i x.1)]) (fun x => []) (fun x => x.2) (fun x A => A) (fun x => L.length + 1 - x.1) (fun x => x.1 ≤ L.length ∧ (firstNV (L.drop x.1)).map (· + x.1) = R) (by simp; rfl) (fun x hx => ?_) (0, []) (by simp [hR]) (by simp) (by simp) (by simp)
  obtain ⟨p, G⟩ := x
  obtain ⟨hx, he⟩ := hx
  dsimp only at hx he ⊢
  simp only [ups, List.set_cons_zero, List.set_cons_succ, List.cons_append, List.nil_append, List.append_nil]
  by_cases hlt : p < L.length
  · obtain ⟨u, ht⟩ := get_lt hlt
    have htm : u ∈ L := List.mem_of_getElem? ht
    have hgt : L[p] = u := by rw [List.getElem?_eq_getElem hlt] at ht; exact Option.some.inj ht
    have hdr : L.drop p = u :: L.drop (p + 1) := by rw [List.drop_eq_getElem_cons hlt, hgt]
    have hku := hLu p u ht
    have hum : u ∈ e.kids := List.mem_of_getElem? hku
    have hpk : p < e.kids.length := (List.getElem?_eq_some_iff.1 hku).1
    have hv := isValue_ok u (by have := hnu u hum; omega)
    rw [hdr, firstNV] at he
    cases hb : valM u with
    | true =>
      rw [hb] at hv he
      simp only [if_true, Option.map_map] at he
      have he' : (firstNV (L.drop (p + 1))).map (· + (p + 1)) = R := by rw [← he]; congr 1; funext z; simp; omega
      repeat' first
        | ((first | refine aops_end (hK _ ?_) | refine aopsD_end (hK _ ?_) | refine aopsF_end (hK _ ?_)); clear hK K)
        | ((first | refine aops_go ?_ | refine aopsD_go ?_ | refine aopsF_go ?_); simp [hlt, hgt]; (try simp (disch := omega) only [wrap64]); (try (refine gen fun q hq => ?_; cases q <;> (try simp [hlt, hgt] at hq) <;> (try (have hh : True := hq; clear hh hq)))))
        | (refine wpcall_pure rfl (hv) ?_; simp [hlt, hgt]; (try simp (disch := omega) only [wrap64]); (try (refine gen fun q hq => ?_; cases q <;> (try simp [hlt, hgt] at hq) <;> (try (have hh : True := hq; clear hh hq)))))
        | (refine ⟨(p + 1, _), by dsimp only; omega, ⟨by dsimp only; omega, he'⟩, rfl, ?_, ?_⟩ <;> simp (disch := omega) [wrap64])
        | refine T.rd (id := 1) mixed (fun _ => false) [] (by kernel_rfl) fun K hK => ?_
        | refine T.rd1 (id := 1) mixed (fun _ => false) [] (by kernel_rfl) fun K hK => ?_
        | refine T.rs (fun _ => false) fun K hK => ?_
        | refine T.rs1 (fun _ => false) fun K hK => ?_
        | (refine ⟨by omega, ?_⟩)
        | refine T.cond rfl (fun hcnd => ?_) (fun hcnd => absurd hcnd (by decide))
        | refine T.cond rfl (fun hcnd => absurd hcnd (by decide)) (fun hcnd => ?_)
        | refine T.seq ?_
        | refine T.block ?_
        | refine T.skip ?_
        | refine T.exit ?_
    | false =>
      rw [hb] at hv he
      simp at he
      have hs := hat p u hku he.symm
      have hi := ih u hum
      generalize stepB u = su at *
      obtain ⟨y, cd, lb⟩ := su
      subst hs
      repeat' first
        | ((first | refine aops_end (hK _ ?_) | refine aopsD_end (hK _ ?_) | refine aopsF_end (hK _ ?_)); clear hK K)
        | ((first | refine aops_go ?_ | refine aopsD_go ?_ | refine aopsF_go ?_); simp [hlt, hgt, hpk]; (try simp (disch := omega) only [wrap64]); (try (refine gen fun q hq => ?_; cases q <;> (try simp [hlt, hgt, hpk] at hq) <;> (try (have hh : True := hq; clear hh hq)))))
        | (refine wpcall_pure rfl (hv) ?_; simp [hlt, hgt, hpk]; (try simp (disch := omega) only [wrap64]); (try (refine gen fun q hq => ?_; cases q <;> (try simp [hlt, hgt, hpk] at hq) <;> (try (have hh : True := hq; clear hh hq)))))
        | (refine wpcall_pure rfl (hi) ?_; simp [hlt, hgt, hpk]; (try simp (disch := omega) only [wrap64]); (try (refine gen fun q hq => ?_; cases q <;> (try simp [hlt, hgt, hpk] at hq) <;> (try (have hh : True := hq; clear hh hq)))))
        | (refine wpcall_own rfl (hcl) ?_; simp [hlt, hgt, hpk]; (try simp (disch := omega) only [wrap64]); (try (refine gen fun q hq => ?_; cases q <;> (try simp [hlt, hgt, hpk] at hq) <;> (try (have hh : True := hq; clear hh hq)))))
        | (refine ⟨by omega, by omega, ?_⟩)
        | (refine T.ret (Done.tup (Or.inr rfl) ?_) <;> simp [resAs, Tryz.results111, eTm_def, List.map_set] <;> omega)
        | refine T.rd (id := 1) mixed (fun _ => false) [] (by kernel_rfl) fun K hK => ?_
        | refine T.rd1 (id := 1) mixed (fun _ => false) [] (by kernel_rfl) fun K hK => ?_
        | refine T.rs (fun _ => false) fun K hK => ?_
        | refine T.rs1 (fun _ => false) fun K hK => ?_
        | (refine ⟨by omega, ?_⟩)
        | refine T.cond rfl (fun hcnd => ?_) (fun hcnd => absurd hcnd (by decide))
        | refine T.cond rfl (fun hcnd => absurd hcnd (by decide)) (fun hcnd => ?_)
        | refine T.seq ?_
        | refine T.block ?_
        | refine T.skip ?_
        | refine T.exit ?_
  · have hp' : p = L.length := by omega
    subst hp'
    simp [firstNV] at he
    have hs := hnone he.symm
    cases hq : ruleM e with
    | none =>
      rw [hq] at hs hr
      subst hs
      simp only [ruleR] at hr
      repeat' first
        | ((first | refine aops_end (hK _ ?_) | refine aopsD_end (hK _ ?_) | refine aopsF_end (hK _ ?_)); clear hK K)
        | ((first | refine aops_go ?_ | refine aopsD_go ?_ | refine aopsF_go ?_); simp [hlt]; (try (refine gen fun q hq => ?_; cases q <;> (try simp [hlt] at hq) <;> (try (have hh : True := hq; clear hh hq)))))
        | (refine wpcall_pure rfl (hr) ?_; simp [hlt]; (try (refine gen fun q hq => ?_; cases q <;> (try simp [hlt] at hq) <;> (try (have hh : True := hq; clear hh hq)))))
        | (refine wpcall_pure rfl (hw) ?_; simp [hlt]; (try (refine gen fun q hq => ?_; cases q <;> (try simp [hlt] at hq) <;> (try (have hh : True := hq; clear hh hq)))))
        | (refine T.ret (Done.tup (Or.inr rfl) ?_) <;> simp [resAs, Tryz.results111] <;> omega)
        | refine T.rd (id := 1) mixed (fun _ => false) [] (by kernel_rfl) fun K hK => ?_
        | refine T.rd1 (id := 1) mixed (fun _ => false) [] (by kernel_rfl) fun K hK => ?_
        | refine T.rs (fun _ => false) fun K hK => ?_
        | refine T.rs1 (fun _ => false) fun K hK => ?_
        | (refine ⟨by omega, ?_⟩)
        | refine T.cond rfl (fun hcnd => ?_) (fun hcnd => absurd hcnd (by decide))
        | refine T.cond rfl (fun hcnd => absurd hcnd (by decide)) (fun hcnd => ?_)
        | refine T.seq ?_
        | refine T.block ?_
        | refine T.skip ?_
        | refine T.exit ?_
    | some x =>
      rw [hq] at hs hr
      subst hs
      simp only [ruleR] at hr
      repeat' first
        | ((first | refine aops_end (hK _ ?_) | refine aopsD_end (hK _ ?_) | refine aopsF_end (hK _ ?_)); clear hK K)
        | ((first | refine aops_go ?_ | refine aopsD_go ?_ | refine aopsF_go ?_); simp [hlt]; (try (refine gen fun q hq => ?_; cases q <;> (try simp [hlt] at hq) <;> (try (have hh : True := hq; clear hh hq)))))
        | (refine wpcall_pure rfl (hr) ?_; simp [hlt]; (try (refine gen fun q hq => ?_; cases q <;> (try simp [hlt] at hq) <;> (try (have hh : True := hq; clear hh hq)))))
        | (refine wpcall_pure rfl (hw) ?_; simp [hlt]; (try (refine gen fun q hq => ?_; cases q <;> (try simp [hlt] at hq) <;> (try (have hh : True := hq; clear hh hq)))))
        | (refine T.ret (Done.tup (Or.inr rfl) ?_) <;> simp [resAs, Tryz.results111] <;> omega)
        | refine T.rd (id := 1) mixed (fun _ => false) [] (by kernel_rfl) fun K hK => ?_
        | refine T.rd1 (id := 1) mixed (fun _ => false) [] (by kernel_rfl) fun K hK => ?_
        | refine T.rs (fun _ => false) fun K hK => ?_
        | refine T.rs1 (fun _ => false) fun K hK => ?_
        | (refine ⟨by omega, ?_⟩)
        | refine T.cond rfl (fun hcnd => ?_) (fun hcnd => absurd hcnd (by decide))
        | refine T.cond rfl (fun hcnd => absurd hcnd (by decide)) (fun hcnd => ?_)
        | refine T.seq ?_
        | refine T.block ?_
        | refine T.skip ?_
        | refine T.exit ?_

theorem counts_le {e : MTm} (hlen : kidsM e.kind = e.kids.length) : countsM e ≤ e.kids.length := by
  rw [countsM]
  split
  · rename_i h
    rw [h] at hlen; simp [kidsM] at hlen; omega
  · exact Nat.le_refl _

theorem bareStep_ok : ∀ (e : MTm) (d : Nat), TmV 13 d e → nTm e ≤ 1073741824 → ACalls Tryz.prog 111 [aTm e] [] (.tup (stepR (stepB e))) [] [] := by
  intro e
  induction e using MTm.ind with
  | h e ih =>
    intro d hv hn
    obtain ⟨d', rfl, _, hlen, _, hk⟩ := shapeTm_kids hv.shape
    have hnu : ∀ u ∈ e.kids, nTm u ≤ 1073741824 := fun u hu => by have := nTmS_mem hu; rw [nTm_def] at hn; omega
    exact bareStep_node e (by have := kidsM_le e.kind; omega) (counts_le hlen) (rule_ok e _ hv hn) hnu (fun u hu => ih u hu d' (TmV.of (hk u hu)) (hnu u hu))

theorem StepBare_ok (e : MTm) (hn : nTm e ≤ 1073741824) : ACalls Tryz.prog 49 [aTm e] [] (.tup (stepR (stepBareM e))) [] [] := by
  have k1 := BareValid_ok e (by omega)
  rw [stepBareM]
  rw [show (castValidM e && bareM e) = bareValidM e from rfl] at k1
  cases hb : bareValidM e with
  | false =>
    rw [hb] at k1
    simp only [Bool.false_eq_true, if_false]
    refine ACalls.of_body Tryz.func49 (by kernel_rfl) rfl (by kernel_rfl) (by simp [Tryz.ntmps49]) (by simp) ?_
    rw [Tryz.ntmps49]
    repeat' first
      | ((first | refine aops_end (hK _ ?_) | refine aopsD_end (hK _ ?_) | refine aopsF_end (hK _ ?_)); clear hK K)
      | ((first | refine aops_go ?_ | refine aopsD_go ?_ | refine aopsF_go ?_); simp; (try (refine gen fun q hq => ?_; cases q <;> (try simp at hq) <;> (try (have hh : True := hq; clear hh hq)))))
      | (refine wpcall_pure rfl (k1) ?_; simp; (try (refine gen fun q hq => ?_; cases q <;> (try simp at hq) <;> (try (have hh : True := hq; clear hh hq)))))
      | (refine T.ret (Done.tup (Or.inr rfl) ?_) <;> simp [resAs, Tryz.results49] <;> omega)
      | refine T.rs (fun _ => false) fun K hK => ?_
      | refine T.rs1 (fun _ => false) fun K hK => ?_
      | (refine ⟨by omega, ?_⟩)
      | refine T.cond rfl (fun hcnd => ?_) (fun hcnd => absurd hcnd (by decide))
      | refine T.cond rfl (fun hcnd => absurd hcnd (by decide)) (fun hcnd => ?_)
      | refine T.seq ?_
      | refine T.block ?_
      | refine T.skip ?_
      | refine T.exit ?_
  | true =>
    rw [hb] at k1
    simp only [if_true]
    have hcv : castValidM e = true := by simp only [bareValidM, Bool.and_eq_true] at hb; exact hb.1
    have hv := (castValidM_iff.1 hcv).1
    have hsm := castValid_small hcv
    have k2 := isValue_ok e (by omega)
    cases hvl : valM e with
    | true =>
      rw [hvl] at k2
      have k3 := own_ok e (by omega)
      simp only [if_true]
      refine ACalls.of_body Tryz.func49 (by kernel_rfl) rfl (by kernel_rfl) (by simp [Tryz.ntmps49]) (by simp) ?_
      rw [Tryz.ntmps49]
      repeat' first
        | ((first | refine aops_end (hK _ ?_) | refine aopsD_end (hK _ ?_) | refine aopsF_end (hK _ ?_)); clear hK K)
        | ((first | refine aops_go ?_ | refine aopsD_go ?_ | refine aopsF_go ?_); simp; (try (refine gen fun q hq => ?_; cases q <;> (try simp at hq) <;> (try (have hh : True := hq; clear hh hq)))))
        | (refine wpcall_pure rfl (k1) ?_; simp; (try (refine gen fun q hq => ?_; cases q <;> (try simp at hq) <;> (try (have hh : True := hq; clear hh hq)))))
        | (refine wpcall_pure rfl (k2) ?_; simp; (try (refine gen fun q hq => ?_; cases q <;> (try simp at hq) <;> (try (have hh : True := hq; clear hh hq)))))
        | (refine wpcall_pure rfl (k3) ?_; simp; (try (refine gen fun q hq => ?_; cases q <;> (try simp at hq) <;> (try (have hh : True := hq; clear hh hq)))))
        | (refine T.ret (Done.tup (Or.inr rfl) ?_) <;> simp [resAs, Tryz.results49] <;> omega)
        | refine T.rs (fun _ => false) fun K hK => ?_
        | refine T.rs1 (fun _ => false) fun K hK => ?_
        | (refine ⟨by omega, ?_⟩)
        | refine T.cond rfl (fun hcnd => ?_) (fun hcnd => absurd hcnd (by decide))
        | refine T.cond rfl (fun hcnd => absurd hcnd (by decide)) (fun hcnd => ?_)
        | refine T.seq ?_
        | refine T.block ?_
        | refine T.skip ?_
        | refine T.exit ?_
    | false =>
      rw [hvl] at k2
      have k3 := bareStep_ok e 40 hv hn
      have hsz := step_size e
      have hsz2 : nodesM e * nTm e ≤ 200 * 60000 := Nat.mul_le_mul hsm.2 hsm.1
      have k4 := BareValid_ok (stepB e).1 (by omega)
      have k5 := own_ok (stepB e).1 (by omega)
      rw [show (castValidM (stepB e).1 && bareM (stepB e).1) = bareValidM (stepB e).1 from rfl] at k4
      simp only [Bool.false_eq_true, if_false]
      generalize stepB e = p at *
      obtain ⟨x, cd, lb⟩ := p
      dsimp only at *
      by_cases h1 : cd = 1
      · subst h1
        cases hbx : bareValidM x <;> rw [hbx] at k4
        · simp only [if_true, Bool.false_eq_true, if_false]
          refine ACalls.of_body Tryz.func49 (by kernel_rfl) rfl (by kernel_rfl) (by simp [Tryz.ntmps49]) (by simp) ?_
          rw [Tryz.ntmps49]
          repeat' first
            | ((first | refine aops_end (hK _ ?_) | refine aopsD_end (hK _ ?_) | refine aopsF_end (hK _ ?_)); clear hK K)
            | ((first | refine aops_go ?_ | refine aopsD_go ?_ | refine aopsF_go ?_); simp; (try (refine gen fun q hq => ?_; cases q <;> (try simp at hq) <;> (try (have hh : True := hq; clear hh hq)))))
            | (refine wpcall_pure rfl (k1) ?_; simp; (try (refine gen fun q hq => ?_; cases q <;> (try simp at hq) <;> (try (have hh : True := hq; clear hh hq)))))
            | (refine wpcall_pure rfl (k2) ?_; simp; (try (refine gen fun q hq => ?_; cases q <;> (try simp at hq) <;> (try (have hh : True := hq; clear hh hq)))))
            | (refine wpcall_pure rfl (k3) ?_; simp; (try (refine gen fun q hq => ?_; cases q <;> (try simp at hq) <;> (try (have hh : True := hq; clear hh hq)))))
            | (refine wpcall_pure rfl (k4) ?_; simp; (try (refine gen fun q hq => ?_; cases q <;> (try simp at hq) <;> (try (have hh : True := hq; clear hh hq)))))
            | (refine T.ret (Done.tup (Or.inr rfl) ?_) <;> simp [resAs, Tryz.results49] <;> omega)
            | refine T.rs (fun _ => false) fun K hK => ?_
            | refine T.rs1 (fun _ => false) fun K hK => ?_
            | (refine ⟨by omega, ?_⟩)
            | refine T.cond rfl (fun hcnd => ?_) (fun hcnd => absurd hcnd (by decide))
            | refine T.cond rfl (fun hcnd => absurd hcnd (by decide)) (fun hcnd => ?_)
            | refine T.seq ?_
            | refine T.block ?_
            | refine T.skip ?_
            | refine T.exit ?_
        · simp only [if_true]
          refine ACalls.of_body Tryz.func49 (by kernel_rfl) rfl (by kernel_rfl) (by simp [Tryz.ntmps49]) (by simp) ?_
          rw [Tryz.ntmps49]
          repeat' first
            | ((first | refine aops_end (hK _ ?_) | refine aopsD_end (hK _ ?_) | refine aopsF_end (hK _ ?_)); clear hK K)
            | ((first | refine aops_go ?_ | refine aopsD_go ?_ | refine aopsF_go ?_); simp; (try (refine gen fun q hq => ?_; cases q <;> (try simp at hq) <;> (try (have hh : True := hq; clear hh hq)))))
            | (refine wpcall_pure rfl (k1) ?_; simp; (try (refine gen fun q hq => ?_; cases q <;> (try simp at hq) <;> (try (have hh : True := hq; clear hh hq)))))
            | (refine wpcall_pure rfl (k2) ?_; simp; (try (refine gen fun q hq => ?_; cases q <;> (try simp at hq) <;> (try (have hh : True := hq; clear hh hq)))))
            | (refine wpcall_pure rfl (k3) ?_; simp; (try (refine gen fun q hq => ?_; cases q <;> (try simp at hq) <;> (try (have hh : True := hq; clear hh hq)))))
            | (refine wpcall_pure rfl (k4) ?_; simp; (try (refine gen fun q hq => ?_; cases q <;> (try simp at hq) <;> (try (have hh : True := hq; clear hh hq)))))
            | (refine wpcall_pure rfl (k5) ?_; simp; (try (refine gen fun q hq => ?_; cases q <;> (try simp at hq) <;> (try (have hh : True := hq; clear hh hq)))))
            | (refine T.ret (Done.tup (Or.inr rfl) ?_) <;> simp [resAs, Tryz.results49] <;> omega)
            | refine T.rs (fun _ => false) fun K hK => ?_
            | refine T.rs1 (fun _ => false) fun K hK => ?_
            | (refine ⟨by omega, ?_⟩)
            | refine T.cond rfl (fun hcnd => ?_) (fun hcnd => absurd hcnd (by decide))
            | refine T.cond rfl (fun hcnd => absurd hcnd (by decide)) (fun hcnd => ?_)
            | refine T.seq ?_
            | refine T.block ?_
            | refine T.skip ?_
            | refine T.exit ?_
      · rw [if_neg h1]
        refine ACalls.of_body Tryz.func49 (by kernel_rfl) rfl (by kernel_rfl) (by simp [Tryz.ntmps49]) (by simp) ?_
        rw [Tryz.ntmps49]
        repeat' first
          | ((first | refine aops_end (hK _ ?_) | refine aopsD_end (hK _ ?_) | refine aopsF_end (hK _ ?_)); clear hK K)
          | ((first | refine aops_go ?_ | refine aopsD_go ?_ | refine aopsF_go ?_); simp [h1]; (try (refine gen fun q hq => ?_; cases q <;> (try simp [h1] at hq) <;> (try (have hh : True := hq; clear hh hq)))))
          | (refine wpcall_pure rfl (k1) ?_; simp [h1]; (try (refine gen fun q hq => ?_; cases q <;> (try simp [h1] at hq) <;> (try (have hh : True := hq; clear hh hq)))))
          | (refine wpcall_pure rfl (k2) ?_; simp [h1]; (try (refine gen fun q hq => ?_; cases q <;> (try simp [h1] at hq) <;> (try (have hh : True := hq; clear hh hq)))))
          | (refine wpcall_pure rfl (k3) ?_; simp [h1]; (try (refine gen fun q hq => ?_; cases q <;> (try simp [h1] at hq) <;> (try (have hh : True := hq; clear hh hq)))))
          | (refine T.ret (Done.tup (Or.inr rfl) ?_) <;> simp [resAs, Tryz.results49] <;> omega)
          | refine T.rs (fun _ => false) fun K hK => ?_
          | refine T.rs1 (fun _ => false) fun K hK => ?_
          | (refine ⟨by omega, ?_⟩)
          | refine T.cond rfl (fun hcnd => ?_) (fun hcnd => absurd hcnd (by decide))
          | refine T.cond rfl (fun hcnd => absurd hcnd (by decide)) (fun hcnd => ?_)
          | refine T.seq ?_
          | refine T.block ?_
          | refine T.skip ?_
          | refine T.exit ?_

abbrev runR (p : MTm × Int × Int × Int) : List AV := [aTm p.1, .i p.2.1, .i p.2.2.1, .i p.2.2.2]

end Go.Proofs.YtfdknjjnifnobaaGreat
