/- A part of the library of this seat: a value-semantic program logic over the model, plain models, and walks of functions. -/
import Derived.Test.YtfdknjjnifnobaaGreatA12
set_option linter.unusedVariables false
set_option linter.unusedSimpArgs false
namespace Go.Proofs.YtfdknjjnifnobaaGreat
open Go Go.Av
attribute [local irreducible] T ACalls TX EX LX Draws Some_ ACallsX eTy eTm MTy.kind MTy.kids MTm.kind MTm.name MTm.num MTm.ty MTm.fr MTm.label MTm.kids
attribute [local simp] eTy_def eTm_def
set_option linter.unusedSimpArgs false
set_option linter.unusedVariables false
set_option maxHeartbeats 16000000
set_option maxRecDepth 8000

@[simp] theorem td_set26 : td Tryz.prog 107 = some { ag := true, sz := 26, by_ := 26, zero := some (rowB noB), el := none, ar := some (26, 4), fl := [], ik := none, isS := false, isB := false } := keep (by kernel_rfl)

theorem inns_rowB (A : List Arr) (ids : List Nat) : ∀ S : List Bool, inns A ids (rowB S) = some (rowB S)
  | [] => rfl
  | b :: r => by simp only [rowB, List.map_cons, inns]; rw [show inns A ids (List.map (fun b => CV.d (DV.bool b)) r) = some (List.map (fun b => CV.d (DV.bool b)) r) from inns_rowB A ids r]; rfl
theorem ress_rowB (A : List Arr) (os ks : List Nat) : ∀ S : List Bool, ress A os ks (rowB S) = some (rowB S)
  | [] => rfl
  | b :: r => by simp only [rowB, List.map_cons, ress]; rw [show ress A os ks (List.map (fun b => CV.d (DV.bool b)) r) = some (List.map (fun b => CV.d (DV.bool b)) r) from ress_rowB A os ks r]; rfl
theorem outn_rowB (ids : List Nat) (n m : Nat) (S : List Bool) : List.map (CV.outn ids n m ∘ fun b => CV.d (DV.bool b)) S = rowB S := List.map_congr_left fun b _ => rfl
theorem seal_rowB : ∀ (S : List Bool) (A : List Arr), List.foldl sealA A (rowB S) = A
  | [], A => rfl
  | b :: r, A => by simp only [rowB, List.map_cons, List.foldl_cons]; exact seal_rowB r A

theorem splice_rowB {S : List Bool} {i : Nat} (h : i < S.length) : splice (rowB S) i [CV.d (.bool true)] = rowB (S.set i true) := by
  simp only [splice, rowB, List.map_set, List.length_singleton]
  rw [List.set_eq_take_append_cons_drop]
  simp [h]

set_option maxRecDepth 100000 in
theorem sliteIndexByte (s : ByteArray) (c : Int) (w : World) :
    Calls Tryz.prog 250 #[.string s, .int .u8 c] w fun e w' => e = .returned (.int .i64 (Lib.indexByte s.data.toList c.toNat.toUInt8)) ∧ w' = w := by
  go_enter Tryz.func250, Tryz.ntmps250
  go_wp2
  rw [run_callFunc_extern Tryz.func254 (by kernel_rfl) (by kernel_rfl) (by kernel_rfl) (e := Extern.BytealgIndexByte.indexByte) (by kernel_rfl), Lib.run_indexByteString]
  simp only [Result.andThen]
  rw [Oper.upon_value]
  go_wp2
  go_ret
  exact ⟨rfl, rfl⟩

theorem IndexByte_ok (s : List UInt8) (c : Int) : ACalls Tryz.prog 250 [.s s, .c (.d (.int .u8 c))] [] (.i (Lib.indexByte s c.toNat.toUInt8)) [] [] := by
  unfold ACalls
  refine ⟨enters (c := (Tryz.f250.body).getD .skip) Tryz.func250 rfl (by kernel_rfl), by simp, fun g w vs hg hI hl hv => ?_⟩
  have h0 : 0 < vs.size := by rw [hl]; simp
  have h1 : 1 < vs.size := by rw [hl]; simp
  have e0 := hv 0 _ vs[0] rfl (by simp [h0])
  have e1 := hv 1 _ vs[1] rfl (by simp [h1])
  simp only [RepV, RepE, RepC, RepD] at e0 e1
  have e : vs = #[.string (bs s), .int .u8 c] := by
    apply Array.ext
    · simpa using hl
    · intro i hi hi'
      match i with
      | 0 => simpa using e0
      | 1 => simpa using e1
      | i + 2 => exact absurd hi' (by simp)
  subst e
  refine (sliteIndexByte (bs s) c w).mono ?_
  rintro e w' ⟨rfl, rfl⟩
  exact ⟨_, g, rfl, by simp [RepV, RepE, RepC, RepD, bs], hI, .refl⟩

theorem Index1_ok (s : List UInt8) (c : UInt8) : ACalls Tryz.prog 247 [.s s, .s [c]] [] (.i (Lib.indexByte s c)) [] [] := by
  have h := IndexByte_ok s c.toNat
  have e : (c.toNat : Int).toNat.toUInt8 = c := by simp
  rw [e] at h
  by_cases hs : s = [c]
  · subst hs
    refine ACalls.of_body Tryz.func247 (by kernel_rfl) rfl (by kernel_rfl) (by simp [Tryz.ntmps247]) (by simp) ?_
    rw [Tryz.ntmps247]
    repeat' first
      | ((first | refine aops_end (hK _ ?_)); clear hK K)
      | ((first | refine aops_go ?_); simp; (try (refine gen fun q hq => ?_; cases q <;> (try simp at hq) <;> (try (have hh : True := hq; clear hh hq)))))
      | (refine T.ret (Done.data (Or.inr rfl) ?_ ?_) <;> simp [Tryz.results247, Lib.indexByte] <;> omega)
      | refine T.rs (fun _ => false) fun K hK => ?_
      | refine T.cond rfl (fun hcnd => ?_) (fun hcnd => absurd hcnd (by decide))
      | refine T.seq ?_
      | refine T.block ?_
  · have hs' : ¬ [c] = s := fun e => hs e.symm
    refine ACalls.of_body Tryz.func247 (by kernel_rfl) rfl (by kernel_rfl) (by simp [Tryz.ntmps247]) (by simp) ?_
    rw [Tryz.ntmps247]
    repeat' first
      | ((first | refine aops_end (hK _ ?_)); clear hK K)
      | ((first | refine aops_go ?_); simp [hs']; (try (refine gen fun q hq => ?_; cases q <;> (try simp [hs'] at hq) <;> (try (have hh : True := hq; clear hh hq)))))
      | (refine wpcall_pure rfl (h) ?_; simp [hs']; (try (refine gen fun q hq => ?_; cases q <;> (try simp [hs'] at hq) <;> (try (have hh : True := hq; clear hh hq)))))
      | (refine T.ret (Done.data (Or.inr rfl) ?_ ?_) <;> simp [Tryz.results247] <;> omega)
      | refine T.rs (fun _ => false) fun K hK => ?_
      | refine T.cond rfl (fun hcnd => ?_) (fun hcnd => absurd hcnd (by decide))
      | refine T.cond rfl (fun hcnd => absurd hcnd (by decide)) (fun hcnd => ?_)
      | refine T.seq ?_
      | refine T.block ?_

theorem sIndex1_ok (s : List UInt8) (c : UInt8) : ACalls Tryz.prog 234 [.s s, .s [c]] [] (.i (Lib.indexByte s c)) [] [] := by
  have h := Index1_ok s c
  refine ACalls.of_body Tryz.func234 (by kernel_rfl) rfl (by kernel_rfl) (by simp [Tryz.ntmps234]) (by simp) ?_
  rw [Tryz.ntmps234]
  repeat' first
    | ((first | refine aops_end (hK _ ?_)); clear hK K)
    | ((first | refine aops_go ?_); simp; (try (refine gen fun q hq => ?_; cases q <;> (try simp at hq) <;> (try (have hh : True := hq; clear hh hq)))))
    | (refine wpcall_pure rfl (h) ?_; simp; (try (refine gen fun q hq => ?_; cases q <;> (try simp at hq) <;> (try (have hh : True := hq; clear hh hq)))))
    | (refine T.ret (Done.data (Or.inr rfl) ?_ ?_) <;> simp [Tryz.results234] <;> omega)
    | refine T.rs (fun _ => false) fun K hK => ?_

theorem Contains1_ok (s : List UInt8) (c : UInt8) : ACalls Tryz.prog 194 [.s s, .s [c]] [] (.b (s.contains c)) [] [] := by
  have h := sIndex1_ok s c
  have e : decide (0 ≤ Lib.indexByte s c) = s.contains c := by
    rw [Bool.eq_iff_iff, decide_eq_true_iff]; exact indexByte_iff s c
  rw [← e]
  refine ACalls.of_body Tryz.func194 (by kernel_rfl) rfl (by kernel_rfl) (by simp [Tryz.ntmps194]) (by simp) ?_
  rw [Tryz.ntmps194]
  repeat' first
    | ((first | refine aops_end (hK _ ?_)); clear hK K)
    | ((first | refine aops_go ?_); simp)
    | (refine wpcall_pure rfl (h) ?_; simp)
    | (refine T.ret (Done.data (Or.inr rfl) ?_ ?_) <;> simp [Tryz.results194] <;> omega)
    | refine T.rs (fun _ => false) fun K hK => ?_

theorem free_var (e : MTm) (bd : List UInt8) (h1 : e.kind = 1) (z : UInt8) (hz : e.name = [z]) (h97 : 97 ≤ z.toNat) (h122 : z.toNat ≤ 122) (hin : bd.contains z = false) (hl : e.kids.length ≤ 3) (S : List Bool) (hS : S.length = 26)
    (ih : ∀ u ∈ e.kids, ∀ S : List Bool, S.length = 26 → ACalls Tryz.prog 143 [aTm u, .s (bd), .c (.ptr 0 0)] [rowB S] (.tup []) [rowB (orF (fun c => freeIn c (bd) u) S)] []) :
    ACalls Tryz.prog 143 [aTm e, .s bd, .c (.ptr 0 0)] [rowB S] (.tup []) [rowB (orF (fun c => e.kids.any (freeIn c (bd))) (orF (fun c => decide (c = z)) S))] [] := by
  have hc := Contains1_ok bd z
  rw [hin] at hc
  have hw8 : IntKind.u8.wrap ((z.toNat : Int) - 97) = (z.toNat - 97 : Nat) := by rw [show ((z.toNat : Int) - 97) = ((z.toNat - 97 : Nat) : Int) by omega]; exact wrap8 (by omega)
  rw [← orF_set hS h97 h122]
  obtain ⟨bd', hbd⟩ : ∃ bd', bd = bd' := ⟨_, rfl⟩
  rw [hbd] at ih ⊢
  rw [hbd] at hc
  obtain ⟨S1, hS1⟩ : ∃ S1, S.set (z.toNat - 97) true = S1 := ⟨_, rfl⟩
  rw [hS1]
  have hl1 : S1.length = 26 := by rw [← hS1]; simpa using hS
  have hsp : List.take (z.toNat - 97) (rowB S) ++ CV.d (.bool true) :: List.drop (z.toNat - 97 + 1) (rowB S) = rowB S1 := by rw [← hS1, ← splice_rowB (by omega)]; simp [splice]
  refine ACalls.of_body Tryz.func143 (by kernel_rfl) rfl (by kernel_rfl) (by simp [Tryz.ntmps143]) (by simp) ?_
  rw [Tryz.ntmps143]
  repeat' first
    | ((first | refine aops_end (hK _ ?_) | refine aopsD_end (hK _ ?_)); clear hK K)
    | ((first | refine aops_go ?_ | refine aopsD_go ?_); simp [h1, hz, hin, hw8, hsp]; (try (refine gen fun q hq => ?_; cases q <;> (try simp [h1, hz, hin, hw8, hsp] at hq) <;> (try (have hh : True := hq; clear hh hq)))))
    | (refine wpcall_pure rfl (hc) ?_; simp [h1, hz, hin, hw8, hsp]; (try (refine gen fun q hq => ?_; cases q <;> (try simp [h1, hz, hin, hw8, hsp] at hq) <;> (try (have hh : True := hq; clear hh hq)))))
    | refine T.rd1 (id := 2) mixed (fun _ => false) [7] (by kernel_rfl) fun K hK => ?_
    | refine T.rs (fun _ => false) fun K hK => ?_
    | (refine ⟨by omega, ?_⟩)
    | refine T.cond rfl (fun hcnd => ?_) (fun hcnd => absurd hcnd (by decide))
    | refine T.cond rfl (fun hcnd => absurd hcnd (by decide)) (fun hcnd => ?_)
    | refine T.seq ?_
    | refine T.block ?_
    | refine T.skip ?_
  refine T.loopK (α := Nat × List (List CV)) [1, 2, 33, 34] (fun x => [(35, .i x.1)]) (fun x => [(0, rowB (orF (fun c => (e.kids.take x.1).any (freeIn c bd')) S1))]) (fun x => x.2) (fun x A => A) (fun x => e.kids.length + 1 - x.1) (fun x => x.1 ≤ e.kids.length) (by simp; rfl) (fun x hx => ?_) (0, []) (by simp) (by simp [orF_none, hl1]) (by simp) (by simp)
  obtain ⟨p, G⟩ := x
  dsimp only at hx ⊢
  simp only [ups, List.set_cons_zero, List.cons_append, List.nil_append]
  by_cases hlt : p < e.kids.length
  · obtain ⟨u, ht⟩ := get_lt hlt
    have htm : u ∈ e.kids := List.mem_of_getElem? ht
    have hgt : e.kids[p] = u := by rw [List.getElem?_eq_getElem hlt] at ht; exact Option.some.inj ht
    have hdr : e.kids.drop p = u :: e.kids.drop (p + 1) := by rw [List.drop_eq_getElem_cons hlt, hgt]
    have hlp : (orF (fun c => (e.kids.take p).any (freeIn c bd')) S1).length = 26 := orF_len hl1
    have hu := ih u htm _ hlp
    rw [orF_or hl1] at hu
    have htk : orF (fun c => (e.kids.take (p + 1)).any (freeIn c bd')) S1 = orF (fun c => (e.kids.take p).any (freeIn c bd') || freeIn c bd' u) S1 := orF_congr fun c => by rw [List.take_add_one, ht, List.any_append]; simp
    rw [← htk] at hu
    generalize orF (fun c => (e.kids.take p).any (freeIn c bd')) S1 = Z at *
    obtain ⟨Z', hZ'⟩ : ∃ Z', orF (fun c => (e.kids.take (p + 1)).any (freeIn c bd')) S1 = Z' := ⟨_, rfl⟩
    rw [hZ'] at hu
    repeat' first
      | ((first | refine aops_end (hK _ ?_)); clear hK K)
      | ((first | refine aops_go ?_); simp [hlt, hgt]; (try simp (disch := omega) only [wrap64]); (try (refine gen fun q hq => ?_; cases q <;> (try simp [hlt, hgt] at hq) <;> (try (have hh : True := hq; clear hh hq)))))
      | (refine wpcall_g [0] (by simp) rfl (by simp [inns_rowB]) hu ?_; simp [outn_rowB, seal_rowB])
      | refine T.rs (fun _ => false) fun K hK => ?_
      | refine T.rs1 (fun _ => false) fun K hK => ?_
      | refine T.cond rfl (fun hcnd => ?_) (fun hcnd => absurd hcnd (by decide))
      | refine T.seq ?_
      | refine T.block ?_
      | refine T.skip ?_
    refine ⟨(p + 1, G ++ [(aTm u).cells]), by dsimp only; omega, by dsimp only; omega, by dsimp only; rw [hZ']; rfl, ?_, ?_⟩ <;> simp (disch := omega) [wrap64]
  · have hp' : p = e.kids.length := by omega
    subst hp'
    rw [List.take_length]
    generalize orF (fun c => e.kids.any (freeIn c bd')) S1 = Z at *
    repeat' first
      | ((first | refine aops_end (hK _ ?_)); clear hK K)
      | ((first | refine aops_go ?_); simp [hlt]; (try (refine gen fun q hq => ?_; cases q <;> (try simp [hlt] at hq) <;> (try (have hh : True := hq; clear hh hq)))))
      | refine T.rs (fun _ => false) fun K hK => ?_
      | refine T.cond rfl (fun hcnd => absurd hcnd (by decide)) (fun hcnd => ?_)
      | refine T.seq ?_
      | refine T.exit ?_
    all_goals (refine Done.g (ys := []) (Or.inl rfl) ?_ rfl ?_ <;> simp [resAs, ress_rowB, Tryz.results143])

theorem free_bnd (e : MTm) (bd : List UInt8) (h1 : e.kind = 1) (z : UInt8) (hz : e.name = [z]) (hin : bd.contains z = true) (hl : e.kids.length ≤ 3) (S : List Bool) (hS : S.length = 26)
    (ih : ∀ u ∈ e.kids, ∀ S : List Bool, S.length = 26 → ACalls Tryz.prog 143 [aTm u, .s (bd), .c (.ptr 0 0)] [rowB S] (.tup []) [rowB (orF (fun c => freeIn c (bd) u) S)] []) :
    ACalls Tryz.prog 143 [aTm e, .s bd, .c (.ptr 0 0)] [rowB S] (.tup []) [rowB (orF (fun c => e.kids.any (freeIn c (bd))) (S))] [] := by
  have hc := Contains1_ok bd z
  rw [hin] at hc
  obtain ⟨bd', hbd⟩ : ∃ bd', bd = bd' := ⟨_, rfl⟩
  rw [hbd] at ih ⊢
  rw [hbd] at hc
  obtain ⟨S1, hS1⟩ : ∃ S1, S = S1 := ⟨_, rfl⟩
  rw [hS1] at hS ⊢
  have hl1 : S1.length = 26 := hS
  refine ACalls.of_body Tryz.func143 (by kernel_rfl) rfl (by kernel_rfl) (by simp [Tryz.ntmps143]) (by simp) ?_
  rw [Tryz.ntmps143]
  repeat' first
    | ((first | refine aops_end (hK _ ?_)); clear hK K)
    | ((first | refine aops_go ?_); simp [h1, hz, hin]; (try (refine gen fun q hq => ?_; cases q <;> (try simp [h1, hz, hin] at hq) <;> (try (have hh : True := hq; clear hh hq)))))
    | (refine wpcall_pure rfl (hc) ?_; simp [h1, hz, hin]; (try (refine gen fun q hq => ?_; cases q <;> (try simp [h1, hz, hin] at hq) <;> (try (have hh : True := hq; clear hh hq)))))
    | refine T.rs (fun _ => false) fun K hK => ?_
    | refine T.cond rfl (fun hcnd => absurd hcnd (by decide)) (fun hcnd => ?_)
    | refine T.seq ?_
    | refine T.block ?_
    | refine T.skip ?_
  refine T.loopK (α := Nat × List (List CV)) [1, 2, 33, 34] (fun x => [(35, .i x.1)]) (fun x => [(0, rowB (orF (fun c => (e.kids.take x.1).any (freeIn c bd')) S1))]) (fun x => x.2) (fun x A => A) (fun x => e.kids.length + 1 - x.1) (fun x => x.1 ≤ e.kids.length) (by simp; rfl) (fun x hx => ?_) (0, []) (by simp) (by simp [orF_none, hl1]) (by simp) (by simp)
  obtain ⟨p, G⟩ := x
  dsimp only at hx ⊢
  simp only [ups, List.set_cons_zero, List.cons_append, List.nil_append]
  by_cases hlt : p < e.kids.length
  · obtain ⟨u, ht⟩ := get_lt hlt
    have htm : u ∈ e.kids := List.mem_of_getElem? ht
    have hgt : e.kids[p] = u := by rw [List.getElem?_eq_getElem hlt] at ht; exact Option.some.inj ht
    have hdr : e.kids.drop p = u :: e.kids.drop (p + 1) := by rw [List.drop_eq_getElem_cons hlt, hgt]
    have hlp : (orF (fun c => (e.kids.take p).any (freeIn c bd')) S1).length = 26 := orF_len hl1
    have hu := ih u htm _ hlp
    rw [orF_or hl1] at hu
    have htk : orF (fun c => (e.kids.take (p + 1)).any (freeIn c bd')) S1 = orF (fun c => (e.kids.take p).any (freeIn c bd') || freeIn c bd' u) S1 := orF_congr fun c => by rw [List.take_add_one, ht, List.any_append]; simp
    rw [← htk] at hu
    generalize orF (fun c => (e.kids.take p).any (freeIn c bd')) S1 = Z at *
    obtain ⟨Z', hZ'⟩ : ∃ Z', orF (fun c => (e.kids.take (p + 1)).any (freeIn c bd')) S1 = Z' := ⟨_, rfl⟩
    rw [hZ'] at hu
    repeat' first
      | ((first | refine aops_end (hK _ ?_)); clear hK K)
      | ((first | refine aops_go ?_); simp [hlt, hgt]; (try simp (disch := omega) only [wrap64]); (try (refine gen fun q hq => ?_; cases q <;> (try simp [hlt, hgt] at hq) <;> (try (have hh : True := hq; clear hh hq)))))
      | (refine wpcall_g [0] (by simp) rfl (by simp [inns_rowB]) hu ?_; simp [outn_rowB, seal_rowB])
      | refine T.rs (fun _ => false) fun K hK => ?_
      | refine T.rs1 (fun _ => false) fun K hK => ?_
      | refine T.cond rfl (fun hcnd => ?_) (fun hcnd => absurd hcnd (by decide))
      | refine T.seq ?_
      | refine T.block ?_
      | refine T.skip ?_
    refine ⟨(p + 1, G ++ [(aTm u).cells]), by dsimp only; omega, by dsimp only; omega, by dsimp only; rw [hZ']; rfl, ?_, ?_⟩ <;> simp (disch := omega) [wrap64]
  · have hp' : p = e.kids.length := by omega
    subst hp'
    rw [List.take_length]
    generalize orF (fun c => e.kids.any (freeIn c bd')) S1 = Z at *
    repeat' first
      | ((first | refine aops_end (hK _ ?_)); clear hK K)
      | ((first | refine aops_go ?_); simp [hlt]; (try (refine gen fun q hq => ?_; cases q <;> (try simp [hlt] at hq) <;> (try (have hh : True := hq; clear hh hq)))))
      | refine T.rs (fun _ => false) fun K hK => ?_
      | refine T.cond rfl (fun hcnd => absurd hcnd (by decide)) (fun hcnd => ?_)
      | refine T.seq ?_
      | refine T.exit ?_
    all_goals (refine Done.g (ys := []) (Or.inl rfl) ?_ rfl ?_ <;> simp [resAs, ress_rowB, Tryz.results143])

theorem free_lam (e : MTm) (bd : List UInt8) (h1 : ¬ e.kind = 1) (h5 : e.kind = 5) (hbl : bd.length + e.name.length ≤ 4611686018427387904) (hl : e.kids.length ≤ 3) (S : List Bool) (hS : S.length = 26)
    (ih : ∀ u ∈ e.kids, ∀ S : List Bool, S.length = 26 → ACalls Tryz.prog 143 [aTm u, .s (bd ++ e.name), .c (.ptr 0 0)] [rowB S] (.tup []) [rowB (orF (fun c => freeIn c (bd ++ e.name) u) S)] []) :
    ACalls Tryz.prog 143 [aTm e, .s bd, .c (.ptr 0 0)] [rowB S] (.tup []) [rowB (orF (fun c => e.kids.any (freeIn c (bd ++ e.name))) (S))] [] := by
  obtain ⟨bd', hbd⟩ : ∃ bd', bd ++ e.name = bd' := ⟨_, rfl⟩
  rw [hbd] at ih ⊢
  obtain ⟨S1, hS1⟩ : ∃ S1, S = S1 := ⟨_, rfl⟩
  rw [hS1] at hS ⊢
  have hl1 : S1.length = 26 := hS
  refine ACalls.of_body Tryz.func143 (by kernel_rfl) rfl (by kernel_rfl) (by simp [Tryz.ntmps143]) (by simp) ?_
  rw [Tryz.ntmps143]
  repeat' first
    | ((first | refine aops_end (hK _ ?_)); clear hK K)
    | ((first | refine aops_go ?_); simp [h1, h5, hbl, hbd]; (try (refine gen fun q hq => ?_; cases q <;> (try simp [h1, h5, hbl, hbd] at hq) <;> (try (have hh : True := hq; clear hh hq)))))
    | refine T.rs (fun _ => false) fun K hK => ?_
    | refine T.rs1 (fun _ => false) fun K hK => ?_
    | refine T.cond rfl (fun hcnd => ?_) (fun hcnd => absurd hcnd (by decide))
    | refine T.cond rfl (fun hcnd => absurd hcnd (by decide)) (fun hcnd => ?_)
    | refine T.seq ?_
    | refine T.block ?_
    | refine T.skip ?_
  refine T.loopK (α := Nat × List (List CV)) [1, 2, 33, 34] (fun x => [(35, .i x.1)]) (fun x => [(0, rowB (orF (fun c => (e.kids.take x.1).any (freeIn c bd')) S1))]) (fun x => x.2) (fun x A => A) (fun x => e.kids.length + 1 - x.1) (fun x => x.1 ≤ e.kids.length) (by simp; rfl) (fun x hx => ?_) (0, []) (by simp) (by simp [orF_none, hl1]) (by simp) (by simp)
  obtain ⟨p, G⟩ := x
  dsimp only at hx ⊢
  simp only [ups, List.set_cons_zero, List.cons_append, List.nil_append]
  by_cases hlt : p < e.kids.length
  · obtain ⟨u, ht⟩ := get_lt hlt
    have htm : u ∈ e.kids := List.mem_of_getElem? ht
    have hgt : e.kids[p] = u := by rw [List.getElem?_eq_getElem hlt] at ht; exact Option.some.inj ht
    have hdr : e.kids.drop p = u :: e.kids.drop (p + 1) := by rw [List.drop_eq_getElem_cons hlt, hgt]
    have hlp : (orF (fun c => (e.kids.take p).any (freeIn c bd')) S1).length = 26 := orF_len hl1
    have hu := ih u htm _ hlp
    rw [orF_or hl1] at hu
    have htk : orF (fun c => (e.kids.take (p + 1)).any (freeIn c bd')) S1 = orF (fun c => (e.kids.take p).any (freeIn c bd') || freeIn c bd' u) S1 := orF_congr fun c => by rw [List.take_add_one, ht, List.any_append]; simp
    rw [← htk] at hu
    generalize orF (fun c => (e.kids.take p).any (freeIn c bd')) S1 = Z at *
    obtain ⟨Z', hZ'⟩ : ∃ Z', orF (fun c => (e.kids.take (p + 1)).any (freeIn c bd')) S1 = Z' := ⟨_, rfl⟩
    rw [hZ'] at hu
    repeat' first
      | ((first | refine aops_end (hK _ ?_)); clear hK K)
      | ((first | refine aops_go ?_); simp [hlt, hgt]; (try simp (disch := omega) only [wrap64]); (try (refine gen fun q hq => ?_; cases q <;> (try simp [hlt, hgt] at hq) <;> (try (have hh : True := hq; clear hh hq)))))
      | (refine wpcall_g [0] (by simp) rfl (by simp [inns_rowB]) hu ?_; simp [outn_rowB, seal_rowB])
      | refine T.rs (fun _ => false) fun K hK => ?_
      | refine T.rs1 (fun _ => false) fun K hK => ?_
      | refine T.cond rfl (fun hcnd => ?_) (fun hcnd => absurd hcnd (by decide))
      | refine T.seq ?_
      | refine T.block ?_
      | refine T.skip ?_
    refine ⟨(p + 1, G ++ [(aTm u).cells]), by dsimp only; omega, by dsimp only; omega, by dsimp only; rw [hZ']; rfl, ?_, ?_⟩ <;> simp (disch := omega) [wrap64]
  · have hp' : p = e.kids.length := by omega
    subst hp'
    rw [List.take_length]
    generalize orF (fun c => e.kids.any (freeIn c bd')) S1 = Z at *
    repeat' first
      | ((first | refine aops_end (hK _ ?_)); clear hK K)
      | ((first | refine aops_go ?_); simp [hlt]; (try (refine gen fun q hq => ?_; cases q <;> (try simp [hlt] at hq) <;> (try (have hh : True := hq; clear hh hq)))))
      | refine T.rs (fun _ => false) fun K hK => ?_
      | refine T.cond rfl (fun hcnd => absurd hcnd (by decide)) (fun hcnd => ?_)
      | refine T.seq ?_
      | refine T.exit ?_
    all_goals (refine Done.g (ys := []) (Or.inl rfl) ?_ rfl ?_ <;> simp [resAs, ress_rowB, Tryz.results143])

theorem free_non (e : MTm) (bd : List UInt8) (h1 : ¬ e.kind = 1) (h5 : ¬ e.kind = 5) (hl : e.kids.length ≤ 3) (S : List Bool) (hS : S.length = 26)
    (ih : ∀ u ∈ e.kids, ∀ S : List Bool, S.length = 26 → ACalls Tryz.prog 143 [aTm u, .s (bd), .c (.ptr 0 0)] [rowB S] (.tup []) [rowB (orF (fun c => freeIn c (bd) u) S)] []) :
    ACalls Tryz.prog 143 [aTm e, .s bd, .c (.ptr 0 0)] [rowB S] (.tup []) [rowB (orF (fun c => e.kids.any (freeIn c (bd))) (S))] [] := by
  obtain ⟨bd', hbd⟩ : ∃ bd', bd = bd' := ⟨_, rfl⟩
  rw [hbd] at ih ⊢
  obtain ⟨S1, hS1⟩ : ∃ S1, S = S1 := ⟨_, rfl⟩
  rw [hS1] at hS ⊢
  have hl1 : S1.length = 26 := hS
  refine ACalls.of_body Tryz.func143 (by kernel_rfl) rfl (by kernel_rfl) (by simp [Tryz.ntmps143]) (by simp) ?_
  rw [Tryz.ntmps143]
  repeat' first
    | ((first | refine aops_end (hK _ ?_)); clear hK K)
    | ((first | refine aops_go ?_); simp [h1, h5]; (try (refine gen fun q hq => ?_; cases q <;> (try simp [h1, h5] at hq) <;> (try (have hh : True := hq; clear hh hq)))))
    | refine T.rs (fun _ => false) fun K hK => ?_
    | refine T.cond rfl (fun hcnd => absurd hcnd (by decide)) (fun hcnd => ?_)
    | refine T.seq ?_
    | refine T.block ?_
    | refine T.skip ?_
  refine T.loopK (α := Nat × List (List CV)) [1, 2, 33, 34] (fun x => [(35, .i x.1)]) (fun x => [(0, rowB (orF (fun c => (e.kids.take x.1).any (freeIn c bd')) S1))]) (fun x => x.2) (fun x A => A) (fun x => e.kids.length + 1 - x.1) (fun x => x.1 ≤ e.kids.length) (by simp; rfl) (fun x hx => ?_) (0, []) (by simp) (by simp [orF_none, hl1]) (by simp) (by simp)
  obtain ⟨p, G⟩ := x
  dsimp only at hx ⊢
  simp only [ups, List.set_cons_zero, List.cons_append, List.nil_append]
  by_cases hlt : p < e.kids.length
  · obtain ⟨u, ht⟩ := get_lt hlt
    have htm : u ∈ e.kids := List.mem_of_getElem? ht
    have hgt : e.kids[p] = u := by rw [List.getElem?_eq_getElem hlt] at ht; exact Option.some.inj ht
    have hdr : e.kids.drop p = u :: e.kids.drop (p + 1) := by rw [List.drop_eq_getElem_cons hlt, hgt]
    have hlp : (orF (fun c => (e.kids.take p).any (freeIn c bd')) S1).length = 26 := orF_len hl1
    have hu := ih u htm _ hlp
    rw [orF_or hl1] at hu
    have htk : orF (fun c => (e.kids.take (p + 1)).any (freeIn c bd')) S1 = orF (fun c => (e.kids.take p).any (freeIn c bd') || freeIn c bd' u) S1 := orF_congr fun c => by rw [List.take_add_one, ht, List.any_append]; simp
    rw [← htk] at hu
    generalize orF (fun c => (e.kids.take p).any (freeIn c bd')) S1 = Z at *
    obtain ⟨Z', hZ'⟩ : ∃ Z', orF (fun c => (e.kids.take (p + 1)).any (freeIn c bd')) S1 = Z' := ⟨_, rfl⟩
    rw [hZ'] at hu
    repeat' first
      | ((first | refine aops_end (hK _ ?_)); clear hK K)
      | ((first | refine aops_go ?_); simp [hlt, hgt]; (try simp (disch := omega) only [wrap64]); (try (refine gen fun q hq => ?_; cases q <;> (try simp [hlt, hgt] at hq) <;> (try (have hh : True := hq; clear hh hq)))))
      | (refine wpcall_g [0] (by simp) rfl (by simp [inns_rowB]) hu ?_; simp [outn_rowB, seal_rowB])
      | refine T.rs (fun _ => false) fun K hK => ?_
      | refine T.rs1 (fun _ => false) fun K hK => ?_
      | refine T.cond rfl (fun hcnd => ?_) (fun hcnd => absurd hcnd (by decide))
      | refine T.seq ?_
      | refine T.block ?_
      | refine T.skip ?_
    refine ⟨(p + 1, G ++ [(aTm u).cells]), by dsimp only; omega, by dsimp only; omega, by dsimp only; rw [hZ']; rfl, ?_, ?_⟩ <;> simp (disch := omega) [wrap64]
  · have hp' : p = e.kids.length := by omega
    subst hp'
    rw [List.take_length]
    generalize orF (fun c => e.kids.any (freeIn c bd')) S1 = Z at *
    repeat' first
      | ((first | refine aops_end (hK _ ?_)); clear hK K)
      | ((first | refine aops_go ?_); simp [hlt]; (try (refine gen fun q hq => ?_; cases q <;> (try simp [hlt] at hq) <;> (try (have hh : True := hq; clear hh hq)))))
      | refine T.rs (fun _ => false) fun K hK => ?_
      | refine T.cond rfl (fun hcnd => absurd hcnd (by decide)) (fun hcnd => ?_)
      | refine T.seq ?_
      | refine T.exit ?_
    all_goals (refine Done.g (ys := []) (Or.inl rfl) ?_ rfl ?_ <;> simp [resAs, ress_rowB, Tryz.results143])

theorem free_ok {nt : Int} : ∀ (e : MTm) (d : Nat) (bd : List UInt8) (S : List Bool), shapeTm nt d e = true → S.length = 26 → bd.length + d ≤ 1000000 →
    ACalls Tryz.prog 143 [aTm e, .s bd, .c (.ptr 0 0)] [rowB S] (.tup []) [rowB (orF (fun c => freeIn c bd e) S)] [] := by
  intro e
  induction e using MTm.ind with
  | h e ih =>
    intro d bd S hs hS hbd
    obtain ⟨d', rfl, hne, hlen, hown, hkids⟩ := shapeTm_kids hs
    have hk3 : e.kids.length ≤ 3 := by have := kidsM_le e.kind; omega
    have ih' := fun (bd : List UInt8) (hbd : bd.length + d' ≤ 1000000) u hu (S : List Bool) hS => ih u hu d' bd S (hkids u hu) hS hbd
    by_cases h1 : e.kind = 1
    · have h5 : ¬ e.kind = 5 := by omega
      obtain ⟨z, hz, h97, h122⟩ := nameM_one (own_named hown (by simp [namedM, h1]))
      have h0 : e.kids = [] := by
        rw [h1] at hlen; simp [kidsM] at hlen; exact List.eq_nil_of_length_eq_zero (by omega)
      cases hin : bd.contains z with
      | false =>
        have := free_var e bd h1 z hz h97 h122 hin hk3 S hS (ih' bd (by omega))
        rw [orF_or hS] at this
        rw [orF_congr (g := fun c => decide (c = z) || e.kids.any (freeIn c bd)) (fun c => ?_)]
        · exact this
        · rw [freeIn_def, if_neg h5, hz]
          by_cases e : c = z
          · subst e; simp only [h1, hin]; simp
          · simp [h1, e, Ne.symm e]
      | true =>
        have := free_bnd e bd h1 z hz hin hk3 S hS (ih' bd (by omega))
        rw [orF_congr (g := fun c => e.kids.any (freeIn c bd)) (fun c => ?_)]
        · exact this
        · rw [freeIn_def, if_neg h5, hz]
          by_cases e : c = z
          · subst e; simp only [hin]; simp
          · simp [Ne.symm e]
    · by_cases h5 : e.kind = 5
      · obtain ⟨z, hz, _, _⟩ := nameM_one (own_named hown (by simp [namedM, h5]))
        have hnl : e.name.length = 1 := by rw [hz]; rfl
        have := free_lam e bd h1 h5 (by omega) hk3 S hS (ih' (bd ++ e.name) (by simp; omega))
        rw [orF_congr (g := fun c => e.kids.any (freeIn c (bd ++ e.name))) (fun c => ?_)]
        · exact this
        · rw [freeIn_def, if_pos h5]; simp [h1]
      · have := free_non e bd h1 h5 hk3 S hS (ih' bd (by omega))
        rw [orF_congr (g := fun c => e.kids.any (freeIn c bd)) (fun c => ?_)]
        · exact this
        · rw [freeIn_def, if_neg h5]; simp [h1]

theorem take_letters {p : Nat} (h : p < 26) : letters.take (p + 1) = letters.take p ++ [UInt8.ofNat (97 + p)] := by
  rw [List.take_add_one, letters_get h]; rfl
theorem freeNames_ok {nt : Int} (e : MTm) (d : Nat) (hd : d ≤ 1000000) (hs : shapeTm nt d e = true) : ACalls Tryz.prog 75 [aTm e] [] (.s (namesM e)) [] [] := by
  have h1 := free_ok e d [] noB hs noB_len (by simp; omega)
  obtain ⟨Z, hZ⟩ : ∃ Z, orF (fun c => freeIn c [] e) noB = Z := ⟨_, rfl⟩
  rw [hZ] at h1
  have hg : ∀ p, p < 26 → Z[p]? = some (freeIn (UInt8.ofNat (97 + p)) [] e) := fun p hp => by
    rw [← hZ, orF_get (b := false) hp (noB_get hp)]; simp
  have hzl : Z.length = 26 := by rw [← hZ]; exact orF_len noB_len
  have hnm : namesM e = (letters.take 26).filter fun c => freeIn c [] e := by rw [namesM, List.take_of_length_le (by rw [letters_len]; omega)]
  rw [hnm]
  clear hnm hZ
  generalize hf : (fun c => freeIn c [] e) = f at *
  have hg : ∀ p, p < 26 → Z[p]? = some (f (UInt8.ofNat (97 + p))) := fun p hp => by rw [hg p hp, ← hf]
  have ht26 : List.take 26 (rowB Z) = rowB Z := List.take_of_length_le (by simp [hzl])
  refine ACalls.of_body Tryz.func75 (by kernel_rfl) rfl (by kernel_rfl) (by simp [Tryz.ntmps75]) (by simp) ?_
  rw [Tryz.ntmps75]
  repeat' first
    | ((first | refine aops_end (hK _ ?_)); clear hK K)
    | ((first | refine aops_go ?_); simp [hzl, ht26]; (try (refine gen fun q hq => ?_; cases q <;> (try simp [hzl, ht26] at hq) <;> (try (have hh : True := hq; clear hh hq)))))
    | (refine wpcall_g [1] (by simp) rfl (by simp [inns_rowB]) h1 ?_; simp [outn_rowB, seal_rowB, hzl, ht26])
    | refine T.rs (fun _ => false) fun K hK => ?_
    | refine T.seq ?_
    | refine T.block ?_
  refine T.loopK (α := Nat × List (List CV)) [2, 9] (fun x => [(4, .s ((letters.take x.1).filter f)), (10, .i x.1)]) (fun x => []) (fun x => x.2) (fun x A => A) (fun x => 27 - x.1) (fun x => x.1 ≤ 26) (by simp; rfl) (fun x hx => ?_) (0, []) (by simp) (by simp) (by simp) (by simp)
  obtain ⟨p, G⟩ := x
  dsimp only at hx ⊢
  simp only [ups, List.set_cons_zero, List.set_cons_succ, List.cons_append, List.nil_append]
  by_cases hlt : p < 26
  · have hgp := hg p hlt
    have hw8 : IntKind.u8.wrap (97 + (p : Int)) = (97 + p : Nat) := by rw [show (97 + (p : Int)) = ((97 + p : Nat) : Int) by omega]; exact wrap8 (by omega)
    have hby : bytesOf [[DV.int .u8 ((97 + p : Nat) : Int)]] = some [UInt8.ofNat (97 + p)] := by simp only [bytesOf, byteOfRow]; rw [if_pos (by omega)]; rfl
    have htk := take_letters hlt
    have hcs : ((97 + p : Nat) : Int) = 97 + (p : Int) := by omega
    rw [hcs] at hw8 hby
    clear hcs
    obtain ⟨z, hz⟩ : ∃ z, UInt8.ofNat (97 + p) = z := ⟨_, rfl⟩
    rw [hz] at hgp hby htk
    have hlt' : (p : Int) < 26 := by omega
    have hfl : (List.filter f (List.take p letters)).length ≤ 4611686018427387903 := by
      have h8 := List.length_filter_le f (letters.take p)
      rw [List.length_take] at h8
      omega
    have hlt'' : ¬ (26 : Int) ≤ p := by omega
    cases hb : f z <;> rw [hb] at hgp
    · repeat' first
        | ((first | refine aops_end (hK _ ?_)); clear hK K)
        | ((first | refine aops_go ?_); simp [hlt, hlt', hlt'', hfl, hgp, hw8, hby]; (try simp (disch := omega) only [wrap64]); (try (refine gen fun q hq => ?_; cases q <;> (try simp [hlt, hlt', hlt'', hfl, hgp, hw8, hby] at hq) <;> (try (have hh : True := hq; clear hh hq)))))
        | (refine ⟨(p + 1, _), by dsimp only; omega, by dsimp only; omega, rfl, ?_, ?_⟩ <;> simp (disch := omega) [wrap64, htk, hb])
        | refine T.rs (fun _ => false) fun K hK => ?_
        | refine T.rs1 (fun _ => false) fun K hK => ?_
        | refine T.cond rfl (fun hcnd => ?_) (fun hcnd => absurd hcnd (by decide))
        | refine T.cond rfl (fun hcnd => absurd hcnd (by decide)) (fun hcnd => ?_)
        | refine T.seq ?_
        | refine T.block ?_
        | refine T.skip ?_
    · repeat' first
        | ((first | refine aops_end (hK _ ?_)); clear hK K)
        | ((first | refine aops_go ?_); simp [hlt, hlt', hlt'', hfl, hgp, hw8, hby]; (try simp (disch := omega) only [wrap64]); (try (refine gen fun q hq => ?_; cases q <;> (try simp [hlt, hlt', hlt'', hfl, hgp, hw8, hby] at hq) <;> (try (have hh : True := hq; clear hh hq)))))
        | (refine ⟨(p + 1, _), by dsimp only; omega, by dsimp only; omega, rfl, ?_, ?_⟩ <;> simp (disch := omega) [wrap64, htk, hb])
        | refine T.rs (fun _ => false) fun K hK => ?_
        | refine T.rs1 (fun _ => false) fun K hK => ?_
        | refine T.cond rfl (fun hcnd => ?_) (fun hcnd => absurd hcnd (by decide))
        | refine T.seq ?_
        | refine T.block ?_
        | refine T.skip ?_
  · have hp' : p = 26 := by omega
    subst hp'
    repeat' first
      | ((first | refine aops_end (hK _ ?_)); clear hK K)
      | ((first | refine aops_go ?_); simp [hlt]; (try (refine gen fun q hq => ?_; cases q <;> (try simp [hlt] at hq) <;> (try (have hh : True := hq; clear hh hq)))))
      | (refine T.ret (Done.val (Or.inr rfl) ?_) <;> simp [resAs, Tryz.results75] <;> omega)
      | refine T.rs (fun _ => false) fun K hK => ?_
      | refine T.cond rfl (fun hcnd => absurd hcnd (by decide)) (fun hcnd => ?_)
      | refine T.seq ?_
      | refine T.exit ?_

theorem FreeNames_ok (e : MTm) (hn : nTm e ≤ 1099511627776) : ACalls Tryz.prog 19 [aTm e] [] (.s (if termValidM e = true then namesM e else [])) [] [] := by
  have h1 := TermValid_ok e hn
  cases hv : termValidM e with
  | false =>
    rw [hv] at h1
    simp only [Bool.false_eq_true, if_false]
    refine ACalls.of_body Tryz.func19 (by kernel_rfl) rfl (by kernel_rfl) (by simp [Tryz.ntmps19]) (by simp) ?_
    rw [Tryz.ntmps19]
    repeat' first
      | ((first | refine aops_end (hK _ ?_) | refine aopsD_end (hK _ ?_)); clear hK K)
      | ((first | refine aops_go ?_ | refine aopsD_go ?_); simp; (try (refine gen fun q hq => ?_; cases q <;> (try simp at hq) <;> (try (have hh : True := hq; clear hh hq)))))
      | (refine wpcall_pure rfl (h1) ?_; simp; (try (refine gen fun q hq => ?_; cases q <;> (try simp at hq) <;> (try (have hh : True := hq; clear hh hq)))))
      | (refine T.ret (Done.data (Or.inr rfl) ?_ ?_) <;> simp [Tryz.results19] <;> omega)
      | refine T.rs (fun _ => false) fun K hK => ?_
      | refine T.rs1 (fun _ => false) fun K hK => ?_
      | refine T.rd mixed (fun _ => false) [] (by kernel_rfl) fun K hK => ?_
      | refine T.rd1 mixed (fun _ => false) [] (by kernel_rfl) fun K hK => ?_
      | (refine ⟨by omega, ?_⟩)
      | refine T.cond rfl (fun hcnd => ?_) (fun hcnd => absurd hcnd (by decide))
      | refine T.cond rfl (fun hcnd => absurd hcnd (by decide)) (fun hcnd => ?_)
      | refine T.seq ?_
      | refine T.block ?_
      | refine T.skip ?_
      | refine T.exit ?_
  | true =>
    rw [hv] at h1
    have h2 := freeNames_ok e 12 (by omega) (termValid_parts hv).shape
    simp only [if_true]
    refine ACalls.of_body Tryz.func19 (by kernel_rfl) rfl (by kernel_rfl) (by simp [Tryz.ntmps19]) (by simp) ?_
    rw [Tryz.ntmps19]
    repeat' first
      | ((first | refine aops_end (hK _ ?_) | refine aopsD_end (hK _ ?_)); clear hK K)
      | ((first | refine aops_go ?_ | refine aopsD_go ?_); simp; (try (refine gen fun q hq => ?_; cases q <;> (try simp at hq) <;> (try (have hh : True := hq; clear hh hq)))))
      | (refine wpcall_pure rfl (h1) ?_; simp; (try (refine gen fun q hq => ?_; cases q <;> (try simp at hq) <;> (try (have hh : True := hq; clear hh hq)))))
      | (refine wpcall_pure rfl (h2) ?_; simp; (try (refine gen fun q hq => ?_; cases q <;> (try simp at hq) <;> (try (have hh : True := hq; clear hh hq)))))
      | (refine T.ret (Done.data (Or.inr rfl) ?_ ?_) <;> simp [Tryz.results19] <;> omega)
      | refine T.rs (fun _ => false) fun K hK => ?_
      | refine T.rs1 (fun _ => false) fun K hK => ?_
      | refine T.rd mixed (fun _ => false) [] (by kernel_rfl) fun K hK => ?_
      | refine T.rd1 mixed (fun _ => false) [] (by kernel_rfl) fun K hK => ?_
      | (refine ⟨by omega, ?_⟩)
      | refine T.cond rfl (fun hcnd => ?_) (fun hcnd => absurd hcnd (by decide))
      | refine T.cond rfl (fun hcnd => absurd hcnd (by decide)) (fun hcnd => ?_)
      | refine T.seq ?_
      | refine T.block ?_
      | refine T.skip ?_
      | refine T.exit ?_

end Go.Proofs.YtfdknjjnifnobaaGreat

namespace Go.Proofs.YtfdknjjnifnobaaGreat
open Go Go.Av
attribute [local irreducible] T ACalls TX EX LX Draws Some_ ACallsX eTy eTm MTy.kind MTy.kids MTm.kind MTm.name MTm.num MTm.ty MTm.fr MTm.label MTm.kids
attribute [local simp] eTy_def eTm_def
set_option linter.unusedSimpArgs false
set_option linter.unusedVariables false
set_option maxHeartbeats 16000000
set_option maxRecDepth 8000
attribute [local simp] Option.bind

abbrev ruleR (o : Option MTm) : List AV := match o with
  | some x => [aTm x, .i 1]
  | none => [aTm zeroE, .i 3]

end Go.Proofs.YtfdknjjnifnobaaGreat

namespace Go.Proofs.YtfdknjjnifnobaaGreat
open Go Go.Av
attribute [local irreducible] T ACalls TX EX LX Draws Some_ ACallsX eTy eTm MTy.kind MTy.kids MTm.kind MTm.name MTm.num MTm.ty MTm.fr MTm.label MTm.kids
attribute [local simp] eTy_def eTm_def
set_option linter.unusedSimpArgs false
set_option linter.unusedVariables false
set_option maxHeartbeats 16000000
set_option maxRecDepth 8000

def cntP (l : List MTy) (p : Nat) : Nat := ((l.take p).map cntM).sum
end Go.Proofs.YtfdknjjnifnobaaGreat

namespace Go.Proofs.YtfdknjjnifnobaaGreat
open Go Go.Av
attribute [local irreducible] T ACalls TX EX LX Draws Some_ ACallsX eTy eTm MTy.kind MTy.kids MTm.kind MTm.name MTm.num MTm.ty MTm.fr MTm.label MTm.kids
attribute [local simp] eTy_def eTm_def
set_option linter.unusedSimpArgs false
set_option linter.unusedVariables false
set_option maxHeartbeats 16000000
set_option maxRecDepth 8000
@[simp] theorem td_uint : td Tryz.prog 132 = some { ag := false, sz := 1, by_ := 8, zero := some [.d (.int .u64 0)], el := none, ar := none, fl := [], ik := some .u64, isS := false, isB := false } := keep (by kernel_rfl)
@[simp] theorem td_intS2 : td Tryz.prog 51 = some { ag := false, sz := 1, by_ := 24, zero := some [.nil], el := some 3, ar := none, fl := [], ik := none, isS := false, isB := false } := keep (by kernel_rfl)

theorem wrap_i64_0 : IntKind.i64.wrap 0 = 0 := by decide
end Go.Proofs.YtfdknjjnifnobaaGreat

namespace Go.Proofs.YtfdknjjnifnobaaGreat
open Go Go.Av
attribute [local irreducible] T ACalls TX EX LX Draws Some_ ACallsX eTy eTm MTy.kind MTy.kids MTm.kind MTm.name MTm.num MTm.ty MTm.fr MTm.label MTm.kids
attribute [local simp] eTy_def eTm_def
set_option linter.unusedSimpArgs false
set_option linter.unusedVariables false
set_option maxHeartbeats 16000000
set_option maxRecDepth 8000

def redM (e : MTm) : Int := if castValidM e = true then ((castsM e).length : Int) - (castsM (simpM e)).length else 0

/-- A copy whose operands the caller may change. -/
abbrev tmOwn (e : MTm) : AV := .agg [.d (.i e.kind), .d (.str e.name), .d (.i e.num), .d (.i e.ty.kind), .d (.sl (e.ty.kids.map eTy)), .d (.i e.fr.kind), .d (.sl (e.fr.kids.map eTy)), .d (.i e.label), .own 0 e.kids.length]
/-- The operands, simplified as_ far as_ a place. -/
def mixM (l : List MTm) (p : Nat) : List MTm := (l.map simpM).take p ++ l.drop p
end Go.Proofs.YtfdknjjnifnobaaGreat

namespace Go.Proofs.YtfdknjjnifnobaaGreat
open Go Go.Av
attribute [local irreducible] T ACalls TX EX LX Draws Some_ ACallsX eTy eTm MTy.kind MTy.kids MTm.kind MTm.name MTm.num MTm.ty MTm.fr MTm.label MTm.kids
attribute [local simp] eTy_def eTm_def
set_option linter.unusedSimpArgs false
set_option linter.unusedVariables false
set_option maxHeartbeats 16000000
set_option maxRecDepth 8000
attribute [local simp] Option.bind

abbrev stepR (p : MTm × Int × Int) : List AV := [aTm p.1, .i p.2.1, .i p.2.2]

abbrev runR (p : MTm × Int × Int × Int) : List AV := [aTm p.1, .i p.2.1, .i p.2.2.1, .i p.2.2.2]

end Go.Proofs.YtfdknjjnifnobaaGreat

namespace Go.Proofs.YtfdknjjnifnobaaGreat
open Go Go.Av
attribute [local irreducible] T ACalls TX EX LX Draws Some_ ACallsX eTy eTm MTy.kind MTy.kids MTm.kind MTm.name MTm.num MTm.ty MTm.fr MTm.label MTm.kids
attribute [local simp] eTy_def eTm_def
set_option linter.unusedSimpArgs false
set_option linter.unusedVariables false
set_option maxHeartbeats 16000000
set_option maxRecDepth 8000
attribute [local simp] Option.bind

abbrev redR (e : MTm) : List AV := match ruleM e with
  | some x => [aTm x, .i 1, .i 0]
  | none => [aTm zeroE, .i 2, .i (wrongM e.kind)]

/-- The step, as_ the reference answers: nothing of a term that goes wrong. -/
def stepS (p : MTm × Int × Int) : MTm × Int × Int := if p.2.1 = 1 then (p.1, 1, 0) else (zeroE, p.2.1, p.2.2)

/-- A run, as_ the reference answers: nothing of a term that is not done. -/
def evR (p : MTm × Int × Int × Int) : MTm × Int × Int × Int := if p.2.1 = 1 then (zeroE, 5, 0, p.2.2.2) else p

end Go.Proofs.YtfdknjjnifnobaaGreat

namespace Go.Proofs.YtfdknjjnifnobaaGreat
open Go Go.Av
attribute [local irreducible] T ACalls TX EX LX Draws Some_ ACallsX eTy eTm MTy.kind MTy.kids MTm.kind MTm.name MTm.num MTm.ty MTm.fr MTm.label MTm.kids
attribute [local simp] eTy_def eTm_def
set_option linter.unusedSimpArgs false
set_option linter.unusedVariables false
set_option maxHeartbeats 16000000
set_option maxRecDepth 8000

theorem asAny_ok (e : MTm) : ACalls Tryz.prog 68 [aTm e] [] (aTm (asAnyM e)) [] [] := by
  have h1 := base_ok 1
  refine ACalls.of_body Tryz.func68 (by kernel_rfl) rfl (by kernel_rfl) (by simp [Tryz.ntmps68]) (by simp) ?_
  rw [Tryz.ntmps68]
  repeat' first
    | ((first | refine aops_end (hK _ ?_) | refine aopsD_end (hK _ ?_) | refine aopsF_end (hK _ ?_)); clear hK K)
    | ((first | refine aops_go ?_ | refine aopsD_go ?_ | refine aopsF_go ?_); simp; (try (refine gen fun q hq => ?_; cases q <;> (try simp at hq) <;> (try (have hh : True := hq; clear hh hq)))))
    | (refine wpcall_pure rfl (h1) ?_; simp; (try (refine gen fun q hq => ?_; cases q <;> (try simp at hq) <;> (try (have hh : True := hq; clear hh hq)))))
    | (refine T.ret (Done.val (Or.inr rfl) ?_) <;> simp [resAs, Tryz.results68, eTm_def] <;> omega)
    | refine T.rd (id := 1) mixed (fun _ => false) [4] (by kernel_rfl) fun K hK => ?_
    | refine T.rd1 (id := 1) mixed (fun _ => false) [4] (by kernel_rfl) fun K hK => ?_
    | refine T.rs (fun _ => false) fun K hK => ?_
    | refine T.rs1 (fun _ => false) fun K hK => ?_
    | (refine ⟨by omega, ?_⟩)
    | refine T.cond rfl (fun hcnd => ?_) (fun hcnd => absurd hcnd (by decide))
    | refine T.cond rfl (fun hcnd => absurd hcnd (by decide)) (fun hcnd => ?_)
    | refine T.seq ?_
    | refine T.block ?_
    | refine T.skip ?_
    | refine T.exit ?_

theorem l9As_ok (e : MTm) : ACalls Tryz.prog 139 [aTm e] [] (aTm (asAnyM e)) [] [] := by
  have h1 := l1Any_ok
  refine ACalls.of_body Tryz.func139 (by kernel_rfl) rfl (by kernel_rfl) (by simp [Tryz.ntmps139]) (by simp) ?_
  rw [Tryz.ntmps139]
  repeat' first
    | ((first | refine aops_end (hK _ ?_) | refine aopsD_end (hK _ ?_) | refine aopsF_end (hK _ ?_)); clear hK K)
    | ((first | refine aops_go ?_ | refine aopsD_go ?_ | refine aopsF_go ?_); simp; (try (refine gen fun q hq => ?_; cases q <;> (try simp at hq) <;> (try (have hh : True := hq; clear hh hq)))))
    | (refine wpcall_pure rfl (h1) ?_; simp; (try (refine gen fun q hq => ?_; cases q <;> (try simp at hq) <;> (try (have hh : True := hq; clear hh hq)))))
    | (refine T.ret (Done.val (Or.inr rfl) ?_) <;> simp [resAs, Tryz.results139, eTm_def] <;> omega)
    | refine T.rd (id := 1) mixed (fun _ => false) [4] (by kernel_rfl) fun K hK => ?_
    | refine T.rd1 (id := 1) mixed (fun _ => false) [4] (by kernel_rfl) fun K hK => ?_
    | refine T.rs (fun _ => false) fun K hK => ?_
    | refine T.rs1 (fun _ => false) fun K hK => ?_
    | (refine ⟨by omega, ?_⟩)
    | refine T.cond rfl (fun hcnd => ?_) (fun hcnd => absurd hcnd (by decide))
    | refine T.cond rfl (fun hcnd => absurd hcnd (by decide)) (fun hcnd => ?_)
    | refine T.seq ?_
    | refine T.block ?_
    | refine T.skip ?_
    | refine T.exit ?_

theorem checkedTerm_ok (e : MTm) (hn : nTm e ≤ 1073741824) : ACalls Tryz.prog 64 [aTm e] [] (.tup (tmRes (if termValidM e = true then some e else none))) [] [] := by
  have h1 := TermValid_ok e (by omega)
  have h2 := own_ok e (by omega)
  cases hv : termValidM e with
  | false =>
    rw [hv] at h1
    simp only [Bool.false_eq_true, if_false, tmRes]
    refine ACalls.of_body Tryz.func64 (by kernel_rfl) rfl (by kernel_rfl) (by simp [Tryz.ntmps64]) (by simp) ?_
    rw [Tryz.ntmps64]
    repeat' first
      | ((first | refine aops_end (hK _ ?_) | refine aopsD_end (hK _ ?_) | refine aopsF_end (hK _ ?_)); clear hK K)
      | ((first | refine aops_go ?_ | refine aopsD_go ?_ | refine aopsF_go ?_); simp; (try (refine gen fun q hq => ?_; cases q <;> (try simp at hq) <;> (try (have hh : True := hq; clear hh hq)))))
      | (refine wpcall_pure rfl (h1) ?_; simp; (try (refine gen fun q hq => ?_; cases q <;> (try simp at hq) <;> (try (have hh : True := hq; clear hh hq)))))
      | (refine T.ret (Done.tup (Or.inr rfl) ?_) <;> simp [resAs, Tryz.results64] <;> omega)
      | refine T.rs (fun _ => false) fun K hK => ?_
      | refine T.rs1 (fun _ => false) fun K hK => ?_
      | (refine ⟨by omega, ?_⟩)
      | refine T.cond rfl (fun hcnd => ?_) (fun hcnd => absurd hcnd (by decide))
      | refine T.cond rfl (fun hcnd => absurd hcnd (by decide)) (fun hcnd => ?_)
      | refine T.seq ?_
      | refine T.block ?_
      | refine T.skip ?_
      | refine T.exit ?_
  | true =>
    rw [hv] at h1
    simp only [if_true, tmRes]
    refine ACalls.of_body Tryz.func64 (by kernel_rfl) rfl (by kernel_rfl) (by simp [Tryz.ntmps64]) (by simp) ?_
    rw [Tryz.ntmps64]
    repeat' first
      | ((first | refine aops_end (hK _ ?_) | refine aopsD_end (hK _ ?_) | refine aopsF_end (hK _ ?_)); clear hK K)
      | ((first | refine aops_go ?_ | refine aopsD_go ?_ | refine aopsF_go ?_); simp; (try (refine gen fun q hq => ?_; cases q <;> (try simp at hq) <;> (try (have hh : True := hq; clear hh hq)))))
      | (refine wpcall_pure rfl (h1) ?_; simp; (try (refine gen fun q hq => ?_; cases q <;> (try simp at hq) <;> (try (have hh : True := hq; clear hh hq)))))
      | (refine wpcall_pure rfl (h2) ?_; simp; (try (refine gen fun q hq => ?_; cases q <;> (try simp at hq) <;> (try (have hh : True := hq; clear hh hq)))))
      | (refine T.ret (Done.tup (Or.inr rfl) ?_) <;> simp [resAs, Tryz.results64] <;> omega)
      | refine T.rs (fun _ => false) fun K hK => ?_
      | refine T.rs1 (fun _ => false) fun K hK => ?_
      | (refine ⟨by omega, ?_⟩)
      | refine T.cond rfl (fun hcnd => ?_) (fun hcnd => absurd hcnd (by decide))
      | refine T.cond rfl (fun hcnd => absurd hcnd (by decide)) (fun hcnd => ?_)
      | refine T.seq ?_
      | refine T.block ?_
      | refine T.skip ?_
      | refine T.exit ?_

theorem embed1_ok (e : MTm) (h13 : e.kind = 13 → ∃ x, e.kids = [x]) : ACalls Tryz.prog 66 [aTm e] [] (aTm (embG e)) [] [] := by
  have h1 := base_ok 1
  by_cases hk : e.kind = 13
  · obtain ⟨x, hx⟩ := h13 hk
    rw [show embG e = x by simp [embG, hk, hx]]
    refine ACalls.of_body Tryz.func66 (by kernel_rfl) rfl (by kernel_rfl) (by simp [Tryz.ntmps66]) (by simp) ?_
    rw [Tryz.ntmps66]
    repeat' first
      | ((first | refine aops_end (hK _ ?_) | refine aopsD_end (hK _ ?_) | refine aopsF_end (hK _ ?_)); clear hK K)
      | ((first | refine aops_go ?_ | refine aopsD_go ?_ | refine aopsF_go ?_); simp [hk, hx, eTm_def]; (try (refine gen fun q hq => ?_; cases q <;> (try simp [hk, hx, eTm_def] at hq) <;> (try (have hh : True := hq; clear hh hq)))))
      | (refine T.ret (Done.val (Or.inr rfl) ?_) <;> simp [resAs, Tryz.results66] <;> omega)
      | refine T.rs (fun _ => false) fun K hK => ?_
      | refine T.rs1 (fun _ => false) fun K hK => ?_
      | (refine ⟨by omega, ?_⟩)
      | refine T.cond rfl (fun hcnd => ?_) (fun hcnd => absurd hcnd (by decide))
      | refine T.cond rfl (fun hcnd => absurd hcnd (by decide)) (fun hcnd => ?_)
      | refine T.seq ?_
      | refine T.block ?_
      | refine T.skip ?_
      | refine T.exit ?_
  by_cases ho : e.kind = 1 ∨ e.kind = 6 ∨ e.kind = 9 ∨ e.kind = 11 ∨ e.kind = 12
  · rw [show embG e = e by simp [embG, hk, ho]]
    rcases ho with ho | ho | ho | ho | ho
    · refine ACalls.of_body Tryz.func66 (by kernel_rfl) rfl (by kernel_rfl) (by simp [Tryz.ntmps66]) (by simp) ?_
      rw [Tryz.ntmps66]
      repeat' first
        | ((first | refine aops_end (hK _ ?_) | refine aopsD_end (hK _ ?_) | refine aopsF_end (hK _ ?_)); clear hK K)
        | ((first | refine aops_go ?_ | refine aopsD_go ?_ | refine aopsF_go ?_); simp [ho]; (try (refine gen fun q hq => ?_; cases q <;> (try simp [ho] at hq) <;> (try (have hh : True := hq; clear hh hq)))))
        | (refine T.ret (Done.val (Or.inr rfl) ?_) <;> simp [resAs, Tryz.results66, ho] <;> omega)
        | refine T.rs (fun _ => false) fun K hK => ?_
        | refine T.rs1 (fun _ => false) fun K hK => ?_
        | (refine ⟨by omega, ?_⟩)
        | refine T.cond rfl (fun hcnd => ?_) (fun hcnd => absurd hcnd (by decide))
        | refine T.cond rfl (fun hcnd => absurd hcnd (by decide)) (fun hcnd => ?_)
        | refine T.seq ?_
        | refine T.block ?_
        | refine T.skip ?_
        | refine T.exit ?_
    · refine ACalls.of_body Tryz.func66 (by kernel_rfl) rfl (by kernel_rfl) (by simp [Tryz.ntmps66]) (by simp) ?_
      rw [Tryz.ntmps66]
      repeat' first
        | ((first | refine aops_end (hK _ ?_) | refine aopsD_end (hK _ ?_) | refine aopsF_end (hK _ ?_)); clear hK K)
        | ((first | refine aops_go ?_ | refine aopsD_go ?_ | refine aopsF_go ?_); simp [ho]; (try (refine gen fun q hq => ?_; cases q <;> (try simp [ho] at hq) <;> (try (have hh : True := hq; clear hh hq)))))
        | (refine T.ret (Done.val (Or.inr rfl) ?_) <;> simp [resAs, Tryz.results66, ho] <;> omega)
        | refine T.rs (fun _ => false) fun K hK => ?_
        | refine T.rs1 (fun _ => false) fun K hK => ?_
        | (refine ⟨by omega, ?_⟩)
        | refine T.cond rfl (fun hcnd => ?_) (fun hcnd => absurd hcnd (by decide))
        | refine T.cond rfl (fun hcnd => absurd hcnd (by decide)) (fun hcnd => ?_)
        | refine T.seq ?_
        | refine T.block ?_
        | refine T.skip ?_
        | refine T.exit ?_
    · refine ACalls.of_body Tryz.func66 (by kernel_rfl) rfl (by kernel_rfl) (by simp [Tryz.ntmps66]) (by simp) ?_
      rw [Tryz.ntmps66]
      repeat' first
        | ((first | refine aops_end (hK _ ?_) | refine aopsD_end (hK _ ?_) | refine aopsF_end (hK _ ?_)); clear hK K)
        | ((first | refine aops_go ?_ | refine aopsD_go ?_ | refine aopsF_go ?_); simp [ho]; (try (refine gen fun q hq => ?_; cases q <;> (try simp [ho] at hq) <;> (try (have hh : True := hq; clear hh hq)))))
        | (refine T.ret (Done.val (Or.inr rfl) ?_) <;> simp [resAs, Tryz.results66, ho] <;> omega)
        | refine T.rs (fun _ => false) fun K hK => ?_
        | refine T.rs1 (fun _ => false) fun K hK => ?_
        | (refine ⟨by omega, ?_⟩)
        | refine T.cond rfl (fun hcnd => ?_) (fun hcnd => absurd hcnd (by decide))
        | refine T.cond rfl (fun hcnd => absurd hcnd (by decide)) (fun hcnd => ?_)
        | refine T.seq ?_
        | refine T.block ?_
        | refine T.skip ?_
        | refine T.exit ?_
    · refine ACalls.of_body Tryz.func66 (by kernel_rfl) rfl (by kernel_rfl) (by simp [Tryz.ntmps66]) (by simp) ?_
      rw [Tryz.ntmps66]
      repeat' first
        | ((first | refine aops_end (hK _ ?_) | refine aopsD_end (hK _ ?_) | refine aopsF_end (hK _ ?_)); clear hK K)
        | ((first | refine aops_go ?_ | refine aopsD_go ?_ | refine aopsF_go ?_); simp [ho]; (try (refine gen fun q hq => ?_; cases q <;> (try simp [ho] at hq) <;> (try (have hh : True := hq; clear hh hq)))))
        | (refine T.ret (Done.val (Or.inr rfl) ?_) <;> simp [resAs, Tryz.results66, ho] <;> omega)
        | refine T.rs (fun _ => false) fun K hK => ?_
        | refine T.rs1 (fun _ => false) fun K hK => ?_
        | (refine ⟨by omega, ?_⟩)
        | refine T.cond rfl (fun hcnd => ?_) (fun hcnd => absurd hcnd (by decide))
        | refine T.cond rfl (fun hcnd => absurd hcnd (by decide)) (fun hcnd => ?_)
        | refine T.seq ?_
        | refine T.block ?_
        | refine T.skip ?_
        | refine T.exit ?_
    · refine ACalls.of_body Tryz.func66 (by kernel_rfl) rfl (by kernel_rfl) (by simp [Tryz.ntmps66]) (by simp) ?_
      rw [Tryz.ntmps66]
      repeat' first
        | ((first | refine aops_end (hK _ ?_) | refine aopsD_end (hK _ ?_) | refine aopsF_end (hK _ ?_)); clear hK K)
        | ((first | refine aops_go ?_ | refine aopsD_go ?_ | refine aopsF_go ?_); simp [ho]; (try (refine gen fun q hq => ?_; cases q <;> (try simp [ho] at hq) <;> (try (have hh : True := hq; clear hh hq)))))
        | (refine T.ret (Done.val (Or.inr rfl) ?_) <;> simp [resAs, Tryz.results66, ho] <;> omega)
        | refine T.rs (fun _ => false) fun K hK => ?_
        | refine T.rs1 (fun _ => false) fun K hK => ?_
        | (refine ⟨by omega, ?_⟩)
        | refine T.cond rfl (fun hcnd => ?_) (fun hcnd => absurd hcnd (by decide))
        | refine T.cond rfl (fun hcnd => absurd hcnd (by decide)) (fun hcnd => ?_)
        | refine T.seq ?_
        | refine T.block ?_
        | refine T.skip ?_
        | refine T.exit ?_
  have g1 : ¬ e.kind = 1 := fun h => ho (.inl h)
  have g2 : ¬ e.kind = 6 := fun h => ho (.inr (.inl h))
  have g3 : ¬ e.kind = 9 := fun h => ho (.inr (.inr (.inl h)))
  have g4 : ¬ e.kind = 11 := fun h => ho (.inr (.inr (.inr (.inl h))))
  have g5 : ¬ e.kind = 12 := fun h => ho (.inr (.inr (.inr (.inr h))))
  by_cases h5 : e.kind = 5
  · rw [show embG e = asAnyM (.mk 5 e.name e.num anyT e.fr e.label e.kids) by simp [embG, h5]]
    have h2 := asAny_ok (.mk 5 e.name e.num anyT e.fr e.label e.kids)
    generalize asAnyM (.mk 5 e.name e.num anyT e.fr e.label e.kids) = R at *
    refine ACalls.of_body Tryz.func66 (by kernel_rfl) rfl (by kernel_rfl) (by simp [Tryz.ntmps66]) (by simp) ?_
    rw [Tryz.ntmps66]
    repeat' first
      | ((first | refine aops_end (hK _ ?_) | refine aopsD_end (hK _ ?_) | refine aopsF_end (hK _ ?_)); clear hK K)
      | ((first | refine aops_go ?_ | refine aopsD_go ?_ | refine aopsF_go ?_); simp [h5]; (try (refine gen fun q hq => ?_; cases q <;> (try simp [h5] at hq) <;> (try (have hh : True := hq; clear hh hq)))))
      | (refine wpcall_pure rfl (h1) ?_; simp [h5]; (try (refine gen fun q hq => ?_; cases q <;> (try simp [h5] at hq) <;> (try (have hh : True := hq; clear hh hq)))))
      | (refine wpcall_pure ?_ (h2) ?_; (focus (solve | simp [h5])); simp [h5]; (try (refine gen fun q hq => ?_; cases q <;> (try simp [h5] at hq) <;> (try (have hh : True := hq; clear hh hq)))))
      | (refine T.ret (Done.val (Or.inr rfl) ?_) <;> simp [resAs, Tryz.results66] <;> omega)
      | refine T.rs (fun _ => false) fun K hK => ?_
      | refine T.rs1 (fun _ => false) fun K hK => ?_
      | (refine ⟨by omega, ?_⟩)
      | refine T.cond rfl (fun hcnd => ?_) (fun hcnd => absurd hcnd (by decide))
      | refine T.cond rfl (fun hcnd => absurd hcnd (by decide)) (fun hcnd => ?_)
      | refine T.seq ?_
      | refine T.block ?_
      | refine T.skip ?_
      | refine T.exit ?_
  · rw [show embG e = asAnyM e by simp [embG, hk, ho, h5]]
    have h2 := asAny_ok e
    generalize asAnyM e = R at *
    refine ACalls.of_body Tryz.func66 (by kernel_rfl) rfl (by kernel_rfl) (by simp [Tryz.ntmps66]) (by simp) ?_
    rw [Tryz.ntmps66]
    repeat' first
      | ((first | refine aops_end (hK _ ?_) | refine aopsD_end (hK _ ?_) | refine aopsF_end (hK _ ?_)); clear hK K)
      | ((first | refine aops_go ?_ | refine aopsD_go ?_ | refine aopsF_go ?_); simp [hk, g1, g2, g3, g4, g5, h5]; (try (refine gen fun q hq => ?_; cases q <;> (try simp [hk, g1, g2, g3, g4, g5, h5] at hq) <;> (try (have hh : True := hq; clear hh hq)))))
      | (refine wpcall_pure rfl (h2) ?_; simp [hk, g1, g2, g3, g4, g5, h5]; (try (refine gen fun q hq => ?_; cases q <;> (try simp [hk, g1, g2, g3, g4, g5, h5] at hq) <;> (try (have hh : True := hq; clear hh hq)))))
      | (refine T.ret (Done.val (Or.inr rfl) ?_) <;> simp [resAs, Tryz.results66] <;> omega)
      | refine T.rs (fun _ => false) fun K hK => ?_
      | refine T.rs1 (fun _ => false) fun K hK => ?_
      | (refine ⟨by omega, ?_⟩)
      | refine T.cond rfl (fun hcnd => ?_) (fun hcnd => absurd hcnd (by decide))
      | refine T.cond rfl (fun hcnd => absurd hcnd (by decide)) (fun hcnd => ?_)
      | refine T.seq ?_
      | refine T.block ?_
      | refine T.skip ?_
      | refine T.exit ?_

theorem EmbedTerm_ok (e : MTm) (hn : nTm e ≤ 1073741824) : ACalls Tryz.prog 14 [aTm e] [] (.tup (tmRes (embedTermM e))) [] [] := by
  have h1 := TermValid_ok e (by omega)
  rw [embedTermM]
  cases hv : termValidM e with
  | false =>
    rw [hv] at h1
    simp only [Bool.false_eq_true, if_false, tmRes]
    refine ACalls.of_body Tryz.func14 (by kernel_rfl) rfl (by kernel_rfl) (by simp [Tryz.ntmps14]) (by simp) ?_
    rw [Tryz.ntmps14]
    repeat' first
      | ((first | refine aops_end (hK _ ?_) | refine aopsD_end (hK _ ?_) | refine aopsF_end (hK _ ?_)); clear hK K)
      | ((first | refine aops_go ?_ | refine aopsD_go ?_ | refine aopsF_go ?_); simp; (try (refine gen fun q hq => ?_; cases q <;> (try simp at hq) <;> (try (have hh : True := hq; clear hh hq)))))
      | (refine wpcall_pure rfl (h1) ?_; simp; (try (refine gen fun q hq => ?_; cases q <;> (try simp at hq) <;> (try (have hh : True := hq; clear hh hq)))))
      | (refine T.ret (Done.tup (Or.inr rfl) ?_) <;> simp [resAs, Tryz.results14] <;> omega)
      | refine T.rs (fun _ => false) fun K hK => ?_
      | refine T.rs1 (fun _ => false) fun K hK => ?_
      | (refine ⟨by omega, ?_⟩)
      | refine T.cond rfl (fun hcnd => ?_) (fun hcnd => absurd hcnd (by decide))
      | refine T.cond rfl (fun hcnd => absurd hcnd (by decide)) (fun hcnd => ?_)
      | refine T.seq ?_
      | refine T.block ?_
      | refine T.skip ?_
      | refine T.exit ?_
  | true =>
    rw [hv] at h1
    have h2 := mapped_ok 66 embG (fun e => ∃ d, TmV 14 d e) (fun e h u hu => by
        obtain ⟨d, h⟩ := h
        obtain ⟨d', rfl, _, _, _, hk⟩ := shapeTm_kids h.shape
        exact ⟨d', TmV.of (hk u hu)⟩) (fun e h => by
        obtain ⟨d, h⟩ := h
        rw [mapM_def]
        exact embed1_ok _ (fun hk => by
          obtain ⟨x, hx⟩ := h.plain.1 (.inl (by simpa using hk))
          exact ⟨mapM embG x, by simp [hx]⟩)) e ⟨12, (termValidM_iff.1 hv).1⟩ (by omega)
    have h3 := checkedTerm_ok (embM e) (by have := emb_small hv; omega)
    rw [embM] at h3 ⊢
    generalize mapM embG e = R at *
    simp only [if_true]
    cases hr : termValidM R with
    | false =>
      rw [hr] at h3
      simp only [Bool.false_eq_true, if_false, tmRes] at h3 ⊢
      refine ACalls.of_body Tryz.func14 (by kernel_rfl) rfl (by kernel_rfl) (by simp [Tryz.ntmps14]) (by simp) ?_
      rw [Tryz.ntmps14]
      repeat' first
        | ((first | refine aops_end (hK _ ?_) | refine aopsD_end (hK _ ?_) | refine aopsF_end (hK _ ?_)); clear hK K)
        | ((first | refine aops_go ?_ | refine aopsD_go ?_ | refine aopsF_go ?_); simp; (try (refine gen fun q hq => ?_; cases q <;> (try simp at hq) <;> (try (have hh : True := hq; clear hh hq)))))
        | (refine wpcall_pure rfl (h1) ?_; simp; (try (refine gen fun q hq => ?_; cases q <;> (try simp at hq) <;> (try (have hh : True := hq; clear hh hq)))))
        | (refine wpcall_pure rfl (h2) ?_; simp; (try (refine gen fun q hq => ?_; cases q <;> (try simp at hq) <;> (try (have hh : True := hq; clear hh hq)))))
        | (refine wpcall_pure rfl (h3) ?_; simp; (try (refine gen fun q hq => ?_; cases q <;> (try simp at hq) <;> (try (have hh : True := hq; clear hh hq)))))
        | (refine T.ret (Done.tup (Or.inr rfl) ?_) <;> simp [resAs, Tryz.results14] <;> omega)
        | refine T.rs (fun _ => false) fun K hK => ?_
        | refine T.rs1 (fun _ => false) fun K hK => ?_
        | (refine ⟨by omega, ?_⟩)
        | refine T.cond rfl (fun hcnd => ?_) (fun hcnd => absurd hcnd (by decide))
        | refine T.cond rfl (fun hcnd => absurd hcnd (by decide)) (fun hcnd => ?_)
        | refine T.seq ?_
        | refine T.block ?_
        | refine T.skip ?_
        | refine T.exit ?_
    | true =>
      rw [hr] at h3
      simp only [if_true, tmRes] at h3 ⊢
      refine ACalls.of_body Tryz.func14 (by kernel_rfl) rfl (by kernel_rfl) (by simp [Tryz.ntmps14]) (by simp) ?_
      rw [Tryz.ntmps14]
      repeat' first
        | ((first | refine aops_end (hK _ ?_) | refine aopsD_end (hK _ ?_) | refine aopsF_end (hK _ ?_)); clear hK K)
        | ((first | refine aops_go ?_ | refine aopsD_go ?_ | refine aopsF_go ?_); simp; (try (refine gen fun q hq => ?_; cases q <;> (try simp at hq) <;> (try (have hh : True := hq; clear hh hq)))))
        | (refine wpcall_pure rfl (h1) ?_; simp; (try (refine gen fun q hq => ?_; cases q <;> (try simp at hq) <;> (try (have hh : True := hq; clear hh hq)))))
        | (refine wpcall_pure rfl (h2) ?_; simp; (try (refine gen fun q hq => ?_; cases q <;> (try simp at hq) <;> (try (have hh : True := hq; clear hh hq)))))
        | (refine wpcall_pure rfl (h3) ?_; simp; (try (refine gen fun q hq => ?_; cases q <;> (try simp at hq) <;> (try (have hh : True := hq; clear hh hq)))))
        | (refine T.ret (Done.tup (Or.inr rfl) ?_) <;> simp [resAs, Tryz.results14] <;> omega)
        | refine T.rs (fun _ => false) fun K hK => ?_
        | refine T.rs1 (fun _ => false) fun K hK => ?_
        | (refine ⟨by omega, ?_⟩)
        | refine T.cond rfl (fun hcnd => ?_) (fun hcnd => absurd hcnd (by decide))
        | refine T.cond rfl (fun hcnd => absurd hcnd (by decide)) (fun hcnd => ?_)
        | refine T.seq ?_
        | refine T.block ?_
        | refine T.skip ?_
        | refine T.exit ?_

theorem l9Embed_out (e : MTm) (h13 : ¬ e.kind = 13) (ho : e.kind = 1 ∨ e.kind = 6 ∨ e.kind = 9 ∨ e.kind = 11 ∨ e.kind = 12) (hn : nTm e ≤ 1073741824)
    (ih : ∀ u ∈ e.kids, ACalls Tryz.prog 70 [aTm u] [] (aTm (embM u)) [] []) : ACalls Tryz.prog 70 [aTm e] [] (aTm (.mk e.kind e.name e.num zeroT zeroT 0 (e.kids.map embM))) [] [] := by
  have hnk2 : e.kids.length ≤ 1073741824 := by have := nTmS_len e.kids; rw [nTm_def] at hn; omega
  have hany := l1Any_ok
  have h5 : ¬ e.kind = 5 := by omega
  refine ACalls.of_body Tryz.func70 (by kernel_rfl) rfl (by kernel_rfl) (by simp [Tryz.ntmps70]) (by simp) ?_
  rw [Tryz.ntmps70]
  repeat' first
    | ((first | refine aops_end (hK _ ?_) | refine aopsD_end (hK _ ?_) | refine aopsF_end (hK _ ?_)); clear hK K)
    | ((first | refine aops_go ?_ | refine aopsD_go ?_ | refine aopsF_go ?_); simp [h13, h5]; (try (refine gen fun q hq => ?_; cases q <;> (try simp [h13, h5] at hq) <;> (try (have hh : True := hq; clear hh hq)))))
    | (refine wpcall_pure rfl (hany) ?_; simp [h13, h5]; (try (refine gen fun q hq => ?_; cases q <;> (try simp [h13, h5] at hq) <;> (try (have hh : True := hq; clear hh hq)))))
    | refine T.rd (id := 9) mixed (fun _ => false) [9, 11] (by kernel_rfl) fun K hK => ?_
    | refine T.rd1 (id := 9) mixed (fun _ => false) [9, 11] (by kernel_rfl) fun K hK => ?_
    | refine T.rs (fun _ => false) fun K hK => ?_
    | refine T.rs1 (fun _ => false) fun K hK => ?_
    | (refine ⟨by omega, ?_⟩)
    | refine T.cond rfl (fun hcnd => ?_) (fun hcnd => absurd hcnd (by decide))
    | refine T.cond rfl (fun hcnd => absurd hcnd (by decide)) (fun hcnd => ?_)
    | refine T.seq ?_
    | refine T.block ?_
    | refine T.skip ?_
    | refine T.exit ?_
  refine T.ownifyObj 2 8 9 28 (row := [.d (.i e.kind), .d (.str e.name), .d (.i e.num), .d (.i 0), .nil, .d (.i 0), .nil, .d (.i 0), .nil]) (by simp) (by simp) ?_
  refine T.loopK (α := Nat) [1, 2, 3] (fun x => [(4, .i x)]) (fun x => [(2, [.d (.i e.kind), .d (.str e.name), .d (.i e.num), .d (.i 0), .nil, .d (.i 0), .nil, .d (.i 0), .own 0 x])]) (fun x => []) (fun p _ => [{ sz := 9, ety := 28, rows := ((e.kids.map embM).take p).map eTm, wr := true }]) (fun x => e.kids.length + 1 - x) (fun x => x ≤ e.kids.length) (by simp; rfl) (fun p hp => ?_) 0 (by simp) (by simp) (by simp) (by simp)
  dsimp only at hp ⊢
  simp only [ups, List.set_cons_zero, List.set_cons_succ, List.cons_append, List.nil_append, List.append_nil]
  by_cases hlt : p < e.kids.length
  · obtain ⟨u, ht⟩ := get_lt hlt
    have htm : u ∈ e.kids := List.mem_of_getElem? ht
    have hgt : e.kids[p] = u := by rw [List.getElem?_eq_getElem hlt] at ht; exact Option.some.inj ht
    have hdr : e.kids.drop p = u :: e.kids.drop (p + 1) := by rw [List.drop_eq_getElem_cons hlt, hgt]
    have hu := ih u htm
    have htk : (e.kids.map embM).take (p + 1) = (e.kids.map embM).take p ++ [embM u] := by rw [List.take_add_one, List.getElem?_map, ht]; rfl
    have hlm : min p (e.kids.map embM).length = p := by simp; omega
    generalize e.kids.map embM = Z at *
    generalize embM u = su at *
    repeat' first
      | ((first | refine aops_end (hK _ ?_) | refine aopsD_end (hK _ ?_) | refine aopsF_end (hK _ ?_)); clear hK K)
      | ((first | refine aops_go ?_ | refine aopsD_go ?_ | refine aopsF_go ?_); simp [hlt, hgt, hlm]; (try simp (disch := omega) only [wrap64]); (try (refine gen fun q hq => ?_; cases q <;> (try simp [hlt, hgt, hlm] at hq) <;> (try (have hh : True := hq; clear hh hq)))))
      | (refine wpcall_pure rfl (hu) ?_; simp [hlt, hgt, hlm]; (try simp (disch := omega) only [wrap64]); (try (refine gen fun q hq => ?_; cases q <;> (try simp [hlt, hgt, hlm] at hq) <;> (try (have hh : True := hq; clear hh hq)))))
      | (refine ⟨by omega, by omega, ?_⟩)
      | (refine ⟨p + 1, by dsimp only; omega, by dsimp only; omega, ?_, ?_, ?_⟩ <;> simp (disch := omega) [ups, wrap64, htk, eTm_def, hlm])
      | refine T.rd (id := 9) mixed (fun _ => false) [9, 11] (by kernel_rfl) fun K hK => ?_
      | refine T.rd1 (id := 9) mixed (fun _ => false) [9, 11] (by kernel_rfl) fun K hK => ?_
      | refine T.rs (fun _ => false) fun K hK => ?_
      | refine T.rs1 (fun _ => false) fun K hK => ?_
      | (refine ⟨by omega, ?_⟩)
      | refine T.cond rfl (fun hcnd => ?_) (fun hcnd => absurd hcnd (by decide))
      | refine T.cond rfl (fun hcnd => absurd hcnd (by decide)) (fun hcnd => ?_)
      | refine T.seq ?_
      | refine T.block ?_
      | refine T.skip ?_
      | refine T.exit ?_
  · have hp' : p = e.kids.length := by omega
    subst hp'
    have hlm : (e.kids.map embM).length = e.kids.length := by simp
    rw [List.take_of_length_le (by omega)]
    generalize e.kids.map embM = Z at *
    rcases ho with ho | ho | ho | ho | ho
    · repeat' first
        | ((first | refine aops_end (hK _ ?_) | refine aopsD_end (hK _ ?_) | refine aopsF_end (hK _ ?_)); clear hK K)
        | ((first | refine aops_go ?_ | refine aopsD_go ?_ | refine aopsF_go ?_); simp [hlt, hlm, ho]; (try (refine gen fun q hq => ?_; cases q <;> (try simp [hlt, hlm, ho] at hq) <;> (try (have hh : True := hq; clear hh hq)))))
        | (refine T.ret (Done.val (Or.inr rfl) ?_) <;> simp [resAs, Tryz.results70, hlm, ho] <;> omega)
        | refine T.rd (id := 9) mixed (fun _ => false) [9, 11] (by kernel_rfl) fun K hK => ?_
        | refine T.rd1 (id := 9) mixed (fun _ => false) [9, 11] (by kernel_rfl) fun K hK => ?_
        | refine T.rs (fun _ => false) fun K hK => ?_
        | refine T.rs1 (fun _ => false) fun K hK => ?_
        | (refine ⟨by omega, ?_⟩)
        | refine T.cond rfl (fun hcnd => ?_) (fun hcnd => absurd hcnd (by decide))
        | refine T.cond rfl (fun hcnd => absurd hcnd (by decide)) (fun hcnd => ?_)
        | refine T.seq ?_
        | refine T.block ?_
        | refine T.skip ?_
        | refine T.exit ?_
    · repeat' first
        | ((first | refine aops_end (hK _ ?_) | refine aopsD_end (hK _ ?_) | refine aopsF_end (hK _ ?_)); clear hK K)
        | ((first | refine aops_go ?_ | refine aopsD_go ?_ | refine aopsF_go ?_); simp [hlt, hlm, ho]; (try (refine gen fun q hq => ?_; cases q <;> (try simp [hlt, hlm, ho] at hq) <;> (try (have hh : True := hq; clear hh hq)))))
        | (refine T.ret (Done.val (Or.inr rfl) ?_) <;> simp [resAs, Tryz.results70, hlm, ho] <;> omega)
        | refine T.rd (id := 9) mixed (fun _ => false) [9, 11] (by kernel_rfl) fun K hK => ?_
        | refine T.rd1 (id := 9) mixed (fun _ => false) [9, 11] (by kernel_rfl) fun K hK => ?_
        | refine T.rs (fun _ => false) fun K hK => ?_
        | refine T.rs1 (fun _ => false) fun K hK => ?_
        | (refine ⟨by omega, ?_⟩)
        | refine T.cond rfl (fun hcnd => ?_) (fun hcnd => absurd hcnd (by decide))
        | refine T.cond rfl (fun hcnd => absurd hcnd (by decide)) (fun hcnd => ?_)
        | refine T.seq ?_
        | refine T.block ?_
        | refine T.skip ?_
        | refine T.exit ?_
    · repeat' first
        | ((first | refine aops_end (hK _ ?_) | refine aopsD_end (hK _ ?_) | refine aopsF_end (hK _ ?_)); clear hK K)
        | ((first | refine aops_go ?_ | refine aopsD_go ?_ | refine aopsF_go ?_); simp [hlt, hlm, ho]; (try (refine gen fun q hq => ?_; cases q <;> (try simp [hlt, hlm, ho] at hq) <;> (try (have hh : True := hq; clear hh hq)))))
        | (refine T.ret (Done.val (Or.inr rfl) ?_) <;> simp [resAs, Tryz.results70, hlm, ho] <;> omega)
        | refine T.rd (id := 9) mixed (fun _ => false) [9, 11] (by kernel_rfl) fun K hK => ?_
        | refine T.rd1 (id := 9) mixed (fun _ => false) [9, 11] (by kernel_rfl) fun K hK => ?_
        | refine T.rs (fun _ => false) fun K hK => ?_
        | refine T.rs1 (fun _ => false) fun K hK => ?_
        | (refine ⟨by omega, ?_⟩)
        | refine T.cond rfl (fun hcnd => ?_) (fun hcnd => absurd hcnd (by decide))
        | refine T.cond rfl (fun hcnd => absurd hcnd (by decide)) (fun hcnd => ?_)
        | refine T.seq ?_
        | refine T.block ?_
        | refine T.skip ?_
        | refine T.exit ?_
    · repeat' first
        | ((first | refine aops_end (hK _ ?_) | refine aopsD_end (hK _ ?_) | refine aopsF_end (hK _ ?_)); clear hK K)
        | ((first | refine aops_go ?_ | refine aopsD_go ?_ | refine aopsF_go ?_); simp [hlt, hlm, ho]; (try (refine gen fun q hq => ?_; cases q <;> (try simp [hlt, hlm, ho] at hq) <;> (try (have hh : True := hq; clear hh hq)))))
        | (refine T.ret (Done.val (Or.inr rfl) ?_) <;> simp [resAs, Tryz.results70, hlm, ho] <;> omega)
        | refine T.rd (id := 9) mixed (fun _ => false) [9, 11] (by kernel_rfl) fun K hK => ?_
        | refine T.rd1 (id := 9) mixed (fun _ => false) [9, 11] (by kernel_rfl) fun K hK => ?_
        | refine T.rs (fun _ => false) fun K hK => ?_
        | refine T.rs1 (fun _ => false) fun K hK => ?_
        | (refine ⟨by omega, ?_⟩)
        | refine T.cond rfl (fun hcnd => ?_) (fun hcnd => absurd hcnd (by decide))
        | refine T.cond rfl (fun hcnd => absurd hcnd (by decide)) (fun hcnd => ?_)
        | refine T.seq ?_
        | refine T.block ?_
        | refine T.skip ?_
        | refine T.exit ?_
    · repeat' first
        | ((first | refine aops_end (hK _ ?_) | refine aopsD_end (hK _ ?_) | refine aopsF_end (hK _ ?_)); clear hK K)
        | ((first | refine aops_go ?_ | refine aopsD_go ?_ | refine aopsF_go ?_); simp [hlt, hlm, ho]; (try (refine gen fun q hq => ?_; cases q <;> (try simp [hlt, hlm, ho] at hq) <;> (try (have hh : True := hq; clear hh hq)))))
        | (refine T.ret (Done.val (Or.inr rfl) ?_) <;> simp [resAs, Tryz.results70, hlm, ho] <;> omega)
        | refine T.rd (id := 9) mixed (fun _ => false) [9, 11] (by kernel_rfl) fun K hK => ?_
        | refine T.rd1 (id := 9) mixed (fun _ => false) [9, 11] (by kernel_rfl) fun K hK => ?_
        | refine T.rs (fun _ => false) fun K hK => ?_
        | refine T.rs1 (fun _ => false) fun K hK => ?_
        | (refine ⟨by omega, ?_⟩)
        | refine T.cond rfl (fun hcnd => ?_) (fun hcnd => absurd hcnd (by decide))
        | refine T.cond rfl (fun hcnd => absurd hcnd (by decide)) (fun hcnd => ?_)
        | refine T.seq ?_
        | refine T.block ?_
        | refine T.skip ?_
        | refine T.exit ?_

theorem l9Embed_lam (e : MTm) (h13 : ¬ e.kind = 13) (h5 : e.kind = 5) (hn : nTm e ≤ 1073741824)
    (ih : ∀ u ∈ e.kids, ACalls Tryz.prog 70 [aTm u] [] (aTm (embM u)) [] []) : ACalls Tryz.prog 70 [aTm e] [] (aTm (asAnyM (.mk e.kind e.name e.num anyT zeroT 0 (e.kids.map embM)))) [] [] := by
  have hnk2 : e.kids.length ≤ 1073741824 := by have := nTmS_len e.kids; rw [nTm_def] at hn; omega
  have hany := l1Any_ok
  have has := l9As_ok (.mk e.kind e.name e.num anyT zeroT 0 (e.kids.map embM))
  refine ACalls.of_body Tryz.func70 (by kernel_rfl) rfl (by kernel_rfl) (by simp [Tryz.ntmps70]) (by simp) ?_
  rw [Tryz.ntmps70]
  repeat' first
    | ((first | refine aops_end (hK _ ?_) | refine aopsD_end (hK _ ?_) | refine aopsF_end (hK _ ?_)); clear hK K)
    | ((first | refine aops_go ?_ | refine aopsD_go ?_ | refine aopsF_go ?_); simp [h13, h5]; (try (refine gen fun q hq => ?_; cases q <;> (try simp [h13, h5] at hq) <;> (try (have hh : True := hq; clear hh hq)))))
    | (refine wpcall_pure rfl (hany) ?_; simp [h13, h5]; (try (refine gen fun q hq => ?_; cases q <;> (try simp [h13, h5] at hq) <;> (try (have hh : True := hq; clear hh hq)))))
    | refine T.rd (id := 9) mixed (fun _ => false) [9, 11] (by kernel_rfl) fun K hK => ?_
    | refine T.rd1 (id := 9) mixed (fun _ => false) [9, 11] (by kernel_rfl) fun K hK => ?_
    | refine T.rs (fun _ => false) fun K hK => ?_
    | refine T.rs1 (fun _ => false) fun K hK => ?_
    | (refine ⟨by omega, ?_⟩)
    | refine T.cond rfl (fun hcnd => ?_) (fun hcnd => absurd hcnd (by decide))
    | refine T.cond rfl (fun hcnd => absurd hcnd (by decide)) (fun hcnd => ?_)
    | refine T.seq ?_
    | refine T.block ?_
    | refine T.skip ?_
    | refine T.exit ?_
  refine T.ownifyObj 2 8 9 28 (row := [.d (.i 5), .d (.str e.name), .d (.i e.num), .d (.i 1), .d (.sl []), .d (.i 0), .nil, .d (.i 0), .nil]) (by simp) (by simp) ?_
  refine T.loopK (α := Nat) [1, 2, 3] (fun x => [(4, .i x)]) (fun x => [(2, [.d (.i 5), .d (.str e.name), .d (.i e.num), .d (.i 1), .d (.sl []), .d (.i 0), .nil, .d (.i 0), .own 0 x])]) (fun x => []) (fun p _ => [{ sz := 9, ety := 28, rows := ((e.kids.map embM).take p).map eTm, wr := true }]) (fun x => e.kids.length + 1 - x) (fun x => x ≤ e.kids.length) (by simp; rfl) (fun p hp => ?_) 0 (by simp) (by simp) (by simp) (by simp)
  dsimp only at hp ⊢
  simp only [ups, List.set_cons_zero, List.set_cons_succ, List.cons_append, List.nil_append, List.append_nil]
  by_cases hlt : p < e.kids.length
  · obtain ⟨u, ht⟩ := get_lt hlt
    have htm : u ∈ e.kids := List.mem_of_getElem? ht
    have hgt : e.kids[p] = u := by rw [List.getElem?_eq_getElem hlt] at ht; exact Option.some.inj ht
    have hdr : e.kids.drop p = u :: e.kids.drop (p + 1) := by rw [List.drop_eq_getElem_cons hlt, hgt]
    have hu := ih u htm
    have htk : (e.kids.map embM).take (p + 1) = (e.kids.map embM).take p ++ [embM u] := by rw [List.take_add_one, List.getElem?_map, ht]; rfl
    have hlm : min p (e.kids.map embM).length = p := by simp; omega
    generalize e.kids.map embM = Z at *
    generalize embM u = su at *
    repeat' first
      | ((first | refine aops_end (hK _ ?_) | refine aopsD_end (hK _ ?_) | refine aopsF_end (hK _ ?_)); clear hK K)
      | ((first | refine aops_go ?_ | refine aopsD_go ?_ | refine aopsF_go ?_); simp [hlt, hgt, hlm]; (try simp (disch := omega) only [wrap64]); (try (refine gen fun q hq => ?_; cases q <;> (try simp [hlt, hgt, hlm] at hq) <;> (try (have hh : True := hq; clear hh hq)))))
      | (refine wpcall_pure rfl (hu) ?_; simp [hlt, hgt, hlm]; (try simp (disch := omega) only [wrap64]); (try (refine gen fun q hq => ?_; cases q <;> (try simp [hlt, hgt, hlm] at hq) <;> (try (have hh : True := hq; clear hh hq)))))
      | (refine ⟨by omega, by omega, ?_⟩)
      | (refine ⟨p + 1, by dsimp only; omega, by dsimp only; omega, ?_, ?_, ?_⟩ <;> simp (disch := omega) [ups, wrap64, htk, eTm_def, hlm])
      | refine T.rd (id := 9) mixed (fun _ => false) [9, 11] (by kernel_rfl) fun K hK => ?_
      | refine T.rd1 (id := 9) mixed (fun _ => false) [9, 11] (by kernel_rfl) fun K hK => ?_
      | refine T.rs (fun _ => false) fun K hK => ?_
      | refine T.rs1 (fun _ => false) fun K hK => ?_
      | (refine ⟨by omega, ?_⟩)
      | refine T.cond rfl (fun hcnd => ?_) (fun hcnd => absurd hcnd (by decide))
      | refine T.cond rfl (fun hcnd => absurd hcnd (by decide)) (fun hcnd => ?_)
      | refine T.seq ?_
      | refine T.block ?_
      | refine T.skip ?_
      | refine T.exit ?_
  · have hp' : p = e.kids.length := by omega
    subst hp'
    have hlm : (e.kids.map embM).length = e.kids.length := by simp
    rw [List.take_of_length_le (by omega)]
    generalize e.kids.map embM = Z at *
    generalize hR : asAnyM (.mk e.kind e.name e.num anyT zeroT 0 Z) = R at *
    repeat' first
      | ((first | refine aops_end (hK _ ?_) | refine aopsD_end (hK _ ?_) | refine aopsF_end (hK _ ?_)); clear hK K)
      | ((first | refine aops_go ?_ | refine aopsD_go ?_ | refine aopsF_go ?_); simp [hlt, hlm, h5]; (try (refine gen fun q hq => ?_; cases q <;> (try simp [hlt, hlm, h5] at hq) <;> (try (have hh : True := hq; clear hh hq)))))
      | (refine wpcall_pure ?_ (has) ?_; (focus (solve | simp [hlt, hlm, h5])); simp [hlt, hlm, h5]; (try (refine gen fun q hq => ?_; cases q <;> (try simp [hlt, hlm, h5] at hq) <;> (try (have hh : True := hq; clear hh hq)))))
      | (refine T.ret (Done.val (Or.inr rfl) ?_) <;> simp [resAs, Tryz.results70] <;> omega)
      | refine T.rd (id := 9) mixed (fun _ => false) [9, 11] (by kernel_rfl) fun K hK => ?_
      | refine T.rd1 (id := 9) mixed (fun _ => false) [9, 11] (by kernel_rfl) fun K hK => ?_
      | refine T.rs (fun _ => false) fun K hK => ?_
      | refine T.rs1 (fun _ => false) fun K hK => ?_
      | (refine ⟨by omega, ?_⟩)
      | refine T.cond rfl (fun hcnd => ?_) (fun hcnd => absurd hcnd (by decide))
      | refine T.cond rfl (fun hcnd => absurd hcnd (by decide)) (fun hcnd => ?_)
      | refine T.seq ?_
      | refine T.block ?_
      | refine T.skip ?_
      | refine T.exit ?_

theorem l9Embed_oth (e : MTm) (h13 : ¬ e.kind = 13) (ho : ¬ (e.kind = 1 ∨ e.kind = 6 ∨ e.kind = 9 ∨ e.kind = 11 ∨ e.kind = 12)) (h5 : ¬ e.kind = 5) (hn : nTm e ≤ 1073741824)
    (ih : ∀ u ∈ e.kids, ACalls Tryz.prog 70 [aTm u] [] (aTm (embM u)) [] []) : ACalls Tryz.prog 70 [aTm e] [] (aTm (asAnyM (.mk e.kind e.name e.num zeroT zeroT 0 (e.kids.map embM)))) [] [] := by
  have hnk2 : e.kids.length ≤ 1073741824 := by have := nTmS_len e.kids; rw [nTm_def] at hn; omega
  have hany := l1Any_ok
  have has := l9As_ok (.mk e.kind e.name e.num zeroT zeroT 0 (e.kids.map embM))
  have g1 : ¬ e.kind = 1 := fun h => ho (.inl h)
  have g2 : ¬ e.kind = 6 := fun h => ho (.inr (.inl h))
  have g3 : ¬ e.kind = 9 := fun h => ho (.inr (.inr (.inl h)))
  have g4 : ¬ e.kind = 11 := fun h => ho (.inr (.inr (.inr (.inl h))))
  have g5 : ¬ e.kind = 12 := fun h => ho (.inr (.inr (.inr (.inr h))))
  refine ACalls.of_body Tryz.func70 (by kernel_rfl) rfl (by kernel_rfl) (by simp [Tryz.ntmps70]) (by simp) ?_
  rw [Tryz.ntmps70]
  repeat' first
    | ((first | refine aops_end (hK _ ?_) | refine aopsD_end (hK _ ?_) | refine aopsF_end (hK _ ?_)); clear hK K)
    | ((first | refine aops_go ?_ | refine aopsD_go ?_ | refine aopsF_go ?_); simp [h13, h5]; (try (refine gen fun q hq => ?_; cases q <;> (try simp [h13, h5] at hq) <;> (try (have hh : True := hq; clear hh hq)))))
    | (refine wpcall_pure rfl (hany) ?_; simp [h13, h5]; (try (refine gen fun q hq => ?_; cases q <;> (try simp [h13, h5] at hq) <;> (try (have hh : True := hq; clear hh hq)))))
    | refine T.rd (id := 9) mixed (fun _ => false) [9, 11] (by kernel_rfl) fun K hK => ?_
    | refine T.rd1 (id := 9) mixed (fun _ => false) [9, 11] (by kernel_rfl) fun K hK => ?_
    | refine T.rs (fun _ => false) fun K hK => ?_
    | refine T.rs1 (fun _ => false) fun K hK => ?_
    | (refine ⟨by omega, ?_⟩)
    | refine T.cond rfl (fun hcnd => ?_) (fun hcnd => absurd hcnd (by decide))
    | refine T.cond rfl (fun hcnd => absurd hcnd (by decide)) (fun hcnd => ?_)
    | refine T.seq ?_
    | refine T.block ?_
    | refine T.skip ?_
    | refine T.exit ?_
  refine T.ownifyObj 2 8 9 28 (row := [.d (.i e.kind), .d (.str e.name), .d (.i e.num), .d (.i 0), .nil, .d (.i 0), .nil, .d (.i 0), .nil]) (by simp) (by simp) ?_
  refine T.loopK (α := Nat) [1, 2, 3] (fun x => [(4, .i x)]) (fun x => [(2, [.d (.i e.kind), .d (.str e.name), .d (.i e.num), .d (.i 0), .nil, .d (.i 0), .nil, .d (.i 0), .own 0 x])]) (fun x => []) (fun p _ => [{ sz := 9, ety := 28, rows := ((e.kids.map embM).take p).map eTm, wr := true }]) (fun x => e.kids.length + 1 - x) (fun x => x ≤ e.kids.length) (by simp; rfl) (fun p hp => ?_) 0 (by simp) (by simp) (by simp) (by simp)
  dsimp only at hp ⊢
  simp only [ups, List.set_cons_zero, List.set_cons_succ, List.cons_append, List.nil_append, List.append_nil]
  by_cases hlt : p < e.kids.length
  · obtain ⟨u, ht⟩ := get_lt hlt
    have htm : u ∈ e.kids := List.mem_of_getElem? ht
    have hgt : e.kids[p] = u := by rw [List.getElem?_eq_getElem hlt] at ht; exact Option.some.inj ht
    have hdr : e.kids.drop p = u :: e.kids.drop (p + 1) := by rw [List.drop_eq_getElem_cons hlt, hgt]
    have hu := ih u htm
    have htk : (e.kids.map embM).take (p + 1) = (e.kids.map embM).take p ++ [embM u] := by rw [List.take_add_one, List.getElem?_map, ht]; rfl
    have hlm : min p (e.kids.map embM).length = p := by simp; omega
    generalize e.kids.map embM = Z at *
    generalize embM u = su at *
    repeat' first
      | ((first | refine aops_end (hK _ ?_) | refine aopsD_end (hK _ ?_) | refine aopsF_end (hK _ ?_)); clear hK K)
      | ((first | refine aops_go ?_ | refine aopsD_go ?_ | refine aopsF_go ?_); simp [hlt, hgt, hlm]; (try simp (disch := omega) only [wrap64]); (try (refine gen fun q hq => ?_; cases q <;> (try simp [hlt, hgt, hlm] at hq) <;> (try (have hh : True := hq; clear hh hq)))))
      | (refine wpcall_pure rfl (hu) ?_; simp [hlt, hgt, hlm]; (try simp (disch := omega) only [wrap64]); (try (refine gen fun q hq => ?_; cases q <;> (try simp [hlt, hgt, hlm] at hq) <;> (try (have hh : True := hq; clear hh hq)))))
      | (refine ⟨by omega, by omega, ?_⟩)
      | (refine ⟨p + 1, by dsimp only; omega, by dsimp only; omega, ?_, ?_, ?_⟩ <;> simp (disch := omega) [ups, wrap64, htk, eTm_def, hlm])
      | refine T.rd (id := 9) mixed (fun _ => false) [9, 11] (by kernel_rfl) fun K hK => ?_
      | refine T.rd1 (id := 9) mixed (fun _ => false) [9, 11] (by kernel_rfl) fun K hK => ?_
      | refine T.rs (fun _ => false) fun K hK => ?_
      | refine T.rs1 (fun _ => false) fun K hK => ?_
      | (refine ⟨by omega, ?_⟩)
      | refine T.cond rfl (fun hcnd => ?_) (fun hcnd => absurd hcnd (by decide))
      | refine T.cond rfl (fun hcnd => absurd hcnd (by decide)) (fun hcnd => ?_)
      | refine T.seq ?_
      | refine T.block ?_
      | refine T.skip ?_
      | refine T.exit ?_
  · have hp' : p = e.kids.length := by omega
    subst hp'
    have hlm : (e.kids.map embM).length = e.kids.length := by simp
    rw [List.take_of_length_le (by omega)]
    generalize e.kids.map embM = Z at *
    generalize hR : asAnyM (.mk e.kind e.name e.num zeroT zeroT 0 Z) = R at *
    repeat' first
      | ((first | refine aops_end (hK _ ?_) | refine aopsD_end (hK _ ?_) | refine aopsF_end (hK _ ?_)); clear hK K)
      | ((first | refine aops_go ?_ | refine aopsD_go ?_ | refine aopsF_go ?_); simp [hlt, hlm, g1, g2, g3, g4, g5]; (try (refine gen fun q hq => ?_; cases q <;> (try simp [hlt, hlm, g1, g2, g3, g4, g5] at hq) <;> (try (have hh : True := hq; clear hh hq)))))
      | (refine wpcall_pure ?_ (has) ?_; (focus (solve | simp [hlt, hlm, g1, g2, g3, g4, g5])); simp [hlt, hlm, g1, g2, g3, g4, g5]; (try (refine gen fun q hq => ?_; cases q <;> (try simp [hlt, hlm, g1, g2, g3, g4, g5] at hq) <;> (try (have hh : True := hq; clear hh hq)))))
      | (refine T.ret (Done.val (Or.inr rfl) ?_) <;> simp [resAs, Tryz.results70] <;> omega)
      | refine T.rd (id := 9) mixed (fun _ => false) [9, 11] (by kernel_rfl) fun K hK => ?_
      | refine T.rd1 (id := 9) mixed (fun _ => false) [9, 11] (by kernel_rfl) fun K hK => ?_
      | refine T.rs (fun _ => false) fun K hK => ?_
      | refine T.rs1 (fun _ => false) fun K hK => ?_
      | (refine ⟨by omega, ?_⟩)
      | refine T.cond rfl (fun hcnd => ?_) (fun hcnd => absurd hcnd (by decide))
      | refine T.cond rfl (fun hcnd => absurd hcnd (by decide)) (fun hcnd => ?_)
      | refine T.seq ?_
      | refine T.block ?_
      | refine T.skip ?_
      | refine T.exit ?_

theorem l9Embed_ok : ∀ (e : MTm) (d : Nat), TmV 14 d e → nTm e ≤ 1073741824 → ACalls Tryz.prog 70 [aTm e] [] (aTm (embM e)) [] [] := by
  intro e
  induction e using MTm.ind with
  | h e ih =>
    intro d hv hn
    obtain ⟨hp1, hp2⟩ := hv.plain
    obtain ⟨d', rfl, hne, _, _, hk⟩ := shapeTm_kids hv.shape
    have ih' : ∀ u ∈ e.kids, ACalls Tryz.prog 70 [aTm u] [] (aTm (embM u)) [] [] := fun u hu => ih u hu d' (TmV.of (hk u hu)) (by have := nTmS_mem hu; rw [nTm_def] at hn; omega)
    by_cases hh : e.kind = 13
    · obtain ⟨x, hx⟩ := hp1 (.inl hh)
      have h1 := ih' x (by simp [hx])
      rw [show embM e = embM x by rw [embM, mapM_def]; simp [embG, hh, hx, embM]]
      generalize embM x = R at *
      refine ACalls.of_body Tryz.func70 (by kernel_rfl) rfl (by kernel_rfl) (by simp [Tryz.ntmps70]) (by simp) ?_
      rw [Tryz.ntmps70]
      repeat' first
        | ((first | refine aops_end (hK _ ?_) | refine aopsD_end (hK _ ?_) | refine aopsF_end (hK _ ?_)); clear hK K)
        | ((first | refine aops_go ?_ | refine aopsD_go ?_ | refine aopsF_go ?_); simp [hh, hx, eTm_def]; (try (refine gen fun q hq => ?_; cases q <;> (try simp [hh, hx, eTm_def] at hq) <;> (try (have hh : True := hq; clear hh hq)))))
        | (refine wpcall_pure ?_ (h1) ?_; (focus (solve | simp [hh, hx, eTm_def])); simp [hh, hx, eTm_def]; (try (refine gen fun q hq => ?_; cases q <;> (try simp [hh, hx, eTm_def] at hq) <;> (try (have hh : True := hq; clear hh hq)))))
        | (refine T.ret (Done.val (Or.inr rfl) ?_) <;> simp [resAs, Tryz.results70] <;> omega)
        | refine T.rd (id := 9) mixed (fun _ => false) [9, 11] (by kernel_rfl) fun K hK => ?_
        | refine T.rd1 (id := 9) mixed (fun _ => false) [9, 11] (by kernel_rfl) fun K hK => ?_
        | refine T.rs (fun _ => false) fun K hK => ?_
        | refine T.rs1 (fun _ => false) fun K hK => ?_
        | (refine ⟨by omega, ?_⟩)
        | refine T.cond rfl (fun hcnd => ?_) (fun hcnd => absurd hcnd (by decide))
        | refine T.cond rfl (fun hcnd => absurd hcnd (by decide)) (fun hcnd => ?_)
        | refine T.seq ?_
        | refine T.block ?_
        | refine T.skip ?_
        | refine T.exit ?_
    · obtain ⟨hf, hl, ht⟩ := hp2 (fun h => h.elim hh hne)
      have e0 : embM e = embG (.mk e.kind e.name e.num e.ty e.fr e.label (e.kids.map embM)) := by rw [embM, mapM_def]; rfl
      rw [e0, hf, hl]
      by_cases h5 : e.kind = 5
      · have := l9Embed_lam e hh h5 hn ih'
        rw [show embG (.mk e.kind e.name e.num e.ty zeroT 0 (e.kids.map embM)) = asAnyM (.mk e.kind e.name e.num anyT zeroT 0 (e.kids.map embM)) by simp [embG, h5]]
        exact this
      · rw [ht h5]
        by_cases ho : e.kind = 1 ∨ e.kind = 6 ∨ e.kind = 9 ∨ e.kind = 11 ∨ e.kind = 12
        · rw [show embG (.mk e.kind e.name e.num zeroT zeroT 0 (e.kids.map embM)) = .mk e.kind e.name e.num zeroT zeroT 0 (e.kids.map embM) by simp [embG, hh, ho]]
          exact l9Embed_out e hh ho hn ih'
        · rw [show embG (.mk e.kind e.name e.num zeroT zeroT 0 (e.kids.map embM)) = asAnyM (.mk e.kind e.name e.num zeroT zeroT 0 (e.kids.map embM)) by simp [embG, hh, ho, h5]]
          exact l9Embed_oth e hh ho h5 hn ih'

theorem EmbedTermS_ok (e : MTm) (hn : nTm e ≤ 1073741824) : ACalls Tryz.prog 15 [aTm e] [] (.tup (tmRes (embedTermM e))) [] [] := by
  have h1 := TermValidS_ok e (by omega)
  rw [embedTermM]
  cases hv : termValidM e with
  | false =>
    rw [hv] at h1
    simp only [Bool.false_eq_true, if_false, tmRes]
    refine ACalls.of_body Tryz.func15 (by kernel_rfl) rfl (by kernel_rfl) (by simp [Tryz.ntmps15]) (by simp) ?_
    rw [Tryz.ntmps15]
    repeat' first
      | ((first | refine aops_end (hK _ ?_) | refine aopsD_end (hK _ ?_) | refine aopsF_end (hK _ ?_)); clear hK K)
      | ((first | refine aops_go ?_ | refine aopsD_go ?_ | refine aopsF_go ?_); simp; (try (refine gen fun q hq => ?_; cases q <;> (try simp at hq) <;> (try (have hh : True := hq; clear hh hq)))))
      | (refine wpcall_pure rfl (h1) ?_; simp; (try (refine gen fun q hq => ?_; cases q <;> (try simp at hq) <;> (try (have hh : True := hq; clear hh hq)))))
      | (refine T.ret (Done.tup (Or.inr rfl) ?_) <;> simp [resAs, Tryz.results15] <;> omega)
      | refine T.rs (fun _ => false) fun K hK => ?_
      | refine T.rs1 (fun _ => false) fun K hK => ?_
      | (refine ⟨by omega, ?_⟩)
      | refine T.cond rfl (fun hcnd => ?_) (fun hcnd => absurd hcnd (by decide))
      | refine T.cond rfl (fun hcnd => absurd hcnd (by decide)) (fun hcnd => ?_)
      | refine T.seq ?_
      | refine T.block ?_
      | refine T.skip ?_
      | refine T.exit ?_
  | true =>
    rw [hv] at h1
    have h2 := l9Embed_ok e 12 (termValidM_iff.1 hv).1 hn
    have h3 := TermValidS_ok (embM e) (by have := emb_small hv; omega)
    simp only [if_true]
    generalize embM e = R at *
    cases hr : termValidM R with
    | false =>
      rw [hr] at h3
      simp only [Bool.false_eq_true, if_false, tmRes]
      refine ACalls.of_body Tryz.func15 (by kernel_rfl) rfl (by kernel_rfl) (by simp [Tryz.ntmps15]) (by simp) ?_
      rw [Tryz.ntmps15]
      repeat' first
        | ((first | refine aops_end (hK _ ?_) | refine aopsD_end (hK _ ?_) | refine aopsF_end (hK _ ?_)); clear hK K)
        | ((first | refine aops_go ?_ | refine aopsD_go ?_ | refine aopsF_go ?_); simp; (try (refine gen fun q hq => ?_; cases q <;> (try simp at hq) <;> (try (have hh : True := hq; clear hh hq)))))
        | (refine wpcall_pure rfl (h1) ?_; simp; (try (refine gen fun q hq => ?_; cases q <;> (try simp at hq) <;> (try (have hh : True := hq; clear hh hq)))))
        | (refine wpcall_pure rfl (h2) ?_; simp; (try (refine gen fun q hq => ?_; cases q <;> (try simp at hq) <;> (try (have hh : True := hq; clear hh hq)))))
        | (refine wpcall_pure rfl (h3) ?_; simp; (try (refine gen fun q hq => ?_; cases q <;> (try simp at hq) <;> (try (have hh : True := hq; clear hh hq)))))
        | (refine T.ret (Done.tup (Or.inr rfl) ?_) <;> simp [resAs, Tryz.results15] <;> omega)
        | refine T.rs (fun _ => false) fun K hK => ?_
        | refine T.rs1 (fun _ => false) fun K hK => ?_
        | (refine ⟨by omega, ?_⟩)
        | refine T.cond rfl (fun hcnd => ?_) (fun hcnd => absurd hcnd (by decide))
        | refine T.cond rfl (fun hcnd => absurd hcnd (by decide)) (fun hcnd => ?_)
        | refine T.seq ?_
        | refine T.block ?_
        | refine T.skip ?_
        | refine T.exit ?_
    | true =>
      rw [hr] at h3
      simp only [if_true, tmRes]
      refine ACalls.of_body Tryz.func15 (by kernel_rfl) rfl (by kernel_rfl) (by simp [Tryz.ntmps15]) (by simp) ?_
      rw [Tryz.ntmps15]
      repeat' first
        | ((first | refine aops_end (hK _ ?_) | refine aopsD_end (hK _ ?_) | refine aopsF_end (hK _ ?_)); clear hK K)
        | ((first | refine aops_go ?_ | refine aopsD_go ?_ | refine aopsF_go ?_); simp; (try (refine gen fun q hq => ?_; cases q <;> (try simp at hq) <;> (try (have hh : True := hq; clear hh hq)))))
        | (refine wpcall_pure rfl (h1) ?_; simp; (try (refine gen fun q hq => ?_; cases q <;> (try simp at hq) <;> (try (have hh : True := hq; clear hh hq)))))
        | (refine wpcall_pure rfl (h2) ?_; simp; (try (refine gen fun q hq => ?_; cases q <;> (try simp at hq) <;> (try (have hh : True := hq; clear hh hq)))))
        | (refine wpcall_pure rfl (h3) ?_; simp; (try (refine gen fun q hq => ?_; cases q <;> (try simp at hq) <;> (try (have hh : True := hq; clear hh hq)))))
        | (refine T.ret (Done.tup (Or.inr rfl) ?_) <;> simp [resAs, Tryz.results15] <;> omega)
        | refine T.rs (fun _ => false) fun K hK => ?_
        | refine T.rs1 (fun _ => false) fun K hK => ?_
        | (refine ⟨by omega, ?_⟩)
        | refine T.cond rfl (fun hcnd => ?_) (fun hcnd => absurd hcnd (by decide))
        | refine T.cond rfl (fun hcnd => absurd hcnd (by decide)) (fun hcnd => ?_)
        | refine T.seq ?_
        | refine T.block ?_
        | refine T.skip ?_
        | refine T.exit ?_

theorem wrap_i64_1 : IntKind.i64.wrap 1 = 1 := by decide

theorem FormatAny_ok : ACalls Tryz.prog 20 [aTy anyT] [] (.s [63]) [] [] := by
  have h1 := TypeValid_ok anyT (by simp [nTy_mk, nTyS])
  rw [show shapeTy 4 anyT = true by simp [shapeTy, tyKids]] at h1
  have h2 : ACalls Tryz.prog 144 [.i 1] [] (.s [63]) [] [] := by
    refine ACalls.of_body Tryz.func144 (by kernel_rfl) rfl (by kernel_rfl) (by simp [Tryz.ntmps144]) (by simp) ?_
    rw [Tryz.ntmps144]
    repeat' first
      | ((first | refine aops_end (hK _ ?_) | refine aopsD_end (hK _ ?_) | refine aopsF_end (hK _ ?_)); clear hK K)
      | ((first | refine aops_go ?_ | refine aopsD_go ?_ | refine aopsF_go ?_); simp [wrap_i64_0, wrap_i64_1])
      | (refine T.ret (Done.data (Or.inr rfl) ?_ ?_) <;> simp [Tryz.results144] <;> omega)
      | refine T.rs (fun _ => false) fun K hK => ?_
      | refine T.rs1 (fun _ => false) fun K hK => ?_
      | (refine ⟨by omega, ?_⟩)
      | refine T.cond rfl (fun hcnd => ?_) (fun hcnd => absurd hcnd (by decide))
      | refine T.cond rfl (fun hcnd => absurd hcnd (by decide)) (fun hcnd => ?_)
      | refine T.seq ?_
      | refine T.block ?_
      | refine T.skip ?_
      | refine T.exit ?_
  have h3 : ACalls Tryz.prog 76 [aTy anyT] [] (.s [63]) [] [] := by
    refine ACalls.of_body Tryz.func76 (by kernel_rfl) rfl (by kernel_rfl) (by simp [Tryz.ntmps76]) (by simp) ?_
    rw [Tryz.ntmps76]
    repeat' first
      | ((first | refine aops_end (hK _ ?_) | refine aopsD_end (hK _ ?_) | refine aopsF_end (hK _ ?_)); clear hK K)
      | ((first | refine aops_go ?_ | refine aopsD_go ?_ | refine aopsF_go ?_); simp)
      | (refine wpcall_pure rfl (h2) ?_; simp)
      | (refine T.ret (Done.data (Or.inr rfl) ?_ ?_) <;> simp [Tryz.results76] <;> omega)
      | refine T.rd (id := 3) mixed (fun _ => false) [] (by kernel_rfl) fun K hK => ?_
      | refine T.rd1 (id := 3) mixed (fun _ => false) [] (by kernel_rfl) fun K hK => ?_
      | refine T.rs (fun _ => false) fun K hK => ?_
      | refine T.rs1 (fun _ => false) fun K hK => ?_
      | (refine ⟨by omega, ?_⟩)
      | refine T.cond rfl (fun hcnd => ?_) (fun hcnd => absurd hcnd (by decide))
      | refine T.cond rfl (fun hcnd => absurd hcnd (by decide)) (fun hcnd => ?_)
      | refine T.seq ?_
      | refine T.block ?_
      | refine T.skip ?_
      | refine T.exit ?_
  refine ACalls.of_body Tryz.func20 (by kernel_rfl) rfl (by kernel_rfl) (by simp [Tryz.ntmps20]) (by simp) ?_
  rw [Tryz.ntmps20]
  repeat' first
    | ((first | refine aops_end (hK _ ?_) | refine aopsD_end (hK _ ?_) | refine aopsF_end (hK _ ?_)); clear hK K)
    | ((first | refine aops_go ?_ | refine aopsD_go ?_ | refine aopsF_go ?_); simp)
    | (refine wpcall_pure ?_ (h1) ?_; (focus (solve | simp)); simp)
    | (refine wpcall_pure ?_ (h3) ?_; (focus (solve | simp)); simp)
    | (refine T.ret (Done.data (Or.inr rfl) ?_ ?_) <;> simp [Tryz.results20] <;> omega)
    | refine T.rs (fun _ => false) fun K hK => ?_
    | refine T.rs1 (fun _ => false) fun K hK => ?_
    | (refine ⟨by omega, ?_⟩)
    | refine T.cond rfl (fun hcnd => ?_) (fun hcnd => absurd hcnd (by decide))
    | refine T.cond rfl (fun hcnd => absurd hcnd (by decide)) (fun hcnd => ?_)
    | refine T.seq ?_
    | refine T.block ?_
    | refine T.skip ?_
    | refine T.exit ?_

end Go.Proofs.YtfdknjjnifnobaaGreat

namespace Go.Proofs.YtfdknjjnifnobaaGreat
open Go Go.Av
attribute [local irreducible] T ACalls TX EX LX Draws Some_ ACallsX eTy eTm MTy.kind MTy.kids MTm.kind MTm.name MTm.num MTm.ty MTm.fr MTm.label MTm.kids
attribute [local simp] eTy_def eTm_def
set_option linter.unusedSimpArgs false
set_option linter.unusedVariables false
set_option maxHeartbeats 16000000
set_option maxRecDepth 8000

end Go.Proofs.YtfdknjjnifnobaaGreat

namespace Go.Proofs.YtfdknjjnifnobaaGreat
open Go Go.Av
attribute [local irreducible] T ACalls TX EX LX Draws Some_ ACallsX eTy eTm MTy.kind MTy.kids MTm.kind MTm.name MTm.num MTm.ty MTm.fr MTm.label MTm.kids
attribute [local simp] eTy_def eTm_def
set_option linter.unusedSimpArgs false
set_option linter.unusedVariables false
set_option maxHeartbeats 16000000
set_option maxRecDepth 8000

def castC (e : MTm) (f t : MTy) (l : Int) : MTm := if sameTy f t = true then e else tCast e f t l
end Go.Proofs.YtfdknjjnifnobaaGreat

namespace Go.Proofs.YtfdknjjnifnobaaGreat
open Go Go.Av
attribute [local irreducible] T ACalls TX EX LX Draws Some_ ACallsX eTy eTm MTy.kind MTy.kids MTm.kind MTm.name MTm.num MTm.ty MTm.fr MTm.label MTm.kids
attribute [local simp] eTy_def eTm_def
set_option linter.unusedSimpArgs false
set_option linter.unusedVariables false
set_option maxHeartbeats 16000000
set_option maxRecDepth 8000

theorem bare_size {e : MTm} (h : termValidM e = true) : nTm (mapM bareG e) ≤ 9000 := by
  obtain ⟨h1, h2⟩ := termValidM_iff.1 h
  obtain ⟨_, h3, h4⟩ := bare_valid h1 (.inr rfl)
  have := h3.small
  omega

end Go.Proofs.YtfdknjjnifnobaaGreat

namespace Go.Proofs.YtfdknjjnifnobaaGreat
open Go Go.Av
attribute [local irreducible] T ACalls TX EX LX Draws Some_ ACallsX eTy eTm MTy.kind MTy.kids MTm.kind MTm.name MTm.num MTm.ty MTm.fr MTm.label MTm.kids
attribute [local simp] eTy_def eTm_def
set_option linter.unusedSimpArgs false
set_option linter.unusedVariables false
set_option maxHeartbeats 16000000
set_option maxRecDepth 8000

theorem DrawEmbedTerm_ok (b : List Int) (hb : ∀ n ∈ b, 0 ≤ n ∧ n ≤ 255) : Some_ Tryz.prog 13 [.l (rB b)] (RV aTm noA fun e => nTm e ≤ 3000000) := by
  obtain ⟨b, p, hb, hp, hc⟩ := l18Open_ok b hb
  refine Some_.of_body Tryz.func13 (by kernel_rfl) rfl (by kernel_rfl) (by simp [Tryz.ntmps13]) ?_
  rw [Tryz.ntmps13]
  repeat' first
    | ((first | refine aops_end (hK _ ?_) | refine aopsD_end (hK _ ?_) | refine aopsF_end (hK _ ?_)); clear hK K)
    | ((first | refine aops_go ?_ | refine aopsD_go ?_ | refine aopsF_go ?_); simp; (try simp (disch := omega) only [wrap64]); (try (refine gen fun q hq => ?_; cases q <;> (try simp at hq) <;> (try (have hh : True := hq; clear hh hq)))))
    | (refine wpcall_dr 1 rfl rfl (pick_ok b hb _ (by omega) 3 (by omega)) (fun x1 p1 hx1 hp1 hp1' => ?_); simp; (try simp (disch := omega) only [wrap64]); (try (refine gen fun q hq => ?_; cases q <;> (try simp at hq) <;> (try (have hh : True := hq; clear hh hq)))))
    | (refine wpcall_new1 rfl hc ?_; simp [back])
    | (refine wpcall_dr 1 rfl rfl (l2Term_ok b hb _ (by omega)) (fun e p1 he hp1 hp1' => ?_); simp)
    | (refine wpcall_dr 1 rfl rfl (l1DrawT_ok b hb 1 (by omega) _ (by omega)) (fun t p1 ht hp1 hp1' => ?_); simp)
    | (refine wpcall_dr 1 rfl rfl (num_ok b hb _ (by omega) [2, 3, 3, 4] (by simp) (by simp)) (fun z p1 hz hp1 hp1' => ?_); simp at hz; simp)
    | (refine wpcall_dr 1 rfl rfl (l3Make5_ok b hb [] (by simp) (by simp) _ (by assumption) _ (by omega) (by omega) _ (by omega)) (fun e p1 he hp1 hp1' => ?_); simp)
    | (refine wpcall_dr 1 rfl rfl (l2Mutate_ok b hb _ (by omega) _ (by omega)) (fun e3 p3 he3 hp3 hp3' => ?_); simp)
    | refine TX.rs (fun _ => false) fun K hK => ?_
    | refine TX.rs1 (fun _ => false) fun K hK => ?_
    | (refine ⟨by omega, ?_⟩)
    | refine TX.cond rfl (fun hcnd => ?_) (fun hcnd => absurd hcnd (by decide))
    | refine TX.cond rfl (fun hcnd => absurd hcnd (by decide)) (fun hcnd => ?_)
    | refine TX.seq ?_
    | refine TX.block ?_
    | refine TX.skip ?_
    | refine TX.exit ?_
    | refine EX.thenN ?_
    | refine EX.thenR ?_
    | refine EX.thenE ?_
    | refine EX.blockN ?_
    | refine EX.blockR ?_
    | refine EX.blockE ?_
    | refine EX.blockO (by simp) ?_
    | refine EX.outR ?_
    | refine EX.outE ?_
  all_goals (
    refine TX.ret ?_
    repeat' first | refine EX.outR ?_ | refine EX.thenR ?_ | refine EX.blockR ?_ | refine EX.unrR ?_
    apply EX.someA (ks := [])
    case he => exact Or.inr rfl
    case hys => simp [resAs, getAs, Tryz.results13] <;> rfl
    case hv => first | (dsimp only [Av.one]; exact rfl) | dsimp only [Av.one]
    case hx => repeat' first | exact IsT2.var _ | exact IsV.tmv _ | exact IsTm.var _ | exact IsTy.row _ | exact IsTm.row _ | exact IsTys.nil | exact IsTms.nil | exact IsBds.nil | exact IsTys.map _ | exact IsTms.map _ | exact IsBds.map _ | exact IsV.int _ | exact IsV.str _ | exact IsV.bool _ | apply IsV.p2 | apply IsV.p3 | apply IsV.tm | apply IsV.ty | apply IsTm.node | apply IsTy.of | apply IsTys.cons | apply IsTms.cons | apply IsBds.cons | apply IsV.tys | apply IsV.tms | apply IsV.bds | apply IsT2.node | apply IsTys.app | apply IsTms.app | apply IsBds.app
    case hA => exact rfl
    case hks => simp
    case hg => omega)

theorem lawEmbedTerm_ok (b : List Int) (hb : ∀ n ∈ b, 0 ≤ n ∧ n ≤ 255) : ACalls Tryz.prog 3 [.l (rB b)] [] (.b true) [] [] := by
  by_cases h1 : (1048576 : Int) < b.length
  · refine ACalls.of_body Tryz.func3 (by kernel_rfl) rfl (by kernel_rfl) (by simp [Tryz.ntmps3]) (by simp) ?_
    rw [Tryz.ntmps3]
    repeat' first
      | ((first | refine aops_end (hK _ ?_) | refine aopsD_end (hK _ ?_) | refine aopsF_end (hK _ ?_)); clear hK K)
      | ((first | refine aops_go ?_ | refine aopsD_go ?_ | refine aopsF_go ?_); simp [h1, rB_len]; (try (refine gen fun q hq => ?_; cases q <;> (try simp [h1, rB_len] at hq) <;> (try (have hh : True := hq; clear hh hq)))))
      | (refine T.ret (Done.data (Or.inr rfl) ?_ ?_) <;> simp [Tryz.results3] <;> omega)
      | refine T.rd (id := 11) mixed (fun _ => false) [] (by kernel_rfl) fun K hK => ?_
      | refine T.rd1 (id := 11) mixed (fun _ => false) [] (by kernel_rfl) fun K hK => ?_
      | refine T.rs (fun _ => false) fun K hK => ?_
      | refine T.rs1 (fun _ => false) fun K hK => ?_
      | (refine ⟨by omega, ?_⟩)
      | refine T.cond rfl (fun hcnd => ?_) (fun hcnd => absurd hcnd (by decide))
      | refine T.cond rfl (fun hcnd => absurd hcnd (by decide)) (fun hcnd => ?_)
      | refine T.seq ?_
      | refine T.block ?_
      | refine T.skip ?_
      | refine T.exit ?_
  obtain ⟨e, he, d1⟩ := (DrawEmbedTerm_ok b hb).elim
  have k1 := EmbedTerm_ok e (by omega)
  have k2 := EmbedTermS_ok e (by omega)
  have kz := TermSame_ok zeroE zeroE (by simp [nTm_mk, nTmS, nTy_mk, nTyS])
  rw [sameTm_refl] at kz
  cases hr : embedTermM e with
  | none =>
    rw [hr] at k1 k2
    simp only [tmRes] at k1 k2
    refine ACalls.of_body Tryz.func3 (by kernel_rfl) rfl (by kernel_rfl) (by simp [Tryz.ntmps3]) (by simp) ?_
    rw [Tryz.ntmps3]
    repeat' first
      | ((first | refine aops_end (hK _ ?_) | refine aopsD_end (hK _ ?_) | refine aopsF_end (hK _ ?_)); clear hK K)
      | ((first | refine aops_go ?_ | refine aopsD_go ?_ | refine aopsF_go ?_); simp [h1, rB_len]; (try (refine gen fun q hq => ?_; cases q <;> (try simp [h1, rB_len] at hq) <;> (try (have hh : True := hq; clear hh hq)))))
      | (refine wpcall_pure rfl (d1) ?_; simp [h1, rB_len]; (try (refine gen fun q hq => ?_; cases q <;> (try simp [h1, rB_len] at hq) <;> (try (have hh : True := hq; clear hh hq)))))
      | (refine wpcall_pure rfl (k1) ?_; simp [h1, rB_len]; (try (refine gen fun q hq => ?_; cases q <;> (try simp [h1, rB_len] at hq) <;> (try (have hh : True := hq; clear hh hq)))))
      | (refine wpcall_pure rfl (k2) ?_; simp [h1, rB_len]; (try (refine gen fun q hq => ?_; cases q <;> (try simp [h1, rB_len] at hq) <;> (try (have hh : True := hq; clear hh hq)))))
      | (refine wpcall_pure ?_ (kz) ?_; (focus (solve | simp [h1, rB_len])); simp [h1, rB_len]; (try (refine gen fun q hq => ?_; cases q <;> (try simp [h1, rB_len] at hq) <;> (try (have hh : True := hq; clear hh hq)))))
      | (refine T.ret (Done.data (Or.inr rfl) ?_ ?_) <;> simp [Tryz.results3] <;> omega)
      | refine T.rd (id := 11) mixed (fun _ => false) [] (by kernel_rfl) fun K hK => ?_
      | refine T.rd1 (id := 11) mixed (fun _ => false) [] (by kernel_rfl) fun K hK => ?_
      | refine T.rs (fun _ => false) fun K hK => ?_
      | refine T.rs1 (fun _ => false) fun K hK => ?_
      | (refine ⟨by omega, ?_⟩)
      | refine T.cond rfl (fun hcnd => ?_) (fun hcnd => absurd hcnd (by decide))
      | refine T.cond rfl (fun hcnd => absurd hcnd (by decide)) (fun hcnd => ?_)
      | refine T.seq ?_
      | refine T.block ?_
      | refine T.skip ?_
      | refine T.exit ?_
  | some x =>
    rw [hr] at k1 k2
    simp only [tmRes] at k1 k2
    obtain ⟨hv, hvx, rfl⟩ : termValidM e = true ∧ termValidM (embM e) = true ∧ x = embM e := by
      rw [embedTermM] at hr
      split at hr
      · split at hr
        · simp at hr; exact ⟨by assumption, by assumption, hr.symm⟩
        · simp at hr
      · simp at hr
    have hsx := emb_small hv
    have k3 := TermSame_ok (embM e) (embM e) (by omega)
    rw [sameTm_refl] at k3
    have k4 := TypeOf_ok (embM e) (by omega)
    rw [typeOf_of hvx, emb_typeM hv] at k4
    have k5 := BareTerm_some (embM e) (by omega) (.inl hvx)
    have k6 := BareTerm_some e (by omega) (.inl hv)
    rw [(emb_bare (termValidM_iff.1 hv).1).1] at k5
    have hbs := bare_size hv
    have k7 := TermSame_ok (mapM bareG e) (mapM bareG e) (by omega)
    rw [sameTm_refl] at k7
    have k8 := FreeNames_ok e (by omega)
    have k9 := FreeNames_ok (embM e) (by omega)
    rw [if_pos hv] at k8
    rw [if_pos hvx, emb_names hv] at k9
    have kf := FormatAny_ok
    generalize mapM bareG e = a at *
    generalize embM e = x at *
    by_cases hN : namesM e = []
    · rw [if_pos hN] at k4
      simp only [tyRes] at k4
      rw [hN] at k8 k9
      refine ACalls.of_body Tryz.func3 (by kernel_rfl) rfl (by kernel_rfl) (by simp [Tryz.ntmps3]) (by simp) ?_
      rw [Tryz.ntmps3]
      repeat' first
        | ((first | refine aops_end (hK _ ?_) | refine aopsD_end (hK _ ?_) | refine aopsF_end (hK _ ?_)); clear hK K)
        | ((first | refine aops_go ?_ | refine aopsD_go ?_ | refine aopsF_go ?_); simp [h1, rB_len]; (try (refine gen fun q hq => ?_; cases q <;> (try simp [h1, rB_len] at hq) <;> (try (have hh : True := hq; clear hh hq)))))
        | (refine wpcall_pure rfl (d1) ?_; simp [h1, rB_len]; (try (refine gen fun q hq => ?_; cases q <;> (try simp [h1, rB_len] at hq) <;> (try (have hh : True := hq; clear hh hq)))))
        | (refine wpcall_pure rfl (k1) ?_; simp [h1, rB_len]; (try (refine gen fun q hq => ?_; cases q <;> (try simp [h1, rB_len] at hq) <;> (try (have hh : True := hq; clear hh hq)))))
        | (refine wpcall_pure rfl (k2) ?_; simp [h1, rB_len]; (try (refine gen fun q hq => ?_; cases q <;> (try simp [h1, rB_len] at hq) <;> (try (have hh : True := hq; clear hh hq)))))
        | (refine wpcall_pure rfl (k3) ?_; simp [h1, rB_len]; (try (refine gen fun q hq => ?_; cases q <;> (try simp [h1, rB_len] at hq) <;> (try (have hh : True := hq; clear hh hq)))))
        | (refine wpcall_pure rfl (k4) ?_; simp [h1, rB_len]; (try (refine gen fun q hq => ?_; cases q <;> (try simp [h1, rB_len] at hq) <;> (try (have hh : True := hq; clear hh hq)))))
        | (refine wpcall_pure rfl (k5) ?_; simp [h1, rB_len]; (try (refine gen fun q hq => ?_; cases q <;> (try simp [h1, rB_len] at hq) <;> (try (have hh : True := hq; clear hh hq)))))
        | (refine wpcall_pure rfl (k6) ?_; simp [h1, rB_len]; (try (refine gen fun q hq => ?_; cases q <;> (try simp [h1, rB_len] at hq) <;> (try (have hh : True := hq; clear hh hq)))))
        | (refine wpcall_pure rfl (k7) ?_; simp [h1, rB_len]; (try (refine gen fun q hq => ?_; cases q <;> (try simp [h1, rB_len] at hq) <;> (try (have hh : True := hq; clear hh hq)))))
        | (refine wpcall_pure rfl (k8) ?_; simp [h1, rB_len]; (try (refine gen fun q hq => ?_; cases q <;> (try simp [h1, rB_len] at hq) <;> (try (have hh : True := hq; clear hh hq)))))
        | (refine wpcall_pure rfl (k9) ?_; simp [h1, rB_len]; (try (refine gen fun q hq => ?_; cases q <;> (try simp [h1, rB_len] at hq) <;> (try (have hh : True := hq; clear hh hq)))))
        | (refine wpcall_pure ?_ (kf) ?_; (focus (solve | simp [h1, rB_len])); simp [h1, rB_len]; (try (refine gen fun q hq => ?_; cases q <;> (try simp [h1, rB_len] at hq) <;> (try (have hh : True := hq; clear hh hq)))))
        | (refine T.ret (Done.data (Or.inr rfl) ?_ ?_) <;> simp [Tryz.results3] <;> omega)
        | refine T.rd (id := 11) mixed (fun _ => false) [] (by kernel_rfl) fun K hK => ?_
        | refine T.rd1 (id := 11) mixed (fun _ => false) [] (by kernel_rfl) fun K hK => ?_
        | refine T.rs (fun _ => false) fun K hK => ?_
        | refine T.rs1 (fun _ => false) fun K hK => ?_
        | (refine ⟨by omega, ?_⟩)
        | refine T.cond rfl (fun hcnd => ?_) (fun hcnd => absurd hcnd (by decide))
        | refine T.cond rfl (fun hcnd => absurd hcnd (by decide)) (fun hcnd => ?_)
        | refine T.seq ?_
        | refine T.block ?_
        | refine T.skip ?_
        | refine T.exit ?_
    · rw [if_neg hN] at k4
      simp only [tyRes] at k4
      generalize namesM e = N at *
      refine ACalls.of_body Tryz.func3 (by kernel_rfl) rfl (by kernel_rfl) (by simp [Tryz.ntmps3]) (by simp) ?_
      rw [Tryz.ntmps3]
      repeat' first
        | ((first | refine aops_end (hK _ ?_) | refine aopsD_end (hK _ ?_) | refine aopsF_end (hK _ ?_)); clear hK K)
        | ((first | refine aops_go ?_ | refine aopsD_go ?_ | refine aopsF_go ?_); simp [h1, rB_len, hN]; (try (refine gen fun q hq => ?_; cases q <;> (try simp [h1, rB_len, hN] at hq) <;> (try (have hh : True := hq; clear hh hq)))))
        | (refine wpcall_pure rfl (d1) ?_; simp [h1, rB_len, hN]; (try (refine gen fun q hq => ?_; cases q <;> (try simp [h1, rB_len, hN] at hq) <;> (try (have hh : True := hq; clear hh hq)))))
        | (refine wpcall_pure rfl (k1) ?_; simp [h1, rB_len, hN]; (try (refine gen fun q hq => ?_; cases q <;> (try simp [h1, rB_len, hN] at hq) <;> (try (have hh : True := hq; clear hh hq)))))
        | (refine wpcall_pure rfl (k2) ?_; simp [h1, rB_len, hN]; (try (refine gen fun q hq => ?_; cases q <;> (try simp [h1, rB_len, hN] at hq) <;> (try (have hh : True := hq; clear hh hq)))))
        | (refine wpcall_pure rfl (k3) ?_; simp [h1, rB_len, hN]; (try (refine gen fun q hq => ?_; cases q <;> (try simp [h1, rB_len, hN] at hq) <;> (try (have hh : True := hq; clear hh hq)))))
        | (refine wpcall_pure rfl (k4) ?_; simp [h1, rB_len, hN]; (try (refine gen fun q hq => ?_; cases q <;> (try simp [h1, rB_len, hN] at hq) <;> (try (have hh : True := hq; clear hh hq)))))
        | (refine wpcall_pure rfl (k5) ?_; simp [h1, rB_len, hN]; (try (refine gen fun q hq => ?_; cases q <;> (try simp [h1, rB_len, hN] at hq) <;> (try (have hh : True := hq; clear hh hq)))))
        | (refine wpcall_pure rfl (k6) ?_; simp [h1, rB_len, hN]; (try (refine gen fun q hq => ?_; cases q <;> (try simp [h1, rB_len, hN] at hq) <;> (try (have hh : True := hq; clear hh hq)))))
        | (refine wpcall_pure rfl (k7) ?_; simp [h1, rB_len, hN]; (try (refine gen fun q hq => ?_; cases q <;> (try simp [h1, rB_len, hN] at hq) <;> (try (have hh : True := hq; clear hh hq)))))
        | (refine wpcall_pure rfl (k8) ?_; simp [h1, rB_len, hN]; (try (refine gen fun q hq => ?_; cases q <;> (try simp [h1, rB_len, hN] at hq) <;> (try (have hh : True := hq; clear hh hq)))))
        | (refine wpcall_pure rfl (k9) ?_; simp [h1, rB_len, hN]; (try (refine gen fun q hq => ?_; cases q <;> (try simp [h1, rB_len, hN] at hq) <;> (try (have hh : True := hq; clear hh hq)))))
        | (refine wpcall_pure ?_ (kf) ?_; (focus (solve | simp [h1, rB_len, hN])); simp [h1, rB_len, hN]; (try (refine gen fun q hq => ?_; cases q <;> (try simp [h1, rB_len, hN] at hq) <;> (try (have hh : True := hq; clear hh hq)))))
        | (refine T.ret (Done.data (Or.inr rfl) ?_ ?_) <;> simp [Tryz.results3] <;> omega)
        | refine T.rd (id := 11) mixed (fun _ => false) [] (by kernel_rfl) fun K hK => ?_
        | refine T.rd1 (id := 11) mixed (fun _ => false) [] (by kernel_rfl) fun K hK => ?_
        | refine T.rs (fun _ => false) fun K hK => ?_
        | refine T.rs1 (fun _ => false) fun K hK => ?_
        | (refine ⟨by omega, ?_⟩)
        | refine T.cond rfl (fun hcnd => ?_) (fun hcnd => absurd hcnd (by decide))
        | refine T.cond rfl (fun hcnd => absurd hcnd (by decide)) (fun hcnd => ?_)
        | refine T.seq ?_
        | refine T.block ?_
        | refine T.skip ?_
        | refine T.exit ?_
end Go.Proofs.YtfdknjjnifnobaaGreat
