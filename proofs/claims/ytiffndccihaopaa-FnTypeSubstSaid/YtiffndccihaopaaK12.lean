/- A part of the library of this seat: a value-semantic program logic over the model, plain models, and walks of functions. -/
import Derived.Test.YtiffndccihaopaaK11
set_option linter.unusedVariables false
set_option linter.unusedSimpArgs false
namespace Go.Proofs.Ytiffndccihaopaa
open Go Go.Av
attribute [local irreducible] T ACalls TX EX LX Draws Some_ ACallsX eTy eTm MTy.kind MTy.kids MTm.kind MTm.name MTm.num MTm.ty MTm.fr MTm.label MTm.kids
attribute [local simp] eTy_def eTm_def
set_option linter.unusedSimpArgs false
set_option linter.unusedVariables false
set_option maxHeartbeats 16000000
set_option maxRecDepth 8000

@[simp] theorem td_set26 : td Try.prog 119 = some { ag := true, sz := 26, by_ := 26, zero := some (rowB noB), el := none, ar := some (26, 4), fl := [], ik := none, isS := false, isB := false } := keep (by kernel_rfl)

theorem inns_rowB (A : List Arr) (ids : List Nat) : ∀ S : List Bool, inns A ids (rowB S) = some (rowB S)
  | [] => rfl
  | b :: r => by simp only [rowB, List.map_cons, inns]; rw [show inns A ids (List.map (fun b => CV.d (DV.bool b)) r) = some (List.map (fun b => CV.d (DV.bool b)) r) from inns_rowB A ids r]; rfl
theorem ress_rowB (A : List Arr) (os ks : List Nat) : ∀ S : List Bool, ress A os ks (rowB S) = some (rowB S)
  | [] => rfl
  | b :: r => by simp only [rowB, List.map_cons, ress]; rw [show ress A os ks (List.map (fun b => CV.d (DV.bool b)) r) = some (List.map (fun b => CV.d (DV.bool b)) r) from ress_rowB A os ks r]; rfl
theorem outn_rowB (ids : List Nat) (n m : Nat) (S : List Bool) : List.map (CV.outn ids n m ∘ fun b => CV.d (DV.bool b)) S = rowB S := List.map_congr_left fun b _ => rfl
theorem seal_rowB : ∀ (S : List Bool) (A : List Arr), List.foldl sealA A (rowB S) = A
  | [], A => rfl
  | b :: r, A => by simp only [rowB, List.map_cons, List.foldl_cons]; exact seal_rowB r A

theorem splice_rowB {S : List Bool} {i : Nat} (h : i < S.length) : splice (rowB S) i [CV.d (.bool true)] = rowB (S.set i true) := by
  simp only [splice, rowB, List.map_set, List.length_singleton]
  rw [List.set_eq_take_append_cons_drop]
  simp [h]

set_option maxRecDepth 100000 in
theorem sliteIndexByte (s : ByteArray) (c : Int) (w : World) :
    Calls Try.prog 138 #[.string s, .int .u8 c] w fun e w' => e = .returned (.int .i64 (Lib.indexByte s.data.toList c.toNat.toUInt8)) ∧ w' = w := by
  go_enter Try.func138, Try.ntmps138
  go_wp2
  rw [run_callFunc_extern Try.func142 (by kernel_rfl) (by kernel_rfl) (by kernel_rfl) (e := Extern.BytealgIndexByte.indexByte) (by kernel_rfl), Lib.run_indexByteString]
  simp only [Result.andThen]
  rw [Oper.upon_value]
  go_wp2
  go_ret
  exact ⟨rfl, rfl⟩

theorem IndexByte_ok (s : List UInt8) (c : Int) : ACalls Try.prog 138 [.s s, .c (.d (.int .u8 c))] [] (.i (Lib.indexByte s c.toNat.toUInt8)) [] [] := by
  unfold ACalls
  refine ⟨enters (c := (Try.f138.body).getD .skip) Try.func138 rfl (by kernel_rfl), by simp, fun g w vs hg hI hl hv => ?_⟩
  have h0 : 0 < vs.size := by rw [hl]; simp
  have h1 : 1 < vs.size := by rw [hl]; simp
  have e0 := hv 0 _ vs[0] rfl (by simp [h0])
  have e1 := hv 1 _ vs[1] rfl (by simp [h1])
  simp only [RepV, RepE, RepC, RepD] at e0 e1
  have e : vs = #[.string (bs s), .int .u8 c] := by
    apply Array.ext
    · simpa using hl
    · intro i hi hi'
      match i with
      | 0 => simpa using e0
      | 1 => simpa using e1
      | i + 2 => exact absurd hi' (by simp)
  subst e
  refine (sliteIndexByte (bs s) c w).mono ?_
  rintro e w' ⟨rfl, rfl⟩
  exact ⟨_, g, rfl, by simp [RepV, RepE, RepC, RepD, bs], hI, .refl⟩

theorem Index1_ok (s : List UInt8) (c : UInt8) : ACalls Try.prog 137 [.s s, .s [c]] [] (.i (Lib.indexByte s c)) [] [] := by
  have h := IndexByte_ok s c.toNat
  have e : (c.toNat : Int).toNat.toUInt8 = c := by simp
  rw [e] at h
  by_cases hs : s = [c]
  · subst hs
    refine ACalls.of_body Try.func137 (by kernel_rfl) rfl (by kernel_rfl) (by simp [Try.ntmps137]) (by simp) ?_
    rw [Try.ntmps137]
    repeat' first
      | ((first | refine aops_end (hK _ ?_)); clear hK K)
      | ((first | refine aops_go ?_); simp; (try (refine gen fun q hq => ?_; cases q <;> (try simp at hq) <;> (try (have hh : True := hq; clear hh hq)))))
      | (refine T.ret (Done.data (Or.inr rfl) ?_ ?_) <;> simp [Try.results137, Lib.indexByte] <;> omega)
      | refine T.rs (fun _ => false) fun K hK => ?_
      | refine T.cond rfl (fun hcnd => ?_) (fun hcnd => absurd hcnd (by decide))
      | refine T.seq ?_
      | refine T.block ?_
  · have hs' : ¬ [c] = s := fun e => hs e.symm
    refine ACalls.of_body Try.func137 (by kernel_rfl) rfl (by kernel_rfl) (by simp [Try.ntmps137]) (by simp) ?_
    rw [Try.ntmps137]
    repeat' first
      | ((first | refine aops_end (hK _ ?_)); clear hK K)
      | ((first | refine aops_go ?_); simp [hs']; (try (refine gen fun q hq => ?_; cases q <;> (try simp [hs'] at hq) <;> (try (have hh : True := hq; clear hh hq)))))
      | (refine wpcall_pure rfl (h) ?_; simp [hs']; (try (refine gen fun q hq => ?_; cases q <;> (try simp [hs'] at hq) <;> (try (have hh : True := hq; clear hh hq)))))
      | (refine T.ret (Done.data (Or.inr rfl) ?_ ?_) <;> simp [Try.results137] <;> omega)
      | refine T.rs (fun _ => false) fun K hK => ?_
      | refine T.cond rfl (fun hcnd => ?_) (fun hcnd => absurd hcnd (by decide))
      | refine T.cond rfl (fun hcnd => absurd hcnd (by decide)) (fun hcnd => ?_)
      | refine T.seq ?_
      | refine T.block ?_

theorem sIndex1_ok (s : List UInt8) (c : UInt8) : ACalls Try.prog 136 [.s s, .s [c]] [] (.i (Lib.indexByte s c)) [] [] := by
  have h := Index1_ok s c
  refine ACalls.of_body Try.func136 (by kernel_rfl) rfl (by kernel_rfl) (by simp [Try.ntmps136]) (by simp) ?_
  rw [Try.ntmps136]
  repeat' first
    | ((first | refine aops_end (hK _ ?_)); clear hK K)
    | ((first | refine aops_go ?_); simp; (try (refine gen fun q hq => ?_; cases q <;> (try simp at hq) <;> (try (have hh : True := hq; clear hh hq)))))
    | (refine wpcall_pure rfl (h) ?_; simp; (try (refine gen fun q hq => ?_; cases q <;> (try simp at hq) <;> (try (have hh : True := hq; clear hh hq)))))
    | (refine T.ret (Done.data (Or.inr rfl) ?_ ?_) <;> simp [Try.results136] <;> omega)
    | refine T.rs (fun _ => false) fun K hK => ?_

theorem Contains1_ok (s : List UInt8) (c : UInt8) : ACalls Try.prog 134 [.s s, .s [c]] [] (.b (s.contains c)) [] [] := by
  have h := sIndex1_ok s c
  have e : decide (0 ≤ Lib.indexByte s c) = s.contains c := by
    rw [Bool.eq_iff_iff, decide_eq_true_iff]; exact indexByte_iff s c
  rw [← e]
  refine ACalls.of_body Try.func134 (by kernel_rfl) rfl (by kernel_rfl) (by simp [Try.ntmps134]) (by simp) ?_
  rw [Try.ntmps134]
  repeat' first
    | ((first | refine aops_end (hK _ ?_)); clear hK K)
    | ((first | refine aops_go ?_); simp)
    | (refine wpcall_pure rfl (h) ?_; simp)
    | (refine T.ret (Done.data (Or.inr rfl) ?_ ?_) <;> simp [Try.results134] <;> omega)
    | refine T.rs (fun _ => false) fun K hK => ?_

theorem free_var (e : MTm) (bd : List UInt8) (h1 : e.kind = 1) (z : UInt8) (hz : e.name = [z]) (h97 : 97 ≤ z.toNat) (h122 : z.toNat ≤ 122) (hin : bd.contains z = false) (hl : e.kids.length ≤ 3) (S : List Bool) (hS : S.length = 26)
    (ih : ∀ u ∈ e.kids, ∀ S : List Bool, S.length = 26 → ACalls Try.prog 117 [aTm u, .s (bd), .c (.ptr 0 0)] [rowB S] (.tup []) [rowB (orF (fun c => freeIn c (bd) u) S)] []) :
    ACalls Try.prog 117 [aTm e, .s bd, .c (.ptr 0 0)] [rowB S] (.tup []) [rowB (orF (fun c => e.kids.any (freeIn c (bd))) (orF (fun c => decide (c = z)) S))] [] := by
  have hc := Contains1_ok bd z
  rw [hin] at hc
  have hw8 : IntKind.u8.wrap ((z.toNat : Int) - 97) = (z.toNat - 97 : Nat) := by rw [show ((z.toNat : Int) - 97) = ((z.toNat - 97 : Nat) : Int) by omega]; exact wrap8 (by omega)
  rw [← orF_set hS h97 h122]
  obtain ⟨bd', hbd⟩ : ∃ bd', bd = bd' := ⟨_, rfl⟩
  rw [hbd] at ih ⊢
  rw [hbd] at hc
  obtain ⟨S1, hS1⟩ : ∃ S1, S.set (z.toNat - 97) true = S1 := ⟨_, rfl⟩
  rw [hS1]
  have hl1 : S1.length = 26 := by rw [← hS1]; simpa using hS
  have hsp : List.take (z.toNat - 97) (rowB S) ++ CV.d (.bool true) :: List.drop (z.toNat - 97 + 1) (rowB S) = rowB S1 := by rw [← hS1, ← splice_rowB (by omega)]; simp [splice]
  refine ACalls.of_body Try.func117 (by kernel_rfl) rfl (by kernel_rfl) (by simp [Try.ntmps117]) (by simp) ?_
  rw [Try.ntmps117]
  repeat' first
    | ((first | refine aops_end (hK _ ?_) | refine aopsD_end (hK _ ?_)); clear hK K)
    | ((first | refine aops_go ?_ | refine aopsD_go ?_); simp [h1, hz, hin, hw8, hsp]; (try (refine gen fun q hq => ?_; cases q <;> (try simp [h1, hz, hin, hw8, hsp] at hq) <;> (try (have hh : True := hq; clear hh hq)))))
    | (refine wpcall_pure rfl (hc) ?_; simp [h1, hz, hin, hw8, hsp]; (try (refine gen fun q hq => ?_; cases q <;> (try simp [h1, hz, hin, hw8, hsp] at hq) <;> (try (have hh : True := hq; clear hh hq)))))
    | refine T.rd1 (id := 2) mixed (fun _ => false) [7] (by kernel_rfl) fun K hK => ?_
    | refine T.rs (fun _ => false) fun K hK => ?_
    | (refine ⟨by omega, ?_⟩)
    | refine T.cond rfl (fun hcnd => ?_) (fun hcnd => absurd hcnd (by decide))
    | refine T.cond rfl (fun hcnd => absurd hcnd (by decide)) (fun hcnd => ?_)
    | refine T.seq ?_
    | refine T.block ?_
    | refine T.skip ?_
  refine T.loopK (α := Nat × List (List CV)) [1, 2, 33, 34] (fun x => [(35, .i x.1)]) (fun x => [(0, rowB (orF (fun c => (e.kids.take x.1).any (freeIn c bd')) S1))]) (fun x => x.2) (fun x A => A) (fun x => e.kids.length + 1 - x.1) (fun x => x.1 ≤ e.kids.length) (by simp; rfl) (fun x hx => ?_) (0, []) (by simp) (by simp [orF_none, hl1]) (by simp) (by simp)
  obtain ⟨p, G⟩ := x
  dsimp only at hx ⊢
  simp only [ups, List.set_cons_zero, List.cons_append, List.nil_append]
  by_cases hlt : p < e.kids.length
  · obtain ⟨u, ht⟩ := get_lt hlt
    have htm : u ∈ e.kids := List.mem_of_getElem? ht
    have hgt : e.kids[p] = u := by rw [List.getElem?_eq_getElem hlt] at ht; exact Option.some.inj ht
    have hdr : e.kids.drop p = u :: e.kids.drop (p + 1) := by rw [List.drop_eq_getElem_cons hlt, hgt]
    have hlp : (orF (fun c => (e.kids.take p).any (freeIn c bd')) S1).length = 26 := orF_len hl1
    have hu := ih u htm _ hlp
    rw [orF_or hl1] at hu
    have htk : orF (fun c => (e.kids.take (p + 1)).any (freeIn c bd')) S1 = orF (fun c => (e.kids.take p).any (freeIn c bd') || freeIn c bd' u) S1 := orF_congr fun c => by rw [List.take_add_one, ht, List.any_append]; simp
    rw [← htk] at hu
    generalize orF (fun c => (e.kids.take p).any (freeIn c bd')) S1 = Z at *
    obtain ⟨Z', hZ'⟩ : ∃ Z', orF (fun c => (e.kids.take (p + 1)).any (freeIn c bd')) S1 = Z' := ⟨_, rfl⟩
    rw [hZ'] at hu
    repeat' first
      | ((first | refine aops_end (hK _ ?_)); clear hK K)
      | ((first | refine aops_go ?_); simp [hlt, hgt]; (try simp (disch := omega) only [wrap64]); (try (refine gen fun q hq => ?_; cases q <;> (try simp [hlt, hgt] at hq) <;> (try (have hh : True := hq; clear hh hq)))))
      | (refine wpcall_g [0] (by simp) rfl (by simp [inns_rowB]) hu ?_; simp [outn_rowB, seal_rowB])
      | refine T.rs (fun _ => false) fun K hK => ?_
      | refine T.rs1 (fun _ => false) fun K hK => ?_
      | refine T.cond rfl (fun hcnd => ?_) (fun hcnd => absurd hcnd (by decide))
      | refine T.seq ?_
      | refine T.block ?_
      | refine T.skip ?_
    refine ⟨(p + 1, G ++ [(aTm u).cells]), by dsimp only; omega, by dsimp only; omega, by dsimp only; rw [hZ']; rfl, ?_, ?_⟩ <;> simp (disch := omega) [wrap64]
  · have hp' : p = e.kids.length := by omega
    subst hp'
    rw [List.take_length]
    generalize orF (fun c => e.kids.any (freeIn c bd')) S1 = Z at *
    repeat' first
      | ((first | refine aops_end (hK _ ?_)); clear hK K)
      | ((first | refine aops_go ?_); simp [hlt]; (try (refine gen fun q hq => ?_; cases q <;> (try simp [hlt] at hq) <;> (try (have hh : True := hq; clear hh hq)))))
      | refine T.rs (fun _ => false) fun K hK => ?_
      | refine T.cond rfl (fun hcnd => absurd hcnd (by decide)) (fun hcnd => ?_)
      | refine T.seq ?_
      | refine T.exit ?_
    all_goals (refine Done.g (ys := []) (Or.inl rfl) ?_ rfl ?_ <;> simp [resAs, ress_rowB, Try.results117])

theorem free_bnd (e : MTm) (bd : List UInt8) (h1 : e.kind = 1) (z : UInt8) (hz : e.name = [z]) (hin : bd.contains z = true) (hl : e.kids.length ≤ 3) (S : List Bool) (hS : S.length = 26)
    (ih : ∀ u ∈ e.kids, ∀ S : List Bool, S.length = 26 → ACalls Try.prog 117 [aTm u, .s (bd), .c (.ptr 0 0)] [rowB S] (.tup []) [rowB (orF (fun c => freeIn c (bd) u) S)] []) :
    ACalls Try.prog 117 [aTm e, .s bd, .c (.ptr 0 0)] [rowB S] (.tup []) [rowB (orF (fun c => e.kids.any (freeIn c (bd))) (S))] [] := by
  have hc := Contains1_ok bd z
  rw [hin] at hc
  obtain ⟨bd', hbd⟩ : ∃ bd', bd = bd' := ⟨_, rfl⟩
  rw [hbd] at ih ⊢
  rw [hbd] at hc
  obtain ⟨S1, hS1⟩ : ∃ S1, S = S1 := ⟨_, rfl⟩
  rw [hS1] at hS ⊢
  have hl1 : S1.length = 26 := hS
  refine ACalls.of_body Try.func117 (by kernel_rfl) rfl (by kernel_rfl) (by simp [Try.ntmps117]) (by simp) ?_
  rw [Try.ntmps117]
  repeat' first
    | ((first | refine aops_end (hK _ ?_)); clear hK K)
    | ((first | refine aops_go ?_); simp [h1, hz, hin]; (try (refine gen fun q hq => ?_; cases q <;> (try simp [h1, hz, hin] at hq) <;> (try (have hh : True := hq; clear hh hq)))))
    | (refine wpcall_pure rfl (hc) ?_; simp [h1, hz, hin]; (try (refine gen fun q hq => ?_; cases q <;> (try simp [h1, hz, hin] at hq) <;> (try (have hh : True := hq; clear hh hq)))))
    | refine T.rs (fun _ => false) fun K hK => ?_
    | refine T.cond rfl (fun hcnd => absurd hcnd (by decide)) (fun hcnd => ?_)
    | refine T.seq ?_
    | refine T.block ?_
    | refine T.skip ?_
  refine T.loopK (α := Nat × List (List CV)) [1, 2, 33, 34] (fun x => [(35, .i x.1)]) (fun x => [(0, rowB (orF (fun c => (e.kids.take x.1).any (freeIn c bd')) S1))]) (fun x => x.2) (fun x A => A) (fun x => e.kids.length + 1 - x.1) (fun x => x.1 ≤ e.kids.length) (by simp; rfl) (fun x hx => ?_) (0, []) (by simp) (by simp [orF_none, hl1]) (by simp) (by simp)
  obtain ⟨p, G⟩ := x
  dsimp only at hx ⊢
  simp only [ups, List.set_cons_zero, List.cons_append, List.nil_append]
  by_cases hlt : p < e.kids.length
  · obtain ⟨u, ht⟩ := get_lt hlt
    have htm : u ∈ e.kids := List.mem_of_getElem? ht
    have hgt : e.kids[p] = u := by rw [List.getElem?_eq_getElem hlt] at ht; exact Option.some.inj ht
    have hdr : e.kids.drop p = u :: e.kids.drop (p + 1) := by rw [List.drop_eq_getElem_cons hlt, hgt]
    have hlp : (orF (fun c => (e.kids.take p).any (freeIn c bd')) S1).length = 26 := orF_len hl1
    have hu := ih u htm _ hlp
    rw [orF_or hl1] at hu
    have htk : orF (fun c => (e.kids.take (p + 1)).any (freeIn c bd')) S1 = orF (fun c => (e.kids.take p).any (freeIn c bd') || freeIn c bd' u) S1 := orF_congr fun c => by rw [List.take_add_one, ht, List.any_append]; simp
    rw [← htk] at hu
    generalize orF (fun c => (e.kids.take p).any (freeIn c bd')) S1 = Z at *
    obtain ⟨Z', hZ'⟩ : ∃ Z', orF (fun c => (e.kids.take (p + 1)).any (freeIn c bd')) S1 = Z' := ⟨_, rfl⟩
    rw [hZ'] at hu
    repeat' first
      | ((first | refine aops_end (hK _ ?_)); clear hK K)
      | ((first | refine aops_go ?_); simp [hlt, hgt]; (try simp (disch := omega) only [wrap64]); (try (refine gen fun q hq => ?_; cases q <;> (try simp [hlt, hgt] at hq) <;> (try (have hh : True := hq; clear hh hq)))))
      | (refine wpcall_g [0] (by simp) rfl (by simp [inns_rowB]) hu ?_; simp [outn_rowB, seal_rowB])
      | refine T.rs (fun _ => false) fun K hK => ?_
      | refine T.rs1 (fun _ => false) fun K hK => ?_
      | refine T.cond rfl (fun hcnd => ?_) (fun hcnd => absurd hcnd (by decide))
      | refine T.seq ?_
      | refine T.block ?_
      | refine T.skip ?_
    refine ⟨(p + 1, G ++ [(aTm u).cells]), by dsimp only; omega, by dsimp only; omega, by dsimp only; rw [hZ']; rfl, ?_, ?_⟩ <;> simp (disch := omega) [wrap64]
  · have hp' : p = e.kids.length := by omega
    subst hp'
    rw [List.take_length]
    generalize orF (fun c => e.kids.any (freeIn c bd')) S1 = Z at *
    repeat' first
      | ((first | refine aops_end (hK _ ?_)); clear hK K)
      | ((first | refine aops_go ?_); simp [hlt]; (try (refine gen fun q hq => ?_; cases q <;> (try simp [hlt] at hq) <;> (try (have hh : True := hq; clear hh hq)))))
      | refine T.rs (fun _ => false) fun K hK => ?_
      | refine T.cond rfl (fun hcnd => absurd hcnd (by decide)) (fun hcnd => ?_)
      | refine T.seq ?_
      | refine T.exit ?_
    all_goals (refine Done.g (ys := []) (Or.inl rfl) ?_ rfl ?_ <;> simp [resAs, ress_rowB, Try.results117])

theorem free_lam (e : MTm) (bd : List UInt8) (h1 : ¬ e.kind = 1) (h5 : e.kind = 5) (hbl : bd.length + e.name.length ≤ 4611686018427387904) (hl : e.kids.length ≤ 3) (S : List Bool) (hS : S.length = 26)
    (ih : ∀ u ∈ e.kids, ∀ S : List Bool, S.length = 26 → ACalls Try.prog 117 [aTm u, .s (bd ++ e.name), .c (.ptr 0 0)] [rowB S] (.tup []) [rowB (orF (fun c => freeIn c (bd ++ e.name) u) S)] []) :
    ACalls Try.prog 117 [aTm e, .s bd, .c (.ptr 0 0)] [rowB S] (.tup []) [rowB (orF (fun c => e.kids.any (freeIn c (bd ++ e.name))) (S))] [] := by
  obtain ⟨bd', hbd⟩ : ∃ bd', bd ++ e.name = bd' := ⟨_, rfl⟩
  rw [hbd] at ih ⊢
  obtain ⟨S1, hS1⟩ : ∃ S1, S = S1 := ⟨_, rfl⟩
  rw [hS1] at hS ⊢
  have hl1 : S1.length = 26 := hS
  refine ACalls.of_body Try.func117 (by kernel_rfl) rfl (by kernel_rfl) (by simp [Try.ntmps117]) (by simp) ?_
  rw [Try.ntmps117]
  repeat' first
    | ((first | refine aops_end (hK _ ?_)); clear hK K)
    | ((first | refine aops_go ?_); simp [h1, h5, hbl, hbd]; (try (refine gen fun q hq => ?_; cases q <;> (try simp [h1, h5, hbl, hbd] at hq) <;> (try (have hh : True := hq; clear hh hq)))))
    | refine T.rs (fun _ => false) fun K hK => ?_
    | refine T.rs1 (fun _ => false) fun K hK => ?_
    | refine T.cond rfl (fun hcnd => ?_) (fun hcnd => absurd hcnd (by decide))
    | refine T.cond rfl (fun hcnd => absurd hcnd (by decide)) (fun hcnd => ?_)
    | refine T.seq ?_
    | refine T.block ?_
    | refine T.skip ?_
  refine T.loopK (α := Nat × List (List CV)) [1, 2, 33, 34] (fun x => [(35, .i x.1)]) (fun x => [(0, rowB (orF (fun c => (e.kids.take x.1).any (freeIn c bd')) S1))]) (fun x => x.2) (fun x A => A) (fun x => e.kids.length + 1 - x.1) (fun x => x.1 ≤ e.kids.length) (by simp; rfl) (fun x hx => ?_) (0, []) (by simp) (by simp [orF_none, hl1]) (by simp) (by simp)
  obtain ⟨p, G⟩ := x
  dsimp only at hx ⊢
  simp only [ups, List.set_cons_zero, List.cons_append, List.nil_append]
  by_cases hlt : p < e.kids.length
  · obtain ⟨u, ht⟩ := get_lt hlt
    have htm : u ∈ e.kids := List.mem_of_getElem? ht
    have hgt : e.kids[p] = u := by rw [List.getElem?_eq_getElem hlt] at ht; exact Option.some.inj ht
    have hdr : e.kids.drop p = u :: e.kids.drop (p + 1) := by rw [List.drop_eq_getElem_cons hlt, hgt]
    have hlp : (orF (fun c => (e.kids.take p).any (freeIn c bd')) S1).length = 26 := orF_len hl1
    have hu := ih u htm _ hlp
    rw [orF_or hl1] at hu
    have htk : orF (fun c => (e.kids.take (p + 1)).any (freeIn c bd')) S1 = orF (fun c => (e.kids.take p).any (freeIn c bd') || freeIn c bd' u) S1 := orF_congr fun c => by rw [List.take_add_one, ht, List.any_append]; simp
    rw [← htk] at hu
    generalize orF (fun c => (e.kids.take p).any (freeIn c bd')) S1 = Z at *
    obtain ⟨Z', hZ'⟩ : ∃ Z', orF (fun c => (e.kids.take (p + 1)).any (freeIn c bd')) S1 = Z' := ⟨_, rfl⟩
    rw [hZ'] at hu
    repeat' first
      | ((first | refine aops_end (hK _ ?_)); clear hK K)
      | ((first | refine aops_go ?_); simp [hlt, hgt]; (try simp (disch := omega) only [wrap64]); (try (refine gen fun q hq => ?_; cases q <;> (try simp [hlt, hgt] at hq) <;> (try (have hh : True := hq; clear hh hq)))))
      | (refine wpcall_g [0] (by simp) rfl (by simp [inns_rowB]) hu ?_; simp [outn_rowB, seal_rowB])
      | refine T.rs (fun _ => false) fun K hK => ?_
      | refine T.rs1 (fun _ => false) fun K hK => ?_
      | refine T.cond rfl (fun hcnd => ?_) (fun hcnd => absurd hcnd (by decide))
      | refine T.seq ?_
      | refine T.block ?_
      | refine T.skip ?_
    refine ⟨(p + 1, G ++ [(aTm u).cells]), by dsimp only; omega, by dsimp only; omega, by dsimp only; rw [hZ']; rfl, ?_, ?_⟩ <;> simp (disch := omega) [wrap64]
  · have hp' : p = e.kids.length := by omega
    subst hp'
    rw [List.take_length]
    generalize orF (fun c => e.kids.any (freeIn c bd')) S1 = Z at *
    repeat' first
      | ((first | refine aops_end (hK _ ?_)); clear hK K)
      | ((first | refine aops_go ?_); simp [hlt]; (try (refine gen fun q hq => ?_; cases q <;> (try simp [hlt] at hq) <;> (try (have hh : True := hq; clear hh hq)))))
      | refine T.rs (fun _ => false) fun K hK => ?_
      | refine T.cond rfl (fun hcnd => absurd hcnd (by decide)) (fun hcnd => ?_)
      | refine T.seq ?_
      | refine T.exit ?_
    all_goals (refine Done.g (ys := []) (Or.inl rfl) ?_ rfl ?_ <;> simp [resAs, ress_rowB, Try.results117])

theorem free_non (e : MTm) (bd : List UInt8) (h1 : ¬ e.kind = 1) (h5 : ¬ e.kind = 5) (hl : e.kids.length ≤ 3) (S : List Bool) (hS : S.length = 26)
    (ih : ∀ u ∈ e.kids, ∀ S : List Bool, S.length = 26 → ACalls Try.prog 117 [aTm u, .s (bd), .c (.ptr 0 0)] [rowB S] (.tup []) [rowB (orF (fun c => freeIn c (bd) u) S)] []) :
    ACalls Try.prog 117 [aTm e, .s bd, .c (.ptr 0 0)] [rowB S] (.tup []) [rowB (orF (fun c => e.kids.any (freeIn c (bd))) (S))] [] := by
  obtain ⟨bd', hbd⟩ : ∃ bd', bd = bd' := ⟨_, rfl⟩
  rw [hbd] at ih ⊢
  obtain ⟨S1, hS1⟩ : ∃ S1, S = S1 := ⟨_, rfl⟩
  rw [hS1] at hS ⊢
  have hl1 : S1.length = 26 := hS
  refine ACalls.of_body Try.func117 (by kernel_rfl) rfl (by kernel_rfl) (by simp [Try.ntmps117]) (by simp) ?_
  rw [Try.ntmps117]
  repeat' first
    | ((first | refine aops_end (hK _ ?_)); clear hK K)
    | ((first | refine aops_go ?_); simp [h1, h5]; (try (refine gen fun q hq => ?_; cases q <;> (try simp [h1, h5] at hq) <;> (try (have hh : True := hq; clear hh hq)))))
    | refine T.rs (fun _ => false) fun K hK => ?_
    | refine T.cond rfl (fun hcnd => absurd hcnd (by decide)) (fun hcnd => ?_)
    | refine T.seq ?_
    | refine T.block ?_
    | refine T.skip ?_
  refine T.loopK (α := Nat × List (List CV)) [1, 2, 33, 34] (fun x => [(35, .i x.1)]) (fun x => [(0, rowB (orF (fun c => (e.kids.take x.1).any (freeIn c bd')) S1))]) (fun x => x.2) (fun x A => A) (fun x => e.kids.length + 1 - x.1) (fun x => x.1 ≤ e.kids.length) (by simp; rfl) (fun x hx => ?_) (0, []) (by simp) (by simp [orF_none, hl1]) (by simp) (by simp)
  obtain ⟨p, G⟩ := x
  dsimp only at hx ⊢
  simp only [ups, List.set_cons_zero, List.cons_append, List.nil_append]
  by_cases hlt : p < e.kids.length
  · obtain ⟨u, ht⟩ := get_lt hlt
    have htm : u ∈ e.kids := List.mem_of_getElem? ht
    have hgt : e.kids[p] = u := by rw [List.getElem?_eq_getElem hlt] at ht; exact Option.some.inj ht
    have hdr : e.kids.drop p = u :: e.kids.drop (p + 1) := by rw [List.drop_eq_getElem_cons hlt, hgt]
    have hlp : (orF (fun c => (e.kids.take p).any (freeIn c bd')) S1).length = 26 := orF_len hl1
    have hu := ih u htm _ hlp
    rw [orF_or hl1] at hu
    have htk : orF (fun c => (e.kids.take (p + 1)).any (freeIn c bd')) S1 = orF (fun c => (e.kids.take p).any (freeIn c bd') || freeIn c bd' u) S1 := orF_congr fun c => by rw [List.take_add_one, ht, List.any_append]; simp
    rw [← htk] at hu
    generalize orF (fun c => (e.kids.take p).any (freeIn c bd')) S1 = Z at *
    obtain ⟨Z', hZ'⟩ : ∃ Z', orF (fun c => (e.kids.take (p + 1)).any (freeIn c bd')) S1 = Z' := ⟨_, rfl⟩
    rw [hZ'] at hu
    repeat' first
      | ((first | refine aops_end (hK _ ?_)); clear hK K)
      | ((first | refine aops_go ?_); simp [hlt, hgt]; (try simp (disch := omega) only [wrap64]); (try (refine gen fun q hq => ?_; cases q <;> (try simp [hlt, hgt] at hq) <;> (try (have hh : True := hq; clear hh hq)))))
      | (refine wpcall_g [0] (by simp) rfl (by simp [inns_rowB]) hu ?_; simp [outn_rowB, seal_rowB])
      | refine T.rs (fun _ => false) fun K hK => ?_
      | refine T.rs1 (fun _ => false) fun K hK => ?_
      | refine T.cond rfl (fun hcnd => ?_) (fun hcnd => absurd hcnd (by decide))
      | refine T.seq ?_
      | refine T.block ?_
      | refine T.skip ?_
    refine ⟨(p + 1, G ++ [(aTm u).cells]), by dsimp only; omega, by dsimp only; omega, by dsimp only; rw [hZ']; rfl, ?_, ?_⟩ <;> simp (disch := omega) [wrap64]
  · have hp' : p = e.kids.length := by omega
    subst hp'
    rw [List.take_length]
    generalize orF (fun c => e.kids.any (freeIn c bd')) S1 = Z at *
    repeat' first
      | ((first | refine aops_end (hK _ ?_)); clear hK K)
      | ((first | refine aops_go ?_); simp [hlt]; (try (refine gen fun q hq => ?_; cases q <;> (try simp [hlt] at hq) <;> (try (have hh : True := hq; clear hh hq)))))
      | refine T.rs (fun _ => false) fun K hK => ?_
      | refine T.cond rfl (fun hcnd => absurd hcnd (by decide)) (fun hcnd => ?_)
      | refine T.seq ?_
      | refine T.exit ?_
    all_goals (refine Done.g (ys := []) (Or.inl rfl) ?_ rfl ?_ <;> simp [resAs, ress_rowB, Try.results117])

theorem free_ok {nt : Int} : ∀ (e : MTm) (d : Nat) (bd : List UInt8) (S : List Bool), shapeTm nt d e = true → S.length = 26 → bd.length + d ≤ 1000000 →
    ACalls Try.prog 117 [aTm e, .s bd, .c (.ptr 0 0)] [rowB S] (.tup []) [rowB (orF (fun c => freeIn c bd e) S)] [] := by
  intro e
  induction e using MTm.ind with
  | h e ih =>
    intro d bd S hs hS hbd
    obtain ⟨d', rfl, hne, hlen, hown, hkids⟩ := shapeTm_kids hs
    have hk3 : e.kids.length ≤ 3 := by have := kidsM_le e.kind; omega
    have ih' := fun (bd : List UInt8) (hbd : bd.length + d' ≤ 1000000) u hu (S : List Bool) hS => ih u hu d' bd S (hkids u hu) hS hbd
    by_cases h1 : e.kind = 1
    · have h5 : ¬ e.kind = 5 := by omega
      obtain ⟨z, hz, h97, h122⟩ := nameM_one (own_named hown (by simp [namedM, h1]))
      have h0 : e.kids = [] := by
        rw [h1] at hlen; simp [kidsM] at hlen; exact List.eq_nil_of_length_eq_zero (by omega)
      cases hin : bd.contains z with
      | false =>
        have := free_var e bd h1 z hz h97 h122 hin hk3 S hS (ih' bd (by omega))
        rw [orF_or hS] at this
        rw [orF_congr (g := fun c => decide (c = z) || e.kids.any (freeIn c bd)) (fun c => ?_)]
        · exact this
        · rw [freeIn_def, if_neg h5, hz]
          by_cases e : c = z
          · subst e; simp only [h1, hin]; simp
          · simp [h1, e, Ne.symm e]
      | true =>
        have := free_bnd e bd h1 z hz hin hk3 S hS (ih' bd (by omega))
        rw [orF_congr (g := fun c => e.kids.any (freeIn c bd)) (fun c => ?_)]
        · exact this
        · rw [freeIn_def, if_neg h5, hz]
          by_cases e : c = z
          · subst e; simp only [hin]; simp
          · simp [Ne.symm e]
    · by_cases h5 : e.kind = 5
      · obtain ⟨z, hz, _, _⟩ := nameM_one (own_named hown (by simp [namedM, h5]))
        have hnl : e.name.length = 1 := by rw [hz]; rfl
        have := free_lam e bd h1 h5 (by omega) hk3 S hS (ih' (bd ++ e.name) (by simp; omega))
        rw [orF_congr (g := fun c => e.kids.any (freeIn c (bd ++ e.name))) (fun c => ?_)]
        · exact this
        · rw [freeIn_def, if_pos h5]; simp [h1]
      · have := free_non e bd h1 h5 hk3 S hS (ih' bd (by omega))
        rw [orF_congr (g := fun c => e.kids.any (freeIn c bd)) (fun c => ?_)]
        · exact this
        · rw [freeIn_def, if_neg h5]; simp [h1]

theorem take_letters {p : Nat} (h : p < 26) : letters.take (p + 1) = letters.take p ++ [UInt8.ofNat (97 + p)] := by
  rw [List.take_add_one, letters_get h]; rfl
theorem freeNames_ok {nt : Int} (e : MTm) (d : Nat) (hd : d ≤ 1000000) (hs : shapeTm nt d e = true) : ACalls Try.prog 71 [aTm e] [] (.s (namesM e)) [] [] := by
  have h1 := free_ok e d [] noB hs noB_len (by simp; omega)
  obtain ⟨Z, hZ⟩ : ∃ Z, orF (fun c => freeIn c [] e) noB = Z := ⟨_, rfl⟩
  rw [hZ] at h1
  have hg : ∀ p, p < 26 → Z[p]? = some (freeIn (UInt8.ofNat (97 + p)) [] e) := fun p hp => by
    rw [← hZ, orF_get (b := false) hp (noB_get hp)]; simp
  have hzl : Z.length = 26 := by rw [← hZ]; exact orF_len noB_len
  have hnm : namesM e = (letters.take 26).filter fun c => freeIn c [] e := by rw [namesM, List.take_of_length_le (by rw [letters_len]; omega)]
  rw [hnm]
  clear hnm hZ
  generalize hf : (fun c => freeIn c [] e) = f at *
  have hg : ∀ p, p < 26 → Z[p]? = some (f (UInt8.ofNat (97 + p))) := fun p hp => by rw [hg p hp, ← hf]
  have ht26 : List.take 26 (rowB Z) = rowB Z := List.take_of_length_le (by simp [hzl])
  refine ACalls.of_body Try.func71 (by kernel_rfl) rfl (by kernel_rfl) (by simp [Try.ntmps71]) (by simp) ?_
  rw [Try.ntmps71]
  repeat' first
    | ((first | refine aops_end (hK _ ?_)); clear hK K)
    | ((first | refine aops_go ?_); simp [hzl, ht26]; (try (refine gen fun q hq => ?_; cases q <;> (try simp [hzl, ht26] at hq) <;> (try (have hh : True := hq; clear hh hq)))))
    | (refine wpcall_g [1] (by simp) rfl (by simp [inns_rowB]) h1 ?_; simp [outn_rowB, seal_rowB, hzl, ht26])
    | refine T.rs (fun _ => false) fun K hK => ?_
    | refine T.seq ?_
    | refine T.block ?_
  refine T.loopK (α := Nat × List (List CV)) [2, 9] (fun x => [(4, .s ((letters.take x.1).filter f)), (10, .i x.1)]) (fun x => []) (fun x => x.2) (fun x A => A) (fun x => 27 - x.1) (fun x => x.1 ≤ 26) (by simp; rfl) (fun x hx => ?_) (0, []) (by simp) (by simp) (by simp) (by simp)
  obtain ⟨p, G⟩ := x
  dsimp only at hx ⊢
  simp only [ups, List.set_cons_zero, List.set_cons_succ, List.cons_append, List.nil_append]
  by_cases hlt : p < 26
  · have hgp := hg p hlt
    have hw8 : IntKind.u8.wrap (97 + (p : Int)) = (97 + p : Nat) := by rw [show (97 + (p : Int)) = ((97 + p : Nat) : Int) by omega]; exact wrap8 (by omega)
    have hby : bytesOf [[DV.int .u8 ((97 + p : Nat) : Int)]] = some [UInt8.ofNat (97 + p)] := by simp only [bytesOf, byteOfRow]; rw [if_pos (by omega)]; rfl
    have htk := take_letters hlt
    have hcs : ((97 + p : Nat) : Int) = 97 + (p : Int) := by omega
    rw [hcs] at hw8 hby
    clear hcs
    obtain ⟨z, hz⟩ : ∃ z, UInt8.ofNat (97 + p) = z := ⟨_, rfl⟩
    rw [hz] at hgp hby htk
    have hlt' : (p : Int) < 26 := by omega
    have hfl : (List.filter f (List.take p letters)).length ≤ 4611686018427387903 := by
      have h8 := List.length_filter_le f (letters.take p)
      rw [List.length_take] at h8
      omega
    have hlt'' : ¬ (26 : Int) ≤ p := by omega
    cases hb : f z <;> rw [hb] at hgp
    · repeat' first
        | ((first | refine aops_end (hK _ ?_)); clear hK K)
        | ((first | refine aops_go ?_); simp [hlt, hlt', hlt'', hfl, hgp, hw8, hby]; (try simp (disch := omega) only [wrap64]); (try (refine gen fun q hq => ?_; cases q <;> (try simp [hlt, hlt', hlt'', hfl, hgp, hw8, hby] at hq) <;> (try (have hh : True := hq; clear hh hq)))))
        | (refine ⟨(p + 1, _), by dsimp only; omega, by dsimp only; omega, rfl, ?_, ?_⟩ <;> simp (disch := omega) [wrap64, htk, hb])
        | refine T.rs (fun _ => false) fun K hK => ?_
        | refine T.rs1 (fun _ => false) fun K hK => ?_
        | refine T.cond rfl (fun hcnd => ?_) (fun hcnd => absurd hcnd (by decide))
        | refine T.cond rfl (fun hcnd => absurd hcnd (by decide)) (fun hcnd => ?_)
        | refine T.seq ?_
        | refine T.block ?_
        | refine T.skip ?_
    · repeat' first
        | ((first | refine aops_end (hK _ ?_)); clear hK K)
        | ((first | refine aops_go ?_); simp [hlt, hlt', hlt'', hfl, hgp, hw8, hby]; (try simp (disch := omega) only [wrap64]); (try (refine gen fun q hq => ?_; cases q <;> (try simp [hlt, hlt', hlt'', hfl, hgp, hw8, hby] at hq) <;> (try (have hh : True := hq; clear hh hq)))))
        | (refine ⟨(p + 1, _), by dsimp only; omega, by dsimp only; omega, rfl, ?_, ?_⟩ <;> simp (disch := omega) [wrap64, htk, hb])
        | refine T.rs (fun _ => false) fun K hK => ?_
        | refine T.rs1 (fun _ => false) fun K hK => ?_
        | refine T.cond rfl (fun hcnd => ?_) (fun hcnd => absurd hcnd (by decide))
        | refine T.seq ?_
        | refine T.block ?_
        | refine T.skip ?_
  · have hp' : p = 26 := by omega
    subst hp'
    repeat' first
      | ((first | refine aops_end (hK _ ?_)); clear hK K)
      | ((first | refine aops_go ?_); simp [hlt]; (try (refine gen fun q hq => ?_; cases q <;> (try simp [hlt] at hq) <;> (try (have hh : True := hq; clear hh hq)))))
      | (refine T.ret (Done.val (Or.inr rfl) ?_) <;> simp [resAs, Try.results71] <;> omega)
      | refine T.rs (fun _ => false) fun K hK => ?_
      | refine T.cond rfl (fun hcnd => absurd hcnd (by decide)) (fun hcnd => ?_)
      | refine T.seq ?_
      | refine T.exit ?_

theorem subst_nm (e v : MTm) (x : List UInt8) (hx : ¬ e.name = x) (hn : e.kids.length ≤ 1099511627776)
    (ih : ∀ u ∈ e.kids, ACalls Try.prog 72 [aTm u, .s x, aTm v] [] (aTm (substM x v u)) [] []) :
    ACalls Try.prog 72 [aTm e, .s x, aTm v] [] (aTm (.mk e.kind e.name e.num e.ty e.fr e.label (e.kids.map (substM x v)))) [] [] := by
  refine ACalls.of_body Try.func72 (by kernel_rfl) rfl (by kernel_rfl) (by simp [Try.ntmps72]) (by simp) ?_
  rw [Try.ntmps72]
  repeat' first
    | ((first | refine aops_end (hK _ ?_)); clear hK K)
    | ((first | refine aops_go ?_); simp [hx]; (try (refine gen fun q hq => ?_; cases q <;> (try simp [hx] at hq) <;> (try (have hh : True := hq; clear hh hq)))))
    | refine T.rs (fun _ => false) fun K hK => ?_
    | refine T.cond rfl (fun hcnd => absurd hcnd (by decide)) (fun hcnd => ?_)
    | refine T.seq ?_
    | refine T.block ?_
    | refine T.skip ?_
  all_goals refine T.ownifyObj 3 8 9 28 rfl rfl ?_
  all_goals refine T.loopK (α := Nat × List (List CV)) [1, 5, 6, 7, 35, 36] (fun x => [(37, .i x.1)]) (fun x => [(3, [.d (.i e.kind), .d (.str e.name), .d (.i e.num), .d (.i e.ty.kind), .d (.sl (e.ty.kids.map eTy)), .d (.i e.fr.kind), .d (.sl (e.fr.kids.map eTy)), .d (.i e.label), .own 0 x.1])]) (fun x => x.2) (fun y _ => [{ sz := 9, ety := 28, rows := ((e.kids.map (substM x v)).take y.1).map eTm, wr := true }]) (fun x => e.kids.length + 1 - x.1) (fun x => x.1 ≤ e.kids.length) (by simp; rfl) (fun y hy => ?_) (0, []) (by simp) (by simp) (by simp) (by simp)
  all_goals
    obtain ⟨p, G⟩ := y
    dsimp only at hy ⊢
    simp only [ups, List.set_cons_zero, List.set_cons_succ, List.cons_append, List.nil_append]
    have hwl : (e.kids.map (substM x v)).length = e.kids.length := by simp
    by_cases hlt : p < e.kids.length
    · obtain ⟨u, ht⟩ := get_lt hlt
      have htm : u ∈ e.kids := List.mem_of_getElem? ht
      have hgt : e.kids[p] = u := by rw [List.getElem?_eq_getElem hlt] at ht; exact Option.some.inj ht
      have hdr : e.kids.drop p = u :: e.kids.drop (p + 1) := by rw [List.drop_eq_getElem_cons hlt, hgt]
      have hu := ih u htm
      have htk : (e.kids.map (substM x v)).take (p + 1) = (e.kids.map (substM x v)).take p ++ [substM x v u] := by rw [List.take_add_one, List.getElem?_map, ht]; rfl
      have hlm : min p e.kids.length = p := by omega
      generalize (e.kids.map (substM x v)) = Z at *
      generalize substM x v u = wu at *
      repeat' first
        | ((first | refine aops_end (hK _ ?_) | refine aopsD_end (hK _ ?_)); clear hK K)
        | ((first | refine aops_go ?_ | refine aopsD_go ?_); simp [hlt, hgt, hlm, hwl]; (try simp (disch := omega) only [wrap64]); (try (refine gen fun q hq => ?_; cases q <;> (try simp [hlt, hgt, hlm, hwl] at hq) <;> (try (have hh : True := hq; clear hh hq)))))
        | (refine wpcall_pure rfl (hu) ?_; simp [hlt, hgt, hlm, hwl]; (try simp (disch := omega) only [wrap64]); (try (refine gen fun q hq => ?_; cases q <;> (try simp [hlt, hgt, hlm, hwl] at hq) <;> (try (have hh : True := hq; clear hh hq)))))
        | (refine ⟨(p + 1, _), by dsimp only; omega, by dsimp only; omega, rfl, ?_, ?_⟩ <;> simp (disch := omega) [wrap64, htk, eTm_def])
        | refine T.rd1 (id := 10) mixed (fun _ => false) [7, 9] (by kernel_rfl) fun K hK => ?_
        | refine T.rs (fun _ => false) fun K hK => ?_
        | refine T.rs1 (fun _ => false) fun K hK => ?_
        | (refine ⟨by omega, ?_⟩)
        | refine T.cond rfl (fun hcnd => ?_) (fun hcnd => absurd hcnd (by decide))
        | refine T.seq ?_
        | refine T.block ?_
        | refine T.skip ?_
    · have hp' : p = e.kids.length := by omega
      subst hp'
      rw [List.take_of_length_le (by omega)]
      generalize (e.kids.map (substM x v)) = Z at *
      repeat' first
        | ((first | refine aops_end (hK _ ?_)); clear hK K)
        | ((first | refine aops_go ?_); simp [hlt, hwl]; (try (refine gen fun q hq => ?_; cases q <;> (try simp [hlt, hwl] at hq) <;> (try (have hh : True := hq; clear hh hq)))))
        | (refine T.ret (Done.val (Or.inr rfl) ?_) <;> simp [resAs, Try.results72, eTm_def, hwl] <;> omega)
        | refine T.rs (fun _ => false) fun K hK => ?_
        | refine T.cond rfl (fun hcnd => absurd hcnd (by decide)) (fun hcnd => ?_)
        | refine T.seq ?_
        | refine T.exit ?_

theorem subst_kd (e v : MTm) (x : List UInt8) (h1 : ¬ e.kind = 1) (h5 : ¬ e.kind = 5) (hn : e.kids.length ≤ 1099511627776)
    (ih : ∀ u ∈ e.kids, ACalls Try.prog 72 [aTm u, .s x, aTm v] [] (aTm (substM x v u)) [] []) :
    ACalls Try.prog 72 [aTm e, .s x, aTm v] [] (aTm (.mk e.kind e.name e.num e.ty e.fr e.label (e.kids.map (substM x v)))) [] [] := by
  refine ACalls.of_body Try.func72 (by kernel_rfl) rfl (by kernel_rfl) (by simp [Try.ntmps72]) (by simp) ?_
  rw [Try.ntmps72]
  repeat' first
    | ((first | refine aops_end (hK _ ?_)); clear hK K)
    | ((first | refine aops_go ?_); simp [h1, h5]; (try (refine gen fun q hq => ?_; cases q <;> (try simp [h1, h5] at hq) <;> (try (have hh : True := hq; clear hh hq)))))
    | refine T.rs (fun _ => false) fun K hK => ?_
    | refine T.cond rfl (fun hcnd => absurd hcnd (by decide)) (fun hcnd => ?_)
    | refine T.seq ?_
    | refine T.block ?_
    | refine T.skip ?_
  all_goals refine T.ownifyObj 3 8 9 28 rfl rfl ?_
  all_goals refine T.loopK (α := Nat × List (List CV)) [1, 5, 6, 7, 35, 36] (fun x => [(37, .i x.1)]) (fun x => [(3, [.d (.i e.kind), .d (.str e.name), .d (.i e.num), .d (.i e.ty.kind), .d (.sl (e.ty.kids.map eTy)), .d (.i e.fr.kind), .d (.sl (e.fr.kids.map eTy)), .d (.i e.label), .own 0 x.1])]) (fun x => x.2) (fun y _ => [{ sz := 9, ety := 28, rows := ((e.kids.map (substM x v)).take y.1).map eTm, wr := true }]) (fun x => e.kids.length + 1 - x.1) (fun x => x.1 ≤ e.kids.length) (by simp; rfl) (fun y hy => ?_) (0, []) (by simp) (by simp) (by simp) (by simp)
  all_goals
    obtain ⟨p, G⟩ := y
    dsimp only at hy ⊢
    simp only [ups, List.set_cons_zero, List.set_cons_succ, List.cons_append, List.nil_append]
    have hwl : (e.kids.map (substM x v)).length = e.kids.length := by simp
    by_cases hlt : p < e.kids.length
    · obtain ⟨u, ht⟩ := get_lt hlt
      have htm : u ∈ e.kids := List.mem_of_getElem? ht
      have hgt : e.kids[p] = u := by rw [List.getElem?_eq_getElem hlt] at ht; exact Option.some.inj ht
      have hdr : e.kids.drop p = u :: e.kids.drop (p + 1) := by rw [List.drop_eq_getElem_cons hlt, hgt]
      have hu := ih u htm
      have htk : (e.kids.map (substM x v)).take (p + 1) = (e.kids.map (substM x v)).take p ++ [substM x v u] := by rw [List.take_add_one, List.getElem?_map, ht]; rfl
      have hlm : min p e.kids.length = p := by omega
      generalize (e.kids.map (substM x v)) = Z at *
      generalize substM x v u = wu at *
      repeat' first
        | ((first | refine aops_end (hK _ ?_) | refine aopsD_end (hK _ ?_)); clear hK K)
        | ((first | refine aops_go ?_ | refine aopsD_go ?_); simp [hlt, hgt, hlm, hwl]; (try simp (disch := omega) only [wrap64]); (try (refine gen fun q hq => ?_; cases q <;> (try simp [hlt, hgt, hlm, hwl] at hq) <;> (try (have hh : True := hq; clear hh hq)))))
        | (refine wpcall_pure rfl (hu) ?_; simp [hlt, hgt, hlm, hwl]; (try simp (disch := omega) only [wrap64]); (try (refine gen fun q hq => ?_; cases q <;> (try simp [hlt, hgt, hlm, hwl] at hq) <;> (try (have hh : True := hq; clear hh hq)))))
        | (refine ⟨(p + 1, _), by dsimp only; omega, by dsimp only; omega, rfl, ?_, ?_⟩ <;> simp (disch := omega) [wrap64, htk, eTm_def])
        | refine T.rd1 (id := 10) mixed (fun _ => false) [7, 9] (by kernel_rfl) fun K hK => ?_
        | refine T.rs (fun _ => false) fun K hK => ?_
        | refine T.rs1 (fun _ => false) fun K hK => ?_
        | (refine ⟨by omega, ?_⟩)
        | refine T.cond rfl (fun hcnd => ?_) (fun hcnd => absurd hcnd (by decide))
        | refine T.seq ?_
        | refine T.block ?_
        | refine T.skip ?_
    · have hp' : p = e.kids.length := by omega
      subst hp'
      rw [List.take_of_length_le (by omega)]
      generalize (e.kids.map (substM x v)) = Z at *
      repeat' first
        | ((first | refine aops_end (hK _ ?_)); clear hK K)
        | ((first | refine aops_go ?_); simp [hlt, hwl]; (try (refine gen fun q hq => ?_; cases q <;> (try simp [hlt, hwl] at hq) <;> (try (have hh : True := hq; clear hh hq)))))
        | (refine T.ret (Done.val (Or.inr rfl) ?_) <;> simp [resAs, Try.results72, eTm_def, hwl] <;> omega)
        | refine T.rs (fun _ => false) fun K hK => ?_
        | refine T.cond rfl (fun hcnd => absurd hcnd (by decide)) (fun hcnd => ?_)
        | refine T.seq ?_
        | refine T.exit ?_

theorem subst_ok (v : MTm) (x : List UInt8) : ∀ (e : MTm), nTm e ≤ 1099511627776 → ACalls Try.prog 72 [aTm e, .s x, aTm v] [] (aTm (substM x v e)) [] [] := by
  intro e
  induction e using MTm.ind with
  | h e ih =>
    intro hn
    obtain ⟨_, _, hnk, hnu⟩ := nTm_parts hn
    have ih' := fun u hu => ih u hu (hnu u hu)
    rw [substM_def]
    by_cases hx : e.name = x
    · by_cases h1 : e.kind = 1
      · simp only [h1, hx, and_self, if_true]
        refine ACalls.of_body Try.func72 (by kernel_rfl) rfl (by kernel_rfl) (by simp [Try.ntmps72]) (by simp) ?_
        rw [Try.ntmps72]
        repeat' first
          | ((first | refine aops_end (hK _ ?_)); clear hK K)
          | ((first | refine aops_go ?_); simp [h1, hx]; (try (refine gen fun q hq => ?_; cases q <;> (try simp [h1, hx] at hq) <;> (try (have hh : True := hq; clear hh hq)))))
          | (refine T.ret (Done.val (Or.inr rfl) ?_) <;> simp [resAs, Try.results72] <;> omega)
          | refine T.rs (fun _ => false) fun K hK => ?_
          | refine T.cond rfl (fun hcnd => ?_) (fun hcnd => absurd hcnd (by decide))
          | refine T.seq ?_
          | refine T.block ?_
      · by_cases h5 : e.kind = 5
        · rw [if_neg (by simp [h1]), if_pos ⟨h5, hx⟩]
          refine ACalls.of_body Try.func72 (by kernel_rfl) rfl (by kernel_rfl) (by simp [Try.ntmps72]) (by simp) ?_
          rw [Try.ntmps72]
          repeat' first
            | ((first | refine aops_end (hK _ ?_)); clear hK K)
            | ((first | refine aops_go ?_); simp [h1, h5, hx]; (try (refine gen fun q hq => ?_; cases q <;> (try simp [h1, h5, hx] at hq) <;> (try (have hh : True := hq; clear hh hq)))))
            | (refine T.ret (Done.val (Or.inr rfl) ?_) <;> simp [resAs, Try.results72, h5, hx] <;> omega)
            | refine T.rs (fun _ => false) fun K hK => ?_
            | refine T.cond rfl (fun hcnd => ?_) (fun hcnd => absurd hcnd (by decide))
            | refine T.cond rfl (fun hcnd => absurd hcnd (by decide)) (fun hcnd => ?_)
            | refine T.seq ?_
            | refine T.block ?_
        · rw [if_neg (by simp [h1]), if_neg (by simp [h5])]
          exact subst_kd e v x h1 h5 hnk ih'
    · rw [if_neg (by simp [hx]), if_neg (by simp [hx])]
      exact subst_nm e v x hx hnk ih'

theorem SubstTerm_ok (e v : MTm) (x : List UInt8) (he : nTm e ≤ 1073741824) (hv : nTm v ≤ 1073741824) : ACalls Try.prog 34 [aTm e, .s x, aTm v] [] (.tup (tmRes (substTermM e x v))) [] [] := by
  have k1 := TermValid_ok e (by omega)
  have k2 := TermValid_ok v (by omega)
  have k3 := isName_ok x
  simp only [substTermM]
  cases h1 : termValidM e with
  | false =>
    rw [h1] at k1
    simp only [Bool.false_and, Bool.false_eq_true, if_false, tmRes]
    refine ACalls.of_body Try.func34 (by kernel_rfl) rfl (by kernel_rfl) (by simp [Try.ntmps34]) (by simp) ?_
    rw [Try.ntmps34]
    repeat' first
      | ((first | refine aops_end (hK _ ?_)); clear hK K)
      | ((first | refine aops_go ?_); simp; (try (refine gen fun q hq => ?_; cases q <;> (try simp at hq) <;> (try (have hh : True := hq; clear hh hq)))))
      | (refine wpcall_pure rfl (k1) ?_; simp; (try (refine gen fun q hq => ?_; cases q <;> (try simp at hq) <;> (try (have hh : True := hq; clear hh hq)))))
      | (refine T.ret (Done.tup (Or.inr rfl) ?_) <;> simp [resAs, Try.results34] <;> omega)
      | refine T.rs (fun _ => false) fun K hK => ?_
      | refine T.cond rfl (fun hcnd => ?_) (fun hcnd => absurd hcnd (by decide))
      | refine T.seq ?_
  | true =>
  rw [h1] at k1
  cases h2 : termValidM v with
  | false =>
    rw [h2] at k2
    simp only [Bool.false_and, Bool.and_false, Bool.false_eq_true, if_false, tmRes]
    refine ACalls.of_body Try.func34 (by kernel_rfl) rfl (by kernel_rfl) (by simp [Try.ntmps34]) (by simp) ?_
    rw [Try.ntmps34]
    repeat' first
      | ((first | refine aops_end (hK _ ?_)); clear hK K)
      | ((first | refine aops_go ?_); simp; (try (refine gen fun q hq => ?_; cases q <;> (try simp at hq) <;> (try (have hh : True := hq; clear hh hq)))))
      | (refine wpcall_pure rfl (k1) ?_; simp; (try (refine gen fun q hq => ?_; cases q <;> (try simp at hq) <;> (try (have hh : True := hq; clear hh hq)))))
      | (refine wpcall_pure rfl (k2) ?_; simp; (try (refine gen fun q hq => ?_; cases q <;> (try simp at hq) <;> (try (have hh : True := hq; clear hh hq)))))
      | (refine T.ret (Done.tup (Or.inr rfl) ?_) <;> simp [resAs, Try.results34] <;> omega)
      | refine T.rs (fun _ => false) fun K hK => ?_
      | refine T.cond rfl (fun hcnd => ?_) (fun hcnd => absurd hcnd (by decide))
      | refine T.seq ?_
  | true =>
  rw [h2] at k2
  have k4 := freeNames_ok v 12 (by omega) (termValid_parts h2).shape
  cases h3 : nameM x with
  | false =>
    rw [h3] at k3
    simp only [Bool.false_and, Bool.and_false, Bool.false_eq_true, if_false, tmRes]
    refine ACalls.of_body Try.func34 (by kernel_rfl) rfl (by kernel_rfl) (by simp [Try.ntmps34]) (by simp) ?_
    rw [Try.ntmps34]
    repeat' first
      | ((first | refine aops_end (hK _ ?_)); clear hK K)
      | ((first | refine aops_go ?_); simp; (try (refine gen fun q hq => ?_; cases q <;> (try simp at hq) <;> (try (have hh : True := hq; clear hh hq)))))
      | (refine wpcall_pure rfl (k1) ?_; simp; (try (refine gen fun q hq => ?_; cases q <;> (try simp at hq) <;> (try (have hh : True := hq; clear hh hq)))))
      | (refine wpcall_pure rfl (k2) ?_; simp; (try (refine gen fun q hq => ?_; cases q <;> (try simp at hq) <;> (try (have hh : True := hq; clear hh hq)))))
      | (refine wpcall_pure rfl (k3) ?_; simp; (try (refine gen fun q hq => ?_; cases q <;> (try simp at hq) <;> (try (have hh : True := hq; clear hh hq)))))
      | (refine T.ret (Done.tup (Or.inr rfl) ?_) <;> simp [resAs, Try.results34] <;> omega)
      | refine T.rs (fun _ => false) fun K hK => ?_
      | refine T.cond rfl (fun hcnd => ?_) (fun hcnd => absurd hcnd (by decide))
      | refine T.seq ?_
  | true =>
  rw [h3] at k3
  by_cases h4 : namesM v = []
  rotate_left
  · simp only [h4, decide_false, Bool.false_and, Bool.and_false, Bool.false_eq_true, if_false, tmRes]
    generalize namesM v = nv at *
    refine ACalls.of_body Try.func34 (by kernel_rfl) rfl (by kernel_rfl) (by simp [Try.ntmps34]) (by simp) ?_
    rw [Try.ntmps34]
    repeat' first
      | ((first | refine aops_end (hK _ ?_)); clear hK K)
      | ((first | refine aops_go ?_); simp [h4]; (try (refine gen fun q hq => ?_; cases q <;> (try simp [h4] at hq) <;> (try (have hh : True := hq; clear hh hq)))))
      | (refine wpcall_pure rfl (k1) ?_; simp [h4]; (try (refine gen fun q hq => ?_; cases q <;> (try simp [h4] at hq) <;> (try (have hh : True := hq; clear hh hq)))))
      | (refine wpcall_pure rfl (k2) ?_; simp [h4]; (try (refine gen fun q hq => ?_; cases q <;> (try simp [h4] at hq) <;> (try (have hh : True := hq; clear hh hq)))))
      | (refine wpcall_pure rfl (k3) ?_; simp [h4]; (try (refine gen fun q hq => ?_; cases q <;> (try simp [h4] at hq) <;> (try (have hh : True := hq; clear hh hq)))))
      | (refine wpcall_pure rfl (k4) ?_; simp [h4]; (try (refine gen fun q hq => ?_; cases q <;> (try simp [h4] at hq) <;> (try (have hh : True := hq; clear hh hq)))))
      | (refine T.ret (Done.tup (Or.inr rfl) ?_) <;> simp [resAs, Try.results34] <;> omega)
      | refine T.rs (fun _ => false) fun K hK => ?_
      | refine T.cond rfl (fun hcnd => ?_) (fun hcnd => absurd hcnd (by decide))
      | refine T.seq ?_
  · rw [h4] at k4
    have k5 := subst_ok v x e (by omega)
    have hsz := substM_size x v e
    have s1 := valid_small h1
    have s2 := valid_small h2
    have s3 := (termValidM_iff.1 h1).2
    have hsz2 : nodesM e * nTm v ≤ 30 * 9000 := Nat.mul_le_mul s3 s2
    simp only [h4, decide_true, Bool.true_and]
    generalize substM x v e = y at *
    have k6 := TermValid_ok y (by omega)
    have k7 := own_ok y (by omega)
    cases h5 : termValidM y with
    | false =>
      rw [h5] at k6
      simp only [Bool.false_eq_true, if_false, tmRes]
      refine ACalls.of_body Try.func34 (by kernel_rfl) rfl (by kernel_rfl) (by simp [Try.ntmps34]) (by simp) ?_
      rw [Try.ntmps34]
      repeat' first
        | ((first | refine aops_end (hK _ ?_)); clear hK K)
        | ((first | refine aops_go ?_); simp; (try (refine gen fun q hq => ?_; cases q <;> (try simp at hq) <;> (try (have hh : True := hq; clear hh hq)))))
        | (refine wpcall_pure rfl (k1) ?_; simp; (try (refine gen fun q hq => ?_; cases q <;> (try simp at hq) <;> (try (have hh : True := hq; clear hh hq)))))
        | (refine wpcall_pure rfl (k2) ?_; simp; (try (refine gen fun q hq => ?_; cases q <;> (try simp at hq) <;> (try (have hh : True := hq; clear hh hq)))))
        | (refine wpcall_pure rfl (k3) ?_; simp; (try (refine gen fun q hq => ?_; cases q <;> (try simp at hq) <;> (try (have hh : True := hq; clear hh hq)))))
        | (refine wpcall_pure rfl (k4) ?_; simp; (try (refine gen fun q hq => ?_; cases q <;> (try simp at hq) <;> (try (have hh : True := hq; clear hh hq)))))
        | (refine wpcall_pure rfl (k5) ?_; simp; (try (refine gen fun q hq => ?_; cases q <;> (try simp at hq) <;> (try (have hh : True := hq; clear hh hq)))))
        | (refine wpcall_pure rfl (k6) ?_; simp; (try (refine gen fun q hq => ?_; cases q <;> (try simp at hq) <;> (try (have hh : True := hq; clear hh hq)))))
        | (refine T.ret (Done.tup (Or.inr rfl) ?_) <;> simp [resAs, Try.results34] <;> omega)
        | refine T.rs (fun _ => false) fun K hK => ?_
        | refine T.cond rfl (fun hcnd => ?_) (fun hcnd => absurd hcnd (by decide))
        | refine T.cond rfl (fun hcnd => absurd hcnd (by decide)) (fun hcnd => ?_)
        | refine T.seq ?_
        | refine T.skip ?_
    | true =>
      rw [h5] at k6
      simp only [if_true, tmRes]
      refine ACalls.of_body Try.func34 (by kernel_rfl) rfl (by kernel_rfl) (by simp [Try.ntmps34]) (by simp) ?_
      rw [Try.ntmps34]
      repeat' first
        | ((first | refine aops_end (hK _ ?_)); clear hK K)
        | ((first | refine aops_go ?_); simp; (try (refine gen fun q hq => ?_; cases q <;> (try simp at hq) <;> (try (have hh : True := hq; clear hh hq)))))
        | (refine wpcall_pure rfl (k1) ?_; simp; (try (refine gen fun q hq => ?_; cases q <;> (try simp at hq) <;> (try (have hh : True := hq; clear hh hq)))))
        | (refine wpcall_pure rfl (k2) ?_; simp; (try (refine gen fun q hq => ?_; cases q <;> (try simp at hq) <;> (try (have hh : True := hq; clear hh hq)))))
        | (refine wpcall_pure rfl (k3) ?_; simp; (try (refine gen fun q hq => ?_; cases q <;> (try simp at hq) <;> (try (have hh : True := hq; clear hh hq)))))
        | (refine wpcall_pure rfl (k4) ?_; simp; (try (refine gen fun q hq => ?_; cases q <;> (try simp at hq) <;> (try (have hh : True := hq; clear hh hq)))))
        | (refine wpcall_pure rfl (k5) ?_; simp; (try (refine gen fun q hq => ?_; cases q <;> (try simp at hq) <;> (try (have hh : True := hq; clear hh hq)))))
        | (refine wpcall_pure rfl (k6) ?_; simp; (try (refine gen fun q hq => ?_; cases q <;> (try simp at hq) <;> (try (have hh : True := hq; clear hh hq)))))
        | (refine wpcall_pure rfl (k7) ?_; simp; (try (refine gen fun q hq => ?_; cases q <;> (try simp at hq) <;> (try (have hh : True := hq; clear hh hq)))))
        | (refine T.ret (Done.tup (Or.inr rfl) ?_) <;> simp [resAs, Try.results34] <;> omega)
        | refine T.rs (fun _ => false) fun K hK => ?_
        | refine T.cond rfl (fun hcnd => absurd hcnd (by decide)) (fun hcnd => ?_)
        | refine T.seq ?_
        | refine T.skip ?_

end Go.Proofs.Ytiffndccihaopaa

namespace Go.Proofs.Ytiffndccihaopaa
open Go Go.Av
attribute [local irreducible] T ACalls TX EX LX Draws Some_ ACallsX eTy eTm MTy.kind MTy.kids MTm.kind MTm.name MTm.num MTm.ty MTm.fr MTm.label MTm.kids
attribute [local simp] eTy_def eTm_def
set_option linter.unusedSimpArgs false
set_option linter.unusedVariables false
set_option maxHeartbeats 16000000
set_option maxRecDepth 8000

theorem law_subst {e v x : MTm} {u t : MTy} {s : List UInt8} (hv : typeInM [] v = some u) (he : typeInM [⟨s, u⟩] e = some t) (hx : substTermM e s v = some x) : typeInM [] x = some t := by
  obtain ⟨_, h1, h2, _, _⟩ := typeIn_some hv
  obtain ⟨_, h3, h4, _, _⟩ := typeIn_some he
  simp only [substTermM] at hx
  split at hx
  · rename_i hq
    simp only [Bool.and_eq_true] at hq
    cases hx
    rw [typeIn_of rfl hq.2.2.2.2]
    exact typeM_subst (termValid_parts h1) h2 (termValid_parts h3) (by simp) h4
  · cases hx

theorem lawTypeSubst_ok (b : List Int) (hb : ∀ n ∈ b, 0 ≤ n ∧ n ≤ 255) : ACalls Try.prog 10 [.l (rB b)] [] (.b true) [] [] := by
  by_cases h1 : (1048576 : Int) < b.length
  · refine ACalls.of_body Try.func10 (by kernel_rfl) rfl (by kernel_rfl) (by simp [Try.ntmps10]) (by simp) ?_
    rw [Try.ntmps10]
    repeat' first
      | ((first | refine aops_end (hK _ ?_)); clear hK K)
      | ((first | refine aops_go ?_); simp [h1, rB_len]; (try (refine gen fun q hq => ?_; cases q <;> (try simp [h1, rB_len] at hq) <;> (try (have hh : True := hq; clear hh hq)))))
      | (refine T.ret (Done.data (Or.inr rfl) ?_ ?_) <;> simp [Try.results10] <;> omega)
      | refine T.rs (fun _ => false) fun K hK => ?_
      | refine T.cond rfl (fun hcnd => ?_) (fun hcnd => absurd hcnd (by decide))
      | refine T.seq ?_
  obtain ⟨⟨e, s, v⟩, ⟨he, hv⟩, d1⟩ := (DrawSubstTerm_ok b hb).elim
  dsimp only at he hv
  replace d1 : ACalls Try.prog 33 [.l (rB b)] [] (.tup [aTm e, .s s, aTm v]) [] [] := d1
  have k1 := TypeOf_ok v (by omega)
  have k2 := TypeOfS_ok v (by omega)
  have kz := TypeSame_ok zeroT zeroT (by simp [nTy_mk, nTyS])
  rw [sameTy_refl] at kz
  cases hr : typeInM [] v with
  | none =>
    rw [hr] at k1 k2
    simp only [tyRes] at k1 k2
    refine ACalls.of_body Try.func10 (by kernel_rfl) rfl (by kernel_rfl) (by simp [Try.ntmps10]) (by simp) ?_
    rw [Try.ntmps10]
    repeat' first
      | ((first | refine aops_end (hK _ ?_)); clear hK K)
      | ((first | refine aops_go ?_); simp [h1, rB_len]; (try (refine gen fun q hq => ?_; cases q <;> (try simp [h1, rB_len] at hq) <;> (try (have hh : True := hq; clear hh hq)))))
      | (refine wpcall_pure rfl (d1) ?_; simp [h1, rB_len]; (try (refine gen fun q hq => ?_; cases q <;> (try simp [h1, rB_len] at hq) <;> (try (have hh : True := hq; clear hh hq)))))
      | (refine wpcall_pure rfl (k1) ?_; simp [h1, rB_len]; (try (refine gen fun q hq => ?_; cases q <;> (try simp [h1, rB_len] at hq) <;> (try (have hh : True := hq; clear hh hq)))))
      | (refine wpcall_pure rfl (k2) ?_; simp [h1, rB_len]; (try (refine gen fun q hq => ?_; cases q <;> (try simp [h1, rB_len] at hq) <;> (try (have hh : True := hq; clear hh hq)))))
      | (refine wpcall_pure ?_ (kz) ?_; (focus (solve | simp [h1, rB_len])); simp [h1, rB_len]; (try (refine gen fun q hq => ?_; cases q <;> (try simp [h1, rB_len] at hq) <;> (try (have hh : True := hq; clear hh hq)))))
      | (refine T.ret (Done.data (Or.inr rfl) ?_ ?_) <;> simp [Try.results10] <;> omega)
      | refine T.rs (fun _ => false) fun K hK => ?_
      | refine T.cond rfl (fun hcnd => ?_) (fun hcnd => absurd hcnd (by decide))
      | refine T.cond rfl (fun hcnd => absurd hcnd (by decide)) (fun hcnd => ?_)
      | refine T.seq ?_
      | refine T.skip ?_
  | some u =>
    obtain ⟨_, _, _, _, huv⟩ := typeIn_some hr
    have su := shape4 huv.shape
    have k7 := TypeSame_ok u u (by omega)
    rw [sameTy_refl] at k7
    rw [hr] at k1 k2
    simp only [tyRes] at k1 k2
    have k3 := TypeIn_ok [⟨[120], u⟩] e (by simp) (fun w hw => by simp at hw; subst hw; dsimp only; omega) (by omega)
    have k4 := SubstTerm_ok e v [120] (by omega) (by omega)
    have k5z := TypeOf_ok zeroE (by simp [nTm_mk, nTmS, nTy_mk, nTyS])
    have hzE : typeInM [] zeroE = none := by simp [typeInM, termValidM, shapeTm, nodeM, kidsM]
    rw [hzE] at k5z
    simp only [tyRes] at k5z
    cases hx : substTermM e [120] v with
    | none =>
      rw [hx] at k4
      simp only [tmRes] at k4
      generalize typeInM [⟨[120], u⟩] e = o at k3
      cases o with
      | none =>
        simp only [tyRes] at k3
        refine ACalls.of_body Try.func10 (by kernel_rfl) rfl (by kernel_rfl) (by simp [Try.ntmps10]) (by simp) ?_
        rw [Try.ntmps10]
        repeat' first
          | ((first | refine aops_end (hK _ ?_)); clear hK K)
          | ((first | refine aops_go ?_); simp [h1, rB_len, eBd]; (try (refine gen fun q hq => ?_; cases q <;> (try simp [h1, rB_len, eBd] at hq) <;> (try (have hh : True := hq; clear hh hq)))))
          | (refine wpcall_pure rfl (d1) ?_; simp [h1, rB_len, eBd]; (try (refine gen fun q hq => ?_; cases q <;> (try simp [h1, rB_len, eBd] at hq) <;> (try (have hh : True := hq; clear hh hq)))))
          | (refine wpcall_pure rfl (k1) ?_; simp [h1, rB_len, eBd]; (try (refine gen fun q hq => ?_; cases q <;> (try simp [h1, rB_len, eBd] at hq) <;> (try (have hh : True := hq; clear hh hq)))))
          | (refine wpcall_pure rfl (k2) ?_; simp [h1, rB_len, eBd]; (try (refine gen fun q hq => ?_; cases q <;> (try simp [h1, rB_len, eBd] at hq) <;> (try (have hh : True := hq; clear hh hq)))))
          | (refine wpcall_pure rfl (k7) ?_; simp [h1, rB_len, eBd]; (try (refine gen fun q hq => ?_; cases q <;> (try simp [h1, rB_len, eBd] at hq) <;> (try (have hh : True := hq; clear hh hq)))))
          | (refine wpcall_pure ?_ (k3) ?_; (focus (solve | simp [h1, rB_len, eBd])); simp [h1, rB_len, eBd]; (try (refine gen fun q hq => ?_; cases q <;> (try simp [h1, rB_len, eBd] at hq) <;> (try (have hh : True := hq; clear hh hq)))))
          | (refine wpcall_pure rfl (k4) ?_; simp [h1, rB_len, eBd]; (try (refine gen fun q hq => ?_; cases q <;> (try simp [h1, rB_len, eBd] at hq) <;> (try (have hh : True := hq; clear hh hq)))))
          | (refine wpcall_pure ?_ (k5z) ?_; (focus (solve | simp [h1, rB_len, eBd])); simp [h1, rB_len, eBd]; (try (refine gen fun q hq => ?_; cases q <;> (try simp [h1, rB_len, eBd] at hq) <;> (try (have hh : True := hq; clear hh hq)))))
          | (refine T.ret (Done.data (Or.inr rfl) ?_ ?_) <;> simp [Try.results10] <;> omega)
          | refine T.rs (fun _ => false) fun K hK => ?_
          | refine T.cond rfl (fun hcnd => absurd hcnd (by decide)) (fun hcnd => ?_)
          | refine T.seq ?_
          | refine T.skip ?_
      | some t =>
        simp only [tyRes] at k3
        refine ACalls.of_body Try.func10 (by kernel_rfl) rfl (by kernel_rfl) (by simp [Try.ntmps10]) (by simp) ?_
        rw [Try.ntmps10]
        repeat' first
          | ((first | refine aops_end (hK _ ?_)); clear hK K)
          | ((first | refine aops_go ?_); simp [h1, rB_len, eBd]; (try (refine gen fun q hq => ?_; cases q <;> (try simp [h1, rB_len, eBd] at hq) <;> (try (have hh : True := hq; clear hh hq)))))
          | (refine wpcall_pure rfl (d1) ?_; simp [h1, rB_len, eBd]; (try (refine gen fun q hq => ?_; cases q <;> (try simp [h1, rB_len, eBd] at hq) <;> (try (have hh : True := hq; clear hh hq)))))
          | (refine wpcall_pure rfl (k1) ?_; simp [h1, rB_len, eBd]; (try (refine gen fun q hq => ?_; cases q <;> (try simp [h1, rB_len, eBd] at hq) <;> (try (have hh : True := hq; clear hh hq)))))
          | (refine wpcall_pure rfl (k2) ?_; simp [h1, rB_len, eBd]; (try (refine gen fun q hq => ?_; cases q <;> (try simp [h1, rB_len, eBd] at hq) <;> (try (have hh : True := hq; clear hh hq)))))
          | (refine wpcall_pure rfl (k7) ?_; simp [h1, rB_len, eBd]; (try (refine gen fun q hq => ?_; cases q <;> (try simp [h1, rB_len, eBd] at hq) <;> (try (have hh : True := hq; clear hh hq)))))
          | (refine wpcall_pure ?_ (k3) ?_; (focus (solve | simp [h1, rB_len, eBd])); simp [h1, rB_len, eBd]; (try (refine gen fun q hq => ?_; cases q <;> (try simp [h1, rB_len, eBd] at hq) <;> (try (have hh : True := hq; clear hh hq)))))
          | (refine wpcall_pure rfl (k4) ?_; simp [h1, rB_len, eBd]; (try (refine gen fun q hq => ?_; cases q <;> (try simp [h1, rB_len, eBd] at hq) <;> (try (have hh : True := hq; clear hh hq)))))
          | (refine wpcall_pure ?_ (k5z) ?_; (focus (solve | simp [h1, rB_len, eBd])); simp [h1, rB_len, eBd]; (try (refine gen fun q hq => ?_; cases q <;> (try simp [h1, rB_len, eBd] at hq) <;> (try (have hh : True := hq; clear hh hq)))))
          | (refine T.ret (Done.data (Or.inr rfl) ?_ ?_) <;> simp [Try.results10] <;> omega)
          | refine T.rs (fun _ => false) fun K hK => ?_
          | refine T.cond rfl (fun hcnd => absurd hcnd (by decide)) (fun hcnd => ?_)
          | refine T.seq ?_
          | refine T.skip ?_
    | some x =>
      have hxn : nTm x ≤ 9000 := by
        simp only [substTermM] at hx
        split at hx
        · rename_i hq
          simp only [Bool.and_eq_true] at hq
          cases hx
          exact valid_small hq.2.2.2.2
        · cases hx
      have k5 := TypeOf_ok x (by omega)
      rw [hx] at k4
      simp only [tmRes] at k4
      cases ht : typeInM [⟨[120], u⟩] e with
      | none =>
        rw [ht] at k3
        generalize typeInM [] x = o at k5
        cases o with
        | none =>
          simp only [tyRes] at k3 k5
          refine ACalls.of_body Try.func10 (by kernel_rfl) rfl (by kernel_rfl) (by simp [Try.ntmps10]) (by simp) ?_
          rw [Try.ntmps10]
          repeat' first
            | ((first | refine aops_end (hK _ ?_)); clear hK K)
            | ((first | refine aops_go ?_); simp [h1, rB_len, eBd]; (try (refine gen fun q hq => ?_; cases q <;> (try simp [h1, rB_len, eBd] at hq) <;> (try (have hh : True := hq; clear hh hq)))))
            | (refine wpcall_pure rfl (d1) ?_; simp [h1, rB_len, eBd]; (try (refine gen fun q hq => ?_; cases q <;> (try simp [h1, rB_len, eBd] at hq) <;> (try (have hh : True := hq; clear hh hq)))))
            | (refine wpcall_pure rfl (k1) ?_; simp [h1, rB_len, eBd]; (try (refine gen fun q hq => ?_; cases q <;> (try simp [h1, rB_len, eBd] at hq) <;> (try (have hh : True := hq; clear hh hq)))))
            | (refine wpcall_pure rfl (k2) ?_; simp [h1, rB_len, eBd]; (try (refine gen fun q hq => ?_; cases q <;> (try simp [h1, rB_len, eBd] at hq) <;> (try (have hh : True := hq; clear hh hq)))))
            | (refine wpcall_pure rfl (k7) ?_; simp [h1, rB_len, eBd]; (try (refine gen fun q hq => ?_; cases q <;> (try simp [h1, rB_len, eBd] at hq) <;> (try (have hh : True := hq; clear hh hq)))))
            | (refine wpcall_pure ?_ (k3) ?_; (focus (solve | simp [h1, rB_len, eBd])); simp [h1, rB_len, eBd]; (try (refine gen fun q hq => ?_; cases q <;> (try simp [h1, rB_len, eBd] at hq) <;> (try (have hh : True := hq; clear hh hq)))))
            | (refine wpcall_pure rfl (k4) ?_; simp [h1, rB_len, eBd]; (try (refine gen fun q hq => ?_; cases q <;> (try simp [h1, rB_len, eBd] at hq) <;> (try (have hh : True := hq; clear hh hq)))))
            | (refine wpcall_pure rfl (k5) ?_; simp [h1, rB_len, eBd]; (try (refine gen fun q hq => ?_; cases q <;> (try simp [h1, rB_len, eBd] at hq) <;> (try (have hh : True := hq; clear hh hq)))))
            | (refine T.ret (Done.data (Or.inr rfl) ?_ ?_) <;> simp [Try.results10] <;> omega)
            | refine T.rs (fun _ => false) fun K hK => ?_
            | refine T.cond rfl (fun hcnd => absurd hcnd (by decide)) (fun hcnd => ?_)
            | refine T.seq ?_
            | refine T.skip ?_
        | some t =>
          simp only [tyRes] at k3 k5
          refine ACalls.of_body Try.func10 (by kernel_rfl) rfl (by kernel_rfl) (by simp [Try.ntmps10]) (by simp) ?_
          rw [Try.ntmps10]
          repeat' first
            | ((first | refine aops_end (hK _ ?_)); clear hK K)
            | ((first | refine aops_go ?_); simp [h1, rB_len, eBd]; (try (refine gen fun q hq => ?_; cases q <;> (try simp [h1, rB_len, eBd] at hq) <;> (try (have hh : True := hq; clear hh hq)))))
            | (refine wpcall_pure rfl (d1) ?_; simp [h1, rB_len, eBd]; (try (refine gen fun q hq => ?_; cases q <;> (try simp [h1, rB_len, eBd] at hq) <;> (try (have hh : True := hq; clear hh hq)))))
            | (refine wpcall_pure rfl (k1) ?_; simp [h1, rB_len, eBd]; (try (refine gen fun q hq => ?_; cases q <;> (try simp [h1, rB_len, eBd] at hq) <;> (try (have hh : True := hq; clear hh hq)))))
            | (refine wpcall_pure rfl (k2) ?_; simp [h1, rB_len, eBd]; (try (refine gen fun q hq => ?_; cases q <;> (try simp [h1, rB_len, eBd] at hq) <;> (try (have hh : True := hq; clear hh hq)))))
            | (refine wpcall_pure rfl (k7) ?_; simp [h1, rB_len, eBd]; (try (refine gen fun q hq => ?_; cases q <;> (try simp [h1, rB_len, eBd] at hq) <;> (try (have hh : True := hq; clear hh hq)))))
            | (refine wpcall_pure ?_ (k3) ?_; (focus (solve | simp [h1, rB_len, eBd])); simp [h1, rB_len, eBd]; (try (refine gen fun q hq => ?_; cases q <;> (try simp [h1, rB_len, eBd] at hq) <;> (try (have hh : True := hq; clear hh hq)))))
            | (refine wpcall_pure rfl (k4) ?_; simp [h1, rB_len, eBd]; (try (refine gen fun q hq => ?_; cases q <;> (try simp [h1, rB_len, eBd] at hq) <;> (try (have hh : True := hq; clear hh hq)))))
            | (refine wpcall_pure rfl (k5) ?_; simp [h1, rB_len, eBd]; (try (refine gen fun q hq => ?_; cases q <;> (try simp [h1, rB_len, eBd] at hq) <;> (try (have hh : True := hq; clear hh hq)))))
            | (refine T.ret (Done.data (Or.inr rfl) ?_ ?_) <;> simp [Try.results10] <;> omega)
            | refine T.rs (fun _ => false) fun K hK => ?_
            | refine T.cond rfl (fun hcnd => absurd hcnd (by decide)) (fun hcnd => ?_)
            | refine T.seq ?_
            | refine T.skip ?_
      | some t =>
        obtain ⟨_, _, _, _, htv⟩ := typeIn_some ht
        have k8 := TypeSame_ok t t (by have := shape4 htv.shape; omega)
        rw [sameTy_refl] at k8
        rw [ht] at k3
        rw [law_subst hr ht hx] at k5
        simp only [tyRes] at k3 k5
        refine ACalls.of_body Try.func10 (by kernel_rfl) rfl (by kernel_rfl) (by simp [Try.ntmps10]) (by simp) ?_
        rw [Try.ntmps10]
        repeat' first
          | ((first | refine aops_end (hK _ ?_)); clear hK K)
          | ((first | refine aops_go ?_); simp [h1, rB_len, eBd]; (try (refine gen fun q hq => ?_; cases q <;> (try simp [h1, rB_len, eBd] at hq) <;> (try (have hh : True := hq; clear hh hq)))))
          | (refine wpcall_pure rfl (d1) ?_; simp [h1, rB_len, eBd]; (try (refine gen fun q hq => ?_; cases q <;> (try simp [h1, rB_len, eBd] at hq) <;> (try (have hh : True := hq; clear hh hq)))))
          | (refine wpcall_pure rfl (k1) ?_; simp [h1, rB_len, eBd]; (try (refine gen fun q hq => ?_; cases q <;> (try simp [h1, rB_len, eBd] at hq) <;> (try (have hh : True := hq; clear hh hq)))))
          | (refine wpcall_pure rfl (k2) ?_; simp [h1, rB_len, eBd]; (try (refine gen fun q hq => ?_; cases q <;> (try simp [h1, rB_len, eBd] at hq) <;> (try (have hh : True := hq; clear hh hq)))))
          | (refine wpcall_pure rfl (k7) ?_; simp [h1, rB_len, eBd]; (try (refine gen fun q hq => ?_; cases q <;> (try simp [h1, rB_len, eBd] at hq) <;> (try (have hh : True := hq; clear hh hq)))))
          | (refine wpcall_pure ?_ (k3) ?_; (focus (solve | simp [h1, rB_len, eBd])); simp [h1, rB_len, eBd]; (try (refine gen fun q hq => ?_; cases q <;> (try simp [h1, rB_len, eBd] at hq) <;> (try (have hh : True := hq; clear hh hq)))))
          | (refine wpcall_pure rfl (k4) ?_; simp [h1, rB_len, eBd]; (try (refine gen fun q hq => ?_; cases q <;> (try simp [h1, rB_len, eBd] at hq) <;> (try (have hh : True := hq; clear hh hq)))))
          | (refine wpcall_pure rfl (k5) ?_; simp [h1, rB_len, eBd]; (try (refine gen fun q hq => ?_; cases q <;> (try simp [h1, rB_len, eBd] at hq) <;> (try (have hh : True := hq; clear hh hq)))))
          | (refine wpcall_pure rfl (k8) ?_; simp [h1, rB_len, eBd]; (try (refine gen fun q hq => ?_; cases q <;> (try simp [h1, rB_len, eBd] at hq) <;> (try (have hh : True := hq; clear hh hq)))))
          | (refine T.ret (Done.data (Or.inr rfl) ?_ ?_) <;> simp [Try.results10] <;> omega)
          | refine T.rs (fun _ => false) fun K hK => ?_
          | refine T.cond rfl (fun hcnd => absurd hcnd (by decide)) (fun hcnd => ?_)
          | refine T.seq ?_
          | refine T.skip ?_
end Go.Proofs.Ytiffndccihaopaa
