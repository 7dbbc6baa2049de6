/- A part of the library of this seat: a value-semantic program logic over the model, plain models, and walks of functions. -/
import Derived.Test.YtfdknjjnifnobaaGreatE12
set_option linter.unusedVariables false
set_option linter.unusedSimpArgs false
namespace Go.Proofs.YtfdknjjnifnobaaGreat
attribute [-simp] Go.Av.freeStepG Go.Av.exA Go.Av.innAsH Go.Av.AV.innH Go.Av.CV.innH Go.Av.innHs Go.Av.AV.outnH Go.Av.CV.outnH
open Go Go.Av
attribute [local irreducible] T ACalls TX EX LX Draws Some_ ACallsX eTy eTm MTy.kind MTy.kids MTm.kind MTm.name MTm.num MTm.ty MTm.fr MTm.label MTm.kids
attribute [local simp] eTy_def eTm_def
set_option linter.unusedSimpArgs false
set_option linter.unusedVariables false
set_option maxHeartbeats 16000000
set_option maxRecDepth 8000

theorem base_ok (k : Int) : ACalls Tryz.prog 67 [.i k] [] (aTy (.mk k [])) [] [] := by
  refine ACalls.of_body Tryz.func67 (by kernel_rfl) rfl (by kernel_rfl) (by simp [Tryz.ntmps67]) (by simp) ?_
  rw [Tryz.ntmps67]
  repeat' first
    | ((first | refine aops_end (hK _ ?_)); clear hK K)
    | ((first | refine aops_go ?_); simp; (try (refine gen fun q hq => ?_; cases q <;> (try simp at hq) <;> (try (have hh : True := hq; clear hh hq)))))
    | (refine T.ret (Done.val (Or.inr rfl) ?_) <;> simp [resAs, Tryz.results67] <;> omega)
    | refine T.rs (fun _ => false) fun K hK => ?_

theorem both_ok (k : Int) (a b : MTy) : ACalls Tryz.prog 216 [.i k, aTy a, aTy b] [] (aTy (.mk k [a, b])) [] [] := by
  refine ACalls.of_body Tryz.func216 (by kernel_rfl) rfl (by kernel_rfl) (by simp [Tryz.ntmps216]) (by simp) ?_
  rw [Tryz.ntmps216]
  repeat' first
    | ((first | refine aops_end (hK _ ?_)); clear hK K)
    | ((first | refine aops_go ?_); simp; (try (refine gen fun q hq => ?_; cases q <;> (try simp at hq) <;> (try (have hh : True := hq; clear hh hq)))))
    | (refine T.ret (Done.val (Or.inr rfl) ?_) <;> simp [resAs, Tryz.results216, eTy_def] <;> omega)
    | refine T.rs (fun _ => false) fun K hK => ?_

theorem ownType_ok : ∀ (t : MTy), nTy t ≤ 1099511627776 → ACalls Tryz.prog 116 [aTy t] [] (aTy t) [] [] := by
  intro t
  induction t using MTy.ind with
  | h t ih =>
    intro hn
    rw [nTy_def] at hn
    have hlen := nTyS_len t.kids
    refine ACalls.of_body Tryz.func116 (by kernel_rfl) rfl (by kernel_rfl) (by simp [Tryz.ntmps116]) (by simp) ?_
    rw [Tryz.ntmps116]
    repeat' first
      | ((first | refine aops_end (hK _ ?_)); clear hK K)
      | ((first | refine aops_go ?_); simp; (try (refine gen fun q hq => ?_; cases q <;> (try simp at hq) <;> (try (have hh : True := hq; clear hh hq)))))
      | refine T.rs (fun _ => false) fun K hK => ?_
      | refine T.seq ?_
      | refine T.block ?_
    refine T.ownifyObj 2 1 2 25 (row := [.d (.i t.kind), .nil]) (by simp) (by simp) ?_
    refine T.loopK (α := Nat × List (List CV)) [2, 3, 10, 11] (fun x => [(12, .i x.1)]) (fun x => [(2, [.d (.i t.kind), .own 0 x.1])]) (fun x => x.2) (fun x _ => [{ sz := 2, ety := 25, rows := (t.kids.take x.1).map eTy, wr := true }]) (fun x => t.kids.length + 1 - x.1) (fun x => x.1 ≤ t.kids.length) (by simp; rfl) (fun x hx => ?_) (0, []) (by simp) (by simp) (by simp) (by simp)
    obtain ⟨p, G⟩ := x
    dsimp only at hx ⊢
    by_cases hlt : p < t.kids.length
    · obtain ⟨u, ht⟩ := get_lt hlt
      have htm : u ∈ t.kids := List.mem_of_getElem? ht
      have hgt : t.kids[p] = u := by rw [List.getElem?_eq_getElem hlt] at ht; exact Option.some.inj ht
      have hdr : t.kids.drop p = u :: t.kids.drop (p + 1) := by rw [List.drop_eq_getElem_cons hlt, hgt]
      have hu := ih u htm (by have := nTyS_mem htm; omega)
      have htk : t.kids.take (p + 1) = t.kids.take p ++ [u] := by rw [List.take_add_one, ht]; rfl
      have hmin : min p t.kids.length = p := by omega
      simp only [ups, List.set_cons_zero, List.set_cons_succ, List.cons_append, List.nil_append]
      repeat' first
        | ((first | refine aops_end (hK _ ?_) | refine aopsD_end (hK _ ?_)); clear hK K)
        | ((first | refine aops_go ?_ | refine aopsD_go ?_); simp [hlt, hgt, hmin]; (try simp (disch := omega) only [wrap64]); (try (refine gen fun q hq => ?_; cases q <;> (try simp [hlt, hgt, hmin] at hq) <;> (try (have hh : True := hq; clear hh hq)))))
        | (refine wpcall_pure rfl (hu) ?_; simp [hlt, hgt, hmin]; (try simp (disch := omega) only [wrap64]); (try (refine gen fun q hq => ?_; cases q <;> (try simp [hlt, hgt, hmin] at hq) <;> (try (have hh : True := hq; clear hh hq)))))
        | (refine ⟨by omega, by omega, ?_⟩)
        | (refine ⟨(p + 1, _), by dsimp only; omega, by dsimp only; omega, rfl, ?_, ?_⟩ <;> simp (disch := omega) [wrap64, htk, eTy_def])
        | refine T.rd1 (id := 5) mixed (fun _ => false) [5, 7] (by kernel_rfl) fun K hK => ?_
        | refine T.rs (fun _ => false) fun K hK => ?_
        | refine T.rs1 (fun _ => false) fun K hK => ?_
        | refine T.cond rfl (fun hcnd => ?_) (fun hcnd => absurd hcnd (by decide))
        | refine T.seq ?_
        | refine T.block ?_
        | refine T.skip ?_
    · have hp' : p = t.kids.length := by omega
      subst hp'
      simp only [ups, List.set_cons_zero, List.set_cons_succ, List.cons_append, List.nil_append]
      repeat' first
        | ((first | refine aops_end (hK _ ?_)); clear hK K)
        | ((first | refine aops_go ?_); simp [hlt]; (try (refine gen fun q hq => ?_; cases q <;> (try simp [hlt] at hq) <;> (try (have hh : True := hq; clear hh hq)))))
        | (refine T.ret (Done.val (Or.inr rfl) ?_) <;> simp [resAs, Tryz.results116, eTy_def] <;> omega)
        | refine T.rs (fun _ => false) fun K hK => ?_
        | refine T.cond rfl (fun hcnd => absurd hcnd (by decide)) (fun hcnd => ?_)
        | refine T.seq ?_
        | refine T.exit ?_

end Go.Proofs.YtfdknjjnifnobaaGreat

namespace Go.Proofs.YtfdknjjnifnobaaGreat
attribute [-simp] Go.Av.freeStepG Go.Av.exA Go.Av.innAsH Go.Av.AV.innH Go.Av.CV.innH Go.Av.innHs Go.Av.AV.outnH Go.Av.CV.outnH
open Go Go.Av
attribute [local irreducible] T ACalls TX EX LX Draws Some_ ACallsX eTy eTm MTy.kind MTy.kids MTm.kind MTm.name MTm.num MTm.ty MTm.fr MTm.label MTm.kids
attribute [local simp] eTy_def eTm_def
set_option linter.unusedSimpArgs false
set_option linter.unusedVariables false
set_option maxHeartbeats 16000000
set_option maxRecDepth 8000

theorem TypeSame_ok : (a b : MTy) → nTy a ≤ 1099511627776 → ACalls Tryz.prog 33 [aTy a, aTy b] [] (.b (sameTy a b)) [] []
  | .mk k l, b, hn => by
    rw [nTy_def] at hn
    have hlen := nTyS_len l
    have hc := equalFuncTy_0 33 l b.kids sameTy (by simp at hn; omega) (fun u hu v hv => TypeSame_ok u v (by have := nTyS_mem hu; simp at hn; omega))
    rw [sameTy_def]
    simp only [MTy.kids_mk, MTy.kind_mk]
    generalize all2 sameTy l b.kids = R at hc ⊢
    refine ACalls.of_body Tryz.func33 (by kernel_rfl) rfl (by kernel_rfl) (by simp [Tryz.ntmps33]) (by simp) ?_
    rw [Tryz.ntmps33]
    repeat' first
      | ((first | refine aops_end (hK _ ?_)); clear hK K)
      | ((first | refine aops_go ?_); simp; (try (refine gen fun q hq => ?_; cases q <;> (try simp at hq) <;> (try (have hh : True := hq; clear hh hq)))))
      | (refine wpcall_pure rfl (hc) ?_; simp; (try (refine gen fun q hq => ?_; cases q <;> (try simp at hq) <;> (try (have hh : True := hq; clear hh hq)))))
      | (refine T.ret (Done.data (Or.inr rfl) ?_ ?_) <;> simp [Tryz.results33, *] <;> omega)
      | refine T.rs (fun _ => false) fun K hK => ?_
termination_by a => SizeOf.sizeOf a
decreasing_by have := List.sizeOf_lt_of_mem hu; simp; omega

theorem TermSame_ok : (a b : MTm) → nTm a ≤ 1099511627776 → ACalls Tryz.prog 16 [aTm a, aTm b] [] (.b (sameTm a b)) [] []
  | .mk k s n t f lb l, b, hn => by
    obtain ⟨hnt, hnf, hnk, hnu⟩ := nTm_parts hn
    have hnt : nTy t ≤ 1099511627776 := by simpa using hnt
    have hnf : nTy f ≤ 1099511627776 := by simpa using hnf
    have hnk : l.length ≤ 1099511627776 := by simpa using hnk
    have hnu : ∀ u ∈ l, nTm u ≤ 1099511627776 := by simpa using hnu
    have hc := equalFuncTm_0 16 l b.kids sameTm (by omega) (fun u hu v hv => TermSame_ok u v (by have := hnu u hu; omega))
    have h1 := TypeSame_ok t b.ty hnt
    have h2 := TypeSame_ok f b.fr hnf
    rw [sameTm_def]
    simp only [MTm.kids_mk, MTm.kind_mk, MTm.name_mk, MTm.num_mk, MTm.ty_mk, MTm.fr_mk, MTm.label_mk]
    generalize all2 sameTm l b.kids = R at hc ⊢
    generalize sameTy t b.ty = R1 at h1 ⊢
    generalize sameTy f b.fr = R2 at h2 ⊢
    refine ACalls.of_body Tryz.func16 (by kernel_rfl) rfl (by kernel_rfl) (by simp [Tryz.ntmps16]) (by simp) ?_
    rw [Tryz.ntmps16]
    repeat' first
      | ((first | refine aops_end (hK _ ?_)); clear hK K)
      | ((first | refine aops_go ?_); simp; (try (refine gen fun q hq => ?_; cases q <;> (try simp at hq) <;> (try (have hh : True := hq; clear hh hq)))))
      | (refine wpcall_pure rfl (hc) ?_; simp; (try (refine gen fun q hq => ?_; cases q <;> (try simp at hq) <;> (try (have hh : True := hq; clear hh hq)))))
      | (refine wpcall_pure rfl (h1) ?_; simp; (try (refine gen fun q hq => ?_; cases q <;> (try simp at hq) <;> (try (have hh : True := hq; clear hh hq)))))
      | (refine wpcall_pure rfl (h2) ?_; simp; (try (refine gen fun q hq => ?_; cases q <;> (try simp at hq) <;> (try (have hh : True := hq; clear hh hq)))))
      | (refine T.ret (Done.data (Or.inr rfl) ?_ ?_) <;> simp [Tryz.results16, *] <;> omega)
      | refine T.rs (fun _ => false) fun K hK => ?_
termination_by a => SizeOf.sizeOf a
decreasing_by have := List.sizeOf_lt_of_mem hu; simp; omega

theorem own1_ok (e : MTm) : ACalls Tryz.prog 151 [aTm e] [] (aTm e) [] [] := by
  refine ACalls.of_body Tryz.func151 (by kernel_rfl) rfl (by kernel_rfl) (by simp [Tryz.ntmps151]) (by simp) ?_
  rw [Tryz.ntmps151]
  repeat' first
    | ((first | refine aops_end (hK _ ?_)); clear hK K)
    | ((first | refine aops_go ?_); simp; (try (refine gen fun q hq => ?_; cases q <;> (try simp at hq) <;> (try (have hh : True := hq; clear hh hq)))))
    | (refine T.ret (Done.val (Or.inr rfl) ?_) <;> simp [resAs, Tryz.results151] <;> omega)
    | refine T.rs (fun _ => false) fun K hK => ?_

/-- mapped: q holds of the nodes. -/
theorem mapped_ok (f : FuncId) (g : MTm → MTm) (q : MTm → Prop) (hq : ∀ e, q e → ∀ u ∈ e.kids, q u)
    (hf : ∀ e, q e → ACalls Tryz.prog f [aTm (.mk e.kind e.name e.num e.ty e.fr e.label (e.kids.map (mapM g)))] [] (aTm (mapM g e)) [] []) :
    ∀ (e : MTm), q e → nTm e ≤ 1099511627776 → ACalls Tryz.prog 65 [aTm e, .c (.fn f [])] [] (aTm (mapM g e)) [] [] := by
  intro e
  induction e using MTm.ind with
  | h e ih =>
    intro hqe hn
    obtain ⟨hnt, hnf, hnk, hnu⟩ := nTm_parts hn
    have h1 := ownType_ok e.ty hnt
    have h2 := ownType_ok e.fr hnf
    have h3 := hf e hqe
    simp only [aTm, MTm.kids_mk, MTm.kind_mk, MTm.name_mk, MTm.num_mk, MTm.ty_mk, MTm.fr_mk, MTm.label_mk] at h3
    generalize mapM g e = R at h3 ⊢
    refine ACalls.of_body Tryz.func65 (by kernel_rfl) rfl (by kernel_rfl) (by simp [Tryz.ntmps65]) (by simp) ?_
    rw [Tryz.ntmps65]
    repeat' first
      | ((first | refine aops_end (hK _ ?_)); clear hK K)
      | ((first | refine aops_go ?_); simp; (try (refine gen fun q hq => ?_; cases q <;> (try simp at hq) <;> (try (have hh : True := hq; clear hh hq)))))
      | refine T.rs (fun _ => false) fun K hK => ?_
      | refine T.seq ?_
      | refine T.block ?_
    refine T.ownify 5 9 28 (by simp) ?_
    refine T.loopK (α := Nat × List (List CV)) [1, 2, 4, 9, 10] (fun x => [(5, .c (.own 0 x.1)), (11, .i x.1)]) (fun x => []) (fun x => x.2) (fun x _ => [{ sz := 9, ety := 28, rows := ((e.kids.map (mapM g)).take x.1).map eTm, wr := true }]) (fun x => e.kids.length + 1 - x.1) (fun x => x.1 ≤ e.kids.length) (by simp; rfl) (fun x hx => ?_) (0, []) (by simp) (by simp) (by simp) (by simp)
    obtain ⟨p, G⟩ := x
    dsimp only at hx ⊢
    simp only [ups, List.cons_append, List.nil_append]
    by_cases hlt : p < e.kids.length
    · obtain ⟨u, ht⟩ := get_lt hlt
      have htm : u ∈ e.kids := List.mem_of_getElem? ht
      have hgt : e.kids[p] = u := by rw [List.getElem?_eq_getElem hlt] at ht; exact Option.some.inj ht
      have hdr : e.kids.drop p = u :: e.kids.drop (p + 1) := by rw [List.drop_eq_getElem_cons hlt, hgt]
      have hu := ih u htm (hq e hqe u htm) (by have := hnu u htm; omega)
      have htk : (e.kids.map (mapM g)).take (p + 1) = (e.kids.map (mapM g)).take p ++ [mapM g u] := by rw [List.take_add_one, List.getElem?_map, ht]; rfl
      have hlm : min p (e.kids.map (mapM g)).length = p := by simp; omega
      generalize (e.kids.map (mapM g)) = Z at *
      repeat' first
        | ((first | refine aops_end (hK _ ?_)); clear hK K)
        | ((first | refine aops_go ?_); simp [hlt, hgt, hlm]; (try simp (disch := omega) only [wrap64]); (try (refine gen fun q hq => ?_; cases q <;> (try simp [hlt, hgt, hlm] at hq) <;> (try (have hh : True := hq; clear hh hq)))))
        | (refine wpcall_pure rfl (hu) ?_; simp [hlt, hgt, hlm]; (try simp (disch := omega) only [wrap64]); (try (refine gen fun q hq => ?_; cases q <;> (try simp [hlt, hgt, hlm] at hq) <;> (try (have hh : True := hq; clear hh hq)))))
        | (refine ⟨by omega, by omega, ?_⟩)
        | (refine ⟨(p + 1, _), by dsimp only; omega, by dsimp only; omega, rfl, ?_, ?_⟩ <;> simp (disch := omega) [wrap64, htk, eTm_def, hlm])
        | refine T.rs (fun _ => false) fun K hK => ?_
        | refine T.rs1 (fun _ => false) fun K hK => ?_
        | refine T.cond rfl (fun hcnd => ?_) (fun hcnd => absurd hcnd (by decide))
        | refine T.seq ?_
        | refine T.block ?_
        | refine T.skip ?_
    · have hp' : p = e.kids.length := by omega
      subst hp'
      have hlm : (e.kids.map (mapM g)).length = e.kids.length := by simp
      rw [List.take_of_length_le (by omega)]
      generalize (e.kids.map (mapM g)) = Z at *
      repeat' first
        | ((first | refine aops_end (hK _ ?_) | refine aopsD_end (hK _ ?_)); clear hK K)
        | ((first | refine aops_go ?_ | refine aopsD_go ?_); simp [hlt, hlm]; (try (refine gen fun q hq => ?_; cases q <;> (try simp [hlt, hlm] at hq) <;> (try (have hh : True := hq; clear hh hq)))))
        | (refine wpcall_pure rfl (h1) ?_; simp [hlt, hlm]; (try (refine gen fun q hq => ?_; cases q <;> (try simp [hlt, hlm] at hq) <;> (try (have hh : True := hq; clear hh hq)))))
        | (refine wpcall_pure rfl (h2) ?_; simp [hlt, hlm]; (try (refine gen fun q hq => ?_; cases q <;> (try simp [hlt, hlm] at hq) <;> (try (have hh : True := hq; clear hh hq)))))
        | (refine wpcall_pure ?_ (h3) ?_; (focus (solve | simp [hlt, hlm])); simp [hlt, hlm]; (try (refine gen fun q hq => ?_; cases q <;> (try simp [hlt, hlm] at hq) <;> (try (have hh : True := hq; clear hh hq)))))
        | (refine T.ret (Done.val (Or.inr rfl) ?_) <;> simp [resAs, Tryz.results65] <;> omega)
        | refine T.rd (id := 7) mixed (fun _ => false) [8, 10, 12] (by kernel_rfl) fun K hK => ?_
        | refine T.rs (fun _ => false) fun K hK => ?_
        | refine T.cond rfl (fun hcnd => absurd hcnd (by decide)) (fun hcnd => ?_)
        | refine T.seq ?_
        | refine T.exit ?_
end Go.Proofs.YtfdknjjnifnobaaGreat

namespace Go.Proofs.YtfdknjjnifnobaaGreat
attribute [-simp] Go.Av.freeStepG Go.Av.exA Go.Av.innAsH Go.Av.AV.innH Go.Av.CV.innH Go.Av.innHs Go.Av.AV.outnH Go.Av.CV.outnH
open Go Go.Av
attribute [local irreducible] T ACalls TX EX LX Draws Some_ ACallsX eTy eTm MTy.kind MTy.kids MTm.kind MTm.name MTm.num MTm.ty MTm.fr MTm.label MTm.kids
attribute [local simp] eTy_def eTm_def
set_option linter.unusedSimpArgs false
set_option linter.unusedVariables false
set_option maxHeartbeats 16000000
set_option maxRecDepth 8000
attribute [local simp] Option.bind

/-- What 'wanted' answers. -/
def WT (ctx : List MBd) (e : MTm) (ts : List MTy) (r : Option (List MTy × MTy)) : Prop := ∃ ws t, (∀ p, r = some p → p = (ws, t)) ∧ ACalls Tryz.prog 180 [aBds ctx, aTm e, aTys ts] [] (.tup [aTys ws, aTy t, .b r.isSome]) [] []

@[simp] theorem td_elab : td Tryz.prog 83 = some { ag := true, sz := 1, by_ := 8, zero := some [.d (.int .i64 0)], el := none, ar := none, fl := [(0, 1)], ik := none, isS := false, isB := false } := keep (by kernel_rfl)

end Go.Proofs.YtfdknjjnifnobaaGreat

namespace Go.Proofs.YtfdknjjnifnobaaGreat
attribute [-simp] Go.Av.innAsH Go.Av.AV.innH Go.Av.CV.innH Go.Av.innHs Go.Av.AV.outnH Go.Av.CV.outnH
open Go Go.Av
attribute [local irreducible] T ACalls TX EX LX Draws Some_ ACallsX eTy eTm MTy.kind MTy.kids MTm.kind MTm.name MTm.num MTm.ty MTm.fr MTm.label MTm.kids
attribute [local simp] eTy_def eTm_def
set_option linter.unusedSimpArgs false
set_option linter.unusedVariables false
set_option maxHeartbeats 16000000
set_option maxRecDepth 8000
attribute [local simp] Option.bind

/-- What is left of the operands, put behind what has been done. -/
def afterE (es : List MTm) (ts : List MTy) : Option (List MTm × List MTy) × Int → Option (List MTm × List MTy) × Int
  | (none, n) => (none, n)
  | (some (es', ts'), n) => (some (es ++ es', ts ++ ts'), n)

end Go.Proofs.YtfdknjjnifnobaaGreat

namespace Go.Proofs.YtfdknjjnifnobaaGreat
attribute [-simp] Go.Av.innAsH Go.Av.AV.innH Go.Av.CV.innH Go.Av.innHs Go.Av.AV.outnH Go.Av.CV.outnH
open Go Go.Av
attribute [local irreducible] T ACalls TX EX LX Draws Some_ ACallsX eTy eTm MTy.kind MTy.kids MTm.kind MTm.name MTm.num MTm.ty MTm.fr MTm.label MTm.kids
attribute [local simp] eTy_def eTm_def
set_option linter.unusedSimpArgs false
set_option linter.unusedVariables false
set_option maxHeartbeats 16000000
set_option maxRecDepth 8000
attribute [local simp] Option.bind

/-- The operands of a valid type. -/
def matchedM (k : Int) (t : MTy) : Option (MTy × MTy) := if shapeTy 4 t = true then matchM k t else none
abbrev twoRes : Option (MTy × MTy) → List AV
  | some (a, b) => [aTy a, aTy b, .b true]
  | none => [aTy zeroT, aTy zeroT, .b false]

end Go.Proofs.YtfdknjjnifnobaaGreat

namespace Go.Proofs.YtfdknjjnifnobaaGreat
attribute [-simp] Go.Av.innAsH Go.Av.AV.innH Go.Av.CV.innH Go.Av.innHs Go.Av.AV.outnH Go.Av.CV.outnH
open Go Go.Av
attribute [local irreducible] T ACalls TX EX LX Draws Some_ ACallsX eTy eTm MTy.kind MTy.kids MTm.kind MTm.name MTm.num MTm.ty MTm.fr MTm.label MTm.kids
attribute [local simp] eTy_def eTm_def
set_option linter.unusedSimpArgs false
set_option linter.unusedVariables false
set_option maxHeartbeats 16000000
set_option maxRecDepth 8000
attribute [local simp] Option.bind

theorem all2_nlen {α β : Type} {q : α → β → Bool} {xs : List α} {ys : List β} (h : ¬ xs.length = ys.length) : all2 q xs ys = false := by
  cases h' : all2 q xs ys with
  | false => rfl
  | true => exact absurd (all2_len h') h

theorem TypeSameS_ok : ∀ (a b : MTy), nTy a ≤ 1099511627776 → ACalls Tryz.prog 202 [aTy a, aTy b] [] (.b (sameTy a b)) [] [] := by
  intro a
  induction a using MTy.ind with
  | h a ih =>
    intro b hn
    rw [nTy_def] at hn
    have hlen := nTyS_len a.kids
    rw [sameTy_def]
    refine ACalls.of_body Tryz.func202 (by kernel_rfl) rfl (by kernel_rfl) (by simp [Tryz.ntmps202]) (by simp) ?_
    rw [Tryz.ntmps202]
    by_cases hk : a.kind = b.kind
    rotate_left
    · repeat' first
        | ((first | refine aops_end (hK _ ?_)); clear hK K)
        | ((first | refine aops_go ?_); simp [hk]; (try (refine gen fun q hq => ?_; cases q <;> (try simp [hk] at hq) <;> (try (have hh : True := hq; clear hh hq)))))
        | (refine T.ret (Done.data (Or.inr rfl) ?_ ?_) <;> simp [Tryz.results202, hk] <;> omega)
        | refine T.rs (fun _ => false) fun K hK => ?_
        | refine T.cond rfl (fun hcnd => ?_) (fun hcnd => absurd hcnd (by decide))
        | refine T.seq ?_
    by_cases hlm : a.kids.length = b.kids.length
    rotate_left
    · have hR := all2_nlen (q := sameTy) hlm
      have hlm' : ¬ (a.kids.length : Int) = b.kids.length := by omega
      repeat' first
        | ((first | refine aops_end (hK _ ?_)); clear hK K)
        | ((first | refine aops_go ?_); simp [hk, hlm']; (try (refine gen fun q hq => ?_; cases q <;> (try simp [hk, hlm'] at hq) <;> (try (have hh : True := hq; clear hh hq)))))
        | (refine T.ret (Done.data (Or.inr rfl) ?_ ?_) <;> simp [Tryz.results202, hk, hR] <;> omega)
        | refine T.rs (fun _ => false) fun K hK => ?_
        | refine T.cond rfl (fun hcnd => ?_) (fun hcnd => absurd hcnd (by decide))
        | refine T.seq ?_
    repeat' first
      | ((first | refine aops_end (hK _ ?_)); clear hK K)
      | ((first | refine aops_go ?_); simp [hk, hlm]; (try (refine gen fun q hq => ?_; cases q <;> (try simp [hk, hlm] at hq) <;> (try (have hh : True := hq; clear hh hq)))))
      | refine T.rs (fun _ => false) fun K hK => ?_
      | refine T.cond rfl (fun hcnd => absurd hcnd (by decide)) (fun hcnd => ?_)
      | refine T.seq ?_
      | refine T.block ?_
      | refine T.skip ?_
    obtain ⟨R, hR⟩ : ∃ R, all2 sameTy a.kids b.kids = R := ⟨_, rfl⟩
    rw [show (decide (a.kind = b.kind) && all2 sameTy a.kids b.kids) = R by simp [hk, hR]]
    refine T.loopF (fun p : Nat => ⟨[(2, .c (.ptr 0 0)), (3, .c (.ptr 1 0)), (5, .i p)], [(aTy a).cells, (aTy b).cells], []⟩) (fun p => a.kids.length + 1 - p) (fun p => p ≤ a.kids.length ∧ all2 sameTy (a.kids.drop p) (b.kids.drop p) = R) (fun p hp => ?_) 0 (by simpa using hR) (by simp [hk])
    obtain ⟨hi, he⟩ := hp
    by_cases hlt : p < a.kids.length
    · have hlt2 : p < b.kids.length := by omega
      obtain ⟨u, ht⟩ := get_lt hlt
      have htm : u ∈ a.kids := List.mem_of_getElem? ht
      have hgt : a.kids[p] = u := by rw [List.getElem?_eq_getElem hlt] at ht; exact Option.some.inj ht
      have hdr : a.kids.drop p = u :: a.kids.drop (p + 1) := by rw [List.drop_eq_getElem_cons hlt, hgt]
      obtain ⟨v, hv⟩ := get_lt hlt2
      have hgv : b.kids[p] = v := by rw [List.getElem?_eq_getElem hlt2] at hv; exact Option.some.inj hv
      have hu := ih u htm v (by have := nTyS_mem htm; omega)
      rw [hdr, drop_cons hlt2, hgv, all2_cons] at he
      cases hb : sameTy u v <;> rw [hb] at hu he
      · repeat' first
          | ((first | refine aops_end (hK _ ?_) | refine aopsD_end (hK _ ?_)); clear hK K)
          | ((first | refine aops_go ?_ | refine aopsD_go ?_); simp [hlt, hlt2, hgt, hgv]; (try simp (disch := omega) only [wrap64]); (try (refine gen fun q hq => ?_; cases q <;> (try simp [hlt, hlt2, hgt, hgv] at hq) <;> (try (have hh : True := hq; clear hh hq)))))
          | (refine wpcall_pure rfl (hu) ?_; simp [hlt, hlt2, hgt, hgv]; (try simp (disch := omega) only [wrap64]); (try (refine gen fun q hq => ?_; cases q <;> (try simp [hlt, hlt2, hgt, hgv] at hq) <;> (try (have hh : True := hq; clear hh hq)))))
          | (refine T.ret (Done.data (Or.inr rfl) ?_ ?_) <;> simp [Tryz.results202, ← he] <;> omega)
          | refine T.rd (id := 6) mixed (fun _ => false) [] (by kernel_rfl) fun K hK => ?_
          | refine T.rs (fun _ => false) fun K hK => ?_
          | refine T.cond rfl (fun hcnd => ?_) (fun hcnd => absurd hcnd (by decide))
          | refine T.seq ?_
          | refine T.block ?_
          | refine T.skip ?_
      · repeat' first
          | ((first | refine aops_end (hK _ ?_) | refine aopsD_end (hK _ ?_)); clear hK K)
          | ((first | refine aops_go ?_ | refine aopsD_go ?_); simp [hlt, hlt2, hgt, hgv]; (try simp (disch := omega) only [wrap64]); (try (refine gen fun q hq => ?_; cases q <;> (try simp [hlt, hlt2, hgt, hgv] at hq) <;> (try (have hh : True := hq; clear hh hq)))))
          | (refine wpcall_pure rfl (hu) ?_; simp [hlt, hlt2, hgt, hgv]; (try simp (disch := omega) only [wrap64]); (try (refine gen fun q hq => ?_; cases q <;> (try simp [hlt, hlt2, hgt, hgv] at hq) <;> (try (have hh : True := hq; clear hh hq)))))
          | (refine ⟨p + 1, by dsimp only; omega, ⟨by omega, by simpa using he⟩, rfl, rfl, ?_⟩; simp (disch := omega) [wrap64])
          | refine T.rd (id := 6) mixed (fun _ => false) [] (by kernel_rfl) fun K hK => ?_
          | refine T.rs (fun _ => false) fun K hK => ?_
          | refine T.rs1 (fun _ => false) fun K hK => ?_
          | refine T.cond rfl (fun hcnd => ?_) (fun hcnd => absurd hcnd (by decide))
          | refine T.cond rfl (fun hcnd => absurd hcnd (by decide)) (fun hcnd => ?_)
          | refine T.seq ?_
          | refine T.block ?_
          | refine T.skip ?_
    · have hp' : p = a.kids.length := by omega
      subst hp'
      rw [List.drop_length, hlm, List.drop_length, all2_nil] at he
      repeat' first
        | ((first | refine aops_end (hK _ ?_)); clear hK K)
        | ((first | refine aops_go ?_); simp [hlt, hlm]; (try (refine gen fun q hq => ?_; cases q <;> (try simp [hlt, hlm] at hq) <;> (try (have hh : True := hq; clear hh hq)))))
        | (refine T.ret (Done.data (Or.inr rfl) ?_ ?_) <;> simp [Tryz.results202, ← he] <;> omega)
        | refine T.rs (fun _ => false) fun K hK => ?_
        | refine T.cond rfl (fun hcnd => absurd hcnd (by decide)) (fun hcnd => ?_)
        | refine T.seq ?_
        | refine T.exit ?_

/-- What l4Want answers: as_ many types as_ there are operands, and the same casts. -/
def L4W (e : MTm) (ts ws : List MTy) (t : MTy) : Prop := ∃ ws', ws'.length = ts.length ∧ (∀ u ∈ ws', nTy u ≤ 1000) ∧ (∀ (n : Int) (es : List MTm), castS n es ts ws' = castS n es ts ws) ∧ ACalls Tryz.prog 183 [aTm e, .l (ts.map eTy), aTy t] [] (.l (ws'.map eTy)) [] []

end Go.Proofs.YtfdknjjnifnobaaGreat

namespace Go.Proofs.YtfdknjjnifnobaaGreat
attribute [-simp] Go.Av.innAsH Go.Av.AV.innH Go.Av.CV.innH Go.Av.innHs Go.Av.AV.outnH Go.Av.CV.outnH
open Go Go.Av
attribute [local irreducible] T ACalls TX EX LX Draws Some_ ACallsX eTy eTm MTy.kind MTy.kids MTm.kind MTm.name MTm.num MTm.ty MTm.fr MTm.label MTm.kids
attribute [local simp] eTy_def eTm_def
set_option linter.unusedSimpArgs false
set_option linter.unusedVariables false
set_option maxHeartbeats 16000000
set_option maxRecDepth 8000
attribute [local simp] Option.bind

/-- What l4Insert answers at a term that has a type. -/
def L4I (ctx : List MBd) (e : MTm) : Prop := ∀ (n : Int) (e' : MTm) (t : MTy) (m : Int), 0 ≤ n → n + nTm e ≤ 1073741824 → elabM ctx e n = (some (e', t), m) →
  ACalls Tryz.prog 117 [.l (ctx.map eBd), aTm e, .i (n + 1)] [] (.tup [aTm e', aTy t, .i (m + 1)]) [] []

end Go.Proofs.YtfdknjjnifnobaaGreat

namespace Go.Proofs.YtfdknjjnifnobaaGreat
attribute [-simp] Go.Av.innAsH Go.Av.AV.innH Go.Av.CV.innH Go.Av.innHs Go.Av.AV.outnH Go.Av.CV.outnH
open Go Go.Av
attribute [local irreducible] T ACalls TX EX LX Draws Some_ ACallsX eTy eTm MTy.kind MTy.kids MTm.kind MTm.name MTm.num MTm.ty MTm.fr MTm.label MTm.kids
attribute [local simp] eTy_def eTm_def
set_option linter.unusedSimpArgs false
set_option linter.unusedVariables false
set_option maxHeartbeats 16000000
set_option maxRecDepth 8000

/-- A valid term's parts. -/
theorem termValid_parts {e : MTm} (h : termValidM e = true) : TmV 14 12 e := TmV.of (by simp only [termValidM, Bool.and_eq_true] at h; exact h.1)
theorem typeIn_some {ctx : List MBd} {e : MTm} {t : MTy} (h : typeInM ctx e = some t) : ctxM ctx = true ∧ termValidM e = true ∧ typeM ctx e = some t ∧ okCtx ctx ∧ VTy 4 t := by
  simp only [typeInM] at h
  split at h
  · rename_i hq
    have hok : okCtx ctx := fun b hb => by
      have := hq.1
      simp only [ctxM, Bool.and_eq_true, List.all_eq_true] at this
      exact (this.1 b hb).2
    exact ⟨hq.1, hq.2, h, hok, (termValid_parts hq.2).typed hok h⟩
  · cases h
end Go.Proofs.YtfdknjjnifnobaaGreat

namespace Go.Proofs.YtfdknjjnifnobaaGreat
attribute [-simp] Go.Av.innAsH Go.Av.AV.innH Go.Av.CV.innH Go.Av.innHs Go.Av.AV.outnH Go.Av.CV.outnH
open Go Go.Av
attribute [local irreducible] T ACalls TX EX LX Draws Some_ ACallsX eTy eTm MTy.kind MTy.kids MTm.kind MTm.name MTm.num MTm.ty MTm.fr MTm.label MTm.kids
attribute [local simp] eTy_def eTm_def
set_option linter.unusedSimpArgs false
set_option linter.unusedVariables false
set_option maxHeartbeats 16000000
set_option maxRecDepth 8000
attribute [local simp] Option.bind

theorem own_ok (e : MTm) (hn : nTm e ≤ 1099511627776) : ACalls Tryz.prog 84 [aTm e] [] (aTm e) [] [] := by
  have h := mapped_ok 151 (fun x => x) (fun _ => True) (fun _ _ _ _ => trivial) (fun e _ => by have := own1_ok (.mk e.kind e.name e.num e.ty e.fr e.label (e.kids.map (mapM fun x => x))); rw [mapM_def]; exact this) e trivial hn
  rw [mapM_id] at h
  refine ACalls.of_body Tryz.func84 (by kernel_rfl) rfl (by kernel_rfl) (by simp [Tryz.ntmps84]) (by simp) ?_
  rw [Tryz.ntmps84]
  repeat' first
    | ((first | refine aops_end (hK _ ?_)); clear hK K)
    | ((first | refine aops_go ?_); simp; (try (refine gen fun q hq => ?_; cases q <;> (try simp at hq) <;> (try (have hh : True := hq; clear hh hq)))))
    | (refine wpcall_pure rfl (h) ?_; simp; (try (refine gen fun q hq => ?_; cases q <;> (try simp at hq) <;> (try (have hh : True := hq; clear hh hq)))))
    | (refine T.ret (Done.val (Or.inr rfl) ?_) <;> simp [resAs, Tryz.results84] <;> omega)
    | refine T.rs (fun _ => false) fun K hK => ?_

/-- Every node has as_ many operands as_ its kind asks. -/
def fitM (e : MTm) : Prop := ∃ nt d, shapeTm nt d e = true
/-- Casts inserted, as_ InsertCasts answers it. -/
def insertM (e : MTm) : Option (MTm × MTy) := if termValidM e = true then (elabM [] e 0).1 else none
end Go.Proofs.YtfdknjjnifnobaaGreat

namespace Go.Proofs.YtfdknjjnifnobaaGreat
open Go Go.Av
attribute [local irreducible] T ACalls TX EX LX Draws Some_ ACallsX eTy eTm MTy.kind MTy.kids MTm.kind MTm.name MTm.num MTm.ty MTm.fr MTm.label MTm.kids
attribute [local simp] eTy_def eTm_def
set_option linter.unusedSimpArgs false
set_option linter.unusedVariables false
set_option maxHeartbeats 16000000
set_option maxRecDepth 8000

/-- The types of a valid term. -/
def termTypesM (e : MTm) : List MTy := if termValidM e = true then typesM e else []
end Go.Proofs.YtfdknjjnifnobaaGreat

namespace Go.Proofs.YtfdknjjnifnobaaGreat
open Go Go.Av
attribute [local irreducible] T ACalls TX EX LX Draws Some_ ACallsX eTy eTm MTy.kind MTy.kids MTm.kind MTm.name MTm.num MTm.ty MTm.fr MTm.label MTm.kids
attribute [local simp] eTy_def eTm_def
set_option linter.unusedSimpArgs false
set_option linter.unusedVariables false
set_option maxHeartbeats 16000000
set_option maxRecDepth 8000

end Go.Proofs.YtfdknjjnifnobaaGreat

namespace Go.Proofs.YtfdknjjnifnobaaGreat
attribute [-simp] Go.Av.innAsH Go.Av.AV.innH Go.Av.CV.innH Go.Av.innHs Go.Av.AV.outnH Go.Av.CV.outnH
open Go Go.Av
attribute [local irreducible] T ACalls TX EX LX Draws Some_ ACallsX eTy eTm MTy.kind MTy.kids MTm.kind MTm.name MTm.num MTm.ty MTm.fr MTm.label MTm.kids
attribute [local simp] eTy_def eTm_def
set_option linter.unusedSimpArgs false
set_option linter.unusedVariables false
set_option maxHeartbeats 16000000
set_option maxRecDepth 8000

abbrev goodBd (u : MBd) : Prop := u.name ∈ ([[120], [122], [121], [88], []] : List (List UInt8)) ∧ nTy u.ty ≤ 1000

end Go.Proofs.YtfdknjjnifnobaaGreat

namespace Go.Proofs.YtfdknjjnifnobaaGreat
attribute [-simp] Go.Av.innAsH Go.Av.AV.innH Go.Av.CV.innH Go.Av.innHs Go.Av.AV.outnH Go.Av.CV.outnH
open Go Go.Av
attribute [local irreducible] T ACalls TX EX LX Draws Some_ ACallsX eTy eTm MTy.kind MTy.kids MTm.kind MTm.name MTm.num MTm.ty MTm.fr MTm.label MTm.kids
attribute [local simp] eTy_def eTm_def
set_option linter.unusedSimpArgs false
set_option linter.unusedVariables false
set_option maxHeartbeats 16000000
set_option maxRecDepth 8000

end Go.Proofs.YtfdknjjnifnobaaGreat
