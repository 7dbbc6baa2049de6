/- A part of the library of this seat. -/
import Derived.Test.YtloolmchekcmeaaK19
import Derived.Test.YtloolmchekcmeaaRows
import Derived.Test.YtloolmchekcmeaaChecked
set_option linter.unusedVariables false
set_option linter.unusedSimpArgs false
namespace Go.Proofs.Ytloolmchekcmeaa
attribute [-simp] Go.Av.freeStep Go.Av.exV Go.Av.keepL Go.Av.ups Go.Av.take_app_len Go.Av.innVs Go.Av.putBack Go.Av.objCells Go.Av.back Go.Av.resVs Go.Av.one Go.Av.freeStepG Go.Av.exA Go.Av.innAsH Go.Av.AV.innH Go.Av.CV.innH Go.Av.innHs Go.Av.AV.outnH Go.Av.CV.outnH Go.Av.astepJ Go.Av.relC Go.Av.relL Go.Av.relV Go.Av.relVs Go.Av.callJ Go.Av.IT.kind_v Go.Av.IT.kind_b Go.Av.IT.kind_p Go.Av.IT.name_v Go.Av.IT.name_b Go.Av.IT.name_p Go.Av.IT.kids_v Go.Av.IT.kids_b Go.Av.IT.kids_p Go.Av.eIT_len
open Go Go.Av

theorem int_of {x : DV} (h : TyD Try.prog 3 x) : ∃ n, x = .i n /\ -9223372036854775808 <= n /\ n <= 9223372036854775807 := by
 have hu := Try.underlying3
 cases x with
 | int k n =>
  simp only [TyD] at h
  rw [hu] at h
  obtain ⟨e, hw⟩ := h
  simp at e; subst e
  refine ⟨n, rfl, ?_⟩
  simpa [Lit.wf, IntKind.min, IntKind.max, IntKind.signed, IntKind.bits] using hw
 | bool b => simp [TyD, hu] at h
 | str s => simp [TyD, hu] at h
 | sl rows => simp [TyD, hu] at h
 | raw v => simp [TyD] at h

theorem str_of {x : DV} (h : TyD Try.prog 9 x) : ∃ s, x = .str s /\ s.length <= 9223372036854775807 := by
 have hu := Try.underlying9
 cases x with
 | int k n => simp [TyD, hu] at h
 | bool b => simp [TyD, hu] at h
 | str s => exact ⟨s, rfl, by have := h.2; simp [Go.maxLen] at this; omega⟩
 | sl rows => simp [TyD, hu] at h
 | raw v => simp [TyD] at h

theorem rows_map {α : Type} {f : α -> List DV} {w : α -> Prop} : ∀ {rows : List (List DV)}, (∀ r ∈ rows, ∃ a, r = f a /\ w a) -> ∃ l : List α, rows = l.map f /\ ∀ a ∈ l, w a
 | [], _ => ⟨[], rfl, by simp⟩
 | r :: rs, h => by
  obtain ⟨a, ha, hw⟩ := h r (by simp)
  obtain ⟨l, hl, hws⟩ := rows_map (rows := rs) (fun x hx => h x (by simp [hx]))
  exact ⟨a :: l, by simp [ha, hl], by simpa using ⟨hw, hws⟩⟩

theorem wTyS_of : ∀ {l : List MTy}, (∀ t ∈ l, wTy t) -> wTyS l
 | [], _ => trivial
 | t :: r, h => ⟨h t (by simp), wTyS_of fun x hx => h x (by simp [hx])⟩
theorem wTmS_of : ∀ {l : List MTm}, (∀ t ∈ l, wTm t) -> wTmS l
 | [], _ => trivial
 | t :: r, h => ⟨h t (by simp), wTmS_of fun x hx => h x (by simp [hx])⟩

theorem tys_of : (x : DV) -> TyD Try.prog 22 x -> ∃ l : List MTy, x = .sl (l.map eTy) /\ l.length <= 9223372036854775807 /\ wTyS l
 | .int k n, h => by simp [TyD, Try.underlying22] at h
 | .bool b, h => by simp [TyD, Try.underlying22] at h
 | .str s, h => by simp [TyD, Try.underlying22] at h
 | .raw v, h => by simp [TyD] at h
 | .sl rows, h => by
  simp only [TyD] at h
  obtain ⟨e, ls, h1, h2, h3, h4⟩ := h
  rw [Try.underlying22] at h1
  simp at h1; subst h1
  have hl : leafs Try.prog 24 = some [3, 22] := by kernel_rfl
  rw [hl] at h2
  simp at h2; subst h2
  have hr : ∀ r ∈ rows, ∃ t, r = eTy t /\ wTy t := fun r hr => by
   have ht := h4.at_ r hr
   match r, ht, ht.len with
   | [a, b], ht, _ =>
    obtain ⟨n, rfl, _⟩ := int_of ht.1
    obtain ⟨l, rfl, hl, hw⟩ := tys_of b ht.2.1
    exact ⟨.mk n l, by rw [eTy_def]; rfl, by rw [wTy_def]; exact ⟨hl, hw⟩⟩
  obtain ⟨l, rfl, hw⟩ := rows_map hr
  exact ⟨l, rfl, by simpa [Go.maxLen] using h3, wTyS_of hw⟩
termination_by x => SizeOf.sizeOf x
decreasing_by have h1 := List.sizeOf_lt_of_mem hr; simp at h1 ⊢; omega

theorem tms_of : (x : DV) -> TyD Try.prog 25 x -> ∃ l : List MTm, x = .sl (l.map eTm) /\ l.length <= 9223372036854775807 /\ wTmS l
 | .int k n, h => by simp [TyD, Try.underlying25] at h
 | .bool b, h => by simp [TyD, Try.underlying25] at h
 | .str s, h => by simp [TyD, Try.underlying25] at h
 | .raw v, h => by simp [TyD] at h
 | .sl rows, h => by
  simp only [TyD] at h
  obtain ⟨e, ls, h1, h2, h3, h4⟩ := h
  rw [Try.underlying25] at h1
  simp at h1; subst h1
  have hl : leafs Try.prog 27 = some [3, 9, 3, 3, 22, 3, 22, 3, 25] := by kernel_rfl
  rw [hl] at h2
  simp at h2; subst h2
  have hr : ∀ r ∈ rows, ∃ t, r = eTm t /\ wTm t := fun r hr => by
   have ht := h4.at_ r hr
   match r, ht, ht.len with
   | [a, b, c, d, e, f, g, h, i], ht, _ =>
    obtain ⟨ta, tb, tc, td, te, tf, tg, th, ti, _⟩ := ht
    obtain ⟨n1, rfl, _⟩ := int_of ta
    obtain ⟨s, rfl, hs⟩ := str_of tb
    obtain ⟨n2, rfl, _⟩ := int_of tc
    obtain ⟨n3, rfl, _⟩ := int_of td
    obtain ⟨l1, rfl, hl1, hw1⟩ := tys_of e te
    obtain ⟨n4, rfl, _⟩ := int_of tf
    obtain ⟨l2, rfl, hl2, hw2⟩ := tys_of g tg
    obtain ⟨n5, rfl, _⟩ := int_of th
    obtain ⟨l, rfl, hl, hw⟩ := tms_of i ti
    exact ⟨.mk n1 s n2 (.mk n3 l1) (.mk n4 l2) n5 l, by rw [eTm_def]; rfl, by rw [wTm_def]; exact ⟨hs, by rw [wTy_def]; exact ⟨hl1, hw1⟩, by rw [wTy_def]; exact ⟨hl2, hw2⟩, hl, hw⟩⟩
  obtain ⟨l, rfl, hw⟩ := rows_map hr
  exact ⟨l, rfl, by simpa [Go.maxLen] using h3, wTmS_of hw⟩
termination_by x => SizeOf.sizeOf x
decreasing_by have h1 := List.sizeOf_lt_of_mem hr; simp at h1 ⊢; omega

theorem tm_of_val {x : AV} (h : TyV Try.prog 27 x) : ∃ t, x = aTm t /\ wTm t := by
 have hu := Try.underlying27
 cases x with
 | c c =>
  cases c with
  | d d => obtain ⟨h, _⟩ := h; rw [hu] at h; simp [agD] at h
  | _ => exact h.elim
 | agg xs =>
  obtain ⟨_, ls, ds, h2, rfl, ht⟩ := h
  have hl : leafs Try.prog 27 = some [3, 9, 3, 3, 22, 3, 22, 3, 25] := by kernel_rfl
  rw [hl] at h2
  simp at h2; subst h2
  match ds, ht, ht.len with
  | [a, b, c, d, e, f, g, h, i], ht, _ =>
   obtain ⟨ta, tb, tc, td, te, tf, tg, th, ti, _⟩ := ht
   obtain ⟨n1, rfl, _⟩ := int_of ta
   obtain ⟨s, rfl, hs⟩ := str_of tb
   obtain ⟨n2, rfl, _⟩ := int_of tc
   obtain ⟨n3, rfl, _⟩ := int_of td
   obtain ⟨l1, rfl, hl1, hw1⟩ := tys_of e te
   obtain ⟨n4, rfl, _⟩ := int_of tf
   obtain ⟨l2, rfl, hl2, hw2⟩ := tys_of g tg
   obtain ⟨n5, rfl, _⟩ := int_of th
   obtain ⟨l, rfl, hl, hw⟩ := tms_of i ti
   exact ⟨.mk n1 s n2 (.mk n3 l1) (.mk n4 l2) n5 l, rfl, by rw [wTm_def]; exact ⟨hs, by rw [wTy_def]; exact ⟨hl1, hw1⟩, by rw [wTy_def]; exact ⟨hl2, hw2⟩, hl, hw⟩⟩
 | tup xs => exact h.elim

theorem own : ownKnob Try.prog.godebug = none := by kernel_rfl
theorem laidOut : laidOutB Try.prog = true := by kernel_rfl

end Go.Proofs.Ytloolmchekcmeaa

namespace Go.Proofs.Ytloolmchekcmeaa
attribute [-simp] Go.Av.freeStep Go.Av.exV Go.Av.keepL Go.Av.ups Go.Av.take_app_len Go.Av.innVs Go.Av.putBack Go.Av.objCells Go.Av.back Go.Av.resVs Go.Av.one Go.Av.freeStepG Go.Av.exA Go.Av.innAsH Go.Av.AV.innH Go.Av.CV.innH Go.Av.innHs Go.Av.AV.outnH Go.Av.CV.outnH Go.Av.astepJ Go.Av.relC Go.Av.relL Go.Av.relV Go.Av.relVs Go.Av.callJ Go.Av.IT.kind_v Go.Av.IT.kind_b Go.Av.IT.kind_p Go.Av.IT.name_v Go.Av.IT.name_b Go.Av.IT.name_p Go.Av.IT.kids_v Go.Av.IT.kids_b Go.Av.IT.kids_p Go.Av.eIT_len
open Go Go.Av

end Go.Proofs.Ytloolmchekcmeaa
