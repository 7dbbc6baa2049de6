/- A part of the library of this seat: a value-semantic program logic over the model, plain models, and walks of functions. -/
import Derived.Test.YtjllgkglfabhaaaDoorK10
set_option linter.unusedVariables false
set_option linter.unusedSimpArgs false
namespace Go.Proofs.YtjllgkglfabhaaaDoor
attribute [-simp] Go.Av.freeStepG Go.Av.exA Go.Av.innAsH Go.Av.AV.innH Go.Av.CV.innH Go.Av.innHs Go.Av.AV.outnH Go.Av.CV.outnH
open Go Go.Av
attribute [local irreducible] T ACalls TX EX LX Draws Some_ ACallsX eTy eTm MTy.kind MTy.kids MTm.kind MTm.name MTm.num MTm.ty MTm.fr MTm.label MTm.kids
attribute [local simp] eTy_def eTm_def
set_option maxHeartbeats 16000000
set_option maxRecDepth 8000

theorem base_ok (k : Int) : ACalls Tryd.prog 179 [.i k] [] (aTy (.mk k [])) [] [] := by
  refine ACalls.of_body Tryd.func179 (by kernel_rfl) rfl (by kernel_rfl) (by simp [Tryd.ntmps179]) (by simp) ?_
  rw [Tryd.ntmps179]
  repeat' first | (refine aops_end (hK _ ?_); clear hK K) | (refine aops_go ?_; simp; (try (refine gen fun q hq => ?_; cases q <;> (try simp at hq) <;> (try (have hh : True := hq; clear hh hq))))) | (refine T.ret (Done.val (Or.inr rfl) ?_) <;> simp [resAs, Tryd.results179] <;> omega) | refine T.r0 fun K hK => ?_

theorem both_ok (k : Int) (a b : MTy) : ACalls Tryd.prog 178 [.i k, aTy a, aTy b] [] (aTy (.mk k [a, b])) [] [] := by
  refine ACalls.of_body Tryd.func178 (by kernel_rfl) rfl (by kernel_rfl) (by simp [Tryd.ntmps178]) (by simp) ?_
  rw [Tryd.ntmps178]
  repeat' first | (refine aops_end (hK _ ?_); clear hK K) | (refine aops_go ?_; simp; (try (refine gen fun q hq => ?_; cases q <;> (try simp at hq) <;> (try (have hh : True := hq; clear hh hq))))) | (refine T.ret (Done.val (Or.inr rfl) ?_) <;> simp [resAs, Tryd.results178, eTy_def] <;> omega) | refine T.r0 fun K hK => ?_

end Go.Proofs.YtjllgkglfabhaaaDoor

namespace Go.Proofs.YtjllgkglfabhaaaDoor
attribute [-simp] Go.Av.freeStepG Go.Av.exA Go.Av.innAsH Go.Av.AV.innH Go.Av.CV.innH Go.Av.innHs Go.Av.AV.outnH Go.Av.CV.outnH
open Go Go.Av
attribute [local irreducible] T ACalls TX EX LX Draws Some_ ACallsX eTy eTm MTy.kind MTy.kids MTm.kind MTm.name MTm.num MTm.ty MTm.fr MTm.label MTm.kids
attribute [local simp] eTy_def eTm_def
set_option maxHeartbeats 16000000
set_option maxRecDepth 8000

theorem TypeSame_ok : (a b : MTy) → nTy a ≤ 1099511627776 → ACalls Tryd.prog 39 [aTy a, aTy b] [] (.b (sameTy a b)) [] []
  | .mk k l, b, hn => by
    rw [nTy_def] at hn
    have hlen := nTyS_len l
    have hc := equalFuncTy_0 39 l b.kids sameTy (by simp at hn; omega) (fun u hu v hv => TypeSame_ok u v (by have := nTyS_mem hu; simp at hn; omega))
    rw [sameTy_def]
    simp only [MTy.kids_mk, MTy.kind_mk]
    generalize all2 sameTy l b.kids = R at hc ⊢
    refine ACalls.of_body Tryd.func39 (by kernel_rfl) rfl (by kernel_rfl) (by simp [Tryd.ntmps39]) (by simp) ?_
    rw [Tryd.ntmps39]
    repeat' first | (refine aops_end (hK _ ?_); clear hK K) | (refine aops_go ?_; simp; (try (refine gen fun q hq => ?_; cases q <;> (try simp at hq) <;> (try (have hh : True := hq; clear hh hq))))) | (refine wpcall_pure rfl (hc) ?_; simp; (try (refine gen fun q hq => ?_; cases q <;> (try simp at hq) <;> (try (have hh : True := hq; clear hh hq))))) | (refine T.ret (Done.data (Or.inr rfl) ?_ ?_) <;> simp [Tryd.results39, *] <;> omega) | refine T.r0 fun K hK => ?_
termination_by a => SizeOf.sizeOf a
decreasing_by have := List.sizeOf_lt_of_mem hu; simp; omega

theorem TermSame_ok : (a b : MTm) → nTm a ≤ 1099511627776 → ACalls Tryd.prog 11 [aTm a, aTm b] [] (.b (sameTm a b)) [] []
  | .mk k s n t f lb l, b, hn => by
    obtain ⟨hnt, hnf, hnk, hnu⟩ := nTm_parts hn
    have hnt : nTy t ≤ 1099511627776 := by simpa using hnt
    have hnf : nTy f ≤ 1099511627776 := by simpa using hnf
    have hnk : l.length ≤ 1099511627776 := by simpa using hnk
    have hnu : ∀ u ∈ l, nTm u ≤ 1099511627776 := by simpa using hnu
    have hc := equalFuncTm_0 11 l b.kids sameTm (by omega) (fun u hu v hv => TermSame_ok u v (by have := hnu u hu; omega))
    have h1 := TypeSame_ok t b.ty hnt
    have h2 := TypeSame_ok f b.fr hnf
    rw [sameTm_def]
    simp only [MTm.kids_mk, MTm.kind_mk, MTm.name_mk, MTm.num_mk, MTm.ty_mk, MTm.fr_mk, MTm.label_mk]
    generalize all2 sameTm l b.kids = R at hc ⊢
    generalize sameTy t b.ty = R1 at h1 ⊢
    generalize sameTy f b.fr = R2 at h2 ⊢
    refine ACalls.of_body Tryd.func11 (by kernel_rfl) rfl (by kernel_rfl) (by simp [Tryd.ntmps11]) (by simp) ?_
    rw [Tryd.ntmps11]
    repeat' first | (refine aops_end (hK _ ?_); clear hK K) | (refine aops_go ?_; simp; (try (refine gen fun q hq => ?_; cases q <;> (try simp at hq) <;> (try (have hh : True := hq; clear hh hq))))) | (refine wpcall_pure rfl (hc) ?_; simp; (try (refine gen fun q hq => ?_; cases q <;> (try simp at hq) <;> (try (have hh : True := hq; clear hh hq))))) | (refine wpcall_pure rfl (h1) ?_; simp; (try (refine gen fun q hq => ?_; cases q <;> (try simp at hq) <;> (try (have hh : True := hq; clear hh hq))))) | (refine wpcall_pure rfl (h2) ?_; simp; (try (refine gen fun q hq => ?_; cases q <;> (try simp at hq) <;> (try (have hh : True := hq; clear hh hq))))) | (refine T.ret (Done.data (Or.inr rfl) ?_ ?_) <;> simp [Tryd.results11, *] <;> omega) | refine T.r0 fun K hK => ?_
termination_by a => SizeOf.sizeOf a
decreasing_by have := List.sizeOf_lt_of_mem hu; simp; omega

end Go.Proofs.YtjllgkglfabhaaaDoor

namespace Go.Proofs.YtjllgkglfabhaaaDoor
attribute [-simp] Go.Av.freeStepG Go.Av.exA Go.Av.innAsH Go.Av.AV.innH Go.Av.CV.innH Go.Av.innHs Go.Av.AV.outnH Go.Av.CV.outnH
open Go Go.Av
attribute [local irreducible] T ACalls TX EX LX Draws Some_ ACallsX eTy eTm MTy.kind MTy.kids MTm.kind MTm.name MTm.num MTm.ty MTm.fr MTm.label MTm.kids
attribute [local simp] eTy_def eTm_def
set_option maxHeartbeats 16000000
set_option maxRecDepth 8000
attribute [local simp] Option.bind

end Go.Proofs.YtjllgkglfabhaaaDoor

namespace Go.Proofs.YtjllgkglfabhaaaDoor
attribute [-simp] Go.Av.innAsH Go.Av.AV.innH Go.Av.CV.innH Go.Av.innHs Go.Av.AV.outnH Go.Av.CV.outnH
open Go Go.Av
attribute [local irreducible] T ACalls TX EX LX Draws Some_ ACallsX eTy eTm MTy.kind MTy.kids MTm.kind MTm.name MTm.num MTm.ty MTm.fr MTm.label MTm.kids
attribute [local simp] eTy_def eTm_def
set_option maxHeartbeats 16000000
set_option maxRecDepth 8000
attribute [local simp] Option.bind

/-- What is left of the operands, put behind what has been done. -/
def afterE (es : List MTm) (ts : List MTy) : Option (List MTm × List MTy) × Int → Option (List MTm × List MTy) × Int
  | (none, n) => (none, n)
  | (some (es', ts'), n) => (some (es ++ es', ts ++ ts'), n)

end Go.Proofs.YtjllgkglfabhaaaDoor

namespace Go.Proofs.YtjllgkglfabhaaaDoor
attribute [-simp] Go.Av.innAsH Go.Av.AV.innH Go.Av.CV.innH Go.Av.innHs Go.Av.AV.outnH Go.Av.CV.outnH
open Go Go.Av
attribute [local irreducible] T ACalls TX EX LX Draws Some_ ACallsX eTy eTm MTy.kind MTy.kids MTm.kind MTm.name MTm.num MTm.ty MTm.fr MTm.label MTm.kids
attribute [local simp] eTy_def eTm_def
set_option maxHeartbeats 16000000
set_option maxRecDepth 8000
attribute [local simp] Option.bind

theorem TermValid_ok (e : MTm) (hn : nTm e ≤ 1099511627776) : ACalls Tryd.prog 42 [aTm e] [] (.b (termValidM e)) [] [] := by
  have h := scan_ok 30 12 14 (by omega) (by omega) e hn 1 0 (by omega) (by omega) (by omega)
  have hl := (scanM_law 30 12 14 e 12 0 (by omega) (by omega)).1
  have hr : (scanM 30 12 14 1 e 0).1 = termValidM e := by
    rw [show ((12 : Int) + 1 - ((12 : Nat) : Int)) = 1 by omega] at hl
    rw [hl, termValidM]
    congr 1
    exact decide_eq_decide.2 (by omega)
  rw [hr] at h
  refine ACalls.of_body Tryd.func42 (by kernel_rfl) rfl (by kernel_rfl) (by simp [Tryd.ntmps42]) (by simp) ?_
  rw [Tryd.ntmps42]
  repeat' first | (refine aops_end (hK _ ?_); clear hK K) | (refine aops_go ?_; simp) | (refine wpcall_upd1 1 [.i 0] [.i (scanM 30 12 14 1 e 0).2] rfl rfl h ?_; simp) | (refine T.ret (Done.data (Or.inr rfl) ?_ ?_) <;> simp [Tryd.results42] <;> omega) | refine T.r0 fun K hK => ?_

/-- The operands of a valid type. -/
def matchedM (k : Int) (t : MTy) : Option (MTy × MTy) := if shapeTy 4 t = true then matchM k t else none
abbrev twoRes : Option (MTy × MTy) → List AV
  | some (a, b) => [aTy a, aTy b, .b true]
  | none => [aTy zeroT, aTy zeroT, .b false]

end Go.Proofs.YtjllgkglfabhaaaDoor
