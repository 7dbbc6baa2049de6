/- A part of the library of this seat: a value-semantic program logic over the model, plain models, and walks of functions. -/
import Derived.Test.YtjllgkglfabhaaaDoorK13
set_option linter.unusedVariables false
set_option linter.unusedSimpArgs false
namespace Go.Proofs.YtjllgkglfabhaaaDoor
attribute [-simp] Go.Av.innAsH Go.Av.AV.innH Go.Av.CV.innH Go.Av.innHs Go.Av.AV.outnH Go.Av.CV.outnH
open Go Go.Av
attribute [local irreducible] T ACalls TX EX LX Draws Some_ ACallsX eTy eTm MTy.kind MTy.kids MTm.kind MTm.name MTm.num MTm.ty MTm.fr MTm.label MTm.kids
attribute [local simp] eTy_def eTm_def
set_option maxHeartbeats 16000000
set_option maxRecDepth 8000
attribute [local simp] Option.bind

theorem all2_nlen {α β : Type} {q : α → β → Bool} {xs : List α} {ys : List β} (h : ¬ xs.length = ys.length) : all2 q xs ys = false := by
  cases h' : all2 q xs ys with
  | false => rfl
  | true => exact absurd (all2_len h') h

theorem TypeSameS_ok : ∀ (a b : MTy), nTy a ≤ 1099511627776 → ACalls Tryd.prog 41 [aTy a, aTy b] [] (.b (sameTy a b)) [] [] := by
  intro a
  induction a using MTy.ind with
  | h a ih =>
    intro b hn
    rw [nTy_def] at hn
    have hlen := nTyS_len a.kids
    rw [sameTy_def]
    refine ACalls.of_body Tryd.func41 (by kernel_rfl) rfl (by kernel_rfl) (by simp [Tryd.ntmps41]) (by simp) ?_
    rw [Tryd.ntmps41]
    by_cases hk : a.kind = b.kind
    rotate_left
    · repeat' first | (refine aops_end (hK _ ?_); clear hK K) | (refine aops_go ?_; simp [hk]; (try (refine gen fun q hq => ?_; cases q <;> (try simp [hk] at hq) <;> (try (have hh : True := hq; clear hh hq))))) | (refine T.ret (Done.data (Or.inr rfl) ?_ ?_) <;> simp [Tryd.results41, hk] <;> omega) | refine T.r0 fun K hK => ?_ | refine T.ct rfl ?_ | refine T.seq ?_
    by_cases hlm : a.kids.length = b.kids.length
    rotate_left
    · have hR := all2_nlen (q := sameTy) hlm
      have hlm' : ¬ (a.kids.length : Int) = b.kids.length := by omega
      repeat' first | (refine aops_end (hK _ ?_); clear hK K) | (refine aops_go ?_; simp [hk, hlm']; (try (refine gen fun q hq => ?_; cases q <;> (try simp [hk, hlm'] at hq) <;> (try (have hh : True := hq; clear hh hq))))) | (refine T.ret (Done.data (Or.inr rfl) ?_ ?_) <;> simp [Tryd.results41, hk, hR] <;> omega) | refine T.r0 fun K hK => ?_ | refine T.ct rfl ?_ | refine T.seq ?_
    repeat' first | (refine aops_end (hK _ ?_); clear hK K) | (refine aops_go ?_; simp [hk, hlm]; (try (refine gen fun q hq => ?_; cases q <;> (try simp [hk, hlm] at hq) <;> (try (have hh : True := hq; clear hh hq))))) | refine T.r0 fun K hK => ?_ | refine T.cf rfl ?_ | refine T.seq ?_ | refine T.block ?_ | refine T.skip ?_
    obtain ⟨R, hR⟩ : ∃ R, all2 sameTy a.kids b.kids = R := ⟨_, rfl⟩
    rw [show (decide (a.kind = b.kind) && all2 sameTy a.kids b.kids) = R by simp [hk, hR]]
    refine T.loopF (fun p : Nat => ⟨[(2, .c (.ptr 0 0)), (3, .c (.ptr 1 0)), (5, .i p)], [(aTy a).cells, (aTy b).cells], []⟩) (fun p => a.kids.length + 1 - p) (fun p => p ≤ a.kids.length ∧ all2 sameTy (a.kids.drop p) (b.kids.drop p) = R) (fun p hp => ?_) 0 (by simpa using hR) (by simp [hk])
    obtain ⟨hi, he⟩ := hp
    by_cases hlt : p < a.kids.length
    · have hlt2 : p < b.kids.length := by omega
      obtain ⟨u, ht⟩ := get_lt hlt
      have htm : u ∈ a.kids := List.mem_of_getElem? ht
      have hgt : a.kids[p] = u := by rw [List.getElem?_eq_getElem hlt] at ht; exact Option.some.inj ht
      have hdr : a.kids.drop p = u :: a.kids.drop (p + 1) := by rw [List.drop_eq_getElem_cons hlt, hgt]
      obtain ⟨v, hv⟩ := get_lt hlt2
      have hgv : b.kids[p] = v := by rw [List.getElem?_eq_getElem hlt2] at hv; exact Option.some.inj hv
      have hu := ih u htm v (by have := nTyS_mem htm; omega)
      rw [hdr, drop_cons hlt2, hgv, all2_cons] at he
      cases hb : sameTy u v <;> rw [hb] at hu he
      · repeat' first | ((first | refine aops_end (hK _ ?_) | refine aopsD_end (hK _ ?_)); clear hK K) | ((first | refine aops_go ?_ | refine aopsD_go ?_); simp [hlt, hlt2, hgt, hgv]; (try simp (disch := omega) only [wrap64]); (try (refine gen fun q hq => ?_; cases q <;> (try simp [hlt, hlt2, hgt, hgv] at hq) <;> (try (have hh : True := hq; clear hh hq))))) | (refine wpcall_pure rfl (hu) ?_; simp [hlt, hlt2, hgt, hgv]; (try simp (disch := omega) only [wrap64]); (try (refine gen fun q hq => ?_; cases q <;> (try simp [hlt, hlt2, hgt, hgv] at hq) <;> (try (have hh : True := hq; clear hh hq))))) | (refine T.ret (Done.data (Or.inr rfl) ?_ ?_) <;> simp [Tryd.results41, ← he] <;> omega) | refine T.rd (id := 6) mixed (fun _ => false) [] (by kernel_rfl) fun K hK => ?_ | refine T.r0 fun K hK => ?_ | refine T.ct rfl ?_ | refine T.seq ?_ | refine T.block ?_ | refine T.skip ?_
      · repeat' first | ((first | refine aops_end (hK _ ?_) | refine aopsD_end (hK _ ?_)); clear hK K) | ((first | refine aops_go ?_ | refine aopsD_go ?_); simp [hlt, hlt2, hgt, hgv]; (try simp (disch := omega) only [wrap64]); (try (refine gen fun q hq => ?_; cases q <;> (try simp [hlt, hlt2, hgt, hgv] at hq) <;> (try (have hh : True := hq; clear hh hq))))) | (refine wpcall_pure rfl (hu) ?_; simp [hlt, hlt2, hgt, hgv]; (try simp (disch := omega) only [wrap64]); (try (refine gen fun q hq => ?_; cases q <;> (try simp [hlt, hlt2, hgt, hgv] at hq) <;> (try (have hh : True := hq; clear hh hq))))) | (refine ⟨p + 1, by dsimp only; omega, ⟨by omega, by simpa using he⟩, rfl, rfl, ?_⟩; simp (disch := omega) [wrap64]) | refine T.rd (id := 6) mixed (fun _ => false) [] (by kernel_rfl) fun K hK => ?_ | refine T.r0 fun K hK => ?_ | refine T.r1 fun K hK => ?_ | refine T.ct rfl ?_ | refine T.cf rfl ?_ | refine T.seq ?_ | refine T.block ?_ | refine T.skip ?_
    · have hp' : p = a.kids.length := by omega
      subst hp'
      rw [List.drop_length, hlm, List.drop_length, all2_nil] at he
      repeat' first | (refine aops_end (hK _ ?_); clear hK K) | (refine aops_go ?_; simp [hlt, hlm]; (try (refine gen fun q hq => ?_; cases q <;> (try simp [hlt, hlm] at hq) <;> (try (have hh : True := hq; clear hh hq))))) | (refine T.ret (Done.data (Or.inr rfl) ?_ ?_) <;> simp [Tryd.results41, ← he] <;> omega) | refine T.r0 fun K hK => ?_ | refine T.cf rfl ?_ | refine T.seq ?_ | refine T.exit ?_

end Go.Proofs.YtjllgkglfabhaaaDoor

namespace Go.Proofs.YtjllgkglfabhaaaDoor
attribute [-simp] Go.Av.innAsH Go.Av.AV.innH Go.Av.CV.innH Go.Av.innHs Go.Av.AV.outnH Go.Av.CV.outnH
open Go Go.Av
attribute [local irreducible] T ACalls TX EX LX Draws Some_ ACallsX eTy eTm MTy.kind MTy.kids MTm.kind MTm.name MTm.num MTm.ty MTm.fr MTm.label MTm.kids
attribute [local simp] eTy_def eTm_def
set_option maxHeartbeats 16000000
set_option maxRecDepth 8000
attribute [local simp] Option.bind

end Go.Proofs.YtjllgkglfabhaaaDoor

namespace Go.Proofs.YtjllgkglfabhaaaDoor
attribute [-simp] Go.Av.innAsH Go.Av.AV.innH Go.Av.CV.innH Go.Av.innHs Go.Av.AV.outnH Go.Av.CV.outnH
open Go Go.Av
attribute [local irreducible] T ACalls TX EX LX Draws Some_ ACallsX eTy eTm MTy.kind MTy.kids MTm.kind MTm.name MTm.num MTm.ty MTm.fr MTm.label MTm.kids
attribute [local simp] eTy_def eTm_def
set_option maxHeartbeats 16000000
set_option maxRecDepth 8000

end Go.Proofs.YtjllgkglfabhaaaDoor

namespace Go.Proofs.YtjllgkglfabhaaaDoor
attribute [-simp] Go.Av.innAsH Go.Av.AV.innH Go.Av.CV.innH Go.Av.innHs Go.Av.AV.outnH Go.Av.CV.outnH
open Go Go.Av
attribute [local irreducible] T ACalls TX EX LX Draws Some_ ACallsX eTy eTm MTy.kind MTy.kids MTm.kind MTm.name MTm.num MTm.ty MTm.fr MTm.label MTm.kids
attribute [local simp] eTy_def eTm_def
set_option maxHeartbeats 16000000
set_option maxRecDepth 8000
attribute [local simp] Option.bind

/-- Casts inserted, as_ InsertCasts answers it. -/
def insertM (e : MTm) : Option (MTm × MTy) := if termValidM e = true then (elabM [] e 0).1 else none
end Go.Proofs.YtjllgkglfabhaaaDoor

namespace Go.Proofs.YtjllgkglfabhaaaDoor
open Go Go.Av
attribute [local irreducible] T ACalls TX EX LX Draws Some_ ACallsX eTy eTm MTy.kind MTy.kids MTm.kind MTm.name MTm.num MTm.ty MTm.fr MTm.label MTm.kids
attribute [local simp] eTy_def eTm_def
set_option maxHeartbeats 16000000
set_option maxRecDepth 8000

end Go.Proofs.YtjllgkglfabhaaaDoor

namespace Go.Proofs.YtjllgkglfabhaaaDoor
open Go Go.Av
attribute [local irreducible] T ACalls TX EX LX Draws Some_ ACallsX eTy eTm MTy.kind MTy.kids MTm.kind MTm.name MTm.num MTm.ty MTm.fr MTm.label MTm.kids
attribute [local simp] eTy_def eTm_def
set_option maxHeartbeats 16000000
set_option maxRecDepth 8000

end Go.Proofs.YtjllgkglfabhaaaDoor

namespace Go.Proofs.YtjllgkglfabhaaaDoor
attribute [-simp] Go.Av.innAsH Go.Av.AV.innH Go.Av.CV.innH Go.Av.innHs Go.Av.AV.outnH Go.Av.CV.outnH
open Go Go.Av
attribute [local irreducible] T ACalls TX EX LX Draws Some_ ACallsX eTy eTm MTy.kind MTy.kids MTm.kind MTm.name MTm.num MTm.ty MTm.fr MTm.label MTm.kids
attribute [local simp] eTy_def eTm_def
set_option maxHeartbeats 16000000
set_option maxRecDepth 8000

abbrev goodBd (u : MBd) : Prop := u.name ∈ ([[120], [122], [121], [88], []] : List (List UInt8)) ∧ nTy u.ty ≤ 1000

end Go.Proofs.YtjllgkglfabhaaaDoor

namespace Go.Proofs.YtjllgkglfabhaaaDoor
open Go Go.Av
attribute [local irreducible] T ACalls TX EX LX Draws Some_ ACallsX eTy eTm MTy.kind MTy.kids MTm.kind MTm.name MTm.num MTm.ty MTm.fr MTm.label MTm.kids
attribute [local simp] eTy_def eTm_def
set_option maxHeartbeats 16000000
set_option maxRecDepth 8000

end Go.Proofs.YtjllgkglfabhaaaDoor

namespace Go.Proofs.YtjllgkglfabhaaaDoor
attribute [-simp] Go.Av.innAsH Go.Av.AV.innH Go.Av.CV.innH Go.Av.innHs Go.Av.AV.outnH Go.Av.CV.outnH
open Go Go.Av
attribute [local irreducible] T ACalls TX EX LX Draws Some_ ACallsX eTy eTm MTy.kind MTy.kids MTm.kind MTm.name MTm.num MTm.ty MTm.fr MTm.label MTm.kids
attribute [local simp] eTy_def eTm_def
set_option maxHeartbeats 16000000
set_option maxRecDepth 8000

end Go.Proofs.YtjllgkglfabhaaaDoor

namespace Go.Proofs.YtjllgkglfabhaaaDoor
open Go Go.Av
attribute [local irreducible] T ACalls TX EX LX Draws Some_ ACallsX eTy eTm MTy.kind MTy.kids MTm.kind MTm.name MTm.num MTm.ty MTm.fr MTm.label MTm.kids
attribute [local simp] eTy_def eTm_def
set_option maxHeartbeats 16000000
set_option maxRecDepth 8000

theorem DrawTermSame_ok (b : List Int) (hb : ∀ n ∈ b, 0 ≤ n ∧ n ≤ 255) : Some_ Tryd.prog 10 [.l (rB b)] (RV (aP aTm aTm) noA fun x => nTm x.1 ≤ 3000000 ∧ nTm x.2 ≤ 3000000) := by
  obtain ⟨b, p, hb, hp, hc⟩ := l18Open_ok b hb
  refine Some_.of_body Tryd.func10 (by kernel_rfl) rfl (by kernel_rfl) (by simp [Tryd.ntmps10]) ?_
  rw [Tryd.ntmps10]
  repeat' first | ((first | refine aops_end (hK _ ?_) | refine aopsD_end (hK _ ?_) | refine aopsF_end (hK _ ?_)); clear hK K) | ((first | refine aops_go ?_ | refine aopsD_go ?_ | refine aopsF_go ?_); simp; (try simp (disch := omega) only [wrap64]); (try (refine gen fun q hq => ?_; cases q <;> (try simp at hq) <;> (try (have hh : True := hq; clear hh hq))))) | (refine wpcall_dr 2 rfl rfl (pick_ok b hb _ (by omega) 2 (by omega)) (fun x1 p1 hx1 hp1 hp1' => ?_); simp; (try simp (disch := omega) only [wrap64]); (try (refine gen fun q hq => ?_; cases q <;> (try simp at hq) <;> (try (have hh : True := hq; clear hh hq))))) | (refine wpcall_dr 2 rfl rfl (l2Term_ok b hb _ (by omega)) (fun x1 p1 hx1 hp1 hp1' => ?_); simp; (try simp (disch := omega) only [wrap64]); (try (refine gen fun q hq => ?_; cases q <;> (try simp at hq) <;> (try (have hh : True := hq; clear hh hq))))) | (refine wpcall_dr 2 rfl rfl (l2Mutate_ok b hb _ (by omega) _ (by omega)) (fun x1 p1 hx1 hp1 hp1' => ?_); simp; (try simp (disch := omega) only [wrap64]); (try (refine gen fun q hq => ?_; cases q <;> (try simp at hq) <;> (try (have hh : True := hq; clear hh hq))))) | (refine wpcall_new1 rfl hc ?_; simp [back]) | refine TX.rdF (id := 4) mixed (fun _ => false) [2, 3, 4] [0] 3 [2, 0] (by kernel_rfl) fun K hK => ?_ | refine TX.rdF1 (id := 4) mixed (fun _ => false) [2, 3, 4] [0] 3 [2, 0] (by kernel_rfl) fun K hK => ?_ | refine TX.rdF (id := 5) mixed (fun _ => false) [5, 6, 7, 8, 9] [0] 8 [2, 0] (by kernel_rfl) fun K hK => ?_ | refine TX.rdF1 (id := 5) mixed (fun _ => false) [5, 6, 7, 8, 9] [0] 8 [2, 0] (by kernel_rfl) fun K hK => ?_ | refine TX.rs (fun _ => false) fun K hK => ?_ | refine TX.rs1 (fun _ => false) fun K hK => ?_ | (refine ⟨by omega, ?_⟩) | refine TX.cond rfl (fun hcnd => ?_) (fun hcnd => absurd hcnd (by decide)) | refine TX.cond rfl (fun hcnd => absurd hcnd (by decide)) (fun hcnd => ?_) | refine TX.seq ?_ | refine TX.block ?_ | refine TX.skip ?_ | refine TX.exit ?_ | refine EX.thenN ?_ | refine EX.thenR ?_ | refine EX.thenE ?_ | refine EX.blockN ?_ | refine EX.blockR ?_ | refine EX.blockE ?_ | refine EX.blockO (by simp) ?_ | refine EX.outR ?_ | refine EX.outE ?_
  all_goals (
    refine TX.ret ?_
    repeat' first | refine EX.outR ?_ | refine EX.thenR ?_ | refine EX.blockR ?_ | refine EX.unrR ?_
    apply EX.someA (ks := [])
    case he => exact Or.inr rfl
    case hys => simp [resAs, getAs, Tryd.results10] <;> rfl
    case hv => first | (dsimp only [Av.one]; exact rfl) | dsimp only [Av.one]
    case hx => repeat' first | exact IsT2.var _ | exact IsV.tmv _ | exact IsTm.var _ | exact IsTy.row _ | exact IsTm.row _ | exact IsTys.nil | exact IsTms.nil | exact IsBds.nil | exact IsTys.map _ | exact IsTms.map _ | exact IsBds.map _ | exact IsV.int _ | exact IsV.str _ | exact IsV.bool _ | apply IsV.p2 | apply IsV.p3 | apply IsV.tm | apply IsV.ty | apply IsTm.node | apply IsTy.of | apply IsTys.cons | apply IsTms.cons | apply IsBds.cons | apply IsV.tys | apply IsV.tms | apply IsV.bds | apply IsT2.node | apply IsTys.app | apply IsTms.app | apply IsBds.app
    case hA => exact rfl
    case hks => simp
    case hg => exact ⟨by dsimp only; omega, by dsimp only; omega⟩)
end Go.Proofs.YtjllgkglfabhaaaDoor
