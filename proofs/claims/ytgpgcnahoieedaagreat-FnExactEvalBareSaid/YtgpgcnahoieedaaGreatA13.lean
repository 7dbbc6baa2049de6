/- A part of the library of this seat: a value-semantic program logic over the model, plain models, and walks of functions. -/
import Derived.Test.YtgpgcnahoieedaaGreatA12
set_option linter.unusedVariables false
set_option linter.unusedSimpArgs false
namespace Go.Proofs.YtgpgcnahoieedaaGreat
attribute [-simp] Go.Av.freeStepG Go.Av.exA Go.Av.innAsH Go.Av.AV.innH Go.Av.CV.innH Go.Av.innHs Go.Av.AV.outnH Go.Av.CV.outnH Go.Av.astepJ Go.Av.relC Go.Av.relL Go.Av.relV Go.Av.relVs Go.Av.callJ
open Go Go.Av
attribute [local irreducible] T ACalls TX EX LX Draws Some_ ACallsX eTy eTm MTy.kind MTy.kids MTm.kind MTm.name MTm.num MTm.ty MTm.fr MTm.label MTm.kids
attribute [local simp] eTy_def eTm_def
set_option maxHeartbeats 16000000
set_option maxRecDepth 8000

theorem base_ok (k : Int) : ACalls Tryz.prog 113 [.i k] [] (aTy (.mk k [])) [] [] := by
  refine ACalls.of_body Tryz.func113 (by kernel_rfl) rfl (by kernel_rfl) (by simp [Tryz.ntmps113]) (by simp) ?_
  rw [Tryz.ntmps113]
  repeat' first | (refine aops_end (hK _ ?_); clear hK K) | (refine aops_go ?_; simp; (try (refine gen fun q hq => ?_; cases q <;> (try simp at hq) <;> (try (have hh : True := hq; clear hh hq))))) | (refine T.ret (Done.val (Or.inr rfl) ?_) <;> simp [resAs, Tryz.results113] <;> omega) | refine T.r0 fun K hK => ?_

theorem both_ok (k : Int) (a b : MTy) : ACalls Tryz.prog 137 [.i k, aTy a, aTy b] [] (aTy (.mk k [a, b])) [] [] := by
  refine ACalls.of_body Tryz.func137 (by kernel_rfl) rfl (by kernel_rfl) (by simp [Tryz.ntmps137]) (by simp) ?_
  rw [Tryz.ntmps137]
  repeat' first | (refine aops_end (hK _ ?_); clear hK K) | (refine aops_go ?_; simp; (try (refine gen fun q hq => ?_; cases q <;> (try simp at hq) <;> (try (have hh : True := hq; clear hh hq))))) | (refine T.ret (Done.val (Or.inr rfl) ?_) <;> simp [resAs, Tryz.results137, eTy_def] <;> omega) | refine T.r0 fun K hK => ?_

end Go.Proofs.YtgpgcnahoieedaaGreat

namespace Go.Proofs.YtgpgcnahoieedaaGreat
attribute [-simp] Go.Av.freeStepG Go.Av.exA Go.Av.innAsH Go.Av.AV.innH Go.Av.CV.innH Go.Av.innHs Go.Av.AV.outnH Go.Av.CV.outnH Go.Av.astepJ Go.Av.relC Go.Av.relL Go.Av.relV Go.Av.relVs Go.Av.callJ
open Go Go.Av
attribute [local irreducible] T ACalls TX EX LX Draws Some_ ACallsX eTy eTm MTy.kind MTy.kids MTm.kind MTm.name MTm.num MTm.ty MTm.fr MTm.label MTm.kids
attribute [local simp] eTy_def eTm_def
set_option maxHeartbeats 16000000
set_option maxRecDepth 8000

theorem TypeSame_ok : (a b : MTy) → nTy a ≤ 1099511627776 → ACalls Tryz.prog 142 [aTy a, aTy b] [] (.b (sameTy a b)) [] []
  | .mk k l, b, hn => by
    rw [nTy_def] at hn
    have hlen := nTyS_len l
    have hc := equalFuncTy_0 142 l b.kids sameTy (by simp at hn; omega) (fun u hu v hv => TypeSame_ok u v (by have := nTyS_mem hu; simp at hn; omega))
    rw [sameTy_def]
    simp only [MTy.kids_mk, MTy.kind_mk]
    generalize all2 sameTy l b.kids = R at hc ⊢
    refine ACalls.of_body Tryz.func142 (by kernel_rfl) rfl (by kernel_rfl) (by simp [Tryz.ntmps142]) (by simp) ?_
    rw [Tryz.ntmps142]
    repeat' first | (refine aops_end (hK _ ?_); clear hK K) | (refine aops_go ?_; simp; (try (refine gen fun q hq => ?_; cases q <;> (try simp at hq) <;> (try (have hh : True := hq; clear hh hq))))) | (refine wpcall_pure rfl (hc) ?_; simp; (try (refine gen fun q hq => ?_; cases q <;> (try simp at hq) <;> (try (have hh : True := hq; clear hh hq))))) | (refine T.ret (Done.data (Or.inr rfl) ?_ ?_) <;> simp [Tryz.results142, *] <;> omega) | refine T.r0 fun K hK => ?_
termination_by a => SizeOf.sizeOf a
decreasing_by have := List.sizeOf_lt_of_mem hu; simp; omega

end Go.Proofs.YtgpgcnahoieedaaGreat

namespace Go.Proofs.YtgpgcnahoieedaaGreat
attribute [-simp] Go.Av.freeStepG Go.Av.exA Go.Av.innAsH Go.Av.AV.innH Go.Av.CV.innH Go.Av.innHs Go.Av.AV.outnH Go.Av.CV.outnH Go.Av.astepJ Go.Av.relC Go.Av.relL Go.Av.relV Go.Av.relVs Go.Av.callJ
open Go Go.Av
attribute [local irreducible] T ACalls TX EX LX Draws Some_ ACallsX eTy eTm MTy.kind MTy.kids MTm.kind MTm.name MTm.num MTm.ty MTm.fr MTm.label MTm.kids
attribute [local simp] eTy_def eTm_def
set_option maxHeartbeats 16000000
set_option maxRecDepth 8000
attribute [local simp] Option.bind

/-- What 'wanted' answers. -/
def WT (ctx : List MBd) (e : MTm) (ts : List MTy) (r : Option (List MTy × MTy)) : Prop := ∃ ws t, (∀ p, r = some p → p = (ws, t)) ∧ ACalls Tryz.prog 116 [aBds ctx, aTm e, aTys ts] [] (.tup [aTys ws, aTy t, .b r.isSome]) [] []

@[simp] theorem td_elab : td Tryz.prog 89 = some { ag := true, sz := 1, by_ := 8, zero := some [.d (.int .i64 0)], el := none, ar := none, fl := [(0, 1)], ik := none, isS := false, isB := false } := keep (by kernel_rfl)

end Go.Proofs.YtgpgcnahoieedaaGreat

namespace Go.Proofs.YtgpgcnahoieedaaGreat
attribute [-simp] Go.Av.innAsH Go.Av.AV.innH Go.Av.CV.innH Go.Av.innHs Go.Av.AV.outnH Go.Av.CV.outnH Go.Av.astepJ Go.Av.relC Go.Av.relL Go.Av.relV Go.Av.relVs Go.Av.callJ
open Go Go.Av
attribute [local irreducible] T ACalls TX EX LX Draws Some_ ACallsX eTy eTm MTy.kind MTy.kids MTm.kind MTm.name MTm.num MTm.ty MTm.fr MTm.label MTm.kids
attribute [local simp] eTy_def eTm_def
set_option maxHeartbeats 16000000
set_option maxRecDepth 8000
attribute [local simp] Option.bind

/-- What is left of the operands, put behind what has been done. -/
def afterE (es : List MTm) (ts : List MTy) : Option (List MTm × List MTy) × Int → Option (List MTm × List MTy) × Int
  | (none, n) => (none, n)
  | (some (es', ts'), n) => (some (es ++ es', ts ++ ts'), n)

end Go.Proofs.YtgpgcnahoieedaaGreat

namespace Go.Proofs.YtgpgcnahoieedaaGreat
attribute [-simp] Go.Av.innAsH Go.Av.AV.innH Go.Av.CV.innH Go.Av.innHs Go.Av.AV.outnH Go.Av.CV.outnH Go.Av.astepJ Go.Av.relC Go.Av.relL Go.Av.relV Go.Av.relVs Go.Av.callJ
open Go Go.Av
attribute [local irreducible] T ACalls TX EX LX Draws Some_ ACallsX eTy eTm MTy.kind MTy.kids MTm.kind MTm.name MTm.num MTm.ty MTm.fr MTm.label MTm.kids
attribute [local simp] eTy_def eTm_def
set_option maxHeartbeats 16000000
set_option maxRecDepth 8000
attribute [local simp] Option.bind

/-- The operands of a valid type. -/
def matchedM (k : Int) (t : MTy) : Option (MTy × MTy) := if shapeTy 4 t = true then matchM k t else none
abbrev twoRes : Option (MTy × MTy) → List AV
  | some (a, b) => [aTy a, aTy b, .b true]
  | none => [aTy zeroT, aTy zeroT, .b false]

end Go.Proofs.YtgpgcnahoieedaaGreat

namespace Go.Proofs.YtgpgcnahoieedaaGreat
attribute [-simp] Go.Av.innAsH Go.Av.AV.innH Go.Av.CV.innH Go.Av.innHs Go.Av.AV.outnH Go.Av.CV.outnH Go.Av.astepJ Go.Av.relC Go.Av.relL Go.Av.relV Go.Av.relVs Go.Av.callJ
open Go Go.Av
attribute [local irreducible] T ACalls TX EX LX Draws Some_ ACallsX eTy eTm MTy.kind MTy.kids MTm.kind MTm.name MTm.num MTm.ty MTm.fr MTm.label MTm.kids
attribute [local simp] eTy_def eTm_def
set_option maxHeartbeats 16000000
set_option maxRecDepth 8000
attribute [local simp] Option.bind

theorem all2_nlen {α β : Type} {q : α → β → Bool} {xs : List α} {ys : List β} (h : ¬ xs.length = ys.length) : all2 q xs ys = false := by
  cases h' : all2 q xs ys with
  | false => rfl
  | true => exact absurd (all2_len h') h

theorem TypeSameS_ok : ∀ (a b : MTy), nTy a ≤ 1099511627776 → ACalls Tryz.prog 143 [aTy a, aTy b] [] (.b (sameTy a b)) [] [] := by
  intro a
  induction a using MTy.ind with
  | h a ih =>
    intro b hn
    rw [nTy_def] at hn
    have hlen := nTyS_len a.kids
    rw [sameTy_def]
    refine ACalls.of_body Tryz.func143 (by kernel_rfl) rfl (by kernel_rfl) (by simp [Tryz.ntmps143]) (by simp) ?_
    rw [Tryz.ntmps143]
    by_cases hk : a.kind = b.kind
    rotate_left
    · repeat' first | (refine aops_end (hK _ ?_); clear hK K) | (refine aops_go ?_; simp [hk]; (try (refine gen fun q hq => ?_; cases q <;> (try simp [hk] at hq) <;> (try (have hh : True := hq; clear hh hq))))) | (refine T.ret (Done.data (Or.inr rfl) ?_ ?_) <;> simp [Tryz.results143, hk] <;> omega) | refine T.r0 fun K hK => ?_ | refine T.ct rfl ?_ | refine T.seq ?_
    by_cases hlm : a.kids.length = b.kids.length
    rotate_left
    · have hR := all2_nlen (q := sameTy) hlm
      have hlm' : ¬ (a.kids.length : Int) = b.kids.length := by omega
      repeat' first | (refine aops_end (hK _ ?_); clear hK K) | (refine aops_go ?_; simp [hk, hlm']; (try (refine gen fun q hq => ?_; cases q <;> (try simp [hk, hlm'] at hq) <;> (try (have hh : True := hq; clear hh hq))))) | (refine T.ret (Done.data (Or.inr rfl) ?_ ?_) <;> simp [Tryz.results143, hk, hR] <;> omega) | refine T.r0 fun K hK => ?_ | refine T.ct rfl ?_ | refine T.seq ?_
    repeat' first | (refine aops_end (hK _ ?_); clear hK K) | (refine aops_go ?_; simp [hk, hlm]; (try (refine gen fun q hq => ?_; cases q <;> (try simp [hk, hlm] at hq) <;> (try (have hh : True := hq; clear hh hq))))) | refine T.r0 fun K hK => ?_ | refine T.cf rfl ?_ | refine T.seq ?_ | refine T.block ?_ | refine T.skip ?_
    obtain ⟨R, hR⟩ : ∃ R, all2 sameTy a.kids b.kids = R := ⟨_, rfl⟩
    rw [show (decide (a.kind = b.kind) && all2 sameTy a.kids b.kids) = R by simp [hk, hR]]
    refine T.loopF (fun p : Nat => ⟨[(2, .c (.ptr 0 0)), (3, .c (.ptr 1 0)), (5, .i p)], [(aTy a).cells, (aTy b).cells], []⟩) (fun p => a.kids.length + 1 - p) (fun p => p ≤ a.kids.length ∧ all2 sameTy (a.kids.drop p) (b.kids.drop p) = R) (fun p hp => ?_) 0 (by simpa using hR) (by simp [hk])
    obtain ⟨hi, he⟩ := hp
    by_cases hlt : p < a.kids.length
    · have hlt2 : p < b.kids.length := by omega
      obtain ⟨u, ht⟩ := get_lt hlt
      have htm : u ∈ a.kids := List.mem_of_getElem? ht
      have hgt : a.kids[p] = u := by rw [List.getElem?_eq_getElem hlt] at ht; exact Option.some.inj ht
      have hdr : a.kids.drop p = u :: a.kids.drop (p + 1) := by rw [List.drop_eq_getElem_cons hlt, hgt]
      obtain ⟨v, hv⟩ := get_lt hlt2
      have hgv : b.kids[p] = v := by rw [List.getElem?_eq_getElem hlt2] at hv; exact Option.some.inj hv
      have hu := ih u htm v (by have := nTyS_mem htm; omega)
      rw [hdr, drop_cons hlt2, hgv, all2_cons] at he
      cases hb : sameTy u v <;> rw [hb] at hu he
      · repeat' first | ((first | refine aops_end (hK _ ?_) | refine aopsD_end (hK _ ?_)); clear hK K) | ((first | refine aops_go ?_ | refine aopsD_go ?_); simp [hlt, hlt2, hgt, hgv]; (try simp (disch := omega) only [wrap64]); (try (refine gen fun q hq => ?_; cases q <;> (try simp [hlt, hlt2, hgt, hgv] at hq) <;> (try (have hh : True := hq; clear hh hq))))) | (refine wpcall_pure rfl (hu) ?_; simp [hlt, hlt2, hgt, hgv]; (try simp (disch := omega) only [wrap64]); (try (refine gen fun q hq => ?_; cases q <;> (try simp [hlt, hlt2, hgt, hgv] at hq) <;> (try (have hh : True := hq; clear hh hq))))) | (refine T.ret (Done.data (Or.inr rfl) ?_ ?_) <;> simp [Tryz.results143, ← he] <;> omega) | refine T.rd (id := 6) mixed (fun _ => false) [] (by kernel_rfl) fun K hK => ?_ | refine T.r0 fun K hK => ?_ | refine T.ct rfl ?_ | refine T.seq ?_ | refine T.block ?_ | refine T.skip ?_
      · repeat' first | ((first | refine aops_end (hK _ ?_) | refine aopsD_end (hK _ ?_)); clear hK K) | ((first | refine aops_go ?_ | refine aopsD_go ?_); simp [hlt, hlt2, hgt, hgv]; (try simp (disch := omega) only [wrap64]); (try (refine gen fun q hq => ?_; cases q <;> (try simp [hlt, hlt2, hgt, hgv] at hq) <;> (try (have hh : True := hq; clear hh hq))))) | (refine wpcall_pure rfl (hu) ?_; simp [hlt, hlt2, hgt, hgv]; (try simp (disch := omega) only [wrap64]); (try (refine gen fun q hq => ?_; cases q <;> (try simp [hlt, hlt2, hgt, hgv] at hq) <;> (try (have hh : True := hq; clear hh hq))))) | (refine ⟨p + 1, by dsimp only; omega, ⟨by omega, by simpa using he⟩, rfl, rfl, ?_⟩; simp (disch := omega) [wrap64]) | refine T.rd (id := 6) mixed (fun _ => false) [] (by kernel_rfl) fun K hK => ?_ | refine T.r0 fun K hK => ?_ | refine T.r1 fun K hK => ?_ | refine T.ct rfl ?_ | refine T.cf rfl ?_ | refine T.seq ?_ | refine T.block ?_ | refine T.skip ?_
    · have hp' : p = a.kids.length := by omega
      subst hp'
      rw [List.drop_length, hlm, List.drop_length, all2_nil] at he
      repeat' first | (refine aops_end (hK _ ?_); clear hK K) | (refine aops_go ?_; simp [hlt, hlm]; (try (refine gen fun q hq => ?_; cases q <;> (try simp [hlt, hlm] at hq) <;> (try (have hh : True := hq; clear hh hq))))) | (refine T.ret (Done.data (Or.inr rfl) ?_ ?_) <;> simp [Tryz.results143, ← he] <;> omega) | refine T.r0 fun K hK => ?_ | refine T.cf rfl ?_ | refine T.seq ?_ | refine T.exit ?_

end Go.Proofs.YtgpgcnahoieedaaGreat

namespace Go.Proofs.YtgpgcnahoieedaaGreat
attribute [-simp] Go.Av.innAsH Go.Av.AV.innH Go.Av.CV.innH Go.Av.innHs Go.Av.AV.outnH Go.Av.CV.outnH Go.Av.astepJ Go.Av.relC Go.Av.relL Go.Av.relV Go.Av.relVs Go.Av.callJ
open Go Go.Av
attribute [local irreducible] T ACalls TX EX LX Draws Some_ ACallsX eTy eTm MTy.kind MTy.kids MTm.kind MTm.name MTm.num MTm.ty MTm.fr MTm.label MTm.kids
attribute [local simp] eTy_def eTm_def
set_option maxHeartbeats 16000000
set_option maxRecDepth 8000
attribute [local simp] Option.bind

end Go.Proofs.YtgpgcnahoieedaaGreat

namespace Go.Proofs.YtgpgcnahoieedaaGreat
attribute [-simp] Go.Av.innAsH Go.Av.AV.innH Go.Av.CV.innH Go.Av.innHs Go.Av.AV.outnH Go.Av.CV.outnH Go.Av.astepJ Go.Av.relC Go.Av.relL Go.Av.relV Go.Av.relVs Go.Av.callJ
open Go Go.Av
attribute [local irreducible] T ACalls TX EX LX Draws Some_ ACallsX eTy eTm MTy.kind MTy.kids MTm.kind MTm.name MTm.num MTm.ty MTm.fr MTm.label MTm.kids
attribute [local simp] eTy_def eTm_def
set_option maxHeartbeats 16000000
set_option maxRecDepth 8000

end Go.Proofs.YtgpgcnahoieedaaGreat

namespace Go.Proofs.YtgpgcnahoieedaaGreat
attribute [-simp] Go.Av.innAsH Go.Av.AV.innH Go.Av.CV.innH Go.Av.innHs Go.Av.AV.outnH Go.Av.CV.outnH Go.Av.astepJ Go.Av.relC Go.Av.relL Go.Av.relV Go.Av.relVs Go.Av.callJ
open Go Go.Av
attribute [local irreducible] T ACalls TX EX LX Draws Some_ ACallsX eTy eTm MTy.kind MTy.kids MTm.kind MTm.name MTm.num MTm.ty MTm.fr MTm.label MTm.kids
attribute [local simp] eTy_def eTm_def
set_option maxHeartbeats 16000000
set_option maxRecDepth 8000
attribute [local simp] Option.bind

/-- Casts inserted, as_ InsertCasts answers it. -/
def insertM (e : MTm) : Option (MTm × MTy) := if termValidM e = true then (elabM [] e 0).1 else none
end Go.Proofs.YtgpgcnahoieedaaGreat

namespace Go.Proofs.YtgpgcnahoieedaaGreat
attribute [-simp] Go.Av.astepJ Go.Av.relC Go.Av.relL Go.Av.relV Go.Av.relVs Go.Av.callJ
open Go Go.Av
attribute [local irreducible] T ACalls TX EX LX Draws Some_ ACallsX eTy eTm MTy.kind MTy.kids MTm.kind MTm.name MTm.num MTm.ty MTm.fr MTm.label MTm.kids
attribute [local simp] eTy_def eTm_def
set_option maxHeartbeats 16000000
set_option maxRecDepth 8000

/-- The types of a valid term. -/
def termTypesM (e : MTm) : List MTy := if termValidM e = true then typesM e else []
end Go.Proofs.YtgpgcnahoieedaaGreat

namespace Go.Proofs.YtgpgcnahoieedaaGreat
attribute [-simp] Go.Av.astepJ Go.Av.relC Go.Av.relL Go.Av.relV Go.Av.relVs Go.Av.callJ
open Go Go.Av
attribute [local irreducible] T ACalls TX EX LX Draws Some_ ACallsX eTy eTm MTy.kind MTy.kids MTm.kind MTm.name MTm.num MTm.ty MTm.fr MTm.label MTm.kids
attribute [local simp] eTy_def eTm_def
set_option maxHeartbeats 16000000
set_option maxRecDepth 8000

end Go.Proofs.YtgpgcnahoieedaaGreat

namespace Go.Proofs.YtgpgcnahoieedaaGreat
attribute [-simp] Go.Av.callJ
open Go Go.Av
attribute [local irreducible] T ACalls TX EX LX Draws Some_ ACallsX eTy eTm MTy.kind MTy.kids MTm.kind MTm.name MTm.num MTm.ty MTm.fr MTm.label MTm.kids
attribute [local simp] eTy_def eTm_def
set_option maxHeartbeats 16000000
set_option maxRecDepth 8000
attribute [local irreducible] TJ FCalls tyK tyRows

theorem toTypeS_tree_step (l : List MTy) (hl : l.length ≤ 1048576) (h : ∀ t ∈ l, FCalls Tryz.prog 17 [aTy t] [] fun r L' => ∃ v, r = .agg [.d (.i t.kind), .d (.raw v)] ∧ L' = [(tyK 31 t.kids, v)]) :
    FCalls Tryz.prog 35 [.l (l.map eTy)] [] fun r L' => ∃ v, r = .c (.d (.raw v)) ∧ L' = [(tyK 31 l, v)] := by
  refine FCalls.of_body Tryz.func35 (by kernel_rfl) rfl (by kernel_rfl) (by simp [Tryz.ntmps35]) ?_
  rw [Tryz.ntmps35]
  repeat' first | (refine aopsJ_end (hK _ _ ?_); clear hK K) | (refine aopsD_end (hK _ ?_); clear hK K) | (refine aopsJ_go ?_; simp; (try first | (refine OpsJ.gen fun q hq => ?_; cases q <;> (try simp at hq) <;> (try (have hh : True := hq; clear hh hq))))) | (refine aopsD_go ?_; simp; (try first | (refine OpsD.gen fun q hq => ?_; cases q <;> (try simp at hq) <;> (try (have hh : True := hq; clear hh hq))))) | (refine aopsF_end (hK _ ?_); clear hK K) | (refine aopsF_go ?_; simp; (try first | (refine OpsF.gen fun q hq => ?_; cases q <;> (try simp at hq) <;> (try (have hh : True := hq; clear hh hq))))) | refine TJ.rs (fun _ => false) fun K hK => ?_ | refine TJ.rs1 (fun _ => false) fun K hK => ?_ | (refine And.intro (by omega) ?_) | refine TJ.cond rfl (fun hcnd => ?_) (fun hcnd => absurd hcnd (by decide)) | refine TJ.cond rfl (fun hcnd => absurd hcnd (by decide)) (fun hcnd => ?_) | refine TJ.seq ?_ | refine TJ.block ?_ | refine TJ.skip ?_ | refine TJ.exit ?_
  refine TJ.loopF (fun vs : List Value => ⟨[(0, .l (l.map eTy)), (3, .c (.own 0 l.length)), (4, .i vs.length)], [], [{ sz := 2, ety := 31, rows := fillV rTy [.i 0, .sl []] l vs, wr := true }]⟩) (fun vs => (l.map fun t => tyK 31 t.kids).zip vs) (fun vs => l.length + 1 - vs.length) (fun vs => vs.length ≤ l.length) (fun vs hi => ?_) [] (by simp) (by simp [fillV_zero]) (M := []) (by simp)
  by_cases hlt : vs.length < l.length
  · obtain ⟨u, hu⟩ := get_lt hlt
    have hum : u ∈ l := List.mem_of_getElem? hu
    have hgt : l[vs.length] = u := by rw [List.getElem?_eq_getElem hlt] at hu; exact Option.some.inj hu
    have hc := h u hum
    repeat' first | (refine aopsJ_end (hK _ _ ?_); clear hK K) | (refine aopsD_end (hK _ ?_); clear hK K) | (refine aopsJ_go ?_; simp [hlt, hgt, fillV_len hi, fillV_at hlt]; (try simp (disch := omega) only [wrap64]); (try first | (refine OpsJ.gen fun q hq => ?_; cases q <;> (try simp [hlt, hgt, fillV_len hi, fillV_at hlt] at hq) <;> (try (have hh : True := hq; clear hh hq))))) | (refine aopsD_go ?_; simp [hlt, hgt, fillV_len hi, fillV_at hlt]; (try simp (disch := omega) only [wrap64]); (try first | (refine OpsD.gen fun q hq => ?_; cases q <;> (try simp [hlt, hgt, fillV_len hi, fillV_at hlt] at hq) <;> (try (have hh : True := hq; clear hh hq))))) | (refine aopsF_end (hK _ ?_); clear hK K) | (refine aopsF_go ?_; simp [hlt, hgt, fillV_len hi, fillV_at hlt]; (try simp (disch := omega) only [wrap64]); (try first | (refine OpsF.gen fun q hq => ?_; cases q <;> (try simp [hlt, hgt, fillV_len hi, fillV_at hlt] at hq) <;> (try (have hh : True := hq; clear hh hq))))) | (refine wpcallJ_new ?_ (hc) ?_; (focus (solve | (repeat' first | exact FzVs.nil | apply FzVs.cons | apply FzV.c | apply FzV.agg | exact FzL.nil | apply FzL.cons | exact FzC.d | exact FzC.nil | exact FzC.np | (refine FzC.thaw' ?_ (tyK_dp _ _); (focus (solve | simp))) | (refine FzC.thaw' ?_ (tmK_dp _ _ _); (focus (solve | simp)))))); rintro _ _ ⟨v, rfl, rfl⟩; simp [hlt, hgt, fillV_len hi, fillV_at hlt]; (try simp (disch := omega) only [wrap64]); (try first | (refine OpsJ.gen fun q hq => ?_; cases q <;> (try simp [hlt, hgt, fillV_len hi, fillV_at hlt] at hq) <;> (try (have hh : True := hq; clear hh hq))))) | refine TJ.rs (fun _ => false) fun K hK => ?_ | refine TJ.rs1 (fun _ => false) fun K hK => ?_ | (refine And.intro (by omega) ?_) | refine TJ.cond rfl (fun hcnd => ?_) (fun hcnd => absurd hcnd (by decide)) | refine TJ.cond rfl (fun hcnd => absurd hcnd (by decide)) (fun hcnd => ?_) | refine TJ.seq ?_ | refine TJ.block ?_ | refine TJ.skip ?_ | refine TJ.exit ?_
    refine ⟨vs ++ [v], [], by simp; omega, by simp; omega, ?_, ?_⟩
    · simp (disch := omega) [wrap64, ← fillV_set hu]
    · dsimp only
      rw [zip_snoc hu, List.append_nil]
      exact List.perm_append_comm (l₁ := [_])
  · have hp' : vs.length = l.length := by omega
    repeat' first | (refine aopsJ_end (hK _ _ ?_); clear hK K) | (refine aopsD_end (hK _ ?_); clear hK K) | (refine aopsJ_go ?_; simp [hp']; (try first | (refine OpsJ.gen fun q hq => ?_; cases q <;> (try simp [hp'] at hq) <;> (try (have hh : True := hq; clear hh hq))))) | (refine aopsD_go ?_; simp [hp']; (try first | (refine OpsD.gen fun q hq => ?_; cases q <;> (try simp [hp'] at hq) <;> (try (have hh : True := hq; clear hh hq))))) | (refine aopsF_end (hK _ ?_); clear hK K) | (refine aopsF_go ?_; simp [hp']; (try first | (refine OpsF.gen fun q hq => ?_; cases q <;> (try simp [hp'] at hq) <;> (try (have hh : True := hq; clear hh hq))))) | refine TJ.rs (fun _ => false) fun K hK => ?_ | refine TJ.rs1 (fun _ => false) fun K hK => ?_ | (refine And.intro (by omega) ?_) | refine TJ.cond rfl (fun hcnd => ?_) (fun hcnd => absurd hcnd (by decide)) | refine TJ.cond rfl (fun hcnd => absurd hcnd (by decide)) (fun hcnd => ?_) | refine TJ.seq ?_ | refine TJ.block ?_ | refine TJ.skip ?_ | refine TJ.exit ?_
    refine TJ.ret (DoneJ.own (k := 0) (n := l.length) (Or.inr rfl) (by simp [Tryz.results35]) rfl rfl ?_ (Lc := (l.map fun t => tyK 31 t.kids).zip vs) (cs := tyRows 31 l) ?_ (M := []) (by simp) ?_)
    · rw [fillV_len hi]
    · rw [fillV_full hp']; exact mk_tyRows _ hp'
    · intro v
      refine ⟨v, rfl, ?_⟩
      rw [fillV_len hi]; simp only [tyK]

theorem toType_tree_step (t : MTy) (h : FCalls Tryz.prog 35 [.l (t.kids.map eTy)] [] fun r L' => ∃ v, r = .c (.d (.raw v)) ∧ L' = [(tyK 31 t.kids, v)]) :
    FCalls Tryz.prog 17 [aTy t] [] fun r L' => ∃ v, r = .agg [.d (.i t.kind), .d (.raw v)] ∧ L' = [(tyK 31 t.kids, v)] := by
  refine FCalls.of_body Tryz.func17 (by kernel_rfl) rfl (by kernel_rfl) (by simp [Tryz.ntmps17]) ?_
  rw [Tryz.ntmps17]
  repeat' first | (refine aopsJ_end (hK _ _ ?_); clear hK K) | (refine aopsD_end (hK _ ?_); clear hK K) | (refine aopsJ_go ?_; simp; (try first | (refine OpsJ.gen fun q hq => ?_; cases q <;> (try simp at hq) <;> (try (have hh : True := hq; clear hh hq))))) | (refine aopsD_go ?_; simp; (try first | (refine OpsD.gen fun q hq => ?_; cases q <;> (try simp at hq) <;> (try (have hh : True := hq; clear hh hq))))) | (refine aopsF_end (hK _ ?_); clear hK K) | (refine aopsF_go ?_; simp; (try first | (refine OpsF.gen fun q hq => ?_; cases q <;> (try simp at hq) <;> (try (have hh : True := hq; clear hh hq))))) | (refine wpcallJ_new ?_ (h) ?_; (focus (solve | (repeat' first | exact FzVs.nil | apply FzVs.cons | apply FzV.c | apply FzV.agg | exact FzL.nil | apply FzL.cons | exact FzC.d | exact FzC.nil | exact FzC.np | (refine FzC.thaw' ?_ (tyK_dp _ _); (focus (solve | simp))) | (refine FzC.thaw' ?_ (tmK_dp _ _ _); (focus (solve | simp)))))); rintro _ _ ⟨v, rfl, rfl⟩; simp; (try first | (refine OpsJ.gen fun q hq => ?_; cases q <;> (try simp at hq) <;> (try (have hh : True := hq; clear hh hq))))) | refine TJ.rs (fun _ => false) fun K hK => ?_ | refine TJ.rs1 (fun _ => false) fun K hK => ?_ | (refine And.intro (by omega) ?_) | refine TJ.cond rfl (fun hcnd => ?_) (fun hcnd => absurd hcnd (by decide)) | refine TJ.cond rfl (fun hcnd => absurd hcnd (by decide)) (fun hcnd => ?_) | refine TJ.seq ?_ | refine TJ.block ?_ | refine TJ.skip ?_ | refine TJ.exit ?_
  refine TJ.ret (DoneJ.agg (Or.inr rfl) (r := .agg [.d (.i t.kind), .d (.raw v)]) (by simp [Tryz.results17]) (by simp [DV.scal]) (M := []) (by simp) ⟨v, rfl, rfl⟩)

theorem toType_tree : (t : MTy) → nTy t ≤ 1048576 → FCalls Tryz.prog 17 [aTy t] [] fun r L' => ∃ v, r = .agg [.d (.i t.kind), .d (.raw v)] ∧ L' = [(tyK 31 t.kids, v)]
  | .mk k l, hn => toType_tree_step (.mk k l) (by
    rw [nTy_def] at hn
    simp only [MTy.kids_mk] at hn ⊢
    exact toTypeS_tree_step l (by have := nTyS_len l; omega) (fun t ht => toType_tree t (by have := nTyS_mem ht; omega)))
termination_by t => SizeOf.sizeOf t
decreasing_by have := List.sizeOf_lt_of_mem ht; simp; omega
end Go.Proofs.YtgpgcnahoieedaaGreat

namespace Go.Proofs.YtgpgcnahoieedaaGreat
attribute [-simp] Go.Av.callJ
open Go Go.Av
attribute [local irreducible] T ACalls TX EX LX Draws Some_ ACallsX eTy eTm MTy.kind MTy.kids MTm.kind MTm.name MTm.num MTm.ty MTm.fr MTm.label MTm.kids
attribute [local simp] eTy_def eTm_def
set_option maxHeartbeats 16000000
set_option maxRecDepth 8000
attribute [local irreducible] TJ FCalls tyK tyRows tmK tmRows

theorem toTermS_tree_step (l : List MTm) (hl : l.length ≤ 1048576) (h : ∀ t ∈ l, FCalls Tryz.prog 7 [aTm t] [] fun r L' => ∃ v : V3, r = .agg ((rTm t v).map CV.d) ∧ L' = tTm 31 34 t v) :
    FCalls Tryz.prog 18 [.l (l.map eTm)] [] fun r L' => ∃ v, r = .c (.d (.raw v)) ∧ L' = [(tmK 31 34 l, v)] := by
  refine FCalls.of_body Tryz.func18 (by kernel_rfl) rfl (by kernel_rfl) (by simp [Tryz.ntmps18]) ?_
  rw [Tryz.ntmps18]
  repeat' first | (refine aopsJ_end (hK _ _ ?_); clear hK K) | (refine aopsD_end (hK _ ?_); clear hK K) | (refine aopsJ_go ?_; simp; (try first | (refine OpsJ.gen fun q hq => ?_; cases q <;> (try simp at hq) <;> (try (have hh : True := hq; clear hh hq))))) | (refine aopsD_go ?_; simp; (try first | (refine OpsD.gen fun q hq => ?_; cases q <;> (try simp at hq) <;> (try (have hh : True := hq; clear hh hq))))) | (refine aopsF_end (hK _ ?_); clear hK K) | (refine aopsF_go ?_; simp; (try first | (refine OpsF.gen fun q hq => ?_; cases q <;> (try simp at hq) <;> (try (have hh : True := hq; clear hh hq))))) | refine TJ.rs (fun _ => false) fun K hK => ?_ | refine TJ.rs1 (fun _ => false) fun K hK => ?_ | (refine And.intro (by omega) ?_) | refine TJ.cond rfl (fun hcnd => ?_) (fun hcnd => absurd hcnd (by decide)) | refine TJ.cond rfl (fun hcnd => absurd hcnd (by decide)) (fun hcnd => ?_) | refine TJ.seq ?_ | refine TJ.block ?_ | refine TJ.skip ?_ | refine TJ.exit ?_
  refine TJ.loopF (fun vs : List V3 => ⟨[(0, .l (l.map eTm)), (3, .c (.own 0 l.length)), (4, .i vs.length)], [], [{ sz := 9, ety := 34, rows := fillV rTm [.i 0, .str [], .i 0, .i 0, .sl [], .i 0, .sl [], .i 0, .sl []] l vs, wr := true }]⟩) (fun vs => tsTm 31 34 l vs) (fun vs => l.length + 1 - vs.length) (fun vs => vs.length ≤ l.length) (fun vs hi => ?_) [] (by simp) (by simp [fillV_zero]) (M := []) (by simp [tsTm_nil])
  by_cases hlt : vs.length < l.length
  · obtain ⟨u, hu⟩ := get_lt hlt
    have hum : u ∈ l := List.mem_of_getElem? hu
    have hgt : l[vs.length] = u := by rw [List.getElem?_eq_getElem hlt] at hu; exact Option.some.inj hu
    have hc := h u hum
    repeat' first | (refine aopsJ_end (hK _ _ ?_); clear hK K) | (refine aopsD_end (hK _ ?_); clear hK K) | (refine aopsJ_go ?_; simp [hlt, hgt, fillV_len hi, fillV_at hlt]; (try simp (disch := omega) only [wrap64]); (try first | (refine OpsJ.gen fun q hq => ?_; cases q <;> (try simp [hlt, hgt, fillV_len hi, fillV_at hlt] at hq) <;> (try (have hh : True := hq; clear hh hq))))) | (refine aopsD_go ?_; simp [hlt, hgt, fillV_len hi, fillV_at hlt]; (try simp (disch := omega) only [wrap64]); (try first | (refine OpsD.gen fun q hq => ?_; cases q <;> (try simp [hlt, hgt, fillV_len hi, fillV_at hlt] at hq) <;> (try (have hh : True := hq; clear hh hq))))) | (refine aopsF_end (hK _ ?_); clear hK K) | (refine aopsF_go ?_; simp [hlt, hgt, fillV_len hi, fillV_at hlt]; (try simp (disch := omega) only [wrap64]); (try first | (refine OpsF.gen fun q hq => ?_; cases q <;> (try simp [hlt, hgt, fillV_len hi, fillV_at hlt] at hq) <;> (try (have hh : True := hq; clear hh hq))))) | (refine wpcallJ_new ?_ (hc) ?_; (focus (solve | (repeat' first | exact FzVs.nil | apply FzVs.cons | apply FzV.c | apply FzV.agg | exact FzL.nil | apply FzL.cons | exact FzC.d | exact FzC.nil | exact FzC.np | (refine FzC.thaw' ?_ (tyK_dp _ _); (focus (solve | simp))) | (refine FzC.thaw' ?_ (tmK_dp _ _ _); (focus (solve | simp)))))); rintro _ _ ⟨⟨v1, v2, v3⟩, rfl, rfl⟩; simp [hlt, hgt, fillV_len hi, fillV_at hlt]; (try simp (disch := omega) only [wrap64]); (try first | (refine OpsJ.gen fun q hq => ?_; cases q <;> (try simp [hlt, hgt, fillV_len hi, fillV_at hlt] at hq) <;> (try (have hh : True := hq; clear hh hq))))) | refine TJ.rs (fun _ => false) fun K hK => ?_ | refine TJ.rs1 (fun _ => false) fun K hK => ?_ | (refine And.intro (by omega) ?_) | refine TJ.cond rfl (fun hcnd => ?_) (fun hcnd => absurd hcnd (by decide)) | refine TJ.cond rfl (fun hcnd => absurd hcnd (by decide)) (fun hcnd => ?_) | refine TJ.seq ?_ | refine TJ.block ?_ | refine TJ.skip ?_ | refine TJ.exit ?_
    refine ⟨vs ++ [(v1, v2, v3)], [], by simp; omega, by simp; omega, ?_, ?_⟩
    · simp (disch := omega) [wrap64, ← fillV_set hu]
    · dsimp only
      rw [tsTm_snoc _ _ hu, List.append_nil]
      exact List.perm_append_comm (l₁ := tTm _ _ u (v1, v2, v3))
  · have hp' : vs.length = l.length := by omega
    repeat' first | (refine aopsJ_end (hK _ _ ?_); clear hK K) | (refine aopsD_end (hK _ ?_); clear hK K) | (refine aopsJ_go ?_; simp [hp']; (try first | (refine OpsJ.gen fun q hq => ?_; cases q <;> (try simp [hp'] at hq) <;> (try (have hh : True := hq; clear hh hq))))) | (refine aopsD_go ?_; simp [hp']; (try first | (refine OpsD.gen fun q hq => ?_; cases q <;> (try simp [hp'] at hq) <;> (try (have hh : True := hq; clear hh hq))))) | (refine aopsF_end (hK _ ?_); clear hK K) | (refine aopsF_go ?_; simp [hp']; (try first | (refine OpsF.gen fun q hq => ?_; cases q <;> (try simp [hp'] at hq) <;> (try (have hh : True := hq; clear hh hq))))) | refine TJ.rs (fun _ => false) fun K hK => ?_ | refine TJ.rs1 (fun _ => false) fun K hK => ?_ | (refine And.intro (by omega) ?_) | refine TJ.cond rfl (fun hcnd => ?_) (fun hcnd => absurd hcnd (by decide)) | refine TJ.cond rfl (fun hcnd => absurd hcnd (by decide)) (fun hcnd => ?_) | refine TJ.seq ?_ | refine TJ.block ?_ | refine TJ.skip ?_ | refine TJ.exit ?_
    refine TJ.ret (DoneJ.own (k := 0) (n := l.length) (Or.inr rfl) (by simp [Tryz.results18]) rfl rfl ?_ (Lc := tsTm 31 34 l vs) (cs := tmRows 31 34 l) ?_ (M := []) (by simp) ?_)
    · rw [fillV_len hi]
    · rw [fillV_full hp']; exact mk_tmRows _ _ hp'
    · intro v
      refine ⟨v, rfl, ?_⟩
      rw [fillV_len hi]; simp only [tmK]

theorem toTerm_tree_step (e : MTm) (h1 : nTy e.ty ≤ 1048576) (h2 : nTy e.fr ≤ 1048576) (h : FCalls Tryz.prog 18 [.l (e.kids.map eTm)] [] fun r L' => ∃ v, r = .c (.d (.raw v)) ∧ L' = [(tmK 31 34 e.kids, v)]) :
    FCalls Tryz.prog 7 [aTm e] [] fun r L' => ∃ v : V3, r = .agg ((rTm e v).map CV.d) ∧ L' = tTm 31 34 e v := by
  have k1 := toType_tree e.ty h1
  have k2 := toType_tree e.fr h2
  refine FCalls.of_body Tryz.func7 (by kernel_rfl) rfl (by kernel_rfl) (by simp [Tryz.ntmps7]) ?_
  rw [Tryz.ntmps7]
  repeat' first | (refine aopsJ_end (hK _ _ ?_); clear hK K) | (refine aopsD_end (hK _ ?_); clear hK K) | (refine aopsJ_go ?_; simp; (try first | (refine OpsJ.gen fun q hq => ?_; cases q <;> (try simp at hq) <;> (try (have hh : True := hq; clear hh hq))))) | (refine aopsD_go ?_; simp; (try first | (refine OpsD.gen fun q hq => ?_; cases q <;> (try simp at hq) <;> (try (have hh : True := hq; clear hh hq))))) | (refine aopsF_end (hK _ ?_); clear hK K) | (refine aopsF_go ?_; simp; (try first | (refine OpsF.gen fun q hq => ?_; cases q <;> (try simp at hq) <;> (try (have hh : True := hq; clear hh hq))))) | (refine wpcallJ_new ?_ (k1) ?_; (focus (solve | (repeat' first | exact FzVs.nil | apply FzVs.cons | apply FzV.c | apply FzV.agg | exact FzL.nil | apply FzL.cons | exact FzC.d | exact FzC.nil | exact FzC.np | (refine FzC.thaw' ?_ (tyK_dp _ _); (focus (solve | simp))) | (refine FzC.thaw' ?_ (tmK_dp _ _ _); (focus (solve | simp)))))); rintro _ _ ⟨v1, rfl, rfl⟩; simp; (try first | (refine OpsJ.gen fun q hq => ?_; cases q <;> (try simp at hq) <;> (try (have hh : True := hq; clear hh hq))))) | (refine wpcallJ_new ?_ (k2) ?_; (focus (solve | (repeat' first | exact FzVs.nil | apply FzVs.cons | apply FzV.c | apply FzV.agg | exact FzL.nil | apply FzL.cons | exact FzC.d | exact FzC.nil | exact FzC.np | (refine FzC.thaw' ?_ (tyK_dp _ _); (focus (solve | simp))) | (refine FzC.thaw' ?_ (tmK_dp _ _ _); (focus (solve | simp)))))); rintro _ _ ⟨v2, rfl, rfl⟩; simp; (try first | (refine OpsJ.gen fun q hq => ?_; cases q <;> (try simp at hq) <;> (try (have hh : True := hq; clear hh hq))))) | (refine wpcallJ_new ?_ (h) ?_; (focus (solve | (repeat' first | exact FzVs.nil | apply FzVs.cons | apply FzV.c | apply FzV.agg | exact FzL.nil | apply FzL.cons | exact FzC.d | exact FzC.nil | exact FzC.np | (refine FzC.thaw' ?_ (tyK_dp _ _); (focus (solve | simp))) | (refine FzC.thaw' ?_ (tmK_dp _ _ _); (focus (solve | simp)))))); rintro _ _ ⟨v, rfl, rfl⟩; simp; (try first | (refine OpsJ.gen fun q hq => ?_; cases q <;> (try simp at hq) <;> (try (have hh : True := hq; clear hh hq))))) | refine TJ.rs (fun _ => false) fun K hK => ?_ | refine TJ.rs1 (fun _ => false) fun K hK => ?_ | (refine And.intro (by omega) ?_) | refine TJ.cond rfl (fun hcnd => ?_) (fun hcnd => absurd hcnd (by decide)) | refine TJ.cond rfl (fun hcnd => absurd hcnd (by decide)) (fun hcnd => ?_) | refine TJ.seq ?_ | refine TJ.block ?_ | refine TJ.skip ?_ | refine TJ.exit ?_
  refine TJ.ret (DoneJ.agg (Or.inr rfl) (L' := tTm 31 34 e (v1, v2, v)) (r := .agg ((rTm e (v1, v2, v)).map CV.d)) (by simp [Tryz.results7]) (by simp [DV.scal]) (M := []) ?_ ⟨(v1, v2, v), rfl, rfl⟩)
  simp only [tTm, List.append_nil]
  exact (List.reverse_perm _).symm

theorem toTerm_tree : (e : MTm) → nTm e ≤ 1048576 → FCalls Tryz.prog 7 [aTm e] [] fun r L' => ∃ v : V3, r = .agg ((rTm e v).map CV.d) ∧ L' = tTm 31 34 e v
  | .mk k s n t f b l, hn => by
    have hn0 := hn
    rw [nTm_def] at hn
    have hlen := nTmS_len l
    simp only [MTm.kids_mk, MTm.ty_mk, MTm.fr_mk, MTm.name_mk] at hn
    exact toTerm_tree_step _ (by simp only [MTm.ty_mk]; omega) (by simp only [MTm.fr_mk]; omega) (by simp only [MTm.kids_mk]; exact toTermS_tree_step l (by omega) (fun t ht => toTerm_tree t (by have := nTmS_mem ht; omega)))
termination_by t => SizeOf.sizeOf t
decreasing_by have := List.sizeOf_lt_of_mem ht; simp; omega
end Go.Proofs.YtgpgcnahoieedaaGreat
