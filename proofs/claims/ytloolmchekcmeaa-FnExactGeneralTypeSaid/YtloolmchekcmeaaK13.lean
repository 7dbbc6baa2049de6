/- A part of the library of this seat. -/
import Derived.Test.YtloolmchekcmeaaK12
set_option linter.unusedVariables false
set_option linter.unusedSimpArgs false
namespace Go.Proofs.Ytloolmchekcmeaa
attribute [-simp] Go.Av.freeStepG Go.Av.exA Go.Av.innAsH Go.Av.AV.innH Go.Av.CV.innH Go.Av.innHs Go.Av.AV.outnH Go.Av.CV.outnH Go.Av.astepJ Go.Av.relC Go.Av.relL Go.Av.relV Go.Av.relVs Go.Av.callJ
open Go Go.Av
attribute [local irreducible] T ACalls TX EX LX Draws Some_ ACallsX eTy eTm MTy.kind MTy.kids MTm.kind MTm.name MTm.num MTm.ty MTm.fr MTm.label MTm.kids
attribute [local simp] eTy_def eTm_def
set_option maxHeartbeats 16000000
set_option maxRecDepth 8000

theorem base_ok (k : Int) : ACalls Try.prog 49 [.i k] [] (aTy (.mk k [])) [] [] := by
 refine ACalls.of_body Try.func49 (by kernel_rfl) rfl (by kernel_rfl) (by simp [Try.ntmps49]) (by simp) ?_
 rw [Try.ntmps49]
 repeat' first | (refine aops_end (hK _ ?_); clear hK K) | (refine aops_go ?_; simp; (try (refine gen2 ?_ ?_ <;> intro hq <;> try simp at hq))) | (refine T.ret (Done.val (Or.inr rfl) ?_) <;> simp [resAs, Try.results49] <;> omega) | refine T.r0 fun K hK => ?_

theorem ownType_ok : ∀ (t : MTy), nTy t <= 1099511627776 -> ACalls Try.prog 62 [aTy t] [] (aTy t) [] [] := by
 intro t
 induction t using MTy.ind with
 | h t ih =>
  intro hn
  rw [nTy_def] at hn
  have hlen := nTyS_len t.kids
  refine ACalls.of_body Try.func62 (by kernel_rfl) rfl (by kernel_rfl) (by simp [Try.ntmps62]) (by simp) ?_
  rw [Try.ntmps62]
  repeat' first | (refine aops_end (hK _ ?_); clear hK K) | (refine aops_go ?_; simp; (try (refine gen2 ?_ ?_ <;> intro hq <;> try simp at hq))) | refine T.r0 fun K hK => ?_ | refine T.seq ?_ | refine T.block ?_
  refine T.ownifyObj 2 1 2 33 (row := [.d (.i t.kind), .nil]) (by simp) (by simp) ?_
  refine T.loopK (α := Nat × List (List CV)) [2, 3, 10, 11] (fun x => [(12, .i x.1)]) (fun x => [(2, [.d (.i t.kind), .own 0 x.1])]) (fun x => x.2) (fun x _ => [{ sz := 2, ety := 33, rows := (t.kids.take x.1).map eTy, wr := true }]) (fun x => t.kids.length + 1 - x.1) (fun x => x.1 <= t.kids.length) (by simp; rfl) (fun x hx => ?_) (0, []) (by simp) (by simp) (by simp) (by simp)
  obtain ⟨p, G⟩ := x
  dsimp only at hx ⊢
  by_cases hlt : p < t.kids.length
  ·obtain ⟨u, ht⟩ := get_lt hlt
   have htm : u ∈ t.kids := List.mem_of_getElem? ht
   have hgt : t.kids[p] = u := by rw [List.getElem?_eq_getElem hlt] at ht; exact Option.some.inj ht
   have hdr : t.kids.drop p = u :: t.kids.drop (p + 1) := by rw [List.drop_eq_getElem_cons hlt, hgt]
   have hu := ih u htm (by have := nTyS_mem htm; omega)
   have htk : t.kids.take (p + 1) = t.kids.take p ++ [u] := by rw [List.take_add_one, ht]; rfl
   have hmin : min p t.kids.length = p := by omega
   simp only [ups, List.set_cons_zero, List.set_cons_succ, List.cons_append, List.nil_append]
   repeat' first | ((first | refine aops_end (hK _ ?_) | refine aopsD_end (hK _ ?_)); clear hK K) | ((first | refine aops_go ?_ | refine aopsD_go ?_ | refine wpcall_pure rfl (hu) ?_); simp [hlt, hgt, hmin]; (try simp (disch := omega) only [wrap64]); (try (refine gen2 ?_ ?_ <;> intro hq <;> try simp [hlt, hgt, hmin] at hq))) | (refine ⟨by omega, by omega, ?_⟩) | (refine ⟨(p + 1, _), by dsimp only; omega, by dsimp only; omega, rfl, ?_, ?_⟩ <;> simp (disch := omega) [wrap64, htk, eTy_def]) | refine T.rd1 (id := 5) mixed (fun _ => false) [5, 7] (by kernel_rfl) fun K hK => ?_ | refine T.r0 fun K hK => ?_ | refine T.r1 fun K hK => ?_ | refine T.ct rfl ?_ | refine T.seq ?_ | refine T.block ?_ | refine T.skip ?_
  ·have hp' : p = t.kids.length := by omega
   subst hp'
   simp only [ups, List.set_cons_zero, List.set_cons_succ, List.cons_append, List.nil_append]
   repeat' first | (refine aops_end (hK _ ?_); clear hK K) | (refine aops_go ?_; simp [hlt]; (try (refine gen2 ?_ ?_ <;> intro hq <;> try simp [hlt] at hq))) | (refine T.ret (Done.val (Or.inr rfl) ?_) <;> simp [resAs, Try.results62, eTy_def] <;> omega) | refine T.r0 fun K hK => ?_ | refine T.cf rfl ?_ | refine T.seq ?_ | refine T.exit ?_

end Go.Proofs.Ytloolmchekcmeaa

namespace Go.Proofs.Ytloolmchekcmeaa
attribute [-simp] Go.Av.freeStepG Go.Av.exA Go.Av.innAsH Go.Av.AV.innH Go.Av.CV.innH Go.Av.innHs Go.Av.AV.outnH Go.Av.CV.outnH Go.Av.astepJ Go.Av.relC Go.Av.relL Go.Av.relV Go.Av.relVs Go.Av.callJ
open Go Go.Av
attribute [local irreducible] T ACalls TX EX LX Draws Some_ ACallsX eTy eTm MTy.kind MTy.kids MTm.kind MTm.name MTm.num MTm.ty MTm.fr MTm.label MTm.kids
attribute [local simp] eTy_def eTm_def
set_option maxHeartbeats 16000000
set_option maxRecDepth 8000

theorem mapped_ok (f : FuncId) (g : MTm -> MTm) (q : MTm -> Prop) (hq : ∀ e, q e -> ∀ u ∈ e.kids, q u)
  (hf : ∀ e, q e -> ACalls Try.prog f [aTm (.mk e.kind e.name e.num e.ty e.fr e.label (e.kids.map (mapM g)))] [] (aTm (mapM g e)) [] []) :
  ∀ (e : MTm), q e -> nTm e <= 1099511627776 -> ACalls Try.prog 47 [aTm e, .c (.fn f [])] [] (aTm (mapM g e)) [] [] := by
 intro e
 induction e using MTm.ind with
 | h e ih =>
  intro hqe hn
  obtain ⟨hnt, hnf, hnk, hnu⟩ := nTm_parts hn
  have h1 := ownType_ok e.ty hnt
  have h2 := ownType_ok e.fr hnf
  have h3 := hf e hqe
  simp only [aTm, MTm.kids_mk, MTm.kind_mk, MTm.name_mk, MTm.num_mk, MTm.ty_mk, MTm.fr_mk, MTm.label_mk] at h3
  generalize mapM g e = R at h3 ⊢
  refine ACalls.of_body Try.func47 (by kernel_rfl) rfl (by kernel_rfl) (by simp [Try.ntmps47]) (by simp) ?_
  rw [Try.ntmps47]
  repeat' first | (refine aops_end (hK _ ?_); clear hK K) | (refine aops_go ?_; simp; (try (refine gen2 ?_ ?_ <;> intro hq <;> (try simp at hq) <;> try (have : True := hq; clear this hq)))) | refine T.r0 fun K hK => ?_ | refine T.seq ?_ | refine T.block ?_
  refine T.ownify 5 9 36 (by simp) ?_
  refine T.loopK (α := Nat × List (List CV)) [1, 2, 4, 9, 10] (fun x => [(5, .c (.own 0 x.1)), (11, .i x.1)]) (fun x => []) (fun x => x.2) (fun x _ => [{ sz := 9, ety := 36, rows := ((e.kids.map (mapM g)).take x.1).map eTm, wr := true }]) (fun x => e.kids.length + 1 - x.1) (fun x => x.1 <= e.kids.length) (by simp; rfl) (fun x hx => ?_) (0, []) (by simp) (by simp) (by simp) (by simp)
  obtain ⟨p, G⟩ := x
  dsimp only at hx ⊢
  simp only [ups, List.cons_append, List.nil_append]
  by_cases hlt : p < e.kids.length
  ·obtain ⟨u, ht⟩ := get_lt hlt
   have htm : u ∈ e.kids := List.mem_of_getElem? ht
   have hgt : e.kids[p] = u := by rw [List.getElem?_eq_getElem hlt] at ht; exact Option.some.inj ht
   have hdr : e.kids.drop p = u :: e.kids.drop (p + 1) := by rw [List.drop_eq_getElem_cons hlt, hgt]
   have hu := ih u htm (hq e hqe u htm) (by have := hnu u htm; omega)
   have htk : (e.kids.map (mapM g)).take (p + 1) = (e.kids.map (mapM g)).take p ++ [mapM g u] := by rw [List.take_add_one, List.getElem?_map, ht]; rfl
   have hlm : min p (e.kids.map (mapM g)).length = p := by simp; omega
   generalize (e.kids.map (mapM g)) = Z at *
   repeat' first | (refine aops_end (hK _ ?_); clear hK K) | ((first | refine aops_go ?_ | refine wpcall_pure rfl (hu) ?_); simp [hlt, hgt, hlm]; (try simp (disch := omega) only [wrap64]); (try (refine gen2 ?_ ?_ <;> intro hq <;> (try simp [hlt, hgt, hlm] at hq) <;> try (have : True := hq; clear this hq)))) | (refine ⟨by omega, by omega, ?_⟩) | (refine ⟨(p + 1, _), by dsimp only; omega, by dsimp only; omega, rfl, ?_, ?_⟩ <;> simp (disch := omega) [wrap64, htk, eTm_def, hlm]) | refine T.r0 fun K hK => ?_ | refine T.r1 fun K hK => ?_ | refine T.ct rfl ?_ | refine T.seq ?_ | refine T.block ?_ | refine T.skip ?_
  ·have hp' : p = e.kids.length := by omega
   subst hp'
   have hlm : (e.kids.map (mapM g)).length = e.kids.length := by simp
   rw [List.take_of_length_le (by omega)]
   generalize (e.kids.map (mapM g)) = Z at *
   repeat' first | ((first | refine aops_end (hK _ ?_) | refine aopsD_end (hK _ ?_)); clear hK K) | ((first | refine aops_go ?_ | refine aopsD_go ?_ | refine wpcall_pure rfl (h1) ?_ | refine wpcall_pure rfl (h2) ?_ | (refine wpcall_pure ?_ (h3) ?_; (focus (solve | simp [hlt, hlm])))); simp [hlt, hlm]; (try (refine gen2 ?_ ?_ <;> intro hq <;> (try simp [hlt, hlm] at hq) <;> try (have : True := hq; clear this hq)))) | (refine T.ret (Done.val (Or.inr rfl) ?_) <;> simp [resAs, Try.results47] <;> omega) | refine T.rd (id := 7) mixed (fun _ => false) [8, 10, 12] (by kernel_rfl) fun K hK => ?_ | refine T.r0 fun K hK => ?_ | refine T.cf rfl ?_ | refine T.seq ?_ | refine T.exit ?_
end Go.Proofs.Ytloolmchekcmeaa

namespace Go.Proofs.Ytloolmchekcmeaa
attribute [-simp] Go.Av.freeStepG Go.Av.exA Go.Av.innAsH Go.Av.AV.innH Go.Av.CV.innH Go.Av.innHs Go.Av.AV.outnH Go.Av.CV.outnH Go.Av.astepJ Go.Av.relC Go.Av.relL Go.Av.relV Go.Av.relVs Go.Av.callJ
open Go Go.Av
attribute [local irreducible] T ACalls TX EX LX Draws Some_ ACallsX eTy eTm MTy.kind MTy.kids MTm.kind MTm.name MTm.num MTm.ty MTm.fr MTm.label MTm.kids
attribute [local simp] eTy_def eTm_def
set_option maxHeartbeats 16000000
set_option maxRecDepth 8000
attribute [local simp] Option.bind

end Go.Proofs.Ytloolmchekcmeaa

namespace Go.Proofs.Ytloolmchekcmeaa
attribute [-simp] Go.Av.innAsH Go.Av.AV.innH Go.Av.CV.innH Go.Av.innHs Go.Av.AV.outnH Go.Av.CV.outnH Go.Av.astepJ Go.Av.relC Go.Av.relL Go.Av.relV Go.Av.relVs Go.Av.callJ
open Go Go.Av
attribute [local irreducible] T ACalls TX EX LX Draws Some_ ACallsX eTy eTm MTy.kind MTy.kids MTm.kind MTm.name MTm.num MTm.ty MTm.fr MTm.label MTm.kids
attribute [local simp] eTy_def eTm_def
set_option maxHeartbeats 16000000
set_option maxRecDepth 8000
attribute [local simp] Option.bind

def afterE (es : List MTm) (ts : List MTy) : Option (List MTm × List MTy) × Int -> Option (List MTm × List MTy) × Int
 | (none, n) => (none, n)
 | (some (es', ts'), n) => (some (es ++ es', ts ++ ts'), n)

end Go.Proofs.Ytloolmchekcmeaa

namespace Go.Proofs.Ytloolmchekcmeaa
attribute [-simp] Go.Av.innAsH Go.Av.AV.innH Go.Av.CV.innH Go.Av.innHs Go.Av.AV.outnH Go.Av.CV.outnH Go.Av.astepJ Go.Av.relC Go.Av.relL Go.Av.relV Go.Av.relVs Go.Av.callJ
open Go Go.Av
attribute [local irreducible] T ACalls TX EX LX Draws Some_ ACallsX eTy eTm MTy.kind MTy.kids MTm.kind MTm.name MTm.num MTm.ty MTm.fr MTm.label MTm.kids
attribute [local simp] eTy_def eTm_def
set_option maxHeartbeats 16000000
set_option maxRecDepth 8000
attribute [local simp] Option.bind

theorem TermValid_ok (e : MTm) (hn : nTm e <= 1099511627776) : ACalls Try.prog 18 [aTm e] [] (.b (termValidM e)) [] [] := by
 have h := scan_ok 30 12 14 (by omega) (by omega) e hn 1 0 (by omega) (by omega) (by omega)
 have hl := (scanM_law 30 12 14 e 12 0 (by omega) (by omega)).1
 have hr : (scanM 30 12 14 1 e 0).1 = termValidM e := by
  rw [show ((12 : Int) + 1 - ((12 : Nat) : Int)) = 1 by omega] at hl
  rw [hl, termValidM]
  congr 1
  exact decide_eq_decide.2 (by omega)
 rw [hr] at h
 refine ACalls.of_body Try.func18 (by kernel_rfl) rfl (by kernel_rfl) (by simp [Try.ntmps18]) (by simp) ?_
 rw [Try.ntmps18]
 repeat' first | (refine aops_end (hK _ ?_); clear hK K) | ((first | refine aops_go ?_ | refine wpcall_upd1 1 [.i 0] [.i (scanM 30 12 14 1 e 0).2] rfl rfl h ?_); simp) | (refine T.ret (Done.data (Or.inr rfl) ?_ ?_) <;> simp [Try.results18] <;> omega) | refine T.r0 fun K hK => ?_

def matchedM (k : Int) (t : MTy) : Option (MTy × MTy) := if shapeTy 4 t = true then matchM k t else none
abbrev twoRes : Option (MTy × MTy) -> List AV
 | some (a, b) => [aTy a, aTy b, .b true]
 | none => [aTy zeroT, aTy zeroT, .b false]

end Go.Proofs.Ytloolmchekcmeaa
