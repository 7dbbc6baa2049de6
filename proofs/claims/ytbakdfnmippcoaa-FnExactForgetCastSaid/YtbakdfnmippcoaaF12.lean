/- A part of the library of this seat: a value-semantic program logic over the model, plain models, and walks of functions. -/
import Derived.Test.YtbakdfnmippcoaaF11
set_option linter.unusedVariables false
set_option linter.unusedSimpArgs false
namespace Go.Proofs.Ytbakdfnmippcoaa
attribute [-simp] Go.Av.astepJ Go.Av.relC Go.Av.relL Go.Av.relV Go.Av.relVs Go.Av.callJ
open Go Go.Av
attribute [local irreducible] T ACalls TX EX LX Draws Some_ ACallsX eTy eTm MTy.kind MTy.kids MTm.kind MTm.name MTm.num MTm.ty MTm.fr MTm.label MTm.kids
attribute [local simp] eTy_def eTm_def
set_option maxHeartbeats 16000000
set_option maxRecDepth 8000


end Go.Proofs.Ytbakdfnmippcoaa

namespace Go.Proofs.Ytbakdfnmippcoaa
attribute [-simp] Go.Av.astepJ Go.Av.relC Go.Av.relL Go.Av.relV Go.Av.relVs Go.Av.callJ
open Go Go.Av
attribute [local irreducible] T ACalls TX EX LX Draws Some_ ACallsX eTy eTm MTy.kind MTy.kids MTm.kind MTm.name MTm.num MTm.ty MTm.fr MTm.label MTm.kids
attribute [local simp] eTy_def eTm_def
set_option maxHeartbeats 16000000
set_option maxRecDepth 8000

theorem sum_take_le {α : Type} (f : α → Nat) : ∀ (l : List α) (p : Nat), ((l.take p).map f).sum ≤ (l.map f).sum
  | [], p => by simp
  | x :: r, 0 => by simp
  | x :: r, p + 1 => by have := sum_take_le f r p; simp only [List.take_succ_cons, List.map_cons, List.sum_cons]; omega
def cntP (l : List MTy) (p : Nat) : Nat := ((l.take p).map cntM).sum
end Go.Proofs.Ytbakdfnmippcoaa

namespace Go.Proofs.Ytbakdfnmippcoaa
attribute [-simp] Go.Av.astepJ Go.Av.relC Go.Av.relL Go.Av.relV Go.Av.relVs Go.Av.callJ
open Go Go.Av
attribute [local irreducible] T ACalls TX EX LX Draws Some_ ACallsX eTy eTm MTy.kind MTy.kids MTm.kind MTm.name MTm.num MTm.ty MTm.fr MTm.label MTm.kids
attribute [local simp] eTy_def eTm_def
set_option maxHeartbeats 16000000
set_option maxRecDepth 8000
@[simp] theorem td_intS2 : td Try.prog 93 = some { ag := false, sz := 1, by_ := 24, zero := some [.nil], el := some 3, ar := none, fl := [], ik := none, isS := false, isB := false } := keep (by kernel_rfl)

end Go.Proofs.Ytbakdfnmippcoaa

namespace Go.Proofs.Ytbakdfnmippcoaa
attribute [-simp] Go.Av.astepJ Go.Av.relC Go.Av.relL Go.Av.relV Go.Av.relVs Go.Av.callJ
open Go Go.Av
attribute [local irreducible] T ACalls TX EX LX Draws Some_ ACallsX eTy eTm MTy.kind MTy.kids MTm.kind MTm.name MTm.num MTm.ty MTm.fr MTm.label MTm.kids
attribute [local simp] eTy_def eTm_def
set_option maxHeartbeats 16000000
set_option maxRecDepth 8000

def redM (e : MTm) : Int := if castValidM e = true then ((castsM e).length : Int) - (castsM (simpM e)).length else 0

/-- A copy whose operands the caller may change. -/
abbrev tmOwn (e : MTm) : AV := .agg [.d (.i e.kind), .d (.str e.name), .d (.i e.num), .d (.i e.ty.kind), .d (.sl (e.ty.kids.map eTy)), .d (.i e.fr.kind), .d (.sl (e.fr.kids.map eTy)), .d (.i e.label), .own 0 e.kids.length]
/-- The operands, simplified as_ far as_ a place. -/
def mixM (l : List MTm) (p : Nat) : List MTm := (l.map simpM).take p ++ l.drop p
end Go.Proofs.Ytbakdfnmippcoaa

namespace Go.Proofs.Ytbakdfnmippcoaa
attribute [-simp] Go.Av.astepJ Go.Av.relC Go.Av.relL Go.Av.relV Go.Av.relVs Go.Av.callJ
open Go Go.Av
attribute [local irreducible] T ACalls TX EX LX Draws Some_ ACallsX eTy eTm MTy.kind MTy.kids MTm.kind MTm.name MTm.num MTm.ty MTm.fr MTm.label MTm.kids
attribute [local simp] eTy_def eTm_def
set_option maxHeartbeats 16000000
set_option maxRecDepth 8000

/-- What l4Exact answers. -/
def L4E (e : MTm) (ts : List MTy) (o : Option MTy) : Prop := ∃ t', (∀ t, o = some t → t' = t) ∧ ACalls Try.prog 53 [aTm e, .l (ts.map eTy)] [] (.tup [aTy t', .b o.isSome]) [] []

theorem l4E14 (c : List MBd) (e : MTm) (a : MTy) (hk : e.kind = 14) (ha : shapeTy 4 a = true) (he : shapeTy 4 e.ty = true) : L4E e [a] (castN c e [a]) := by
  have h1 := l1Copy_ok e.ty (by have := shape4 he; omega)
  have h2 := TypeSameS_ok a e.fr (by have := shape4 ha; omega)
  rw [show castN c e [a] = if sameTy a e.fr = true then some e.ty else none from cn14 a hk]
  refine ⟨e.ty, ?_, ?_⟩
  · intro t h; split at h <;> simp at h; exact h
  rw [show (if sameTy a e.fr = true then some e.ty else none).isSome = sameTy a e.fr by cases sameTy a e.fr <;> rfl]
  generalize sameTy a e.fr = q at h2 ⊢
  refine ACalls.of_body Try.func53 (by kernel_rfl) rfl (by kernel_rfl) (by simp [Try.ntmps53]) (by simp) ?_
  rw [Try.ntmps53]
  repeat' first | ((first | refine aops_end (hK _ ?_) | refine aopsD_end (hK _ ?_) | refine aopsF_end (hK _ ?_)); clear hK K) | ((first | refine aops_go ?_ | refine aopsD_go ?_ | refine aopsF_go ?_); simp [hk]; (try (refine gen fun q hq => ?_; cases q <;> (try simp [hk] at hq) <;> (try (have hh : True := hq; clear hh hq))))) | (refine wpcall_pure rfl (h1) ?_; simp [hk]; (try (refine gen fun q hq => ?_; cases q <;> (try simp [hk] at hq) <;> (try (have hh : True := hq; clear hh hq))))) | (refine wpcall_pure rfl (h2) ?_; simp [hk]; (try (refine gen fun q hq => ?_; cases q <;> (try simp [hk] at hq) <;> (try (have hh : True := hq; clear hh hq))))) | (refine T.ret (Done.tup (Or.inr rfl) ?_) <;> simp [resAs, Try.results53, *] <;> omega) | refine T.rd (id := 3) mixed (fun _ => false) [9] (by kernel_rfl) fun K hK => ?_ | refine T.rd1 (id := 3) mixed (fun _ => false) [9] (by kernel_rfl) fun K hK => ?_ | refine T.rd (id := 5) mixed (fun _ => false) [] (by kernel_rfl) fun K hK => ?_ | refine T.rd1 (id := 5) mixed (fun _ => false) [] (by kernel_rfl) fun K hK => ?_ | refine T.rd (id := 9) mixed (fun _ => false) [13] (by kernel_rfl) fun K hK => ?_ | refine T.rd1 (id := 9) mixed (fun _ => false) [13] (by kernel_rfl) fun K hK => ?_ | refine T.rd (id := 11) mixed (fun _ => false) [13] (by kernel_rfl) fun K hK => ?_ | refine T.rd1 (id := 11) mixed (fun _ => false) [13] (by kernel_rfl) fun K hK => ?_ | refine T.rd (id := 13) mixed (fun _ => false) [18] (by kernel_rfl) fun K hK => ?_ | refine T.rd1 (id := 13) mixed (fun _ => false) [18] (by kernel_rfl) fun K hK => ?_ | refine T.rd (id := 15) mixed (fun _ => false) [9] (by kernel_rfl) fun K hK => ?_ | refine T.rd1 (id := 15) mixed (fun _ => false) [9] (by kernel_rfl) fun K hK => ?_ | refine T.rd (id := 18) mixed (fun _ => false) [10] (by kernel_rfl) fun K hK => ?_ | refine T.rd1 (id := 18) mixed (fun _ => false) [10] (by kernel_rfl) fun K hK => ?_ | refine T.r0 fun K hK => ?_ | refine T.r1 fun K hK => ?_ | (refine ⟨by omega, ?_⟩) | refine T.ct rfl ?_ | refine T.cf rfl ?_ | refine T.seq ?_ | refine T.block ?_ | refine T.skip ?_ | refine T.exit ?_

theorem l4E7 (c : List MBd) (e : MTm) (a b : MTy) (hk : e.kind = 7) (ha : shapeTy 4 a = true) (hb : shapeTy 4 b = true) : L4E e [a, b] (castN c e [a, b]) := by
  have h1 := TypeSameS_ok a intT (by have := shape4 ha; omega)
  have h2 := TypeSameS_ok b intT (by have := shape4 hb; omega)
  have h3 := l3Int_ok
  have h4 := l3Bool_ok
  have e1 : castN c e [a, b] = if (sameTy a intT && sameTy b intT) = true then some intT else none := cn7 a b hk
  rw [e1]
  refine ⟨intT, ?_, ?_⟩
  · intro t h; split at h <;> simp at h; exact h
  rw [show (if (sameTy a intT && sameTy b intT) = true then some intT else none).isSome = (sameTy a intT && sameTy b intT) by cases (sameTy a intT && sameTy b intT) <;> rfl]
  generalize sameTy a intT = q1 at h1 ⊢
  generalize sameTy b intT = q2 at h2 ⊢
  refine ACalls.of_body Try.func53 (by kernel_rfl) rfl (by kernel_rfl) (by simp [Try.ntmps53]) (by simp) ?_
  rw [Try.ntmps53]
  repeat' first | ((first | refine aops_end (hK _ ?_) | refine aopsD_end (hK _ ?_) | refine aopsF_end (hK _ ?_)); clear hK K) | ((first | refine aops_go ?_ | refine aopsD_go ?_ | refine aopsF_go ?_); simp [hk]; (try (refine gen fun q hq => ?_; cases q <;> (try simp [hk] at hq) <;> (try (have hh : True := hq; clear hh hq))))) | (refine wpcall_pure rfl (h3) ?_; simp [hk]; (try (refine gen fun q hq => ?_; cases q <;> (try simp [hk] at hq) <;> (try (have hh : True := hq; clear hh hq))))) | (refine wpcall_pure rfl (h4) ?_; simp [hk]; (try (refine gen fun q hq => ?_; cases q <;> (try simp [hk] at hq) <;> (try (have hh : True := hq; clear hh hq))))) | (refine wpcall_pure ?_ (h1) ?_; (focus (solve | simp [hk])); simp [hk]; (try (refine gen fun q hq => ?_; cases q <;> (try simp [hk] at hq) <;> (try (have hh : True := hq; clear hh hq))))) | (refine wpcall_pure ?_ (h2) ?_; (focus (solve | simp [hk])); simp [hk]; (try (refine gen fun q hq => ?_; cases q <;> (try simp [hk] at hq) <;> (try (have hh : True := hq; clear hh hq))))) | (refine T.ret (Done.tup (Or.inr rfl) ?_) <;> simp [resAs, Try.results53, *] <;> omega) | refine T.rd (id := 3) mixed (fun _ => false) [9] (by kernel_rfl) fun K hK => ?_ | refine T.rd1 (id := 3) mixed (fun _ => false) [9] (by kernel_rfl) fun K hK => ?_ | refine T.rd (id := 5) mixed (fun _ => false) [] (by kernel_rfl) fun K hK => ?_ | refine T.rd1 (id := 5) mixed (fun _ => false) [] (by kernel_rfl) fun K hK => ?_ | refine T.rd (id := 9) mixed (fun _ => false) [13] (by kernel_rfl) fun K hK => ?_ | refine T.rd1 (id := 9) mixed (fun _ => false) [13] (by kernel_rfl) fun K hK => ?_ | refine T.rd (id := 11) mixed (fun _ => false) [13] (by kernel_rfl) fun K hK => ?_ | refine T.rd1 (id := 11) mixed (fun _ => false) [13] (by kernel_rfl) fun K hK => ?_ | refine T.rd (id := 13) mixed (fun _ => false) [18] (by kernel_rfl) fun K hK => ?_ | refine T.rd1 (id := 13) mixed (fun _ => false) [18] (by kernel_rfl) fun K hK => ?_ | refine T.rd (id := 15) mixed (fun _ => false) [9] (by kernel_rfl) fun K hK => ?_ | refine T.rd1 (id := 15) mixed (fun _ => false) [9] (by kernel_rfl) fun K hK => ?_ | refine T.rd (id := 18) mixed (fun _ => false) [10] (by kernel_rfl) fun K hK => ?_ | refine T.rd1 (id := 18) mixed (fun _ => false) [10] (by kernel_rfl) fun K hK => ?_ | refine T.r0 fun K hK => ?_ | refine T.r1 fun K hK => ?_ | (refine ⟨by omega, ?_⟩) | refine T.ct rfl ?_ | refine T.cf rfl ?_ | refine T.seq ?_ | refine T.block ?_ | refine T.skip ?_ | refine T.exit ?_

theorem l4E8 (c : List MBd) (e : MTm) (a b : MTy) (hk : e.kind = 8) (ha : shapeTy 4 a = true) (hb : shapeTy 4 b = true) : L4E e [a, b] (castN c e [a, b]) := by
  have h1 := TypeSameS_ok a intT (by have := shape4 ha; omega)
  have h2 := TypeSameS_ok b intT (by have := shape4 hb; omega)
  have h3 := l3Int_ok
  have h4 := l3Bool_ok
  have e1 : castN c e [a, b] = if (sameTy a intT && sameTy b intT) = true then some boolT else none := cn8 a b hk
  rw [e1]
  refine ⟨boolT, ?_, ?_⟩
  · intro t h; split at h <;> simp at h; exact h
  rw [show (if (sameTy a intT && sameTy b intT) = true then some boolT else none).isSome = (sameTy a intT && sameTy b intT) by cases (sameTy a intT && sameTy b intT) <;> rfl]
  generalize sameTy a intT = q1 at h1 ⊢
  generalize sameTy b intT = q2 at h2 ⊢
  refine ACalls.of_body Try.func53 (by kernel_rfl) rfl (by kernel_rfl) (by simp [Try.ntmps53]) (by simp) ?_
  rw [Try.ntmps53]
  repeat' first | ((first | refine aops_end (hK _ ?_) | refine aopsD_end (hK _ ?_) | refine aopsF_end (hK _ ?_)); clear hK K) | ((first | refine aops_go ?_ | refine aopsD_go ?_ | refine aopsF_go ?_); simp [hk]; (try (refine gen fun q hq => ?_; cases q <;> (try simp [hk] at hq) <;> (try (have hh : True := hq; clear hh hq))))) | (refine wpcall_pure rfl (h3) ?_; simp [hk]; (try (refine gen fun q hq => ?_; cases q <;> (try simp [hk] at hq) <;> (try (have hh : True := hq; clear hh hq))))) | (refine wpcall_pure rfl (h4) ?_; simp [hk]; (try (refine gen fun q hq => ?_; cases q <;> (try simp [hk] at hq) <;> (try (have hh : True := hq; clear hh hq))))) | (refine wpcall_pure ?_ (h1) ?_; (focus (solve | simp [hk])); simp [hk]; (try (refine gen fun q hq => ?_; cases q <;> (try simp [hk] at hq) <;> (try (have hh : True := hq; clear hh hq))))) | (refine wpcall_pure ?_ (h2) ?_; (focus (solve | simp [hk])); simp [hk]; (try (refine gen fun q hq => ?_; cases q <;> (try simp [hk] at hq) <;> (try (have hh : True := hq; clear hh hq))))) | (refine T.ret (Done.tup (Or.inr rfl) ?_) <;> simp [resAs, Try.results53, *] <;> omega) | refine T.rd (id := 3) mixed (fun _ => false) [9] (by kernel_rfl) fun K hK => ?_ | refine T.rd1 (id := 3) mixed (fun _ => false) [9] (by kernel_rfl) fun K hK => ?_ | refine T.rd (id := 5) mixed (fun _ => false) [] (by kernel_rfl) fun K hK => ?_ | refine T.rd1 (id := 5) mixed (fun _ => false) [] (by kernel_rfl) fun K hK => ?_ | refine T.rd (id := 9) mixed (fun _ => false) [13] (by kernel_rfl) fun K hK => ?_ | refine T.rd1 (id := 9) mixed (fun _ => false) [13] (by kernel_rfl) fun K hK => ?_ | refine T.rd (id := 11) mixed (fun _ => false) [13] (by kernel_rfl) fun K hK => ?_ | refine T.rd1 (id := 11) mixed (fun _ => false) [13] (by kernel_rfl) fun K hK => ?_ | refine T.rd (id := 13) mixed (fun _ => false) [18] (by kernel_rfl) fun K hK => ?_ | refine T.rd1 (id := 13) mixed (fun _ => false) [18] (by kernel_rfl) fun K hK => ?_ | refine T.rd (id := 15) mixed (fun _ => false) [9] (by kernel_rfl) fun K hK => ?_ | refine T.rd1 (id := 15) mixed (fun _ => false) [9] (by kernel_rfl) fun K hK => ?_ | refine T.rd (id := 18) mixed (fun _ => false) [10] (by kernel_rfl) fun K hK => ?_ | refine T.rd1 (id := 18) mixed (fun _ => false) [10] (by kernel_rfl) fun K hK => ?_ | refine T.r0 fun K hK => ?_ | refine T.r1 fun K hK => ?_ | (refine ⟨by omega, ?_⟩) | refine T.ct rfl ?_ | refine T.cf rfl ?_ | refine T.seq ?_ | refine T.block ?_ | refine T.skip ?_ | refine T.exit ?_

theorem l4E9 (c : List MBd) (e : MTm) (a b d : MTy) (hk : e.kind = 9) (ha : shapeTy 4 a = true) (hb : shapeTy 4 b = true) : L4E e [a, b, d] (castN c e [a, b, d]) := by
  have h1 := TypeSameS_ok a boolT (by have := shape4 ha; omega)
  have h2 := TypeSameS_ok b d (by have := shape4 hb; omega)
  have h3 := l3Bool_ok
  have h4 := l1Copy_ok b (by have := shape4 hb; omega)
  have e1 : castN c e [a, b, d] = if (sameTy a boolT && sameTy b d) = true then some b else none := cn9 a b d hk hb
  rw [e1]
  refine ⟨b, ?_, ?_⟩
  · intro t h; split at h <;> simp at h; exact h
  rw [show (if (sameTy a boolT && sameTy b d) = true then some b else none).isSome = (sameTy a boolT && sameTy b d) by cases (sameTy a boolT && sameTy b d) <;> rfl]
  generalize sameTy a boolT = q1 at h1 ⊢
  generalize sameTy b d = q2 at h2 ⊢
  refine ACalls.of_body Try.func53 (by kernel_rfl) rfl (by kernel_rfl) (by simp [Try.ntmps53]) (by simp) ?_
  rw [Try.ntmps53]
  repeat' first | ((first | refine aops_end (hK _ ?_) | refine aopsD_end (hK _ ?_) | refine aopsF_end (hK _ ?_)); clear hK K) | ((first | refine aops_go ?_ | refine aopsD_go ?_ | refine aopsF_go ?_); simp [hk]; (try (refine gen fun q hq => ?_; cases q <;> (try simp [hk] at hq) <;> (try (have hh : True := hq; clear hh hq))))) | (refine wpcall_pure rfl (h3) ?_; simp [hk]; (try (refine gen fun q hq => ?_; cases q <;> (try simp [hk] at hq) <;> (try (have hh : True := hq; clear hh hq))))) | (refine wpcall_pure rfl (h4) ?_; simp [hk]; (try (refine gen fun q hq => ?_; cases q <;> (try simp [hk] at hq) <;> (try (have hh : True := hq; clear hh hq))))) | (refine wpcall_pure ?_ (h1) ?_; (focus (solve | simp [hk])); simp [hk]; (try (refine gen fun q hq => ?_; cases q <;> (try simp [hk] at hq) <;> (try (have hh : True := hq; clear hh hq))))) | (refine wpcall_pure rfl (h2) ?_; simp [hk]; (try (refine gen fun q hq => ?_; cases q <;> (try simp [hk] at hq) <;> (try (have hh : True := hq; clear hh hq))))) | (refine T.ret (Done.tup (Or.inr rfl) ?_) <;> simp [resAs, Try.results53, *] <;> omega) | refine T.rd (id := 3) mixed (fun _ => false) [9] (by kernel_rfl) fun K hK => ?_ | refine T.rd1 (id := 3) mixed (fun _ => false) [9] (by kernel_rfl) fun K hK => ?_ | refine T.rd (id := 5) mixed (fun _ => false) [] (by kernel_rfl) fun K hK => ?_ | refine T.rd1 (id := 5) mixed (fun _ => false) [] (by kernel_rfl) fun K hK => ?_ | refine T.rd (id := 9) mixed (fun _ => false) [13] (by kernel_rfl) fun K hK => ?_ | refine T.rd1 (id := 9) mixed (fun _ => false) [13] (by kernel_rfl) fun K hK => ?_ | refine T.rd (id := 11) mixed (fun _ => false) [13] (by kernel_rfl) fun K hK => ?_ | refine T.rd1 (id := 11) mixed (fun _ => false) [13] (by kernel_rfl) fun K hK => ?_ | refine T.rd (id := 13) mixed (fun _ => false) [18] (by kernel_rfl) fun K hK => ?_ | refine T.rd1 (id := 13) mixed (fun _ => false) [18] (by kernel_rfl) fun K hK => ?_ | refine T.rd (id := 15) mixed (fun _ => false) [9] (by kernel_rfl) fun K hK => ?_ | refine T.rd1 (id := 15) mixed (fun _ => false) [9] (by kernel_rfl) fun K hK => ?_ | refine T.rd (id := 18) mixed (fun _ => false) [10] (by kernel_rfl) fun K hK => ?_ | refine T.rd1 (id := 18) mixed (fun _ => false) [10] (by kernel_rfl) fun K hK => ?_ | refine T.r0 fun K hK => ?_ | refine T.r1 fun K hK => ?_ | (refine ⟨by omega, ?_⟩) | refine T.ct rfl ?_ | refine T.cf rfl ?_ | refine T.seq ?_ | refine T.block ?_ | refine T.skip ?_ | refine T.exit ?_

theorem l4E10 (c : List MBd) (e : MTm) (a b : MTy) (hk : e.kind = 10) (ha : shapeTy 4 a = true) (hb : shapeTy 4 b = true) : L4E e [a, b] (castN c e [a, b]) := by
  have h1 := l3Two_ok 5 a b (by have := shape4 ha; omega) (by have := shape4 hb; omega)
  rw [show castN c e [a, b] = if shapeTy 4 (.mk 5 [a, b]) = true then some (.mk 5 [a, b]) else none from cn10 a b hk]
  refine ⟨.mk 5 [a, b], ?_, ?_⟩
  · intro t h; split at h <;> simp at h; exact h
  rw [show (if shapeTy 4 (.mk 5 [a, b]) = true then some (MTy.mk 5 [a, b]) else none).isSome = shapeTy 4 (.mk 5 [a, b]) by cases shapeTy 4 (.mk 5 [a, b]) <;> rfl]
  generalize shapeTy 4 (.mk 5 [a, b]) = q at h1 ⊢
  refine ACalls.of_body Try.func53 (by kernel_rfl) rfl (by kernel_rfl) (by simp [Try.ntmps53]) (by simp) ?_
  rw [Try.ntmps53]
  repeat' first | ((first | refine aops_end (hK _ ?_) | refine aopsD_end (hK _ ?_) | refine aopsF_end (hK _ ?_)); clear hK K) | ((first | refine aops_go ?_ | refine aopsD_go ?_ | refine aopsF_go ?_); simp [hk]; (try (refine gen fun q hq => ?_; cases q <;> (try simp [hk] at hq) <;> (try (have hh : True := hq; clear hh hq))))) | (refine wpcall_pure rfl (h1) ?_; simp [hk]; (try (refine gen fun q hq => ?_; cases q <;> (try simp [hk] at hq) <;> (try (have hh : True := hq; clear hh hq))))) | (refine T.ret (Done.tup (Or.inr rfl) ?_) <;> simp [resAs, Try.results53, *] <;> omega) | refine T.rd (id := 3) mixed (fun _ => false) [9] (by kernel_rfl) fun K hK => ?_ | refine T.rd1 (id := 3) mixed (fun _ => false) [9] (by kernel_rfl) fun K hK => ?_ | refine T.rd (id := 5) mixed (fun _ => false) [] (by kernel_rfl) fun K hK => ?_ | refine T.rd1 (id := 5) mixed (fun _ => false) [] (by kernel_rfl) fun K hK => ?_ | refine T.rd (id := 9) mixed (fun _ => false) [13] (by kernel_rfl) fun K hK => ?_ | refine T.rd1 (id := 9) mixed (fun _ => false) [13] (by kernel_rfl) fun K hK => ?_ | refine T.rd (id := 11) mixed (fun _ => false) [13] (by kernel_rfl) fun K hK => ?_ | refine T.rd1 (id := 11) mixed (fun _ => false) [13] (by kernel_rfl) fun K hK => ?_ | refine T.rd (id := 13) mixed (fun _ => false) [18] (by kernel_rfl) fun K hK => ?_ | refine T.rd1 (id := 13) mixed (fun _ => false) [18] (by kernel_rfl) fun K hK => ?_ | refine T.rd (id := 15) mixed (fun _ => false) [9] (by kernel_rfl) fun K hK => ?_ | refine T.rd1 (id := 15) mixed (fun _ => false) [9] (by kernel_rfl) fun K hK => ?_ | refine T.rd (id := 18) mixed (fun _ => false) [10] (by kernel_rfl) fun K hK => ?_ | refine T.rd1 (id := 18) mixed (fun _ => false) [10] (by kernel_rfl) fun K hK => ?_ | refine T.r0 fun K hK => ?_ | refine T.r1 fun K hK => ?_ | (refine ⟨by omega, ?_⟩) | refine T.ct rfl ?_ | refine T.cf rfl ?_ | refine T.seq ?_ | refine T.block ?_ | refine T.skip ?_ | refine T.exit ?_

theorem l4E6 (c : List MBd) (e : MTm) (a b : MTy) (hk : e.kind = 6) (ha : shapeTy 4 a = true) (hb : shapeTy 4 b = true) : L4E e [a, b] (castN c e [a, b]) := by
  cases VTy.of ha with
  | any d =>
    rw [show castN c e [anyT, b] = none from cn6n hk (.inl rfl)]
    refine ⟨zeroT, by simp, ?_⟩
    refine ACalls.of_body Try.func53 (by kernel_rfl) rfl (by kernel_rfl) (by simp [Try.ntmps53]) (by simp) ?_
    rw [Try.ntmps53]
    repeat' first | ((first | refine aops_end (hK _ ?_) | refine aopsD_end (hK _ ?_) | refine aopsF_end (hK _ ?_)); clear hK K) | ((first | refine aops_go ?_ | refine aopsD_go ?_ | refine aopsF_go ?_); simp [hk]; (try (refine gen fun q hq => ?_; cases q <;> (try simp [hk] at hq) <;> (try (have hh : True := hq; clear hh hq))))) | (refine T.ret (Done.tup (Or.inr rfl) ?_) <;> simp [resAs, Try.results53] <;> omega) | refine T.rd (id := 3) mixed (fun _ => false) [9] (by kernel_rfl) fun K hK => ?_ | refine T.rd1 (id := 3) mixed (fun _ => false) [9] (by kernel_rfl) fun K hK => ?_ | refine T.rd (id := 5) mixed (fun _ => false) [] (by kernel_rfl) fun K hK => ?_ | refine T.rd1 (id := 5) mixed (fun _ => false) [] (by kernel_rfl) fun K hK => ?_ | refine T.rd (id := 9) mixed (fun _ => false) [13] (by kernel_rfl) fun K hK => ?_ | refine T.rd1 (id := 9) mixed (fun _ => false) [13] (by kernel_rfl) fun K hK => ?_ | refine T.rd (id := 11) mixed (fun _ => false) [13] (by kernel_rfl) fun K hK => ?_ | refine T.rd1 (id := 11) mixed (fun _ => false) [13] (by kernel_rfl) fun K hK => ?_ | refine T.rd (id := 13) mixed (fun _ => false) [18] (by kernel_rfl) fun K hK => ?_ | refine T.rd1 (id := 13) mixed (fun _ => false) [18] (by kernel_rfl) fun K hK => ?_ | refine T.rd (id := 15) mixed (fun _ => false) [9] (by kernel_rfl) fun K hK => ?_ | refine T.rd1 (id := 15) mixed (fun _ => false) [9] (by kernel_rfl) fun K hK => ?_ | refine T.rd (id := 18) mixed (fun _ => false) [10] (by kernel_rfl) fun K hK => ?_ | refine T.rd1 (id := 18) mixed (fun _ => false) [10] (by kernel_rfl) fun K hK => ?_ | refine T.r0 fun K hK => ?_ | refine T.r1 fun K hK => ?_ | (refine ⟨by omega, ?_⟩) | refine T.ct rfl ?_ | refine T.cf rfl ?_ | refine T.seq ?_ | refine T.block ?_ | refine T.skip ?_ | refine T.exit ?_
  | int d =>
    rw [show castN c e [intT, b] = none from cn6n hk (.inr (.inl rfl))]
    refine ⟨zeroT, by simp, ?_⟩
    refine ACalls.of_body Try.func53 (by kernel_rfl) rfl (by kernel_rfl) (by simp [Try.ntmps53]) (by simp) ?_
    rw [Try.ntmps53]
    repeat' first | ((first | refine aops_end (hK _ ?_) | refine aopsD_end (hK _ ?_) | refine aopsF_end (hK _ ?_)); clear hK K) | ((first | refine aops_go ?_ | refine aopsD_go ?_ | refine aopsF_go ?_); simp [hk]; (try (refine gen fun q hq => ?_; cases q <;> (try simp [hk] at hq) <;> (try (have hh : True := hq; clear hh hq))))) | (refine T.ret (Done.tup (Or.inr rfl) ?_) <;> simp [resAs, Try.results53] <;> omega) | refine T.rd (id := 3) mixed (fun _ => false) [9] (by kernel_rfl) fun K hK => ?_ | refine T.rd1 (id := 3) mixed (fun _ => false) [9] (by kernel_rfl) fun K hK => ?_ | refine T.rd (id := 5) mixed (fun _ => false) [] (by kernel_rfl) fun K hK => ?_ | refine T.rd1 (id := 5) mixed (fun _ => false) [] (by kernel_rfl) fun K hK => ?_ | refine T.rd (id := 9) mixed (fun _ => false) [13] (by kernel_rfl) fun K hK => ?_ | refine T.rd1 (id := 9) mixed (fun _ => false) [13] (by kernel_rfl) fun K hK => ?_ | refine T.rd (id := 11) mixed (fun _ => false) [13] (by kernel_rfl) fun K hK => ?_ | refine T.rd1 (id := 11) mixed (fun _ => false) [13] (by kernel_rfl) fun K hK => ?_ | refine T.rd (id := 13) mixed (fun _ => false) [18] (by kernel_rfl) fun K hK => ?_ | refine T.rd1 (id := 13) mixed (fun _ => false) [18] (by kernel_rfl) fun K hK => ?_ | refine T.rd (id := 15) mixed (fun _ => false) [9] (by kernel_rfl) fun K hK => ?_ | refine T.rd1 (id := 15) mixed (fun _ => false) [9] (by kernel_rfl) fun K hK => ?_ | refine T.rd (id := 18) mixed (fun _ => false) [10] (by kernel_rfl) fun K hK => ?_ | refine T.rd1 (id := 18) mixed (fun _ => false) [10] (by kernel_rfl) fun K hK => ?_ | refine T.r0 fun K hK => ?_ | refine T.r1 fun K hK => ?_ | (refine ⟨by omega, ?_⟩) | refine T.ct rfl ?_ | refine T.cf rfl ?_ | refine T.seq ?_ | refine T.block ?_ | refine T.skip ?_ | refine T.exit ?_
  | bool d =>
    rw [show castN c e [boolT, b] = none from cn6n hk (.inr (.inr (.inl rfl)))]
    refine ⟨zeroT, by simp, ?_⟩
    refine ACalls.of_body Try.func53 (by kernel_rfl) rfl (by kernel_rfl) (by simp [Try.ntmps53]) (by simp) ?_
    rw [Try.ntmps53]
    repeat' first | ((first | refine aops_end (hK _ ?_) | refine aopsD_end (hK _ ?_) | refine aopsF_end (hK _ ?_)); clear hK K) | ((first | refine aops_go ?_ | refine aopsD_go ?_ | refine aopsF_go ?_); simp [hk]; (try (refine gen fun q hq => ?_; cases q <;> (try simp [hk] at hq) <;> (try (have hh : True := hq; clear hh hq))))) | (refine T.ret (Done.tup (Or.inr rfl) ?_) <;> simp [resAs, Try.results53] <;> omega) | refine T.rd (id := 3) mixed (fun _ => false) [9] (by kernel_rfl) fun K hK => ?_ | refine T.rd1 (id := 3) mixed (fun _ => false) [9] (by kernel_rfl) fun K hK => ?_ | refine T.rd (id := 5) mixed (fun _ => false) [] (by kernel_rfl) fun K hK => ?_ | refine T.rd1 (id := 5) mixed (fun _ => false) [] (by kernel_rfl) fun K hK => ?_ | refine T.rd (id := 9) mixed (fun _ => false) [13] (by kernel_rfl) fun K hK => ?_ | refine T.rd1 (id := 9) mixed (fun _ => false) [13] (by kernel_rfl) fun K hK => ?_ | refine T.rd (id := 11) mixed (fun _ => false) [13] (by kernel_rfl) fun K hK => ?_ | refine T.rd1 (id := 11) mixed (fun _ => false) [13] (by kernel_rfl) fun K hK => ?_ | refine T.rd (id := 13) mixed (fun _ => false) [18] (by kernel_rfl) fun K hK => ?_ | refine T.rd1 (id := 13) mixed (fun _ => false) [18] (by kernel_rfl) fun K hK => ?_ | refine T.rd (id := 15) mixed (fun _ => false) [9] (by kernel_rfl) fun K hK => ?_ | refine T.rd1 (id := 15) mixed (fun _ => false) [9] (by kernel_rfl) fun K hK => ?_ | refine T.rd (id := 18) mixed (fun _ => false) [10] (by kernel_rfl) fun K hK => ?_ | refine T.rd1 (id := 18) mixed (fun _ => false) [10] (by kernel_rfl) fun K hK => ?_ | refine T.r0 fun K hK => ?_ | refine T.r1 fun K hK => ?_ | (refine ⟨by omega, ?_⟩) | refine T.ct rfl ?_ | refine T.cf rfl ?_ | refine T.seq ?_ | refine T.block ?_ | refine T.skip ?_ | refine T.exit ?_
  | @pair d x y hx hy =>
    rw [show castN c e [.mk 5 [x, y], b] = none from cn6n hk (.inr (.inr (.inr ⟨_, _, rfl⟩)))]
    refine ⟨zeroT, by simp, ?_⟩
    refine ACalls.of_body Try.func53 (by kernel_rfl) rfl (by kernel_rfl) (by simp [Try.ntmps53]) (by simp) ?_
    rw [Try.ntmps53]
    repeat' first | ((first | refine aops_end (hK _ ?_) | refine aopsD_end (hK _ ?_) | refine aopsF_end (hK _ ?_)); clear hK K) | ((first | refine aops_go ?_ | refine aopsD_go ?_ | refine aopsF_go ?_); simp [hk]; (try (refine gen fun q hq => ?_; cases q <;> (try simp [hk] at hq) <;> (try (have hh : True := hq; clear hh hq))))) | (refine T.ret (Done.tup (Or.inr rfl) ?_) <;> simp [resAs, Try.results53] <;> omega) | refine T.rd (id := 3) mixed (fun _ => false) [9] (by kernel_rfl) fun K hK => ?_ | refine T.rd1 (id := 3) mixed (fun _ => false) [9] (by kernel_rfl) fun K hK => ?_ | refine T.rd (id := 5) mixed (fun _ => false) [] (by kernel_rfl) fun K hK => ?_ | refine T.rd1 (id := 5) mixed (fun _ => false) [] (by kernel_rfl) fun K hK => ?_ | refine T.rd (id := 9) mixed (fun _ => false) [13] (by kernel_rfl) fun K hK => ?_ | refine T.rd1 (id := 9) mixed (fun _ => false) [13] (by kernel_rfl) fun K hK => ?_ | refine T.rd (id := 11) mixed (fun _ => false) [13] (by kernel_rfl) fun K hK => ?_ | refine T.rd1 (id := 11) mixed (fun _ => false) [13] (by kernel_rfl) fun K hK => ?_ | refine T.rd (id := 13) mixed (fun _ => false) [18] (by kernel_rfl) fun K hK => ?_ | refine T.rd1 (id := 13) mixed (fun _ => false) [18] (by kernel_rfl) fun K hK => ?_ | refine T.rd (id := 15) mixed (fun _ => false) [9] (by kernel_rfl) fun K hK => ?_ | refine T.rd1 (id := 15) mixed (fun _ => false) [9] (by kernel_rfl) fun K hK => ?_ | refine T.rd (id := 18) mixed (fun _ => false) [10] (by kernel_rfl) fun K hK => ?_ | refine T.rd1 (id := 18) mixed (fun _ => false) [10] (by kernel_rfl) fun K hK => ?_ | refine T.r0 fun K hK => ?_ | refine T.r1 fun K hK => ?_ | (refine ⟨by omega, ?_⟩) | refine T.ct rfl ?_ | refine T.cf rfl ?_ | refine T.seq ?_ | refine T.block ?_ | refine T.skip ?_ | refine T.exit ?_
  | @fn d x y hx hy =>
    have hx4 := shapeTy_mono hx.shape
    have hy4 := shapeTy_mono hy.shape
    have h1 := TypeSameS_ok x b (by have := shape4 hx4; omega)
    have h2 := l1Copy_ok y (by have := shape4 hy4; omega)
    rw [show castN c e [.mk 4 [x, y], b] = if sameTy x b = true then some y else none from cn6 x y b hk hy4]
    cases hq : sameTy x b <;> rw [hq] at h1
    · refine ⟨zeroT, by simp, ?_⟩
      refine ACalls.of_body Try.func53 (by kernel_rfl) rfl (by kernel_rfl) (by simp [Try.ntmps53]) (by simp) ?_
      rw [Try.ntmps53]
      repeat' first | ((first | refine aops_end (hK _ ?_) | refine aopsD_end (hK _ ?_) | refine aopsF_end (hK _ ?_)); clear hK K) | ((first | refine aops_go ?_ | refine aopsD_go ?_ | refine aopsF_go ?_); simp [hk, eTy_def]; (try (refine gen fun q hq => ?_; cases q <;> (try simp [hk, eTy_def] at hq) <;> (try (have hh : True := hq; clear hh hq))))) | (refine wpcall_pure ?_ (h1) ?_; (focus (solve | simp [hk, eTy_def])); simp [hk, eTy_def]; (try (refine gen fun q hq => ?_; cases q <;> (try simp [hk, eTy_def] at hq) <;> (try (have hh : True := hq; clear hh hq))))) | (refine wpcall_pure ?_ (h2) ?_; (focus (solve | simp [hk, eTy_def])); simp [hk, eTy_def]; (try (refine gen fun q hq => ?_; cases q <;> (try simp [hk, eTy_def] at hq) <;> (try (have hh : True := hq; clear hh hq))))) | (refine T.ret (Done.tup (Or.inr rfl) ?_) <;> simp [resAs, Try.results53] <;> omega) | refine T.rd (id := 3) mixed (fun _ => false) [9] (by kernel_rfl) fun K hK => ?_ | refine T.rd1 (id := 3) mixed (fun _ => false) [9] (by kernel_rfl) fun K hK => ?_ | refine T.rd (id := 5) mixed (fun _ => false) [] (by kernel_rfl) fun K hK => ?_ | refine T.rd1 (id := 5) mixed (fun _ => false) [] (by kernel_rfl) fun K hK => ?_ | refine T.rd (id := 9) mixed (fun _ => false) [13] (by kernel_rfl) fun K hK => ?_ | refine T.rd1 (id := 9) mixed (fun _ => false) [13] (by kernel_rfl) fun K hK => ?_ | refine T.rd (id := 11) mixed (fun _ => false) [13] (by kernel_rfl) fun K hK => ?_ | refine T.rd1 (id := 11) mixed (fun _ => false) [13] (by kernel_rfl) fun K hK => ?_ | refine T.rd (id := 13) mixed (fun _ => false) [18] (by kernel_rfl) fun K hK => ?_ | refine T.rd1 (id := 13) mixed (fun _ => false) [18] (by kernel_rfl) fun K hK => ?_ | refine T.rd (id := 15) mixed (fun _ => false) [9] (by kernel_rfl) fun K hK => ?_ | refine T.rd1 (id := 15) mixed (fun _ => false) [9] (by kernel_rfl) fun K hK => ?_ | refine T.rd (id := 18) mixed (fun _ => false) [10] (by kernel_rfl) fun K hK => ?_ | refine T.rd1 (id := 18) mixed (fun _ => false) [10] (by kernel_rfl) fun K hK => ?_ | refine T.r0 fun K hK => ?_ | refine T.r1 fun K hK => ?_ | (refine ⟨by omega, ?_⟩) | refine T.ct rfl ?_ | refine T.cf rfl ?_ | refine T.seq ?_ | refine T.block ?_ | refine T.skip ?_ | refine T.exit ?_
    · refine ⟨y, by simp, ?_⟩
      refine ACalls.of_body Try.func53 (by kernel_rfl) rfl (by kernel_rfl) (by simp [Try.ntmps53]) (by simp) ?_
      rw [Try.ntmps53]
      repeat' first | ((first | refine aops_end (hK _ ?_) | refine aopsD_end (hK _ ?_) | refine aopsF_end (hK _ ?_)); clear hK K) | ((first | refine aops_go ?_ | refine aopsD_go ?_ | refine aopsF_go ?_); simp [hk, eTy_def]; (try (refine gen fun q hq => ?_; cases q <;> (try simp [hk, eTy_def] at hq) <;> (try (have hh : True := hq; clear hh hq))))) | (refine wpcall_pure ?_ (h1) ?_; (focus (solve | simp [hk, eTy_def])); simp [hk, eTy_def]; (try (refine gen fun q hq => ?_; cases q <;> (try simp [hk, eTy_def] at hq) <;> (try (have hh : True := hq; clear hh hq))))) | (refine wpcall_pure ?_ (h2) ?_; (focus (solve | simp [hk, eTy_def])); simp [hk, eTy_def]; (try (refine gen fun q hq => ?_; cases q <;> (try simp [hk, eTy_def] at hq) <;> (try (have hh : True := hq; clear hh hq))))) | (refine T.ret (Done.tup (Or.inr rfl) ?_) <;> simp [resAs, Try.results53] <;> omega) | refine T.rd (id := 3) mixed (fun _ => false) [9] (by kernel_rfl) fun K hK => ?_ | refine T.rd1 (id := 3) mixed (fun _ => false) [9] (by kernel_rfl) fun K hK => ?_ | refine T.rd (id := 5) mixed (fun _ => false) [] (by kernel_rfl) fun K hK => ?_ | refine T.rd1 (id := 5) mixed (fun _ => false) [] (by kernel_rfl) fun K hK => ?_ | refine T.rd (id := 9) mixed (fun _ => false) [13] (by kernel_rfl) fun K hK => ?_ | refine T.rd1 (id := 9) mixed (fun _ => false) [13] (by kernel_rfl) fun K hK => ?_ | refine T.rd (id := 11) mixed (fun _ => false) [13] (by kernel_rfl) fun K hK => ?_ | refine T.rd1 (id := 11) mixed (fun _ => false) [13] (by kernel_rfl) fun K hK => ?_ | refine T.rd (id := 13) mixed (fun _ => false) [18] (by kernel_rfl) fun K hK => ?_ | refine T.rd1 (id := 13) mixed (fun _ => false) [18] (by kernel_rfl) fun K hK => ?_ | refine T.rd (id := 15) mixed (fun _ => false) [9] (by kernel_rfl) fun K hK => ?_ | refine T.rd1 (id := 15) mixed (fun _ => false) [9] (by kernel_rfl) fun K hK => ?_ | refine T.rd (id := 18) mixed (fun _ => false) [10] (by kernel_rfl) fun K hK => ?_ | refine T.rd1 (id := 18) mixed (fun _ => false) [10] (by kernel_rfl) fun K hK => ?_ | refine T.r0 fun K hK => ?_ | refine T.r1 fun K hK => ?_ | (refine ⟨by omega, ?_⟩) | refine T.ct rfl ?_ | refine T.cf rfl ?_ | refine T.seq ?_ | refine T.block ?_ | refine T.skip ?_ | refine T.exit ?_

theorem l4E11 (c : List MBd) (e : MTm) (a : MTy) (hk : e.kind = 11) (ha : shapeTy 4 a = true) : L4E e [a] (castN c e [a]) := by
  cases VTy.of ha with
  | any d =>
    rw [show castN c e [anyT] = none from cn1n (.inl hk) (.inl rfl)]
    refine ⟨zeroT, by simp, ?_⟩
    refine ACalls.of_body Try.func53 (by kernel_rfl) rfl (by kernel_rfl) (by simp [Try.ntmps53]) (by simp) ?_
    rw [Try.ntmps53]
    repeat' first | ((first | refine aops_end (hK _ ?_) | refine aopsD_end (hK _ ?_) | refine aopsF_end (hK _ ?_)); clear hK K) | ((first | refine aops_go ?_ | refine aopsD_go ?_ | refine aopsF_go ?_); simp [hk]; (try (refine gen fun q hq => ?_; cases q <;> (try simp [hk] at hq) <;> (try (have hh : True := hq; clear hh hq))))) | (refine T.ret (Done.tup (Or.inr rfl) ?_) <;> simp [resAs, Try.results53] <;> omega) | refine T.rd (id := 3) mixed (fun _ => false) [9] (by kernel_rfl) fun K hK => ?_ | refine T.rd1 (id := 3) mixed (fun _ => false) [9] (by kernel_rfl) fun K hK => ?_ | refine T.rd (id := 5) mixed (fun _ => false) [] (by kernel_rfl) fun K hK => ?_ | refine T.rd1 (id := 5) mixed (fun _ => false) [] (by kernel_rfl) fun K hK => ?_ | refine T.rd (id := 9) mixed (fun _ => false) [13] (by kernel_rfl) fun K hK => ?_ | refine T.rd1 (id := 9) mixed (fun _ => false) [13] (by kernel_rfl) fun K hK => ?_ | refine T.rd (id := 11) mixed (fun _ => false) [13] (by kernel_rfl) fun K hK => ?_ | refine T.rd1 (id := 11) mixed (fun _ => false) [13] (by kernel_rfl) fun K hK => ?_ | refine T.rd (id := 13) mixed (fun _ => false) [18] (by kernel_rfl) fun K hK => ?_ | refine T.rd1 (id := 13) mixed (fun _ => false) [18] (by kernel_rfl) fun K hK => ?_ | refine T.rd (id := 15) mixed (fun _ => false) [9] (by kernel_rfl) fun K hK => ?_ | refine T.rd1 (id := 15) mixed (fun _ => false) [9] (by kernel_rfl) fun K hK => ?_ | refine T.rd (id := 18) mixed (fun _ => false) [10] (by kernel_rfl) fun K hK => ?_ | refine T.rd1 (id := 18) mixed (fun _ => false) [10] (by kernel_rfl) fun K hK => ?_ | refine T.r0 fun K hK => ?_ | refine T.r1 fun K hK => ?_ | (refine ⟨by omega, ?_⟩) | refine T.ct rfl ?_ | refine T.cf rfl ?_ | refine T.seq ?_ | refine T.block ?_ | refine T.skip ?_ | refine T.exit ?_
  | int d =>
    rw [show castN c e [intT] = none from cn1n (.inl hk) (.inr (.inl rfl))]
    refine ⟨zeroT, by simp, ?_⟩
    refine ACalls.of_body Try.func53 (by kernel_rfl) rfl (by kernel_rfl) (by simp [Try.ntmps53]) (by simp) ?_
    rw [Try.ntmps53]
    repeat' first | ((first | refine aops_end (hK _ ?_) | refine aopsD_end (hK _ ?_) | refine aopsF_end (hK _ ?_)); clear hK K) | ((first | refine aops_go ?_ | refine aopsD_go ?_ | refine aopsF_go ?_); simp [hk]; (try (refine gen fun q hq => ?_; cases q <;> (try simp [hk] at hq) <;> (try (have hh : True := hq; clear hh hq))))) | (refine T.ret (Done.tup (Or.inr rfl) ?_) <;> simp [resAs, Try.results53] <;> omega) | refine T.rd (id := 3) mixed (fun _ => false) [9] (by kernel_rfl) fun K hK => ?_ | refine T.rd1 (id := 3) mixed (fun _ => false) [9] (by kernel_rfl) fun K hK => ?_ | refine T.rd (id := 5) mixed (fun _ => false) [] (by kernel_rfl) fun K hK => ?_ | refine T.rd1 (id := 5) mixed (fun _ => false) [] (by kernel_rfl) fun K hK => ?_ | refine T.rd (id := 9) mixed (fun _ => false) [13] (by kernel_rfl) fun K hK => ?_ | refine T.rd1 (id := 9) mixed (fun _ => false) [13] (by kernel_rfl) fun K hK => ?_ | refine T.rd (id := 11) mixed (fun _ => false) [13] (by kernel_rfl) fun K hK => ?_ | refine T.rd1 (id := 11) mixed (fun _ => false) [13] (by kernel_rfl) fun K hK => ?_ | refine T.rd (id := 13) mixed (fun _ => false) [18] (by kernel_rfl) fun K hK => ?_ | refine T.rd1 (id := 13) mixed (fun _ => false) [18] (by kernel_rfl) fun K hK => ?_ | refine T.rd (id := 15) mixed (fun _ => false) [9] (by kernel_rfl) fun K hK => ?_ | refine T.rd1 (id := 15) mixed (fun _ => false) [9] (by kernel_rfl) fun K hK => ?_ | refine T.rd (id := 18) mixed (fun _ => false) [10] (by kernel_rfl) fun K hK => ?_ | refine T.rd1 (id := 18) mixed (fun _ => false) [10] (by kernel_rfl) fun K hK => ?_ | refine T.r0 fun K hK => ?_ | refine T.r1 fun K hK => ?_ | (refine ⟨by omega, ?_⟩) | refine T.ct rfl ?_ | refine T.cf rfl ?_ | refine T.seq ?_ | refine T.block ?_ | refine T.skip ?_ | refine T.exit ?_
  | bool d =>
    rw [show castN c e [boolT] = none from cn1n (.inl hk) (.inr (.inr (.inl rfl)))]
    refine ⟨zeroT, by simp, ?_⟩
    refine ACalls.of_body Try.func53 (by kernel_rfl) rfl (by kernel_rfl) (by simp [Try.ntmps53]) (by simp) ?_
    rw [Try.ntmps53]
    repeat' first | ((first | refine aops_end (hK _ ?_) | refine aopsD_end (hK _ ?_) | refine aopsF_end (hK _ ?_)); clear hK K) | ((first | refine aops_go ?_ | refine aopsD_go ?_ | refine aopsF_go ?_); simp [hk]; (try (refine gen fun q hq => ?_; cases q <;> (try simp [hk] at hq) <;> (try (have hh : True := hq; clear hh hq))))) | (refine T.ret (Done.tup (Or.inr rfl) ?_) <;> simp [resAs, Try.results53] <;> omega) | refine T.rd (id := 3) mixed (fun _ => false) [9] (by kernel_rfl) fun K hK => ?_ | refine T.rd1 (id := 3) mixed (fun _ => false) [9] (by kernel_rfl) fun K hK => ?_ | refine T.rd (id := 5) mixed (fun _ => false) [] (by kernel_rfl) fun K hK => ?_ | refine T.rd1 (id := 5) mixed (fun _ => false) [] (by kernel_rfl) fun K hK => ?_ | refine T.rd (id := 9) mixed (fun _ => false) [13] (by kernel_rfl) fun K hK => ?_ | refine T.rd1 (id := 9) mixed (fun _ => false) [13] (by kernel_rfl) fun K hK => ?_ | refine T.rd (id := 11) mixed (fun _ => false) [13] (by kernel_rfl) fun K hK => ?_ | refine T.rd1 (id := 11) mixed (fun _ => false) [13] (by kernel_rfl) fun K hK => ?_ | refine T.rd (id := 13) mixed (fun _ => false) [18] (by kernel_rfl) fun K hK => ?_ | refine T.rd1 (id := 13) mixed (fun _ => false) [18] (by kernel_rfl) fun K hK => ?_ | refine T.rd (id := 15) mixed (fun _ => false) [9] (by kernel_rfl) fun K hK => ?_ | refine T.rd1 (id := 15) mixed (fun _ => false) [9] (by kernel_rfl) fun K hK => ?_ | refine T.rd (id := 18) mixed (fun _ => false) [10] (by kernel_rfl) fun K hK => ?_ | refine T.rd1 (id := 18) mixed (fun _ => false) [10] (by kernel_rfl) fun K hK => ?_ | refine T.r0 fun K hK => ?_ | refine T.r1 fun K hK => ?_ | (refine ⟨by omega, ?_⟩) | refine T.ct rfl ?_ | refine T.cf rfl ?_ | refine T.seq ?_ | refine T.block ?_ | refine T.skip ?_ | refine T.exit ?_
  | @fn d x y hx hy =>
    rw [show castN c e [.mk 4 [x, y]] = none from cn1n (.inl hk) (.inr (.inr (.inr ⟨_, _, rfl⟩)))]
    refine ⟨zeroT, by simp, ?_⟩
    refine ACalls.of_body Try.func53 (by kernel_rfl) rfl (by kernel_rfl) (by simp [Try.ntmps53]) (by simp) ?_
    rw [Try.ntmps53]
    repeat' first | ((first | refine aops_end (hK _ ?_) | refine aopsD_end (hK _ ?_) | refine aopsF_end (hK _ ?_)); clear hK K) | ((first | refine aops_go ?_ | refine aopsD_go ?_ | refine aopsF_go ?_); simp [hk]; (try (refine gen fun q hq => ?_; cases q <;> (try simp [hk] at hq) <;> (try (have hh : True := hq; clear hh hq))))) | (refine T.ret (Done.tup (Or.inr rfl) ?_) <;> simp [resAs, Try.results53] <;> omega) | refine T.rd (id := 3) mixed (fun _ => false) [9] (by kernel_rfl) fun K hK => ?_ | refine T.rd1 (id := 3) mixed (fun _ => false) [9] (by kernel_rfl) fun K hK => ?_ | refine T.rd (id := 5) mixed (fun _ => false) [] (by kernel_rfl) fun K hK => ?_ | refine T.rd1 (id := 5) mixed (fun _ => false) [] (by kernel_rfl) fun K hK => ?_ | refine T.rd (id := 9) mixed (fun _ => false) [13] (by kernel_rfl) fun K hK => ?_ | refine T.rd1 (id := 9) mixed (fun _ => false) [13] (by kernel_rfl) fun K hK => ?_ | refine T.rd (id := 11) mixed (fun _ => false) [13] (by kernel_rfl) fun K hK => ?_ | refine T.rd1 (id := 11) mixed (fun _ => false) [13] (by kernel_rfl) fun K hK => ?_ | refine T.rd (id := 13) mixed (fun _ => false) [18] (by kernel_rfl) fun K hK => ?_ | refine T.rd1 (id := 13) mixed (fun _ => false) [18] (by kernel_rfl) fun K hK => ?_ | refine T.rd (id := 15) mixed (fun _ => false) [9] (by kernel_rfl) fun K hK => ?_ | refine T.rd1 (id := 15) mixed (fun _ => false) [9] (by kernel_rfl) fun K hK => ?_ | refine T.rd (id := 18) mixed (fun _ => false) [10] (by kernel_rfl) fun K hK => ?_ | refine T.rd1 (id := 18) mixed (fun _ => false) [10] (by kernel_rfl) fun K hK => ?_ | refine T.r0 fun K hK => ?_ | refine T.r1 fun K hK => ?_ | (refine ⟨by omega, ?_⟩) | refine T.ct rfl ?_ | refine T.cf rfl ?_ | refine T.seq ?_ | refine T.block ?_ | refine T.skip ?_ | refine T.exit ?_
  | @pair d x y hx hy =>
    have hx4 := shapeTy_mono hx.shape
    have hy4 := shapeTy_mono hy.shape
    have h2 := l1Copy_ok x (by have := shape4 hx4; omega)
    rw [show castN c e [.mk 5 [x, y]] = some x from cn11 x y hk hx4]
    refine ⟨x, by simp, ?_⟩
    refine ACalls.of_body Try.func53 (by kernel_rfl) rfl (by kernel_rfl) (by simp [Try.ntmps53]) (by simp) ?_
    rw [Try.ntmps53]
    repeat' first | ((first | refine aops_end (hK _ ?_) | refine aopsD_end (hK _ ?_) | refine aopsF_end (hK _ ?_)); clear hK K) | ((first | refine aops_go ?_ | refine aopsD_go ?_ | refine aopsF_go ?_); simp [hk, eTy_def]; (try simp (disch := omega) only [wrap64]); (try (refine gen fun q hq => ?_; cases q <;> (try simp [hk, eTy_def] at hq) <;> (try (have hh : True := hq; clear hh hq))))) | (refine wpcall_pure ?_ (h2) ?_; (focus (solve | simp [hk, eTy_def])); simp [hk, eTy_def]; (try simp (disch := omega) only [wrap64]); (try (refine gen fun q hq => ?_; cases q <;> (try simp [hk, eTy_def] at hq) <;> (try (have hh : True := hq; clear hh hq))))) | (refine T.ret (Done.tup (Or.inr rfl) ?_) <;> simp [resAs, Try.results53] <;> omega) | refine T.rd (id := 3) mixed (fun _ => false) [9] (by kernel_rfl) fun K hK => ?_ | refine T.rd1 (id := 3) mixed (fun _ => false) [9] (by kernel_rfl) fun K hK => ?_ | refine T.rd (id := 5) mixed (fun _ => false) [] (by kernel_rfl) fun K hK => ?_ | refine T.rd1 (id := 5) mixed (fun _ => false) [] (by kernel_rfl) fun K hK => ?_ | refine T.rd (id := 9) mixed (fun _ => false) [13] (by kernel_rfl) fun K hK => ?_ | refine T.rd1 (id := 9) mixed (fun _ => false) [13] (by kernel_rfl) fun K hK => ?_ | refine T.rd (id := 11) mixed (fun _ => false) [13] (by kernel_rfl) fun K hK => ?_ | refine T.rd1 (id := 11) mixed (fun _ => false) [13] (by kernel_rfl) fun K hK => ?_ | refine T.rd (id := 13) mixed (fun _ => false) [18] (by kernel_rfl) fun K hK => ?_ | refine T.rd1 (id := 13) mixed (fun _ => false) [18] (by kernel_rfl) fun K hK => ?_ | refine T.rd (id := 15) mixed (fun _ => false) [9] (by kernel_rfl) fun K hK => ?_ | refine T.rd1 (id := 15) mixed (fun _ => false) [9] (by kernel_rfl) fun K hK => ?_ | refine T.rd (id := 18) mixed (fun _ => false) [10] (by kernel_rfl) fun K hK => ?_ | refine T.rd1 (id := 18) mixed (fun _ => false) [10] (by kernel_rfl) fun K hK => ?_ | refine T.r0 fun K hK => ?_ | refine T.r1 fun K hK => ?_ | (refine ⟨by omega, ?_⟩) | refine T.ct rfl ?_ | refine T.cf rfl ?_ | refine T.seq ?_ | refine T.block ?_ | refine T.skip ?_ | refine T.exit ?_

theorem l4E12 (c : List MBd) (e : MTm) (a : MTy) (hk : e.kind = 12) (ha : shapeTy 4 a = true) : L4E e [a] (castN c e [a]) := by
  cases VTy.of ha with
  | any d =>
    rw [show castN c e [anyT] = none from cn1n (.inr hk) (.inl rfl)]
    refine ⟨zeroT, by simp, ?_⟩
    refine ACalls.of_body Try.func53 (by kernel_rfl) rfl (by kernel_rfl) (by simp [Try.ntmps53]) (by simp) ?_
    rw [Try.ntmps53]
    repeat' first | ((first | refine aops_end (hK _ ?_) | refine aopsD_end (hK _ ?_) | refine aopsF_end (hK _ ?_)); clear hK K) | ((first | refine aops_go ?_ | refine aopsD_go ?_ | refine aopsF_go ?_); simp [hk]; (try (refine gen fun q hq => ?_; cases q <;> (try simp [hk] at hq) <;> (try (have hh : True := hq; clear hh hq))))) | (refine T.ret (Done.tup (Or.inr rfl) ?_) <;> simp [resAs, Try.results53] <;> omega) | refine T.rd (id := 3) mixed (fun _ => false) [9] (by kernel_rfl) fun K hK => ?_ | refine T.rd1 (id := 3) mixed (fun _ => false) [9] (by kernel_rfl) fun K hK => ?_ | refine T.rd (id := 5) mixed (fun _ => false) [] (by kernel_rfl) fun K hK => ?_ | refine T.rd1 (id := 5) mixed (fun _ => false) [] (by kernel_rfl) fun K hK => ?_ | refine T.rd (id := 9) mixed (fun _ => false) [13] (by kernel_rfl) fun K hK => ?_ | refine T.rd1 (id := 9) mixed (fun _ => false) [13] (by kernel_rfl) fun K hK => ?_ | refine T.rd (id := 11) mixed (fun _ => false) [13] (by kernel_rfl) fun K hK => ?_ | refine T.rd1 (id := 11) mixed (fun _ => false) [13] (by kernel_rfl) fun K hK => ?_ | refine T.rd (id := 13) mixed (fun _ => false) [18] (by kernel_rfl) fun K hK => ?_ | refine T.rd1 (id := 13) mixed (fun _ => false) [18] (by kernel_rfl) fun K hK => ?_ | refine T.rd (id := 15) mixed (fun _ => false) [9] (by kernel_rfl) fun K hK => ?_ | refine T.rd1 (id := 15) mixed (fun _ => false) [9] (by kernel_rfl) fun K hK => ?_ | refine T.rd (id := 18) mixed (fun _ => false) [10] (by kernel_rfl) fun K hK => ?_ | refine T.rd1 (id := 18) mixed (fun _ => false) [10] (by kernel_rfl) fun K hK => ?_ | refine T.r0 fun K hK => ?_ | refine T.r1 fun K hK => ?_ | (refine ⟨by omega, ?_⟩) | refine T.ct rfl ?_ | refine T.cf rfl ?_ | refine T.seq ?_ | refine T.block ?_ | refine T.skip ?_ | refine T.exit ?_
  | int d =>
    rw [show castN c e [intT] = none from cn1n (.inr hk) (.inr (.inl rfl))]
    refine ⟨zeroT, by simp, ?_⟩
    refine ACalls.of_body Try.func53 (by kernel_rfl) rfl (by kernel_rfl) (by simp [Try.ntmps53]) (by simp) ?_
    rw [Try.ntmps53]
    repeat' first | ((first | refine aops_end (hK _ ?_) | refine aopsD_end (hK _ ?_) | refine aopsF_end (hK _ ?_)); clear hK K) | ((first | refine aops_go ?_ | refine aopsD_go ?_ | refine aopsF_go ?_); simp [hk]; (try (refine gen fun q hq => ?_; cases q <;> (try simp [hk] at hq) <;> (try (have hh : True := hq; clear hh hq))))) | (refine T.ret (Done.tup (Or.inr rfl) ?_) <;> simp [resAs, Try.results53] <;> omega) | refine T.rd (id := 3) mixed (fun _ => false) [9] (by kernel_rfl) fun K hK => ?_ | refine T.rd1 (id := 3) mixed (fun _ => false) [9] (by kernel_rfl) fun K hK => ?_ | refine T.rd (id := 5) mixed (fun _ => false) [] (by kernel_rfl) fun K hK => ?_ | refine T.rd1 (id := 5) mixed (fun _ => false) [] (by kernel_rfl) fun K hK => ?_ | refine T.rd (id := 9) mixed (fun _ => false) [13] (by kernel_rfl) fun K hK => ?_ | refine T.rd1 (id := 9) mixed (fun _ => false) [13] (by kernel_rfl) fun K hK => ?_ | refine T.rd (id := 11) mixed (fun _ => false) [13] (by kernel_rfl) fun K hK => ?_ | refine T.rd1 (id := 11) mixed (fun _ => false) [13] (by kernel_rfl) fun K hK => ?_ | refine T.rd (id := 13) mixed (fun _ => false) [18] (by kernel_rfl) fun K hK => ?_ | refine T.rd1 (id := 13) mixed (fun _ => false) [18] (by kernel_rfl) fun K hK => ?_ | refine T.rd (id := 15) mixed (fun _ => false) [9] (by kernel_rfl) fun K hK => ?_ | refine T.rd1 (id := 15) mixed (fun _ => false) [9] (by kernel_rfl) fun K hK => ?_ | refine T.rd (id := 18) mixed (fun _ => false) [10] (by kernel_rfl) fun K hK => ?_ | refine T.rd1 (id := 18) mixed (fun _ => false) [10] (by kernel_rfl) fun K hK => ?_ | refine T.r0 fun K hK => ?_ | refine T.r1 fun K hK => ?_ | (refine ⟨by omega, ?_⟩) | refine T.ct rfl ?_ | refine T.cf rfl ?_ | refine T.seq ?_ | refine T.block ?_ | refine T.skip ?_ | refine T.exit ?_
  | bool d =>
    rw [show castN c e [boolT] = none from cn1n (.inr hk) (.inr (.inr (.inl rfl)))]
    refine ⟨zeroT, by simp, ?_⟩
    refine ACalls.of_body Try.func53 (by kernel_rfl) rfl (by kernel_rfl) (by simp [Try.ntmps53]) (by simp) ?_
    rw [Try.ntmps53]
    repeat' first | ((first | refine aops_end (hK _ ?_) | refine aopsD_end (hK _ ?_) | refine aopsF_end (hK _ ?_)); clear hK K) | ((first | refine aops_go ?_ | refine aopsD_go ?_ | refine aopsF_go ?_); simp [hk]; (try (refine gen fun q hq => ?_; cases q <;> (try simp [hk] at hq) <;> (try (have hh : True := hq; clear hh hq))))) | (refine T.ret (Done.tup (Or.inr rfl) ?_) <;> simp [resAs, Try.results53] <;> omega) | refine T.rd (id := 3) mixed (fun _ => false) [9] (by kernel_rfl) fun K hK => ?_ | refine T.rd1 (id := 3) mixed (fun _ => false) [9] (by kernel_rfl) fun K hK => ?_ | refine T.rd (id := 5) mixed (fun _ => false) [] (by kernel_rfl) fun K hK => ?_ | refine T.rd1 (id := 5) mixed (fun _ => false) [] (by kernel_rfl) fun K hK => ?_ | refine T.rd (id := 9) mixed (fun _ => false) [13] (by kernel_rfl) fun K hK => ?_ | refine T.rd1 (id := 9) mixed (fun _ => false) [13] (by kernel_rfl) fun K hK => ?_ | refine T.rd (id := 11) mixed (fun _ => false) [13] (by kernel_rfl) fun K hK => ?_ | refine T.rd1 (id := 11) mixed (fun _ => false) [13] (by kernel_rfl) fun K hK => ?_ | refine T.rd (id := 13) mixed (fun _ => false) [18] (by kernel_rfl) fun K hK => ?_ | refine T.rd1 (id := 13) mixed (fun _ => false) [18] (by kernel_rfl) fun K hK => ?_ | refine T.rd (id := 15) mixed (fun _ => false) [9] (by kernel_rfl) fun K hK => ?_ | refine T.rd1 (id := 15) mixed (fun _ => false) [9] (by kernel_rfl) fun K hK => ?_ | refine T.rd (id := 18) mixed (fun _ => false) [10] (by kernel_rfl) fun K hK => ?_ | refine T.rd1 (id := 18) mixed (fun _ => false) [10] (by kernel_rfl) fun K hK => ?_ | refine T.r0 fun K hK => ?_ | refine T.r1 fun K hK => ?_ | (refine ⟨by omega, ?_⟩) | refine T.ct rfl ?_ | refine T.cf rfl ?_ | refine T.seq ?_ | refine T.block ?_ | refine T.skip ?_ | refine T.exit ?_
  | @fn d x y hx hy =>
    rw [show castN c e [.mk 4 [x, y]] = none from cn1n (.inr hk) (.inr (.inr (.inr ⟨_, _, rfl⟩)))]
    refine ⟨zeroT, by simp, ?_⟩
    refine ACalls.of_body Try.func53 (by kernel_rfl) rfl (by kernel_rfl) (by simp [Try.ntmps53]) (by simp) ?_
    rw [Try.ntmps53]
    repeat' first | ((first | refine aops_end (hK _ ?_) | refine aopsD_end (hK _ ?_) | refine aopsF_end (hK _ ?_)); clear hK K) | ((first | refine aops_go ?_ | refine aopsD_go ?_ | refine aopsF_go ?_); simp [hk]; (try (refine gen fun q hq => ?_; cases q <;> (try simp [hk] at hq) <;> (try (have hh : True := hq; clear hh hq))))) | (refine T.ret (Done.tup (Or.inr rfl) ?_) <;> simp [resAs, Try.results53] <;> omega) | refine T.rd (id := 3) mixed (fun _ => false) [9] (by kernel_rfl) fun K hK => ?_ | refine T.rd1 (id := 3) mixed (fun _ => false) [9] (by kernel_rfl) fun K hK => ?_ | refine T.rd (id := 5) mixed (fun _ => false) [] (by kernel_rfl) fun K hK => ?_ | refine T.rd1 (id := 5) mixed (fun _ => false) [] (by kernel_rfl) fun K hK => ?_ | refine T.rd (id := 9) mixed (fun _ => false) [13] (by kernel_rfl) fun K hK => ?_ | refine T.rd1 (id := 9) mixed (fun _ => false) [13] (by kernel_rfl) fun K hK => ?_ | refine T.rd (id := 11) mixed (fun _ => false) [13] (by kernel_rfl) fun K hK => ?_ | refine T.rd1 (id := 11) mixed (fun _ => false) [13] (by kernel_rfl) fun K hK => ?_ | refine T.rd (id := 13) mixed (fun _ => false) [18] (by kernel_rfl) fun K hK => ?_ | refine T.rd1 (id := 13) mixed (fun _ => false) [18] (by kernel_rfl) fun K hK => ?_ | refine T.rd (id := 15) mixed (fun _ => false) [9] (by kernel_rfl) fun K hK => ?_ | refine T.rd1 (id := 15) mixed (fun _ => false) [9] (by kernel_rfl) fun K hK => ?_ | refine T.rd (id := 18) mixed (fun _ => false) [10] (by kernel_rfl) fun K hK => ?_ | refine T.rd1 (id := 18) mixed (fun _ => false) [10] (by kernel_rfl) fun K hK => ?_ | refine T.r0 fun K hK => ?_ | refine T.r1 fun K hK => ?_ | (refine ⟨by omega, ?_⟩) | refine T.ct rfl ?_ | refine T.cf rfl ?_ | refine T.seq ?_ | refine T.block ?_ | refine T.skip ?_ | refine T.exit ?_
  | @pair d x y hx hy =>
    have hx4 := shapeTy_mono hx.shape
    have hy4 := shapeTy_mono hy.shape
    have h2 := l1Copy_ok y (by have := shape4 hy4; omega)
    rw [show castN c e [.mk 5 [x, y]] = some y from cn12 x y hk hy4]
    refine ⟨y, by simp, ?_⟩
    refine ACalls.of_body Try.func53 (by kernel_rfl) rfl (by kernel_rfl) (by simp [Try.ntmps53]) (by simp) ?_
    rw [Try.ntmps53]
    repeat' first | ((first | refine aops_end (hK _ ?_) | refine aopsD_end (hK _ ?_) | refine aopsF_end (hK _ ?_)); clear hK K) | ((first | refine aops_go ?_ | refine aopsD_go ?_ | refine aopsF_go ?_); simp [hk, eTy_def]; (try simp (disch := omega) only [wrap64]); (try (refine gen fun q hq => ?_; cases q <;> (try simp [hk, eTy_def] at hq) <;> (try (have hh : True := hq; clear hh hq))))) | (refine wpcall_pure ?_ (h2) ?_; (focus (solve | simp [hk, eTy_def])); simp [hk, eTy_def]; (try simp (disch := omega) only [wrap64]); (try (refine gen fun q hq => ?_; cases q <;> (try simp [hk, eTy_def] at hq) <;> (try (have hh : True := hq; clear hh hq))))) | (refine T.ret (Done.tup (Or.inr rfl) ?_) <;> simp [resAs, Try.results53] <;> omega) | refine T.rd (id := 3) mixed (fun _ => false) [9] (by kernel_rfl) fun K hK => ?_ | refine T.rd1 (id := 3) mixed (fun _ => false) [9] (by kernel_rfl) fun K hK => ?_ | refine T.rd (id := 5) mixed (fun _ => false) [] (by kernel_rfl) fun K hK => ?_ | refine T.rd1 (id := 5) mixed (fun _ => false) [] (by kernel_rfl) fun K hK => ?_ | refine T.rd (id := 9) mixed (fun _ => false) [13] (by kernel_rfl) fun K hK => ?_ | refine T.rd1 (id := 9) mixed (fun _ => false) [13] (by kernel_rfl) fun K hK => ?_ | refine T.rd (id := 11) mixed (fun _ => false) [13] (by kernel_rfl) fun K hK => ?_ | refine T.rd1 (id := 11) mixed (fun _ => false) [13] (by kernel_rfl) fun K hK => ?_ | refine T.rd (id := 13) mixed (fun _ => false) [18] (by kernel_rfl) fun K hK => ?_ | refine T.rd1 (id := 13) mixed (fun _ => false) [18] (by kernel_rfl) fun K hK => ?_ | refine T.rd (id := 15) mixed (fun _ => false) [9] (by kernel_rfl) fun K hK => ?_ | refine T.rd1 (id := 15) mixed (fun _ => false) [9] (by kernel_rfl) fun K hK => ?_ | refine T.rd (id := 18) mixed (fun _ => false) [10] (by kernel_rfl) fun K hK => ?_ | refine T.rd1 (id := 18) mixed (fun _ => false) [10] (by kernel_rfl) fun K hK => ?_ | refine T.r0 fun K hK => ?_ | refine T.r1 fun K hK => ?_ | (refine ⟨by omega, ?_⟩) | refine T.ct rfl ?_ | refine T.cf rfl ?_ | refine T.seq ?_ | refine T.block ?_ | refine T.skip ?_ | refine T.exit ?_

theorem l4Exact_ok (c : List MBd) (e : MTm) (ts : List MTy) (hk : 5 < e.kind ∧ e.kind < 15) (h13 : e.kind ≠ 13) (hlen : (ts.length : Int) = kidsM e.kind) (hts : ∀ u ∈ ts, shapeTy 4 u = true) (he : typedM e.kind = true → shapeTy 4 e.ty = true) :
    L4E e ts (castN c e ts) := by
  have hcases : e.kind = 6 ∨ e.kind = 7 ∨ e.kind = 8 ∨ e.kind = 9 ∨ e.kind = 10 ∨ e.kind = 11 ∨ e.kind = 12 ∨ e.kind = 14 := by omega
  rcases hcases with h | h | h | h | h | h | h | h <;> rw [h] at hlen
  · match ts, hlen with
    | [a, b], _ => exact l4E6 c e a b h (hts a (by simp)) (hts b (by simp))
  · match ts, hlen with
    | [a, b], _ => exact l4E7 c e a b h (hts a (by simp)) (hts b (by simp))
  · match ts, hlen with
    | [a, b], _ => exact l4E8 c e a b h (hts a (by simp)) (hts b (by simp))
  · match ts, hlen with
    | [a, b, d], _ => exact l4E9 c e a b d h (hts a (by simp)) (hts b (by simp))
  · match ts, hlen with
    | [a, b], _ => exact l4E10 c e a b h (hts a (by simp)) (hts b (by simp))
  · match ts, hlen with
    | [a], _ => exact l4E11 c e a h (hts a (by simp))
  · match ts, hlen with
    | [a], _ => exact l4E12 c e a h (hts a (by simp))
  · match ts, hlen with
    | [a], _ => exact l4E14 c e a h (hts a (by simp)) (he (by simp [typedM, h]))

/-- What l4Type answers. -/
def L4T (ctx : List MBd) (e : MTm) : Prop := ∃ t', (∀ t, castTyM ctx e = some t → t' = t) ∧ ACalls Try.prog 33 [.l (ctx.map eBd), aTm e] [] (.tup [aTy t', .b (castTyM ctx e).isSome]) [] []

theorem l4Type_leaf (ctx : List MBd) (e : MTm) (hl : ctx.length ≤ 1099511627776) (hc : okCtx ctx) (hlen : kidsM e.kind = e.kids.length) (hk : e.kind = 1 ∨ e.kind = 2 ∨ e.kind = 3 ∨ e.kind = 4) : L4T ctx e := by
  obtain ⟨t', h1, h2⟩ := l3Type_leaf ctx e hl hc hlen hk
  have hnil : e.kids = [] := by
    have : e.kids.length = 0 := by
      rcases hk with h | h | h | h <;> rw [h] at hlen <;> simp [kidsM] at hlen <;> omega
    exact List.eq_nil_of_length_eq_zero this
  have ht : castTyM ctx e = typeM ctx e := by
    have e1 : typeM ctx e = nodeTy ctx e.kind e.name e.ty [] := by rw [typeM_def, hnil]; simp [typeMS]
    rw [e1, want_node hc (fun h => by exfalso; rcases hk with k | k | k | k <;> rw [k] at h <;> simp [typedM] at h) (by simp), castTyM_N, hnil]
    simp only [castTyS]
    exact castN_leaf hk
  rw [L4T, ht]
  refine ⟨t', h1, ?_⟩
  generalize (typeM ctx e).isSome = q at *
  rcases hk with h | h | h | h
  · refine ACalls.of_body Try.func33 (by kernel_rfl) rfl (by kernel_rfl) (by simp [Try.ntmps33]) (by simp) ?_
    rw [Try.ntmps33]
    repeat' first | ((first | refine aops_end (hK _ ?_) | refine aopsD_end (hK _ ?_) | refine aopsF_end (hK _ ?_)); clear hK K) | ((first | refine aops_go ?_ | refine aopsD_go ?_ | refine aopsF_go ?_); simp [h]; (try (refine gen fun q hq => ?_; cases q <;> (try simp [h] at hq) <;> (try (have hh : True := hq; clear hh hq))))) | (refine wpcall_pure ?_ (h2) ?_; (focus (solve | simp [h])); simp [h]; (try (refine gen fun q hq => ?_; cases q <;> (try simp [h] at hq) <;> (try (have hh : True := hq; clear hh hq))))) | (refine T.ret (Done.tup (Or.inr rfl) ?_) <;> simp [resAs, Try.results33, *] <;> omega) | refine T.rdF (id := 8) mixed (fun _ => false) [14, 15] [2, 4, 5, 7, 8, 9, 10] 15 [] (by kernel_rfl) fun K hK => ?_ | refine T.rdF1 (id := 8) mixed (fun _ => false) [14, 15] [2, 4, 5, 7, 8, 9, 10] 15 [] (by kernel_rfl) fun K hK => ?_ | (refine ⟨?_, ?_⟩; (focus (intros; refine wpcall_pure ?_ (h2) ?_; (focus (solve | simp [h])); simp; done))) | refine T.r0 fun K hK => ?_ | refine T.r1 fun K hK => ?_ | (refine ⟨by omega, ?_⟩) | refine T.ct rfl ?_ | refine T.cf rfl ?_ | refine T.seq ?_ | refine T.block ?_ | refine T.skip ?_ | refine T.exit ?_
  · refine ACalls.of_body Try.func33 (by kernel_rfl) rfl (by kernel_rfl) (by simp [Try.ntmps33]) (by simp) ?_
    rw [Try.ntmps33]
    repeat' first | ((first | refine aops_end (hK _ ?_) | refine aopsD_end (hK _ ?_) | refine aopsF_end (hK _ ?_)); clear hK K) | ((first | refine aops_go ?_ | refine aopsD_go ?_ | refine aopsF_go ?_); simp [h]; (try (refine gen fun q hq => ?_; cases q <;> (try simp [h] at hq) <;> (try (have hh : True := hq; clear hh hq))))) | (refine wpcall_pure ?_ (h2) ?_; (focus (solve | simp [h])); simp [h]; (try (refine gen fun q hq => ?_; cases q <;> (try simp [h] at hq) <;> (try (have hh : True := hq; clear hh hq))))) | (refine T.ret (Done.tup (Or.inr rfl) ?_) <;> simp [resAs, Try.results33, *] <;> omega) | refine T.rdF (id := 8) mixed (fun _ => false) [14, 15] [2, 4, 5, 7, 8, 9, 10] 15 [] (by kernel_rfl) fun K hK => ?_ | refine T.rdF1 (id := 8) mixed (fun _ => false) [14, 15] [2, 4, 5, 7, 8, 9, 10] 15 [] (by kernel_rfl) fun K hK => ?_ | (refine ⟨?_, ?_⟩; (focus (intros; refine wpcall_pure ?_ (h2) ?_; (focus (solve | simp [h])); simp; done))) | refine T.r0 fun K hK => ?_ | refine T.r1 fun K hK => ?_ | (refine ⟨by omega, ?_⟩) | refine T.ct rfl ?_ | refine T.cf rfl ?_ | refine T.seq ?_ | refine T.block ?_ | refine T.skip ?_ | refine T.exit ?_
  · refine ACalls.of_body Try.func33 (by kernel_rfl) rfl (by kernel_rfl) (by simp [Try.ntmps33]) (by simp) ?_
    rw [Try.ntmps33]
    repeat' first | ((first | refine aops_end (hK _ ?_) | refine aopsD_end (hK _ ?_) | refine aopsF_end (hK _ ?_)); clear hK K) | ((first | refine aops_go ?_ | refine aopsD_go ?_ | refine aopsF_go ?_); simp [h]; (try (refine gen fun q hq => ?_; cases q <;> (try simp [h] at hq) <;> (try (have hh : True := hq; clear hh hq))))) | (refine wpcall_pure ?_ (h2) ?_; (focus (solve | simp [h])); simp [h]; (try (refine gen fun q hq => ?_; cases q <;> (try simp [h] at hq) <;> (try (have hh : True := hq; clear hh hq))))) | (refine T.ret (Done.tup (Or.inr rfl) ?_) <;> simp [resAs, Try.results33, *] <;> omega) | refine T.rdF (id := 8) mixed (fun _ => false) [14, 15] [2, 4, 5, 7, 8, 9, 10] 15 [] (by kernel_rfl) fun K hK => ?_ | refine T.rdF1 (id := 8) mixed (fun _ => false) [14, 15] [2, 4, 5, 7, 8, 9, 10] 15 [] (by kernel_rfl) fun K hK => ?_ | (refine ⟨?_, ?_⟩; (focus (intros; refine wpcall_pure ?_ (h2) ?_; (focus (solve | simp [h])); simp; done))) | refine T.r0 fun K hK => ?_ | refine T.r1 fun K hK => ?_ | (refine ⟨by omega, ?_⟩) | refine T.ct rfl ?_ | refine T.cf rfl ?_ | refine T.seq ?_ | refine T.block ?_ | refine T.skip ?_ | refine T.exit ?_
  · refine ACalls.of_body Try.func33 (by kernel_rfl) rfl (by kernel_rfl) (by simp [Try.ntmps33]) (by simp) ?_
    rw [Try.ntmps33]
    repeat' first | ((first | refine aops_end (hK _ ?_) | refine aopsD_end (hK _ ?_) | refine aopsF_end (hK _ ?_)); clear hK K) | ((first | refine aops_go ?_ | refine aopsD_go ?_ | refine aopsF_go ?_); simp [h]; (try (refine gen fun q hq => ?_; cases q <;> (try simp [h] at hq) <;> (try (have hh : True := hq; clear hh hq))))) | (refine wpcall_pure ?_ (h2) ?_; (focus (solve | simp [h])); simp [h]; (try (refine gen fun q hq => ?_; cases q <;> (try simp [h] at hq) <;> (try (have hh : True := hq; clear hh hq))))) | (refine T.ret (Done.tup (Or.inr rfl) ?_) <;> simp [resAs, Try.results33, *] <;> omega) | refine T.rdF (id := 8) mixed (fun _ => false) [14, 15] [2, 4, 5, 7, 8, 9, 10] 15 [] (by kernel_rfl) fun K hK => ?_ | refine T.rdF1 (id := 8) mixed (fun _ => false) [14, 15] [2, 4, 5, 7, 8, 9, 10] 15 [] (by kernel_rfl) fun K hK => ?_ | (refine ⟨?_, ?_⟩; (focus (intros; refine wpcall_pure ?_ (h2) ?_; (focus (solve | simp [h])); simp; done))) | refine T.r0 fun K hK => ?_ | refine T.r1 fun K hK => ?_ | (refine ⟨by omega, ?_⟩) | refine T.ct rfl ?_ | refine T.cf rfl ?_ | refine T.seq ?_ | refine T.block ?_ | refine T.skip ?_ | refine T.exit ?_

theorem l4Type_lam (ctx : List MBd) (e b : MTm) (hl : ctx.length ≤ 1099511627776) (hk : e.kind = 5) (hb : e.kids = [b]) (hty : shapeTy 4 e.ty = true)
    (hs : ∀ t, castTyM (ctx ++ [MBd.mk e.name e.ty]) b = some t → shapeTy 4 t = true) (ih : L4T (ctx ++ [MBd.mk e.name e.ty]) b) : L4T ctx e := by
  have ht : castTyM ctx e = match castTyM (ctx ++ [MBd.mk e.name e.ty]) b with | some t => twoM 4 e.ty t | none => none := by
    rw [castTyM_N, hb]
    simp only [insideM, hk, castTyS, if_true]
    cases castTyM (ctx ++ [MBd.mk e.name e.ty]) b with
    | none => rfl
    | some t => simp [castN, hk, wantM, exactS, twoM]
  obtain ⟨t', h1, h2⟩ := ih
  have hm := l3More_ok ctx e.name e.ty hl
  generalize ctx ++ [MBd.mk e.name e.ty] = ctx' at *
  simp only [L4T, ht]
  cases hr : castTyM ctx' b with
  | none =>
    rw [hr] at h2
    refine ⟨zeroT, by simp, ?_⟩
    dsimp only [Option.isSome] at h2 ⊢
    refine ACalls.of_body Try.func33 (by kernel_rfl) rfl (by kernel_rfl) (by simp [Try.ntmps33]) (by simp) ?_
    rw [Try.ntmps33]
    repeat' first | ((first | refine aops_end (hK _ ?_) | refine aopsD_end (hK _ ?_) | refine aopsF_end (hK _ ?_)); clear hK K) | ((first | refine aops_go ?_ | refine aopsD_go ?_ | refine aopsF_go ?_); simp [hk, hb]; (try (refine gen fun q hq => ?_; cases q <;> (try simp [hk, hb] at hq) <;> (try (have hh : True := hq; clear hh hq))))) | (refine wpcall_pure rfl (hm) ?_; simp [hk, hb]; (try (refine gen fun q hq => ?_; cases q <;> (try simp [hk, hb] at hq) <;> (try (have hh : True := hq; clear hh hq))))) | (refine wpcall_pure rfl (h2) ?_; simp [hk, hb]; (try (refine gen fun q hq => ?_; cases q <;> (try simp [hk, hb] at hq) <;> (try (have hh : True := hq; clear hh hq))))) | (refine T.ret (Done.tup (Or.inr rfl) ?_) <;> simp [resAs, Try.results33] <;> omega) | refine T.rdF (id := 8) mixed (fun _ => false) [14, 15] [2, 4, 5, 7, 8, 9, 10] 15 [] (by kernel_rfl) fun K hK => ?_ | refine T.rdF1 (id := 8) mixed (fun _ => false) [14, 15] [2, 4, 5, 7, 8, 9, 10] 15 [] (by kernel_rfl) fun K hK => ?_ | (refine ⟨?_, ?_⟩; (focus (intros; refine wpcall_pure rfl (hm) ?_; simp; done))) | (refine ⟨?_, ?_⟩; (focus (intros; refine wpcall_pure rfl (h2) ?_; simp; done))) | refine T.r0 fun K hK => ?_ | refine T.r1 fun K hK => ?_ | (refine ⟨by omega, ?_⟩) | refine T.ct rfl ?_ | refine T.cf rfl ?_ | refine T.seq ?_ | refine T.block ?_ | refine T.skip ?_ | refine T.exit ?_
  | some t =>
    rw [hr] at h2
    obtain rfl := h1 t hr
    have htw := l3Two_ok 4 e.ty t' (by have := shape4 hty; omega) (by have := shape4 (hs t' hr); omega)
    refine ⟨.mk 4 [e.ty, t'], ?_, ?_⟩
    · intro u h; simp only [twoM] at h; split at h <;> simp at h; exact h
    simp only [Option.isSome_some] at h2
    dsimp only
    rw [show (twoM 4 e.ty t').isSome = shapeTy 4 (.mk 4 [e.ty, t']) by simp only [twoM]; split <;> simp [*]]
    generalize shapeTy 4 (.mk 4 [e.ty, t']) = c at htw
    refine ACalls.of_body Try.func33 (by kernel_rfl) rfl (by kernel_rfl) (by simp [Try.ntmps33]) (by simp) ?_
    rw [Try.ntmps33]
    repeat' first | ((first | refine aops_end (hK _ ?_) | refine aopsD_end (hK _ ?_) | refine aopsF_end (hK _ ?_)); clear hK K) | ((first | refine aops_go ?_ | refine aopsD_go ?_ | refine aopsF_go ?_); simp [hk, hb]; (try (refine gen fun q hq => ?_; cases q <;> (try simp [hk, hb] at hq) <;> (try (have hh : True := hq; clear hh hq))))) | (refine wpcall_pure rfl (hm) ?_; simp [hk, hb]; (try (refine gen fun q hq => ?_; cases q <;> (try simp [hk, hb] at hq) <;> (try (have hh : True := hq; clear hh hq))))) | (refine wpcall_pure rfl (h2) ?_; simp [hk, hb]; (try (refine gen fun q hq => ?_; cases q <;> (try simp [hk, hb] at hq) <;> (try (have hh : True := hq; clear hh hq))))) | (refine wpcall_pure rfl (htw) ?_; simp [hk, hb]; (try (refine gen fun q hq => ?_; cases q <;> (try simp [hk, hb] at hq) <;> (try (have hh : True := hq; clear hh hq))))) | (refine T.ret (Done.tup (Or.inr rfl) ?_) <;> simp [resAs, Try.results33, eTy_def] <;> omega) | refine T.rdF (id := 8) mixed (fun _ => false) [14, 15] [2, 4, 5, 7, 8, 9, 10] 15 [] (by kernel_rfl) fun K hK => ?_ | refine T.rdF1 (id := 8) mixed (fun _ => false) [14, 15] [2, 4, 5, 7, 8, 9, 10] 15 [] (by kernel_rfl) fun K hK => ?_ | (refine ⟨?_, ?_⟩; (focus (intros; refine wpcall_pure rfl (hm) ?_; simp; done))) | (refine ⟨?_, ?_⟩; (focus (intros; refine wpcall_pure rfl (h2) ?_; simp; done))) | (refine ⟨?_, ?_⟩; (focus (intros; refine wpcall_pure rfl (htw) ?_; simp; done))) | refine T.r0 fun K hK => ?_ | refine T.r1 fun K hK => ?_ | (refine ⟨by omega, ?_⟩) | refine T.ct rfl ?_ | refine T.cf rfl ?_ | refine T.seq ?_ | refine T.block ?_ | refine T.skip ?_ | refine T.exit ?_

theorem l4Type_loop (ctx : List MBd) (e : MTm) (R : Option (List MTy)) (t' : MTy) (ok : Bool) (hl : ctx.length ≤ 1099511627776) (hk : 5 < e.kind ∧ e.kind < 15) (hlen : e.kids.length ≤ 3) (hR : castTyS ctx e.kids = R)
    (hs : ∀ u ∈ e.kids, ∀ t, castTyM ctx u = some t → shapeTy 4 t = true) (ih : ∀ u ∈ e.kids, L4T ctx u) (hnone : R = none → t' = zeroT ∧ ok = false)
    (hsome : ∀ ts, R = some ts → (∀ u ∈ ts, shapeTy 4 u = true) → ACalls Try.prog 53 [aTm e, .l (ts.map eTy)] [] (.tup [aTy t', .b ok]) [] []) :
    ACalls Try.prog 33 [.l (ctx.map eBd), aTm e] [] (.tup [aTy t', .b ok]) [] [] := by
  have hk1 : ¬ e.kind = 1 := by omega
  have hk2 : ¬ e.kind = 2 := by omega
  have hk3 : ¬ e.kind = 3 := by omega
  have hk4 : ¬ e.kind = 4 := by omega
  have hk5 : ¬ e.kind = 5 := by omega
  refine ACalls.of_body Try.func33 (by kernel_rfl) rfl (by kernel_rfl) (by simp [Try.ntmps33]) (by simp) ?_
  rw [Try.ntmps33]
  repeat' first | ((first | refine aops_end (hK _ ?_) | refine aopsD_end (hK _ ?_) | refine aopsF_end (hK _ ?_)); clear hK K) | ((first | refine aops_go ?_ | refine aopsD_go ?_ | refine aopsF_go ?_); simp [hk1, hk2, hk3, hk4, hk5]; (try (refine gen fun q hq => ?_; cases q <;> (try simp [hk1, hk2, hk3, hk4, hk5] at hq) <;> (try (have hh : True := hq; clear hh hq))))) | refine T.rdF (id := 8) mixed (fun _ => false) [14, 15] [2, 4, 5, 7, 8, 9, 10] 15 [] (by kernel_rfl) fun K hK => ?_ | refine T.rdF1 (id := 8) mixed (fun _ => false) [14, 15] [2, 4, 5, 7, 8, 9, 10] 15 [] (by kernel_rfl) fun K hK => ?_ | refine T.rs (id := 12) (fun i => i == 0) fun K hK => ?_ | refine T.rs1 (id := 12) (fun i => i == 0) fun K hK => ?_ | refine T.rs (id := 0) (fun _ => false) fun K hK => ?_ | refine T.rs1 (id := 0) (fun _ => false) fun K hK => ?_ | refine T.rs (id := 1) (fun _ => false) fun K hK => ?_ | refine T.rs1 (id := 1) (fun _ => false) fun K hK => ?_ | refine T.rs (id := 2) (fun _ => false) fun K hK => ?_ | refine T.rs1 (id := 2) (fun _ => false) fun K hK => ?_ | refine T.rs (id := 3) (fun _ => false) fun K hK => ?_ | refine T.rs1 (id := 3) (fun _ => false) fun K hK => ?_ | refine T.rs (id := 4) (fun _ => false) fun K hK => ?_ | refine T.rs1 (id := 4) (fun _ => false) fun K hK => ?_ | refine T.rs (id := 5) (fun _ => false) fun K hK => ?_ | refine T.rs1 (id := 5) (fun _ => false) fun K hK => ?_ | refine T.rs (id := 6) (fun _ => false) fun K hK => ?_ | refine T.rs1 (id := 6) (fun _ => false) fun K hK => ?_ | refine T.rs (id := 7) (fun _ => false) fun K hK => ?_ | refine T.rs1 (id := 7) (fun _ => false) fun K hK => ?_ | refine T.rs (id := 9) (fun _ => false) fun K hK => ?_ | refine T.rs1 (id := 9) (fun _ => false) fun K hK => ?_ | refine T.rs (id := 10) (fun _ => false) fun K hK => ?_ | refine T.rs1 (id := 10) (fun _ => false) fun K hK => ?_ | refine T.rs (id := 11) (fun _ => false) fun K hK => ?_ | refine T.rs1 (id := 11) (fun _ => false) fun K hK => ?_ | refine T.rs (id := 13) (fun _ => false) fun K hK => ?_ | refine T.rs1 (id := 13) (fun _ => false) fun K hK => ?_ | refine T.rs (id := 14) (fun _ => false) fun K hK => ?_ | refine T.rs1 (id := 14) (fun _ => false) fun K hK => ?_ | refine T.rs (id := 16) (fun _ => false) fun K hK => ?_ | refine T.rs1 (id := 16) (fun _ => false) fun K hK => ?_ | refine T.rs (id := 17) (fun _ => false) fun K hK => ?_ | refine T.rs1 (id := 17) (fun _ => false) fun K hK => ?_ | refine T.rs (id := 18) (fun _ => false) fun K hK => ?_ | refine T.rs1 (id := 18) (fun _ => false) fun K hK => ?_ | refine T.rs (id := 19) (fun _ => false) fun K hK => ?_ | refine T.rs1 (id := 19) (fun _ => false) fun K hK => ?_ | refine T.rs (id := 15) (fun _ => false) fun K hK => ?_ | refine T.rs1 (id := 15) (fun _ => false) fun K hK => ?_ | refine T.rs (id := 20) (fun _ => false) fun K hK => ?_ | refine T.rs1 (id := 20) (fun _ => false) fun K hK => ?_ | (refine ⟨by omega, ?_⟩) | refine T.ct rfl ?_ | refine T.cf rfl ?_ | refine T.seq ?_ | refine T.block ?_ | refine T.skip ?_ | refine T.exit ?_
  refine T.loopK (α := Nat × List MTy × List (List CV)) [0, 3, 4] (fun x => [(5, .b false), (8, .c (.own 0 x.1)), (9, .i x.1)]) (fun x => []) (fun x => x.2.2) (fun x _ => [{ sz := 2, ety := 31, rows := x.2.1.map eTy, wr := true }]) (fun x => e.kids.length + 1 - x.1) (fun x => x.1 ≤ e.kids.length ∧ x.2.1.length = x.1 ∧ (∀ u ∈ x.2.1, shapeTy 4 u = true) ∧ (castTyS ctx (e.kids.drop x.1)).map (x.2.1 ++ ·) = R) (by simp; rfl) (fun x hx => ?_) (0, [], []) (by simp [hR]) (by simp) (by simp) (by simp)
  obtain ⟨p, ts, G⟩ := x
  obtain ⟨hi, hp, hsh, he⟩ := hx
  dsimp only at hi hp hsh he ⊢
  simp only [ups, List.set_cons_zero, List.set_cons_succ, List.cons_append, List.nil_append]
  by_cases hlt : p < e.kids.length
  · obtain ⟨u, ht⟩ := get_lt hlt
    have htm : u ∈ e.kids := List.mem_of_getElem? ht
    have hgt : e.kids[p] = u := by rw [List.getElem?_eq_getElem hlt] at ht; exact Option.some.inj ht
    have hdr : e.kids.drop p = u :: e.kids.drop (p + 1) := by rw [List.drop_eq_getElem_cons hlt, hgt]
    obtain ⟨tu, h1, h2⟩ := ih u htm
    have hsu := hs u htm
    rw [hdr] at he
    simp only [castTyS] at he
    cases hb : castTyM ctx u with
    | none =>
      rw [hb] at h2 he
      simp only [Option.isSome_none] at h2
      obtain ⟨rfl, rfl⟩ := hnone (by simpa using he.symm)
      repeat' first | ((first | refine aops_end (hK _ ?_) | refine aopsD_end (hK _ ?_) | refine aopsF_end (hK _ ?_)); clear hK K) | ((first | refine aops_go ?_ | refine aopsD_go ?_ | refine aopsF_go ?_); simp [hlt, hgt, hp]; (try simp (disch := omega) only [wrap64]); (try (refine gen fun q hq => ?_; cases q <;> (try simp [hlt, hgt, hp] at hq) <;> (try (have hh : True := hq; clear hh hq))))) | (refine wpcall_pure rfl (h2) ?_; simp [hlt, hgt, hp]; (try simp (disch := omega) only [wrap64]); (try (refine gen fun q hq => ?_; cases q <;> (try simp [hlt, hgt, hp] at hq) <;> (try (have hh : True := hq; clear hh hq))))) | (refine ⟨by omega, by omega, ?_⟩) | (refine T.ret (Done.tup (Or.inr rfl) ?_) <;> simp [resAs, Try.results33] <;> omega) | refine T.rdF (id := 8) mixed (fun _ => false) [14, 15] [2, 4, 5, 7, 8, 9, 10] 15 [] (by kernel_rfl) fun K hK => ?_ | refine T.rdF1 (id := 8) mixed (fun _ => false) [14, 15] [2, 4, 5, 7, 8, 9, 10] 15 [] (by kernel_rfl) fun K hK => ?_ | (refine ⟨?_, ?_⟩; (focus (intros; refine wpcall_pure rfl (h2) ?_; simp; done))) | refine T.rs (id := 12) (fun i => i == 0) fun K hK => ?_ | refine T.rs1 (id := 12) (fun i => i == 0) fun K hK => ?_ | refine T.rs (id := 0) (fun _ => false) fun K hK => ?_ | refine T.rs1 (id := 0) (fun _ => false) fun K hK => ?_ | refine T.rs (id := 1) (fun _ => false) fun K hK => ?_ | refine T.rs1 (id := 1) (fun _ => false) fun K hK => ?_ | refine T.rs (id := 2) (fun _ => false) fun K hK => ?_ | refine T.rs1 (id := 2) (fun _ => false) fun K hK => ?_ | refine T.rs (id := 3) (fun _ => false) fun K hK => ?_ | refine T.rs1 (id := 3) (fun _ => false) fun K hK => ?_ | refine T.rs (id := 4) (fun _ => false) fun K hK => ?_ | refine T.rs1 (id := 4) (fun _ => false) fun K hK => ?_ | refine T.rs (id := 5) (fun _ => false) fun K hK => ?_ | refine T.rs1 (id := 5) (fun _ => false) fun K hK => ?_ | refine T.rs (id := 6) (fun _ => false) fun K hK => ?_ | refine T.rs1 (id := 6) (fun _ => false) fun K hK => ?_ | refine T.rs (id := 7) (fun _ => false) fun K hK => ?_ | refine T.rs1 (id := 7) (fun _ => false) fun K hK => ?_ | refine T.rs (id := 9) (fun _ => false) fun K hK => ?_ | refine T.rs1 (id := 9) (fun _ => false) fun K hK => ?_ | refine T.rs (id := 10) (fun _ => false) fun K hK => ?_ | refine T.rs1 (id := 10) (fun _ => false) fun K hK => ?_ | refine T.rs (id := 11) (fun _ => false) fun K hK => ?_ | refine T.rs1 (id := 11) (fun _ => false) fun K hK => ?_ | refine T.rs (id := 13) (fun _ => false) fun K hK => ?_ | refine T.rs1 (id := 13) (fun _ => false) fun K hK => ?_ | refine T.rs (id := 14) (fun _ => false) fun K hK => ?_ | refine T.rs1 (id := 14) (fun _ => false) fun K hK => ?_ | refine T.rs (id := 16) (fun _ => false) fun K hK => ?_ | refine T.rs1 (id := 16) (fun _ => false) fun K hK => ?_ | refine T.rs (id := 17) (fun _ => false) fun K hK => ?_ | refine T.rs1 (id := 17) (fun _ => false) fun K hK => ?_ | refine T.rs (id := 18) (fun _ => false) fun K hK => ?_ | refine T.rs1 (id := 18) (fun _ => false) fun K hK => ?_ | refine T.rs (id := 19) (fun _ => false) fun K hK => ?_ | refine T.rs1 (id := 19) (fun _ => false) fun K hK => ?_ | refine T.rs (id := 15) (fun _ => false) fun K hK => ?_ | refine T.rs1 (id := 15) (fun _ => false) fun K hK => ?_ | refine T.rs (id := 20) (fun _ => false) fun K hK => ?_ | refine T.rs1 (id := 20) (fun _ => false) fun K hK => ?_ | (refine ⟨by omega, ?_⟩) | refine T.ct rfl ?_ | refine T.cf rfl ?_ | refine T.seq ?_ | refine T.block ?_ | refine T.skip ?_ | refine T.exit ?_
    | some t =>
      obtain rfl := h1 t hb
      rw [hb] at h2 he
      simp only [Option.isSome_some] at h2
      have he' : (castTyS ctx (e.kids.drop (p + 1))).map ((ts ++ [tu]) ++ ·) = R := by
        rw [← he]
        cases castTyS ctx (e.kids.drop (p + 1)) <;> simp
      have hsh' : ∀ v ∈ ts ++ [tu], shapeTy 4 v = true := fun v hv => by
        rcases List.mem_append.1 hv with h | h
        · exact hsh v h
        · simp at h; subst h; exact hsu _ hb
      repeat' first | ((first | refine aops_end (hK _ ?_) | refine aopsD_end (hK _ ?_) | refine aopsF_end (hK _ ?_)); clear hK K) | ((first | refine aops_go ?_ | refine aopsD_go ?_ | refine aopsF_go ?_); simp [hlt, hgt, hp]; (try simp (disch := omega) only [wrap64]); (try (refine gen fun q hq => ?_; cases q <;> (try simp [hlt, hgt, hp] at hq) <;> (try (have hh : True := hq; clear hh hq))))) | (refine wpcall_pure rfl (h2) ?_; simp [hlt, hgt, hp]; (try simp (disch := omega) only [wrap64]); (try (refine gen fun q hq => ?_; cases q <;> (try simp [hlt, hgt, hp] at hq) <;> (try (have hh : True := hq; clear hh hq))))) | (refine ⟨by omega, by omega, ?_⟩) | (refine ⟨(p + 1, ts ++ [tu], _), by dsimp only; omega, ⟨by dsimp only; omega, by simp [hp], hsh', he'⟩, rfl, ?_, ?_⟩ <;> simp (disch := omega) [wrap64, eTy_def]) | refine T.rdF (id := 8) mixed (fun _ => false) [14, 15] [2, 4, 5, 7, 8, 9, 10] 15 [] (by kernel_rfl) fun K hK => ?_ | refine T.rdF1 (id := 8) mixed (fun _ => false) [14, 15] [2, 4, 5, 7, 8, 9, 10] 15 [] (by kernel_rfl) fun K hK => ?_ | (refine ⟨?_, ?_⟩; (focus (intros; refine wpcall_pure rfl (h2) ?_; simp; done))) | refine T.rs (id := 12) (fun i => i == 0) fun K hK => ?_ | refine T.rs1 (id := 12) (fun i => i == 0) fun K hK => ?_ | refine T.rs (id := 0) (fun _ => false) fun K hK => ?_ | refine T.rs1 (id := 0) (fun _ => false) fun K hK => ?_ | refine T.rs (id := 1) (fun _ => false) fun K hK => ?_ | refine T.rs1 (id := 1) (fun _ => false) fun K hK => ?_ | refine T.rs (id := 2) (fun _ => false) fun K hK => ?_ | refine T.rs1 (id := 2) (fun _ => false) fun K hK => ?_ | refine T.rs (id := 3) (fun _ => false) fun K hK => ?_ | refine T.rs1 (id := 3) (fun _ => false) fun K hK => ?_ | refine T.rs (id := 4) (fun _ => false) fun K hK => ?_ | refine T.rs1 (id := 4) (fun _ => false) fun K hK => ?_ | refine T.rs (id := 5) (fun _ => false) fun K hK => ?_ | refine T.rs1 (id := 5) (fun _ => false) fun K hK => ?_ | refine T.rs (id := 6) (fun _ => false) fun K hK => ?_ | refine T.rs1 (id := 6) (fun _ => false) fun K hK => ?_ | refine T.rs (id := 7) (fun _ => false) fun K hK => ?_ | refine T.rs1 (id := 7) (fun _ => false) fun K hK => ?_ | refine T.rs (id := 9) (fun _ => false) fun K hK => ?_ | refine T.rs1 (id := 9) (fun _ => false) fun K hK => ?_ | refine T.rs (id := 10) (fun _ => false) fun K hK => ?_ | refine T.rs1 (id := 10) (fun _ => false) fun K hK => ?_ | refine T.rs (id := 11) (fun _ => false) fun K hK => ?_ | refine T.rs1 (id := 11) (fun _ => false) fun K hK => ?_ | refine T.rs (id := 13) (fun _ => false) fun K hK => ?_ | refine T.rs1 (id := 13) (fun _ => false) fun K hK => ?_ | refine T.rs (id := 14) (fun _ => false) fun K hK => ?_ | refine T.rs1 (id := 14) (fun _ => false) fun K hK => ?_ | refine T.rs (id := 16) (fun _ => false) fun K hK => ?_ | refine T.rs1 (id := 16) (fun _ => false) fun K hK => ?_ | refine T.rs (id := 17) (fun _ => false) fun K hK => ?_ | refine T.rs1 (id := 17) (fun _ => false) fun K hK => ?_ | refine T.rs (id := 18) (fun _ => false) fun K hK => ?_ | refine T.rs1 (id := 18) (fun _ => false) fun K hK => ?_ | refine T.rs (id := 19) (fun _ => false) fun K hK => ?_ | refine T.rs1 (id := 19) (fun _ => false) fun K hK => ?_ | refine T.rs (id := 15) (fun _ => false) fun K hK => ?_ | refine T.rs1 (id := 15) (fun _ => false) fun K hK => ?_ | refine T.rs (id := 20) (fun _ => false) fun K hK => ?_ | refine T.rs1 (id := 20) (fun _ => false) fun K hK => ?_ | (refine ⟨by omega, ?_⟩) | refine T.ct rfl ?_ | refine T.cf rfl ?_ | refine T.seq ?_ | refine T.block ?_ | refine T.skip ?_ | refine T.exit ?_
  · have hp' : p = e.kids.length := by omega
    subst hp'
    simp [castTyS] at he
    have hres := hsome ts he.symm hsh
    repeat' first | ((first | refine aops_end (hK _ ?_) | refine aopsD_end (hK _ ?_) | refine aopsF_end (hK _ ?_)); clear hK K) | ((first | refine aops_go ?_ | refine aopsD_go ?_ | refine aopsF_go ?_); simp [hlt, hp]; (try (refine gen fun q hq => ?_; cases q <;> (try simp [hlt, hp] at hq) <;> (try (have hh : True := hq; clear hh hq))))) | (refine wpcall_pure ?_ (hres) ?_; (focus (solve | simp [hlt, hp])); simp [hlt, hp]; (try (refine gen fun q hq => ?_; cases q <;> (try simp [hlt, hp] at hq) <;> (try (have hh : True := hq; clear hh hq))))) | (refine T.ret (Done.tup (Or.inr rfl) ?_) <;> simp [resAs, Try.results33] <;> omega) | refine T.rdF (id := 8) mixed (fun _ => false) [14, 15] [2, 4, 5, 7, 8, 9, 10] 15 [] (by kernel_rfl) fun K hK => ?_ | refine T.rdF1 (id := 8) mixed (fun _ => false) [14, 15] [2, 4, 5, 7, 8, 9, 10] 15 [] (by kernel_rfl) fun K hK => ?_ | (refine ⟨?_, ?_⟩; (focus (intros; refine wpcall_pure ?_ (hres) ?_; (focus (solve | simp [hlt, hp])); simp; done))) | refine T.rs (id := 12) (fun i => i == 0) fun K hK => ?_ | refine T.rs1 (id := 12) (fun i => i == 0) fun K hK => ?_ | refine T.rs (id := 0) (fun _ => false) fun K hK => ?_ | refine T.rs1 (id := 0) (fun _ => false) fun K hK => ?_ | refine T.rs (id := 1) (fun _ => false) fun K hK => ?_ | refine T.rs1 (id := 1) (fun _ => false) fun K hK => ?_ | refine T.rs (id := 2) (fun _ => false) fun K hK => ?_ | refine T.rs1 (id := 2) (fun _ => false) fun K hK => ?_ | refine T.rs (id := 3) (fun _ => false) fun K hK => ?_ | refine T.rs1 (id := 3) (fun _ => false) fun K hK => ?_ | refine T.rs (id := 4) (fun _ => false) fun K hK => ?_ | refine T.rs1 (id := 4) (fun _ => false) fun K hK => ?_ | refine T.rs (id := 5) (fun _ => false) fun K hK => ?_ | refine T.rs1 (id := 5) (fun _ => false) fun K hK => ?_ | refine T.rs (id := 6) (fun _ => false) fun K hK => ?_ | refine T.rs1 (id := 6) (fun _ => false) fun K hK => ?_ | refine T.rs (id := 7) (fun _ => false) fun K hK => ?_ | refine T.rs1 (id := 7) (fun _ => false) fun K hK => ?_ | refine T.rs (id := 9) (fun _ => false) fun K hK => ?_ | refine T.rs1 (id := 9) (fun _ => false) fun K hK => ?_ | refine T.rs (id := 10) (fun _ => false) fun K hK => ?_ | refine T.rs1 (id := 10) (fun _ => false) fun K hK => ?_ | refine T.rs (id := 11) (fun _ => false) fun K hK => ?_ | refine T.rs1 (id := 11) (fun _ => false) fun K hK => ?_ | refine T.rs (id := 13) (fun _ => false) fun K hK => ?_ | refine T.rs1 (id := 13) (fun _ => false) fun K hK => ?_ | refine T.rs (id := 14) (fun _ => false) fun K hK => ?_ | refine T.rs1 (id := 14) (fun _ => false) fun K hK => ?_ | refine T.rs (id := 16) (fun _ => false) fun K hK => ?_ | refine T.rs1 (id := 16) (fun _ => false) fun K hK => ?_ | refine T.rs (id := 17) (fun _ => false) fun K hK => ?_ | refine T.rs1 (id := 17) (fun _ => false) fun K hK => ?_ | refine T.rs (id := 18) (fun _ => false) fun K hK => ?_ | refine T.rs1 (id := 18) (fun _ => false) fun K hK => ?_ | refine T.rs (id := 19) (fun _ => false) fun K hK => ?_ | refine T.rs1 (id := 19) (fun _ => false) fun K hK => ?_ | refine T.rs (id := 15) (fun _ => false) fun K hK => ?_ | refine T.rs1 (id := 15) (fun _ => false) fun K hK => ?_ | refine T.rs (id := 20) (fun _ => false) fun K hK => ?_ | refine T.rs1 (id := 20) (fun _ => false) fun K hK => ?_ | (refine ⟨by omega, ?_⟩) | refine T.ct rfl ?_ | refine T.cf rfl ?_ | refine T.seq ?_ | refine T.block ?_ | refine T.skip ?_ | refine T.exit ?_

theorem castTyS_len' : ∀ {c : List MBd} {l : List MTm} {ts : List MTy}, castTyS c l = some ts → ts.length = l.length ∧ ∀ u ∈ ts, ∃ x ∈ l, castTyM c x = some u
  | c, [], ts, h => by simp [castTyS] at h; subst h; simp
  | c, e :: r, ts, h => by
    simp only [castTyS] at h
    cases h1 : castTyM c e with
    | none => rw [h1] at h; simp at h
    | some t =>
      rw [h1] at h
      cases h2 : castTyS c r with
      | none => rw [h2] at h; simp at h
      | some us =>
        rw [h2] at h; simp at h; subst h
        obtain ⟨g1, g2⟩ := castTyS_len' h2
        refine ⟨by simp [g1], fun u hu => ?_⟩
        simp only [List.mem_cons] at hu
        rcases hu with rfl | hu
        · exact ⟨e, by simp, h1⟩
        · obtain ⟨x, g3, g4⟩ := g2 u hu
          exact ⟨x, by simp [g3], g4⟩

theorem l4Type_node (ctx : List MBd) (e : MTm) (hl : ctx.length ≤ 1099511627776) (hk : 5 < e.kind ∧ e.kind < 15) (h13 : e.kind ≠ 13) (hlen : kidsM e.kind = e.kids.length) (hty : typedM e.kind = true → shapeTy 4 e.ty = true)
    (hs : ∀ u ∈ e.kids, ∀ t, castTyM ctx u = some t → shapeTy 4 t = true) (ih : ∀ u ∈ e.kids, L4T ctx u) : L4T ctx e := by
  have hk5 : ¬ e.kind = 5 := by omega
  have hk9 := kidsM_le e.kind
  have ht : castTyM ctx e = (castTyS ctx e.kids).bind (castN ctx e) := by
    rw [castTyM_N, insideM, if_neg hk5]
    cases castTyS ctx e.kids <;> rfl
  simp only [L4T, ht]
  cases hr : castTyS ctx e.kids with
  | none =>
    refine ⟨zeroT, by simp, ?_⟩
    exact l4Type_loop ctx e none zeroT false hl hk (by omega) hr hs ih (fun _ => ⟨rfl, rfl⟩) (fun ts h => by simp at h)
  | some ts =>
    obtain ⟨hlt, hmem⟩ := castTyS_len' hr
    have hsts : ∀ u ∈ ts, shapeTy 4 u = true := fun u hu => by obtain ⟨x, g1, g2⟩ := hmem u hu; exact hs x g1 u g2
    obtain ⟨t', h1, h2⟩ := l4Exact_ok ctx e ts hk h13 (by rw [hlt]; exact hlen.symm) hsts hty
    refine ⟨t', by simpa using h1, ?_⟩
    rw [show ((some ts).bind (castN ctx e)) = castN ctx e ts from rfl]
    exact l4Type_loop ctx e (some ts) t' _ hl hk (by omega) hr hs ih (fun h => by simp at h) (fun us h _ => by simp at h; subst h; exact h2)

theorem l4Type_ok : ∀ (e : MTm) (d : Nat) (ctx : List MBd), shapeTm 13 d e = true → ctx.length + d ≤ 1099511627776 → okCtx ctx → L4T ctx e := by
  intro e
  induction e using MTm.ind with
  | h e ih =>
    intro d ctx hs hl hc
    obtain ⟨d', rfl, hne, hlen, hown, hkids⟩ := shapeTm_kids hs
    have hb := kidsM_lt e.kind _ hlen
    by_cases h5 : e.kind = 5
    · have hty : shapeTy 4 e.ty = true := own_typed hown (by simp [typedM, h5])
      have hl1 : e.kids.length = 1 := by rw [h5] at hlen; simp [kidsM] at hlen; omega
      match hk : e.kids, hl1 with
      | [b], _ =>
        have hbm : b ∈ e.kids := by simp [hk]
        have hc' : okCtx (ctx ++ [MBd.mk e.name e.ty]) := by
          intro x hx
          rcases List.mem_append.1 hx with h | h
          · exact hc x h
          · simp at h; subst h; exact hty
        exact l4Type_lam ctx e b (by omega) h5 hk hty (fun t h => castTy_shape (hkids b hbm) h) (ih b hbm d' _ (hkids b hbm) (by simp; omega) hc')
    · by_cases hsm : e.kind < 5
      · exact l4Type_leaf ctx e (by omega) hc hlen (by omega)
      · exact l4Type_node ctx e (by omega) ⟨by omega, by omega⟩ hne hlen (own_typed hown) (fun u hu t h => castTy_shape (hkids u hu) h) (fun u hu => ih u hu d' ctx (hkids u hu) (by omega) hc)

theorem CastTypeOfS_ok (e : MTm) (hn : nTm e ≤ 1099511627776) : ACalls Try.prog 13 [aTm e] [] (.tup (tyRes (castTypeM e))) [] [] := by
  have h2 := CastValidS_ok e hn
  rw [castTypeM]
  cases hv : castValidM e with
  | false =>
    rw [hv] at h2
    simp only [Bool.false_eq_true, if_false]
    refine ACalls.of_body Try.func13 (by kernel_rfl) rfl (by kernel_rfl) (by simp [Try.ntmps13]) (by simp) ?_
    rw [Try.ntmps13]
    repeat' first | ((first | refine aops_end (hK _ ?_) | refine aopsD_end (hK _ ?_) | refine aopsF_end (hK _ ?_)); clear hK K) | ((first | refine aops_go ?_ | refine aopsD_go ?_ | refine aopsF_go ?_); simp; (try (refine gen fun q hq => ?_; cases q <;> (try simp at hq) <;> (try (have hh : True := hq; clear hh hq))))) | (refine wpcall_pure rfl (h2) ?_; simp; (try (refine gen fun q hq => ?_; cases q <;> (try simp at hq) <;> (try (have hh : True := hq; clear hh hq))))) | (refine T.ret (Done.tup (Or.inr rfl) ?_) <;> simp [resAs, Try.results13] <;> omega) | refine T.r0 fun K hK => ?_ | refine T.r1 fun K hK => ?_ | (refine ⟨by omega, ?_⟩) | refine T.ct rfl ?_ | refine T.cf rfl ?_ | refine T.seq ?_ | refine T.block ?_ | refine T.skip ?_ | refine T.exit ?_
  | true =>
    rw [hv] at h2
    simp only [if_true]
    have hsh : shapeTm 13 40 e = true := by simp only [castValidM, Bool.and_eq_true] at hv; exact hv.1
    obtain ⟨t', h3, h4⟩ := l4Type_ok e 40 [] hsh (by simp) (by intro b hb; simp at hb)
    cases hr : castTyM [] e with
    | none =>
      rw [hr] at h4
      have h5 := l3Sure_ok t' false
      simp only [Option.isSome_none] at h4
      refine ACalls.of_body Try.func13 (by kernel_rfl) rfl (by kernel_rfl) (by simp [Try.ntmps13]) (by simp) ?_
      rw [Try.ntmps13]
      repeat' first | ((first | refine aops_end (hK _ ?_) | refine aopsD_end (hK _ ?_) | refine aopsF_end (hK _ ?_)); clear hK K) | ((first | refine aops_go ?_ | refine aopsD_go ?_ | refine aopsF_go ?_); simp; (try (refine gen fun q hq => ?_; cases q <;> (try simp at hq) <;> (try (have hh : True := hq; clear hh hq))))) | (refine wpcall_pure rfl (h2) ?_; simp; (try (refine gen fun q hq => ?_; cases q <;> (try simp at hq) <;> (try (have hh : True := hq; clear hh hq))))) | (refine wpcall_pure ?_ (h4) ?_; (focus (solve | simp)); simp; (try (refine gen fun q hq => ?_; cases q <;> (try simp at hq) <;> (try (have hh : True := hq; clear hh hq))))) | (refine wpcall_pure rfl (h5) ?_; simp; (try (refine gen fun q hq => ?_; cases q <;> (try simp at hq) <;> (try (have hh : True := hq; clear hh hq))))) | (refine T.ret (Done.tup (Or.inr rfl) ?_) <;> simp [resAs, Try.results13] <;> omega) | refine T.r0 fun K hK => ?_ | refine T.r1 fun K hK => ?_ | (refine ⟨by omega, ?_⟩) | refine T.ct rfl ?_ | refine T.cf rfl ?_ | refine T.seq ?_ | refine T.block ?_ | refine T.skip ?_ | refine T.exit ?_
    | some t =>
      obtain rfl := h3 t hr
      rw [hr] at h4
      have h5 := l3Sure_ok t' true
      simp only [Option.isSome_some] at h4
      refine ACalls.of_body Try.func13 (by kernel_rfl) rfl (by kernel_rfl) (by simp [Try.ntmps13]) (by simp) ?_
      rw [Try.ntmps13]
      repeat' first | ((first | refine aops_end (hK _ ?_) | refine aopsD_end (hK _ ?_) | refine aopsF_end (hK _ ?_)); clear hK K) | ((first | refine aops_go ?_ | refine aopsD_go ?_ | refine aopsF_go ?_); simp; (try (refine gen fun q hq => ?_; cases q <;> (try simp at hq) <;> (try (have hh : True := hq; clear hh hq))))) | (refine wpcall_pure rfl (h2) ?_; simp; (try (refine gen fun q hq => ?_; cases q <;> (try simp at hq) <;> (try (have hh : True := hq; clear hh hq))))) | (refine wpcall_pure ?_ (h4) ?_; (focus (solve | simp)); simp; (try (refine gen fun q hq => ?_; cases q <;> (try simp at hq) <;> (try (have hh : True := hq; clear hh hq))))) | (refine wpcall_pure rfl (h5) ?_; simp; (try (refine gen fun q hq => ?_; cases q <;> (try simp at hq) <;> (try (have hh : True := hq; clear hh hq))))) | (refine T.ret (Done.tup (Or.inr rfl) ?_) <;> simp [resAs, Try.results13] <;> omega) | refine T.r0 fun K hK => ?_ | refine T.r1 fun K hK => ?_ | (refine ⟨by omega, ?_⟩) | refine T.ct rfl ?_ | refine T.cf rfl ?_ | refine T.seq ?_ | refine T.block ?_ | refine T.skip ?_ | refine T.exit ?_

end Go.Proofs.Ytbakdfnmippcoaa

namespace Go.Proofs.Ytbakdfnmippcoaa
attribute [-simp] Go.Av.astepJ Go.Av.relC Go.Av.relL Go.Av.relV Go.Av.relVs Go.Av.callJ
open Go Go.Av
attribute [local irreducible] T ACalls TX EX LX Draws Some_ ACallsX eTy eTm MTy.kind MTy.kids MTm.kind MTm.name MTm.num MTm.ty MTm.fr MTm.label MTm.kids
attribute [local simp] eTy_def eTm_def
set_option maxHeartbeats 16000000
set_option maxRecDepth 8000

theorem exactS_no : ∀ {ws ts : List MTy}, exactS ws ts = false → ws.length ≤ ts.length → ∃ (p : Nat) (w h : MTy), ws[p]? = some w ∧ ts[p]? = some h ∧ sameTy w h = false ∧ ∀ (i : Nat) w h, i < p → ws[i]? = some w → ts[i]? = some h → w = h
  | [], ts, hq, _ => by simp [exactS] at hq
  | w :: ws, h :: hs, hq, hl => by
    simp only [exactS] at hq
    cases hs1 : sameTy w h with
    | false => exact ⟨0, w, h, rfl, rfl, hs1, fun i _ _ hi => by omega⟩
    | true =>
      rw [hs1, Bool.true_and] at hq
      obtain ⟨p, w', h', q1, q2, q3, q4⟩ := exactS_no hq (by simpa using hl)
      refine ⟨p + 1, w', h', by simpa using q1, by simpa using q2, q3, fun i a b hi ha hb => ?_⟩
      cases i with
      | zero => simp at ha hb; subst ha; subst hb; exact sameTy_iff.1 hs1
      | succ i => exact q4 i a b (by omega) (by simpa using ha) (by simpa using hb)
  | _ :: _, [], _, hl => by simp at hl

theorem want_smallW {ctx : List MBd} {e : MTm} {ts ws : List MTy} {t : MTy} (he : typedM e.kind = true → shapeTy 4 e.ty = true) (hts : ∀ u ∈ ts, shapeTy 4 u = true) (h : wantM ctx e.kind e.name e.ty ts = some (ws, t)) : ∀ w ∈ ws, nTy w ≤ 1000 := by
  have key : ∀ {t : MTy}, shapeTy 4 t = true → nTy t ≤ 100 := fun h => by have := shape4 h; omega
  simp only [wantM] at h
  split at h
  · obtain ⟨_, h1, h'⟩ := Option.map_eq_some_iff.1 h
    cases h'
    simp
  split at h
  · cases h; simp
  split at h
  · cases h; simp
  split at h
  · rename_i a
    split at h
    · cases h; simp
    split at h
    · obtain ⟨p, h1, h'⟩ := Option.map_eq_some_iff.1 h
      obtain ⟨x, y⟩ := p
      cases h'
      have h2 := key (match_shape h1 (hts a (by simp))).1
      have h3 := key (match_shape h1 (hts a (by simp))).2
      intro w hw; simp at hw; subst hw; simp [nTy_mk, nTyS]; omega
    split at h
    · obtain ⟨p, h1, h'⟩ := Option.map_eq_some_iff.1 h
      obtain ⟨x, y⟩ := p
      cases h'
      have h2 := key (match_shape h1 (hts a (by simp))).1
      have h3 := key (match_shape h1 (hts a (by simp))).2
      intro w hw; simp at hw; subst hw; simp [nTy_mk, nTyS]; omega
    split at h
    · rename_i h13
      split at h
      · cases h
        have := key (he (by simp [typedM, h13]))
        intro w hw; simp at hw; subst hw; omega
      · cases h
    · cases h
  · rename_i a b
    split at h
    · split at h
      · rename_i x y hm
        split at h
        · cases h
          have h2 := key (match_shape hm (hts a (by simp))).1
          have h3 := key (match_shape hm (hts a (by simp))).2
          intro w hw; simp at hw; rcases hw with rfl | rfl
          · simp [nTy_mk, nTyS]; omega
          · omega
        · cases h
      · cases h
    split at h
    · split at h
      · cases h; intro w hw; simp at hw; subst hw; simp [nTy_mk, nTyS]
      · cases h
    split at h
    · split at h
      · cases h; intro w hw; simp at hw; subst hw; simp [nTy_mk, nTyS]
      · cases h
    split at h
    · cases h; simp
    · cases h
  · rename_i a b c
    split at h
    · split at h
      · rename_i hq
        cases h
        have := key (meet_shape 4 b c (hts b (by simp)) (hts c (by simp)) hq.2)
        intro w hw; simp at hw; rcases hw with rfl | rfl
        · simp [nTy_mk, nTyS]
        · omega
      · cases h
    · cases h
  · cases h

/-- No type: what castType answers. -/
def CTn (ctx : List MBd) (e : MTm) : Prop := castTyM ctx e = none → ∃ t, ACalls Try.prog 40 [aBds ctx, aTm e] [] (.tup [aTy t, .b false]) [] []

theorem castNoA_non (ctx : List MBd) (e : MTm) (hk : 0 < e.kind ∧ e.kind < 15) (h5 : e.kind ≠ 5)  (hl : ctx.length ≤ 1073741824) (hkl : e.kids.length ≤ 3)
    (hS : castTyS ctx e.kids = none) (ih : ∀ u ∈ e.kids, CTy ctx u ∧ CTn ctx u) :
    ACalls Try.prog 40 [aBds ctx, aTm e] [] (.tup [aTy zeroT, .b false]) [] [] := by
  refine ACalls.of_body Try.func40 (by kernel_rfl) rfl (by kernel_rfl) (by simp [Try.ntmps40]) (by simp) ?_
  rw [Try.ntmps40]
  repeat' first | ((first | refine aops_end (hK _ ?_) | refine aopsD_end (hK _ ?_) | refine aopsF_end (hK _ ?_)); clear hK K) | ((first | refine aops_go ?_ | refine aopsD_go ?_ | refine aopsF_go ?_); simp [h5]; (try (refine gen fun q hq => ?_; cases q <;> (try simp [h5] at hq) <;> (try (have hh : True := hq; clear hh hq))))) | refine T.rd (id := 3) mixed (fun _ => false) [8] (by kernel_rfl) fun K hK => ?_ | refine T.rd1 (id := 3) mixed (fun _ => false) [8] (by kernel_rfl) fun K hK => ?_ | refine T.rd (id := 14) mixed (fun _ => false) [8] (by kernel_rfl) fun K hK => ?_ | refine T.rd1 (id := 14) mixed (fun _ => false) [8] (by kernel_rfl) fun K hK => ?_ | refine T.rd (id := 21) mixed (fun _ => false) [] (by kernel_rfl) fun K hK => ?_ | refine T.rd1 (id := 21) mixed (fun _ => false) [] (by kernel_rfl) fun K hK => ?_ | refine T.r0 fun K hK => ?_ | refine T.r1 fun K hK => ?_ | (refine ⟨by omega, ?_⟩) | refine T.ct rfl ?_ | refine T.cf rfl ?_ | refine T.seq ?_ | refine T.block ?_ | refine T.skip ?_ | refine T.exit ?_
  refine T.ownify 7 2 31 (by simp) ?_
  refine T.loopK (α := Nat × List MTy × List (List CV)) [0, 3, 4, 6, 31, 32] (fun x => [(5, .b false), (7, .c (.own 0 x.1)), (33, .i x.1)]) (fun x => []) (fun x => x.2.2) (fun x _ => [{ sz := 2, ety := 31, rows := x.2.1.map eTy, wr := true }]) (fun x => e.kids.length + 1 - x.1)
    (fun x => x.1 ≤ e.kids.length ∧ x.2.1.length = x.1 ∧ castTyS ctx (e.kids.drop x.1) = none) (by simp; rfl) (fun x hx => ?_) (0, [], []) (by simp [hS]) (by simp) (by simp) (by simp)
  obtain ⟨p, ts, G⟩ := x
  obtain ⟨hi, hts, he⟩ := hx
  dsimp only at hi hts he ⊢
  simp only [ups, List.set_cons_zero, List.set_cons_succ, List.cons_append, List.nil_append]
  by_cases hlt : p < e.kids.length
  · obtain ⟨u, ht⟩ := get_lt hlt
    have htm : u ∈ e.kids := List.mem_of_getElem? ht
    have hgt : e.kids[p] = u := by rw [List.getElem?_eq_getElem hlt] at ht; exact Option.some.inj ht
    have hdr : e.kids.drop p = u :: e.kids.drop (p + 1) := by rw [List.drop_eq_getElem_cons hlt, hgt]
    rw [hdr] at he
    simp only [castTyS] at he
    cases hb : castTyM ctx u with
    | none =>
      obtain ⟨tz, hu⟩ := (ih u htm).2 hb
      repeat' first | ((first | refine aops_end (hK _ ?_) | refine aopsD_end (hK _ ?_) | refine aopsF_end (hK _ ?_)); clear hK K) | ((first | refine aops_go ?_ | refine aopsD_go ?_ | refine aopsF_go ?_); simp [hlt, hgt, hts]; (try simp (disch := omega) only [wrap64]); (try (refine gen fun q hq => ?_; cases q <;> (try simp [hlt, hgt, hts] at hq) <;> (try (have hh : True := hq; clear hh hq))))) | (refine wpcall_pure rfl (hu) ?_; simp [hlt, hgt, hts]; (try simp (disch := omega) only [wrap64]); (try (refine gen fun q hq => ?_; cases q <;> (try simp [hlt, hgt, hts] at hq) <;> (try (have hh : True := hq; clear hh hq))))) | (refine ⟨by omega, by omega, ?_⟩) | (refine T.ret (Done.tup (Or.inr rfl) ?_) <;> simp [resAs, Try.results40] <;> omega) | refine T.rd (id := 3) mixed (fun _ => false) [8] (by kernel_rfl) fun K hK => ?_ | refine T.rd1 (id := 3) mixed (fun _ => false) [8] (by kernel_rfl) fun K hK => ?_ | refine T.rd (id := 14) mixed (fun _ => false) [8] (by kernel_rfl) fun K hK => ?_ | refine T.rd1 (id := 14) mixed (fun _ => false) [8] (by kernel_rfl) fun K hK => ?_ | refine T.rd (id := 21) mixed (fun _ => false) [] (by kernel_rfl) fun K hK => ?_ | refine T.rd1 (id := 21) mixed (fun _ => false) [] (by kernel_rfl) fun K hK => ?_ | refine T.r0 fun K hK => ?_ | refine T.r1 fun K hK => ?_ | (refine ⟨by omega, ?_⟩) | refine T.ct rfl ?_ | refine T.cf rfl ?_ | refine T.seq ?_ | refine T.block ?_ | refine T.skip ?_ | refine T.exit ?_
    | some tu =>
      have hu := (ih u htm).1 tu hb
      rw [hb] at he
      have he' : castTyS ctx (e.kids.drop (p + 1)) = none := by
        cases hc : castTyS ctx (e.kids.drop (p + 1)) with
        | none => rfl
        | some us => rw [hc] at he; simp at he
      repeat' first | ((first | refine aops_end (hK _ ?_) | refine aopsD_end (hK _ ?_) | refine aopsF_end (hK _ ?_)); clear hK K) | ((first | refine aops_go ?_ | refine aopsD_go ?_ | refine aopsF_go ?_); simp [hlt, hgt, hts]; (try simp (disch := omega) only [wrap64]); (try (refine gen fun q hq => ?_; cases q <;> (try simp [hlt, hgt, hts] at hq) <;> (try (have hh : True := hq; clear hh hq))))) | (refine wpcall_pure rfl (hu) ?_; simp [hlt, hgt, hts]; (try simp (disch := omega) only [wrap64]); (try (refine gen fun q hq => ?_; cases q <;> (try simp [hlt, hgt, hts] at hq) <;> (try (have hh : True := hq; clear hh hq))))) | (refine ⟨by omega, by omega, ?_⟩) | refine T.rd (id := 3) mixed (fun _ => false) [8] (by kernel_rfl) fun K hK => ?_ | refine T.rd1 (id := 3) mixed (fun _ => false) [8] (by kernel_rfl) fun K hK => ?_ | refine T.rd (id := 14) mixed (fun _ => false) [8] (by kernel_rfl) fun K hK => ?_ | refine T.rd1 (id := 14) mixed (fun _ => false) [8] (by kernel_rfl) fun K hK => ?_ | refine T.rd (id := 21) mixed (fun _ => false) [] (by kernel_rfl) fun K hK => ?_ | refine T.rd1 (id := 21) mixed (fun _ => false) [] (by kernel_rfl) fun K hK => ?_ | refine T.r0 fun K hK => ?_ | refine T.r1 fun K hK => ?_ | (refine ⟨by omega, ?_⟩) | refine T.ct rfl ?_ | refine T.cf rfl ?_ | refine T.seq ?_ | refine T.block ?_ | refine T.skip ?_ | refine T.exit ?_
      refine ⟨(p + 1, ts ++ [tu], _), by dsimp only; omega, ⟨by dsimp only; omega, by simp [hts], he'⟩, rfl, ?_, ?_⟩
      · simp [eTy_def]
      · simp (disch := omega) [wrap64]
  · have hp' : p = e.kids.length := by omega
    subst hp'
    simp [castTyS] at he

theorem castNoB_non (ctx : List MBd) (e : MTm) (hk : 0 < e.kind ∧ e.kind < 15) (h5 : e.kind ≠ 5)  (hl : ctx.length ≤ 1073741824) (hlen : kidsM e.kind = e.kids.length)
    (ts0 : List MTy) (hS : castTyS ctx e.kids = some ts0) (hlts : ts0.length = e.kids.length) (hsh : ∀ u ∈ ts0, shapeTy 4 u = true) (ih : ∀ u ∈ e.kids, CTy ctx u)
    (hsm : ∀ ws u, wantM ctx e.kind e.name e.ty ts0 = some (ws, u) → nTy u ≤ 1000 ∧ ws.length ≤ ts0.length ∧ ∀ w ∈ ws, nTy w ≤ 1000) (tz : MTy)
    (hz : (e.kind = 14 ∧ tz = e.ty ∧ ∃ x, ts0 = [x] ∧ sameTy x e.fr = false) ∨ (e.kind ≠ 14 ∧ tz = zeroT ∧ (wantM ctx e.kind e.name e.ty ts0 = none ∨ ∃ ws u, wantM ctx e.kind e.name e.ty ts0 = some (ws, u) ∧ (shapeTy 4 u = false ∨ shapeTy 4 u = true ∧ exactS ws ts0 = false)))) :
    ACalls Try.prog 40 [aBds ctx, aTm e] [] (.tup [aTy tz, .b false]) [] [] := by
  have hkl : e.kids.length ≤ 3 := by have := kidsM_le e.kind; omega
  refine ACalls.of_body Try.func40 (by kernel_rfl) rfl (by kernel_rfl) (by simp [Try.ntmps40]) (by simp) ?_
  rw [Try.ntmps40]
  repeat' first | ((first | refine aops_end (hK _ ?_) | refine aopsD_end (hK _ ?_) | refine aopsF_end (hK _ ?_)); clear hK K) | ((first | refine aops_go ?_ | refine aopsD_go ?_ | refine aopsF_go ?_); simp [h5]; (try (refine gen fun q hq => ?_; cases q <;> (try simp [h5] at hq) <;> (try (have hh : True := hq; clear hh hq))))) | refine T.rd (id := 3) mixed (fun _ => false) [8] (by kernel_rfl) fun K hK => ?_ | refine T.rd1 (id := 3) mixed (fun _ => false) [8] (by kernel_rfl) fun K hK => ?_ | refine T.rd (id := 14) mixed (fun _ => false) [8] (by kernel_rfl) fun K hK => ?_ | refine T.rd1 (id := 14) mixed (fun _ => false) [8] (by kernel_rfl) fun K hK => ?_ | refine T.rd (id := 21) mixed (fun _ => false) [] (by kernel_rfl) fun K hK => ?_ | refine T.rd1 (id := 21) mixed (fun _ => false) [] (by kernel_rfl) fun K hK => ?_ | refine T.r0 fun K hK => ?_ | refine T.r1 fun K hK => ?_ | (refine ⟨by omega, ?_⟩) | refine T.ct rfl ?_ | refine T.cf rfl ?_ | refine T.seq ?_ | refine T.block ?_ | refine T.skip ?_ | refine T.exit ?_
  refine T.ownify 7 2 31 (by simp) ?_
  refine T.loopK (α := Nat × List MTy × List (List CV)) [0, 3, 4, 6, 31, 32] (fun x => [(5, .b false), (7, .c (.own 0 x.1)), (33, .i x.1)]) (fun x => []) (fun x => x.2.2) (fun x _ => [{ sz := 2, ety := 31, rows := x.2.1.map eTy, wr := true }]) (fun x => e.kids.length + 1 - x.1)
    (fun x => x.1 ≤ e.kids.length ∧ x.2.1.length = x.1 ∧ (castTyS ctx (e.kids.drop x.1)).map (x.2.1 ++ ·) = some ts0) (by simp; rfl) (fun x hx => ?_) (0, [], []) (by simp [hS]) (by simp) (by simp) (by simp)
  obtain ⟨p, ts, G⟩ := x
  obtain ⟨hi, hts, he⟩ := hx
  dsimp only at hi hts he ⊢
  simp only [ups, List.set_cons_zero, List.set_cons_succ, List.cons_append, List.nil_append]
  by_cases hlt : p < e.kids.length
  · obtain ⟨u, ht⟩ := get_lt hlt
    have htm : u ∈ e.kids := List.mem_of_getElem? ht
    have hgt : e.kids[p] = u := by rw [List.getElem?_eq_getElem hlt] at ht; exact Option.some.inj ht
    have hdr : e.kids.drop p = u :: e.kids.drop (p + 1) := by rw [List.drop_eq_getElem_cons hlt, hgt]
    rw [hdr] at he
    simp only [castTyS] at he
    cases hb : castTyM ctx u with
    | none => rw [hb] at he; simp at he
    | some tu =>
      have hu := ih u htm tu hb
      rw [hb] at he
      have he' : (castTyS ctx (e.kids.drop (p + 1))).map ((ts ++ [tu]) ++ ·) = some ts0 := by
        rw [← he]
        cases castTyS ctx (e.kids.drop (p + 1)) <;> simp
      repeat' first | ((first | refine aops_end (hK _ ?_) | refine aopsD_end (hK _ ?_) | refine aopsF_end (hK _ ?_)); clear hK K) | ((first | refine aops_go ?_ | refine aopsD_go ?_ | refine aopsF_go ?_); simp [hlt, hgt, hts]; (try simp (disch := omega) only [wrap64]); (try (refine gen fun q hq => ?_; cases q <;> (try simp [hlt, hgt, hts] at hq) <;> (try (have hh : True := hq; clear hh hq))))) | (refine wpcall_pure rfl (hu) ?_; simp [hlt, hgt, hts]; (try simp (disch := omega) only [wrap64]); (try (refine gen fun q hq => ?_; cases q <;> (try simp [hlt, hgt, hts] at hq) <;> (try (have hh : True := hq; clear hh hq))))) | (refine ⟨by omega, by omega, ?_⟩) | refine T.rd (id := 3) mixed (fun _ => false) [8] (by kernel_rfl) fun K hK => ?_ | refine T.rd1 (id := 3) mixed (fun _ => false) [8] (by kernel_rfl) fun K hK => ?_ | refine T.rd (id := 14) mixed (fun _ => false) [8] (by kernel_rfl) fun K hK => ?_ | refine T.rd1 (id := 14) mixed (fun _ => false) [8] (by kernel_rfl) fun K hK => ?_ | refine T.rd (id := 21) mixed (fun _ => false) [] (by kernel_rfl) fun K hK => ?_ | refine T.rd1 (id := 21) mixed (fun _ => false) [] (by kernel_rfl) fun K hK => ?_ | refine T.r0 fun K hK => ?_ | refine T.r1 fun K hK => ?_ | (refine ⟨by omega, ?_⟩) | refine T.ct rfl ?_ | refine T.cf rfl ?_ | refine T.seq ?_ | refine T.block ?_ | refine T.skip ?_ | refine T.exit ?_
      refine ⟨(p + 1, ts ++ [tu], _), by dsimp only; omega, ⟨by dsimp only; omega, by simp [hts], he'⟩, rfl, ?_, ?_⟩
      · simp [eTy_def]
      · simp (disch := omega) [wrap64]
  · have hp' : p = e.kids.length := by omega
    subst hp'
    simp [castTyS] at he
    subst he
    rcases hz with ⟨h14, rfl, x, rfl, hsx⟩ | ⟨h14, rfl, hz⟩
    · have hk1 : e.kids.length = 1 := by simpa using hlts.symm
      have hsame := TypeSame_ok x e.fr (by have := shape4 (hsh x (by simp)); omega)
      rw [hsx] at hsame
      repeat' first | ((first | refine aops_end (hK _ ?_) | refine aopsD_end (hK _ ?_) | refine aopsF_end (hK _ ?_) | refine aopsG_end (hK _ ?_)); clear hK K) | ((first | refine aops_go ?_ | refine aopsD_go ?_ | refine aopsF_go ?_ | refine aopsG_go ?_); simp [hlt, h14, hk1]; (try (refine gen fun q hq => ?_; cases q <;> (try simp [hlt, h14, hk1] at hq) <;> (try (have hh : True := hq; clear hh hq))))) | (refine wpcall_pure rfl (hsame) ?_; simp [hlt, h14, hk1]; (try (refine gen fun q hq => ?_; cases q <;> (try simp [hlt, h14, hk1] at hq) <;> (try (have hh : True := hq; clear hh hq))))) | (refine T.ret (Done.tup (Or.inr rfl) ?_) <;> simp [resAs, Try.results40] <;> omega) | refine T.rd (id := 3) mixed (fun _ => false) [8] (by kernel_rfl) fun K hK => ?_ | refine T.rd1 (id := 3) mixed (fun _ => false) [8] (by kernel_rfl) fun K hK => ?_ | refine T.rd (id := 14) mixed (fun _ => false) [8] (by kernel_rfl) fun K hK => ?_ | refine T.rd1 (id := 14) mixed (fun _ => false) [8] (by kernel_rfl) fun K hK => ?_ | refine T.rd (id := 21) mixed (fun _ => false) [] (by kernel_rfl) fun K hK => ?_ | refine T.rd1 (id := 21) mixed (fun _ => false) [] (by kernel_rfl) fun K hK => ?_ | refine T.r0 fun K hK => ?_ | refine T.r1 fun K hK => ?_ | (refine ⟨by omega, ?_⟩) | refine T.ct rfl ?_ | refine T.cf rfl ?_ | refine T.seq ?_ | refine T.block ?_ | refine T.skip ?_ | refine T.exit ?_
    · obtain ⟨ws', t', hw1, hw2⟩ := wanted_ok ctx (by omega) e ts ⟨hk.1, by omega⟩ (by rw [hlts]; exact hlen.symm) hsh
      rcases hz with hwr | ⟨ws, u, hwr, hz⟩
      · rw [hwr] at hw2
        simp only [Option.isSome_none] at hw2
        repeat' first | ((first | refine aops_end (hK _ ?_) | refine aopsD_end (hK _ ?_) | refine aopsF_end (hK _ ?_)); clear hK K) | ((first | refine aops_go ?_ | refine aopsD_go ?_ | refine aopsF_go ?_); simp [hlt, h14, hts]; (try (refine gen fun q hq => ?_; cases q <;> (try simp [hlt, h14, hts] at hq) <;> (try (have hh : True := hq; clear hh hq))))) | (refine wpcall_pure ?_ (hw2) ?_; (focus (solve | simp [hlt, h14, hts])); simp [hlt, h14, hts]; (try (refine gen fun q hq => ?_; cases q <;> (try simp [hlt, h14, hts] at hq) <;> (try (have hh : True := hq; clear hh hq))))) | (refine T.ret (Done.tup (Or.inr rfl) ?_) <;> simp [resAs, Try.results40] <;> omega) | refine T.rd (id := 3) mixed (fun _ => false) [8] (by kernel_rfl) fun K hK => ?_ | refine T.rd1 (id := 3) mixed (fun _ => false) [8] (by kernel_rfl) fun K hK => ?_ | refine T.rd (id := 14) mixed (fun _ => false) [8] (by kernel_rfl) fun K hK => ?_ | refine T.rd1 (id := 14) mixed (fun _ => false) [8] (by kernel_rfl) fun K hK => ?_ | refine T.rd (id := 21) mixed (fun _ => false) [] (by kernel_rfl) fun K hK => ?_ | refine T.rd1 (id := 21) mixed (fun _ => false) [] (by kernel_rfl) fun K hK => ?_ | refine T.r0 fun K hK => ?_ | refine T.r1 fun K hK => ?_ | (refine ⟨by omega, ?_⟩) | refine T.ct rfl ?_ | refine T.cf rfl ?_ | refine T.seq ?_ | refine T.block ?_ | refine T.skip ?_ | refine T.exit ?_
      · obtain ⟨hun, hwl, hwn⟩ := hsm _ _ hwr
        have hpp := hw1 _ hwr
        simp only [Prod.mk.injEq] at hpp
        obtain ⟨rfl, rfl⟩ := hpp
        rw [hwr] at hw2
        simp only [Option.isSome_some] at hw2
        have htv := TypeValid_ok u (by omega)
        rcases hz with hsu | ⟨hsu, hex⟩
        · rw [hsu] at htv
          repeat' first | ((first | refine aops_end (hK _ ?_) | refine aopsD_end (hK _ ?_) | refine aopsF_end (hK _ ?_)); clear hK K) | ((first | refine aops_go ?_ | refine aopsD_go ?_ | refine aopsF_go ?_); simp [hlt, h14, hts]; (try (refine gen fun q hq => ?_; cases q <;> (try simp [hlt, h14, hts] at hq) <;> (try (have hh : True := hq; clear hh hq))))) | (refine wpcall_pure ?_ (hw2) ?_; (focus (solve | simp [hlt, h14, hts])); simp [hlt, h14, hts]; (try (refine gen fun q hq => ?_; cases q <;> (try simp [hlt, h14, hts] at hq) <;> (try (have hh : True := hq; clear hh hq))))) | (refine wpcall_pure rfl (htv) ?_; simp [hlt, h14, hts]; (try (refine gen fun q hq => ?_; cases q <;> (try simp [hlt, h14, hts] at hq) <;> (try (have hh : True := hq; clear hh hq))))) | (refine T.ret (Done.tup (Or.inr rfl) ?_) <;> simp [resAs, Try.results40] <;> omega) | refine T.rd (id := 3) mixed (fun _ => false) [8] (by kernel_rfl) fun K hK => ?_ | refine T.rd1 (id := 3) mixed (fun _ => false) [8] (by kernel_rfl) fun K hK => ?_ | refine T.rd (id := 14) mixed (fun _ => false) [8] (by kernel_rfl) fun K hK => ?_ | refine T.rd1 (id := 14) mixed (fun _ => false) [8] (by kernel_rfl) fun K hK => ?_ | refine T.rd (id := 21) mixed (fun _ => false) [] (by kernel_rfl) fun K hK => ?_ | refine T.rd1 (id := 21) mixed (fun _ => false) [] (by kernel_rfl) fun K hK => ?_ | refine T.r0 fun K hK => ?_ | refine T.r1 fun K hK => ?_ | (refine ⟨by omega, ?_⟩) | refine T.ct rfl ?_ | refine T.cf rfl ?_ | refine T.seq ?_ | refine T.block ?_ | refine T.skip ?_ | refine T.exit ?_
        · rw [hsu] at htv
          obtain ⟨q, wq, hq, e1, e2, e3, e4⟩ := exactS_no hex hwl
          have hql : q < ws.length := (List.getElem?_eq_some_iff.1 e1).1
          repeat' first | ((first | refine aops_end (hK _ ?_) | refine aopsD_end (hK _ ?_) | refine aopsF_end (hK _ ?_)); clear hK K) | ((first | refine aops_go ?_ | refine aopsD_go ?_ | refine aopsF_go ?_); simp [hlt, h14, hts]; (try (refine gen fun q hq => ?_; cases q <;> (try simp [hlt, h14, hts] at hq) <;> (try (have hh : True := hq; clear hh hq))))) | (refine wpcall_pure ?_ (hw2) ?_; (focus (solve | simp [hlt, h14, hts])); simp [hlt, h14, hts]; (try (refine gen fun q hq => ?_; cases q <;> (try simp [hlt, h14, hts] at hq) <;> (try (have hh : True := hq; clear hh hq))))) | (refine wpcall_pure rfl (htv) ?_; simp [hlt, h14, hts]; (try (refine gen fun q hq => ?_; cases q <;> (try simp [hlt, h14, hts] at hq) <;> (try (have hh : True := hq; clear hh hq))))) | refine T.rd (id := 3) mixed (fun _ => false) [8] (by kernel_rfl) fun K hK => ?_ | refine T.rd1 (id := 3) mixed (fun _ => false) [8] (by kernel_rfl) fun K hK => ?_ | refine T.rd (id := 14) mixed (fun _ => false) [8] (by kernel_rfl) fun K hK => ?_ | refine T.rd1 (id := 14) mixed (fun _ => false) [8] (by kernel_rfl) fun K hK => ?_ | refine T.rd (id := 21) mixed (fun _ => false) [] (by kernel_rfl) fun K hK => ?_ | refine T.rd1 (id := 21) mixed (fun _ => false) [] (by kernel_rfl) fun K hK => ?_ | refine T.r0 fun K hK => ?_ | refine T.r1 fun K hK => ?_ | (refine ⟨by omega, ?_⟩) | refine T.ct rfl ?_ | refine T.cf rfl ?_ | refine T.seq ?_ | refine T.block ?_ | refine T.skip ?_ | refine T.exit ?_
          refine T.loopK (α := Nat × List (List CV)) [4, 7, 13, 78, 79] (fun x => [(5, .b false), (80, .i x.1)]) (fun x => []) (fun x => x.2) (fun x A => A) (fun x => ws.length + 1 - x.1) (fun x => x.1 ≤ q) (by simp; rfl) (fun x hx => ?_) (0, []) (by simp) (by simp) (by simp) (by simp)
          obtain ⟨p, G2⟩ := x
          dsimp only at hx ⊢
          simp only [ups, List.set_cons_zero, List.set_cons_succ, List.cons_append, List.nil_append]
          have hpl : p < ws.length := by omega
          have hp2 : p < ts.length := by omega
          have hp4 : p < e.kids.length := by omega
          obtain ⟨w, hw⟩ := get_lt hpl
          obtain ⟨h, hh⟩ := get_lt hp2
          have hgw : ws[p] = w := by rw [List.getElem?_eq_getElem hpl] at hw; exact Option.some.inj hw
          have hgh : ts[p] = h := by rw [List.getElem?_eq_getElem hp2] at hh; exact Option.some.inj hh
          have hsame := TypeSame_ok w h (by have := hwn w (List.mem_of_getElem? hw); omega)
          by_cases hpq : p = q
          · subst hpq
            rw [e1] at hw; rw [e2] at hh
            cases hw; cases hh
            rw [e3] at hsame
            repeat' first | ((first | refine aops_end (hK _ ?_) | refine aopsD_end (hK _ ?_) | refine aopsF_end (hK _ ?_) | refine aopsG_end (hK _ ?_)); clear hK K) | ((first | refine aops_go ?_ | refine aopsD_go ?_ | refine aopsF_go ?_ | refine aopsG_go ?_); simp [hpl, hp2, hp4, hgw, hgh, hts]; (try simp (disch := omega) only [wrap64]); (try (refine gen fun q hq => ?_; cases q <;> (try simp [hpl, hp2, hp4, hgw, hgh, hts] at hq) <;> (try (have hh : True := hq; clear hh hq))))) | (refine wpcall_pure rfl (hsame) ?_; simp [hpl, hp2, hp4, hgw, hgh, hts]; (try simp (disch := omega) only [wrap64]); (try (refine gen fun q hq => ?_; cases q <;> (try simp [hpl, hp2, hp4, hgw, hgh, hts] at hq) <;> (try (have hh : True := hq; clear hh hq))))) | (refine T.ret (Done.tup (Or.inr rfl) ?_) <;> simp [resAs, Try.results40] <;> omega) | refine T.rd (id := 3) mixed (fun _ => false) [8] (by kernel_rfl) fun K hK => ?_ | refine T.rd1 (id := 3) mixed (fun _ => false) [8] (by kernel_rfl) fun K hK => ?_ | refine T.rd (id := 14) mixed (fun _ => false) [8] (by kernel_rfl) fun K hK => ?_ | refine T.rd1 (id := 14) mixed (fun _ => false) [8] (by kernel_rfl) fun K hK => ?_ | refine T.rd (id := 21) mixed (fun _ => false) [] (by kernel_rfl) fun K hK => ?_ | refine T.rd1 (id := 21) mixed (fun _ => false) [] (by kernel_rfl) fun K hK => ?_ | refine T.r0 fun K hK => ?_ | refine T.r1 fun K hK => ?_ | (refine ⟨by omega, ?_⟩) | refine T.ct rfl ?_ | refine T.cf rfl ?_ | refine T.seq ?_ | refine T.block ?_ | refine T.skip ?_ | refine T.exit ?_
          · obtain rfl := e4 p w h (by omega) hw hh
            rw [sameTy_refl] at hsame
            repeat' first | ((first | refine aops_end (hK _ ?_) | refine aopsD_end (hK _ ?_) | refine aopsF_end (hK _ ?_)); clear hK K) | ((first | refine aops_go ?_ | refine aopsD_go ?_ | refine aopsF_go ?_); simp [hpl, hp2, hp4, hgw, hgh, hts]; (try simp (disch := omega) only [wrap64]); (try (refine gen fun q hq => ?_; cases q <;> (try simp [hpl, hp2, hp4, hgw, hgh, hts] at hq) <;> (try (have hh : True := hq; clear hh hq))))) | (refine wpcall_pure rfl (hsame) ?_; simp [hpl, hp2, hp4, hgw, hgh, hts]; (try simp (disch := omega) only [wrap64]); (try (refine gen fun q hq => ?_; cases q <;> (try simp [hpl, hp2, hp4, hgw, hgh, hts] at hq) <;> (try (have hh : True := hq; clear hh hq))))) | refine T.rd (id := 3) mixed (fun _ => false) [8] (by kernel_rfl) fun K hK => ?_ | refine T.rd1 (id := 3) mixed (fun _ => false) [8] (by kernel_rfl) fun K hK => ?_ | refine T.rd (id := 14) mixed (fun _ => false) [8] (by kernel_rfl) fun K hK => ?_ | refine T.rd1 (id := 14) mixed (fun _ => false) [8] (by kernel_rfl) fun K hK => ?_ | refine T.rd (id := 21) mixed (fun _ => false) [] (by kernel_rfl) fun K hK => ?_ | refine T.rd1 (id := 21) mixed (fun _ => false) [] (by kernel_rfl) fun K hK => ?_ | refine T.r0 fun K hK => ?_ | refine T.r1 fun K hK => ?_ | (refine ⟨by omega, ?_⟩) | refine T.ct rfl ?_ | refine T.cf rfl ?_ | refine T.seq ?_ | refine T.block ?_ | refine T.skip ?_ | refine T.exit ?_
            refine ⟨(p + 1, _), by dsimp only; omega, by dsimp only; omega, (by simp only [ups, List.set_cons_zero, List.cons_append, List.append_assoc, List.nil_append]; rfl), ?_, ?_⟩
            · simp [eTy_def]
            · simp (disch := omega) [wrap64]

theorem castNoA_lam (ctx : List MBd) (e : MTm) (hk : 0 < e.kind ∧ e.kind < 15) (h5 : e.kind = 5) (ins : List MBd) (hins : ins = ctx ++ [⟨e.name, e.ty⟩]) (hl : ctx.length ≤ 1073741824) (hkl : e.kids.length ≤ 3)
    (hS : castTyS ins e.kids = none) (ih : ∀ u ∈ e.kids, CTy ins u ∧ CTn ins u) :
    ACalls Try.prog 40 [aBds ctx, aTm e] [] (.tup [aTy zeroT, .b false]) [] [] := by
  refine ACalls.of_body Try.func40 (by kernel_rfl) rfl (by kernel_rfl) (by simp [Try.ntmps40]) (by simp) ?_
  rw [Try.ntmps40]
  repeat' first | ((first | refine aops_end (hK _ ?_) | refine aopsD_end (hK _ ?_) | refine aopsF_end (hK _ ?_) | refine aopsG_end (hK _ ?_)); clear hK K) | ((first | refine aops_go ?_ | refine aopsD_go ?_ | refine aopsF_go ?_ | refine aopsG_go ?_); simp [h5]; (try (refine gen fun q hq => ?_; cases q <;> (try simp [h5] at hq) <;> (try (have hh : True := hq; clear hh hq))))) | (refine wpcall_own rfl (cloneBd_own ctx (by omega)) ?_; simp [h5]; (try (refine gen fun q hq => ?_; cases q <;> (try simp [h5] at hq) <;> (try (have hh : True := hq; clear hh hq))))) | (refine ⟨by omega, by omega, ?_⟩) | refine T.rdG (id := 3) mixed (fun _ => false) [1, 8] [3, 5, 6, 7] 2 [] [] (by kernel_rfl) fun K hK => ?_ | refine T.rdG1 (id := 3) mixed (fun _ => false) [1, 8] [3, 5, 6, 7] 2 [] [] (by kernel_rfl) fun K hK => ?_ | refine T.rd (id := 14) mixed (fun _ => false) [8] (by kernel_rfl) fun K hK => ?_ | refine T.rd1 (id := 14) mixed (fun _ => false) [8] (by kernel_rfl) fun K hK => ?_ | refine T.rd (id := 21) mixed (fun _ => false) [] (by kernel_rfl) fun K hK => ?_ | refine T.rd1 (id := 21) mixed (fun _ => false) [] (by kernel_rfl) fun K hK => ?_ | refine T.r0 fun K hK => ?_ | refine T.r1 fun K hK => ?_ | (refine ⟨by omega, ?_⟩) | refine T.ct rfl ?_ | refine T.cf rfl ?_ | refine T.seq ?_ | refine T.block ?_ | refine T.skip ?_ | refine T.exit ?_
  refine T.seal 6 0 (ctx.length + 1) (r := { sz := 3, ety := 77, rows := ins.map eBd, wr := true }) (by simp) (by simp [hins, eBd]) (by simp [hins]) ?_
  clear hins
  refine T.ownify 7 2 31 (by simp) ?_
  refine T.loopK (α := Nat × List MTy × List (List CV)) [0, 3, 4, 6, 31, 32] (fun x => [(5, .b false), (7, .c (.own 1 x.1)), (33, .i x.1)]) (fun x => []) (fun x => x.2.2) (fun x _ => [{ sz := 3, ety := 77, rows := ins.map eBd, wr := false },{ sz := 2, ety := 31, rows := x.2.1.map eTy, wr := true }]) (fun x => e.kids.length + 1 - x.1)
    (fun x => x.1 ≤ e.kids.length ∧ x.2.1.length = x.1 ∧ castTyS ins (e.kids.drop x.1) = none) (by simp; rfl) (fun x hx => ?_) (0, [], []) (by simp [hS]) (by simp) (by simp) (by simp)
  obtain ⟨p, ts, G⟩ := x
  obtain ⟨hi, hts, he⟩ := hx
  dsimp only at hi hts he ⊢
  simp only [ups, List.set_cons_zero, List.set_cons_succ, List.cons_append, List.nil_append]
  by_cases hlt : p < e.kids.length
  · obtain ⟨u, ht⟩ := get_lt hlt
    have htm : u ∈ e.kids := List.mem_of_getElem? ht
    have hgt : e.kids[p] = u := by rw [List.getElem?_eq_getElem hlt] at ht; exact Option.some.inj ht
    have hdr : e.kids.drop p = u :: e.kids.drop (p + 1) := by rw [List.drop_eq_getElem_cons hlt, hgt]
    rw [hdr] at he
    simp only [castTyS] at he
    cases hb : castTyM ins u with
    | none =>
      obtain ⟨tz, hu⟩ := (ih u htm).2 hb
      repeat' first | ((first | refine aops_end (hK _ ?_) | refine aopsD_end (hK _ ?_) | refine aopsF_end (hK _ ?_)); clear hK K) | ((first | refine aops_go ?_ | refine aopsD_go ?_ | refine aopsF_go ?_); simp [hlt, hgt, hts]; (try simp (disch := omega) only [wrap64]); (try (refine gen fun q hq => ?_; cases q <;> (try simp [hlt, hgt, hts] at hq) <;> (try (have hh : True := hq; clear hh hq))))) | (refine wpcall_pure rfl (hu) ?_; simp [hlt, hgt, hts]; (try simp (disch := omega) only [wrap64]); (try (refine gen fun q hq => ?_; cases q <;> (try simp [hlt, hgt, hts] at hq) <;> (try (have hh : True := hq; clear hh hq))))) | (refine ⟨by omega, by omega, ?_⟩) | (refine T.ret (Done.tup (Or.inr rfl) ?_) <;> simp [resAs, Try.results40] <;> omega) | refine T.rd (id := 3) mixed (fun _ => false) [8] (by kernel_rfl) fun K hK => ?_ | refine T.rd1 (id := 3) mixed (fun _ => false) [8] (by kernel_rfl) fun K hK => ?_ | refine T.rd (id := 14) mixed (fun _ => false) [8] (by kernel_rfl) fun K hK => ?_ | refine T.rd1 (id := 14) mixed (fun _ => false) [8] (by kernel_rfl) fun K hK => ?_ | refine T.rd (id := 21) mixed (fun _ => false) [] (by kernel_rfl) fun K hK => ?_ | refine T.rd1 (id := 21) mixed (fun _ => false) [] (by kernel_rfl) fun K hK => ?_ | refine T.r0 fun K hK => ?_ | refine T.r1 fun K hK => ?_ | (refine ⟨by omega, ?_⟩) | refine T.ct rfl ?_ | refine T.cf rfl ?_ | refine T.seq ?_ | refine T.block ?_ | refine T.skip ?_ | refine T.exit ?_
    | some tu =>
      have hu := (ih u htm).1 tu hb
      rw [hb] at he
      have he' : castTyS ins (e.kids.drop (p + 1)) = none := by
        cases hc : castTyS ins (e.kids.drop (p + 1)) with
        | none => rfl
        | some us => rw [hc] at he; simp at he
      repeat' first | ((first | refine aops_end (hK _ ?_) | refine aopsD_end (hK _ ?_) | refine aopsF_end (hK _ ?_)); clear hK K) | ((first | refine aops_go ?_ | refine aopsD_go ?_ | refine aopsF_go ?_); simp [hlt, hgt, hts]; (try simp (disch := omega) only [wrap64]); (try (refine gen fun q hq => ?_; cases q <;> (try simp [hlt, hgt, hts] at hq) <;> (try (have hh : True := hq; clear hh hq))))) | (refine wpcall_pure rfl (hu) ?_; simp [hlt, hgt, hts]; (try simp (disch := omega) only [wrap64]); (try (refine gen fun q hq => ?_; cases q <;> (try simp [hlt, hgt, hts] at hq) <;> (try (have hh : True := hq; clear hh hq))))) | (refine ⟨by omega, by omega, ?_⟩) | refine T.rd (id := 3) mixed (fun _ => false) [8] (by kernel_rfl) fun K hK => ?_ | refine T.rd1 (id := 3) mixed (fun _ => false) [8] (by kernel_rfl) fun K hK => ?_ | refine T.rd (id := 14) mixed (fun _ => false) [8] (by kernel_rfl) fun K hK => ?_ | refine T.rd1 (id := 14) mixed (fun _ => false) [8] (by kernel_rfl) fun K hK => ?_ | refine T.rd (id := 21) mixed (fun _ => false) [] (by kernel_rfl) fun K hK => ?_ | refine T.rd1 (id := 21) mixed (fun _ => false) [] (by kernel_rfl) fun K hK => ?_ | refine T.r0 fun K hK => ?_ | refine T.r1 fun K hK => ?_ | (refine ⟨by omega, ?_⟩) | refine T.ct rfl ?_ | refine T.cf rfl ?_ | refine T.seq ?_ | refine T.block ?_ | refine T.skip ?_ | refine T.exit ?_
      refine ⟨(p + 1, ts ++ [tu], _), by dsimp only; omega, ⟨by dsimp only; omega, by simp [hts], he'⟩, rfl, ?_, ?_⟩
      · simp [eTy_def]
      · simp (disch := omega) [wrap64]
  · have hp' : p = e.kids.length := by omega
    subst hp'
    simp [castTyS] at he

theorem castNoB_lam (ctx : List MBd) (e : MTm) (hk : 0 < e.kind ∧ e.kind < 15) (h5 : e.kind = 5) (ins : List MBd) (hins : ins = ctx ++ [⟨e.name, e.ty⟩]) (hl : ctx.length ≤ 1073741824) (hlen : kidsM e.kind = e.kids.length)
    (ts0 : List MTy) (hS : castTyS ins e.kids = some ts0) (hlts : ts0.length = e.kids.length) (hsh : ∀ u ∈ ts0, shapeTy 4 u = true) (ih : ∀ u ∈ e.kids, CTy ins u)
    (hsm : ∀ ws u, wantM ctx e.kind e.name e.ty ts0 = some (ws, u) → nTy u ≤ 1000 ∧ ws.length ≤ ts0.length ∧ ∀ w ∈ ws, nTy w ≤ 1000) (tz : MTy)
    (hz : (e.kind = 14 ∧ tz = e.ty ∧ ∃ x, ts0 = [x] ∧ sameTy x e.fr = false) ∨ (e.kind ≠ 14 ∧ tz = zeroT ∧ (wantM ctx e.kind e.name e.ty ts0 = none ∨ ∃ ws u, wantM ctx e.kind e.name e.ty ts0 = some (ws, u) ∧ (shapeTy 4 u = false ∨ shapeTy 4 u = true ∧ exactS ws ts0 = false)))) :
    ACalls Try.prog 40 [aBds ctx, aTm e] [] (.tup [aTy tz, .b false]) [] [] := by
  have hkl : e.kids.length ≤ 3 := by have := kidsM_le e.kind; omega
  refine ACalls.of_body Try.func40 (by kernel_rfl) rfl (by kernel_rfl) (by simp [Try.ntmps40]) (by simp) ?_
  rw [Try.ntmps40]
  repeat' first | ((first | refine aops_end (hK _ ?_) | refine aopsD_end (hK _ ?_) | refine aopsF_end (hK _ ?_) | refine aopsG_end (hK _ ?_)); clear hK K) | ((first | refine aops_go ?_ | refine aopsD_go ?_ | refine aopsF_go ?_ | refine aopsG_go ?_); simp [h5]; (try (refine gen fun q hq => ?_; cases q <;> (try simp [h5] at hq) <;> (try (have hh : True := hq; clear hh hq))))) | (refine wpcall_own rfl (cloneBd_own ctx (by omega)) ?_; simp [h5]; (try (refine gen fun q hq => ?_; cases q <;> (try simp [h5] at hq) <;> (try (have hh : True := hq; clear hh hq))))) | (refine ⟨by omega, by omega, ?_⟩) | refine T.rdG (id := 3) mixed (fun _ => false) [1, 8] [3, 5, 6, 7] 2 [] [] (by kernel_rfl) fun K hK => ?_ | refine T.rdG1 (id := 3) mixed (fun _ => false) [1, 8] [3, 5, 6, 7] 2 [] [] (by kernel_rfl) fun K hK => ?_ | refine T.rd (id := 14) mixed (fun _ => false) [8] (by kernel_rfl) fun K hK => ?_ | refine T.rd1 (id := 14) mixed (fun _ => false) [8] (by kernel_rfl) fun K hK => ?_ | refine T.rd (id := 21) mixed (fun _ => false) [] (by kernel_rfl) fun K hK => ?_ | refine T.rd1 (id := 21) mixed (fun _ => false) [] (by kernel_rfl) fun K hK => ?_ | refine T.r0 fun K hK => ?_ | refine T.r1 fun K hK => ?_ | (refine ⟨by omega, ?_⟩) | refine T.ct rfl ?_ | refine T.cf rfl ?_ | refine T.seq ?_ | refine T.block ?_ | refine T.skip ?_ | refine T.exit ?_
  refine T.seal 6 0 (ctx.length + 1) (r := { sz := 3, ety := 77, rows := ins.map eBd, wr := true }) (by simp) (by simp [hins, eBd]) (by simp [hins]) ?_
  clear hins
  refine T.ownify 7 2 31 (by simp) ?_
  refine T.loopK (α := Nat × List MTy × List (List CV)) [0, 3, 4, 6, 31, 32] (fun x => [(5, .b false), (7, .c (.own 1 x.1)), (33, .i x.1)]) (fun x => []) (fun x => x.2.2) (fun x _ => [{ sz := 3, ety := 77, rows := ins.map eBd, wr := false },{ sz := 2, ety := 31, rows := x.2.1.map eTy, wr := true }]) (fun x => e.kids.length + 1 - x.1)
    (fun x => x.1 ≤ e.kids.length ∧ x.2.1.length = x.1 ∧ (castTyS ins (e.kids.drop x.1)).map (x.2.1 ++ ·) = some ts0) (by simp; rfl) (fun x hx => ?_) (0, [], []) (by simp [hS]) (by simp) (by simp) (by simp)
  obtain ⟨p, ts, G⟩ := x
  obtain ⟨hi, hts, he⟩ := hx
  dsimp only at hi hts he ⊢
  simp only [ups, List.set_cons_zero, List.set_cons_succ, List.cons_append, List.nil_append]
  by_cases hlt : p < e.kids.length
  · obtain ⟨u, ht⟩ := get_lt hlt
    have htm : u ∈ e.kids := List.mem_of_getElem? ht
    have hgt : e.kids[p] = u := by rw [List.getElem?_eq_getElem hlt] at ht; exact Option.some.inj ht
    have hdr : e.kids.drop p = u :: e.kids.drop (p + 1) := by rw [List.drop_eq_getElem_cons hlt, hgt]
    rw [hdr] at he
    simp only [castTyS] at he
    cases hb : castTyM ins u with
    | none => rw [hb] at he; simp at he
    | some tu =>
      have hu := ih u htm tu hb
      rw [hb] at he
      have he' : (castTyS ins (e.kids.drop (p + 1))).map ((ts ++ [tu]) ++ ·) = some ts0 := by
        rw [← he]
        cases castTyS ins (e.kids.drop (p + 1)) <;> simp
      repeat' first | ((first | refine aops_end (hK _ ?_) | refine aopsD_end (hK _ ?_) | refine aopsF_end (hK _ ?_)); clear hK K) | ((first | refine aops_go ?_ | refine aopsD_go ?_ | refine aopsF_go ?_); simp [hlt, hgt, hts]; (try simp (disch := omega) only [wrap64]); (try (refine gen fun q hq => ?_; cases q <;> (try simp [hlt, hgt, hts] at hq) <;> (try (have hh : True := hq; clear hh hq))))) | (refine wpcall_pure rfl (hu) ?_; simp [hlt, hgt, hts]; (try simp (disch := omega) only [wrap64]); (try (refine gen fun q hq => ?_; cases q <;> (try simp [hlt, hgt, hts] at hq) <;> (try (have hh : True := hq; clear hh hq))))) | (refine ⟨by omega, by omega, ?_⟩) | refine T.rd (id := 3) mixed (fun _ => false) [8] (by kernel_rfl) fun K hK => ?_ | refine T.rd1 (id := 3) mixed (fun _ => false) [8] (by kernel_rfl) fun K hK => ?_ | refine T.rd (id := 14) mixed (fun _ => false) [8] (by kernel_rfl) fun K hK => ?_ | refine T.rd1 (id := 14) mixed (fun _ => false) [8] (by kernel_rfl) fun K hK => ?_ | refine T.rd (id := 21) mixed (fun _ => false) [] (by kernel_rfl) fun K hK => ?_ | refine T.rd1 (id := 21) mixed (fun _ => false) [] (by kernel_rfl) fun K hK => ?_ | refine T.r0 fun K hK => ?_ | refine T.r1 fun K hK => ?_ | (refine ⟨by omega, ?_⟩) | refine T.ct rfl ?_ | refine T.cf rfl ?_ | refine T.seq ?_ | refine T.block ?_ | refine T.skip ?_ | refine T.exit ?_
      refine ⟨(p + 1, ts ++ [tu], _), by dsimp only; omega, ⟨by dsimp only; omega, by simp [hts], he'⟩, rfl, ?_, ?_⟩
      · simp [eTy_def]
      · simp (disch := omega) [wrap64]
  · have hp' : p = e.kids.length := by omega
    subst hp'
    simp [castTyS] at he
    subst he
    rcases hz with ⟨h14, rfl, x, rfl, hsx⟩ | ⟨h14, rfl, hz⟩
    · exact absurd h14 (by omega)
    · obtain ⟨ws', t', hw1, hw2⟩ := wanted_ok ctx (by omega) e ts ⟨hk.1, by omega⟩ (by rw [hlts]; exact hlen.symm) hsh
      rcases hz with hwr | ⟨ws, u, hwr, hz⟩
      · rw [hwr] at hw2
        simp only [Option.isSome_none] at hw2
        repeat' first | ((first | refine aops_end (hK _ ?_) | refine aopsD_end (hK _ ?_) | refine aopsF_end (hK _ ?_)); clear hK K) | ((first | refine aops_go ?_ | refine aopsD_go ?_ | refine aopsF_go ?_); simp [hlt, h14, hts, h5]; (try (refine gen fun q hq => ?_; cases q <;> (try simp [hlt, h14, hts, h5] at hq) <;> (try (have hh : True := hq; clear hh hq))))) | (refine wpcall_pure ?_ (hw2) ?_; (focus (solve | simp [hlt, h14, hts, h5])); simp [hlt, h14, hts, h5]; (try (refine gen fun q hq => ?_; cases q <;> (try simp [hlt, h14, hts, h5] at hq) <;> (try (have hh : True := hq; clear hh hq))))) | (refine T.ret (Done.tup (Or.inr rfl) ?_) <;> simp [resAs, Try.results40] <;> omega) | refine T.rd (id := 3) mixed (fun _ => false) [8] (by kernel_rfl) fun K hK => ?_ | refine T.rd1 (id := 3) mixed (fun _ => false) [8] (by kernel_rfl) fun K hK => ?_ | refine T.rd (id := 14) mixed (fun _ => false) [8] (by kernel_rfl) fun K hK => ?_ | refine T.rd1 (id := 14) mixed (fun _ => false) [8] (by kernel_rfl) fun K hK => ?_ | refine T.rd (id := 21) mixed (fun _ => false) [] (by kernel_rfl) fun K hK => ?_ | refine T.rd1 (id := 21) mixed (fun _ => false) [] (by kernel_rfl) fun K hK => ?_ | refine T.r0 fun K hK => ?_ | refine T.r1 fun K hK => ?_ | (refine ⟨by omega, ?_⟩) | refine T.ct rfl ?_ | refine T.cf rfl ?_ | refine T.seq ?_ | refine T.block ?_ | refine T.skip ?_ | refine T.exit ?_
      · obtain ⟨hun, hwl, hwn⟩ := hsm _ _ hwr
        have hpp := hw1 _ hwr
        simp only [Prod.mk.injEq] at hpp
        obtain ⟨rfl, rfl⟩ := hpp
        rw [hwr] at hw2
        simp only [Option.isSome_some] at hw2
        have htv := TypeValid_ok u (by omega)
        rcases hz with hsu | ⟨hsu, hex⟩
        · rw [hsu] at htv
          repeat' first | ((first | refine aops_end (hK _ ?_) | refine aopsD_end (hK _ ?_) | refine aopsF_end (hK _ ?_)); clear hK K) | ((first | refine aops_go ?_ | refine aopsD_go ?_ | refine aopsF_go ?_); simp [hlt, h14, hts, h5]; (try (refine gen fun q hq => ?_; cases q <;> (try simp [hlt, h14, hts, h5] at hq) <;> (try (have hh : True := hq; clear hh hq))))) | (refine wpcall_pure ?_ (hw2) ?_; (focus (solve | simp [hlt, h14, hts, h5])); simp [hlt, h14, hts, h5]; (try (refine gen fun q hq => ?_; cases q <;> (try simp [hlt, h14, hts, h5] at hq) <;> (try (have hh : True := hq; clear hh hq))))) | (refine wpcall_pure rfl (htv) ?_; simp [hlt, h14, hts, h5]; (try (refine gen fun q hq => ?_; cases q <;> (try simp [hlt, h14, hts, h5] at hq) <;> (try (have hh : True := hq; clear hh hq))))) | (refine T.ret (Done.tup (Or.inr rfl) ?_) <;> simp [resAs, Try.results40] <;> omega) | refine T.rd (id := 3) mixed (fun _ => false) [8] (by kernel_rfl) fun K hK => ?_ | refine T.rd1 (id := 3) mixed (fun _ => false) [8] (by kernel_rfl) fun K hK => ?_ | refine T.rd (id := 14) mixed (fun _ => false) [8] (by kernel_rfl) fun K hK => ?_ | refine T.rd1 (id := 14) mixed (fun _ => false) [8] (by kernel_rfl) fun K hK => ?_ | refine T.rd (id := 21) mixed (fun _ => false) [] (by kernel_rfl) fun K hK => ?_ | refine T.rd1 (id := 21) mixed (fun _ => false) [] (by kernel_rfl) fun K hK => ?_ | refine T.r0 fun K hK => ?_ | refine T.r1 fun K hK => ?_ | (refine ⟨by omega, ?_⟩) | refine T.ct rfl ?_ | refine T.cf rfl ?_ | refine T.seq ?_ | refine T.block ?_ | refine T.skip ?_ | refine T.exit ?_
        · rw [hsu] at htv
          obtain ⟨q, wq, hq, e1, e2, e3, e4⟩ := exactS_no hex hwl
          have hql : q < ws.length := (List.getElem?_eq_some_iff.1 e1).1
          repeat' first | ((first | refine aops_end (hK _ ?_) | refine aopsD_end (hK _ ?_) | refine aopsF_end (hK _ ?_)); clear hK K) | ((first | refine aops_go ?_ | refine aopsD_go ?_ | refine aopsF_go ?_); simp [hlt, h14, hts, h5]; (try (refine gen fun q hq => ?_; cases q <;> (try simp [hlt, h14, hts, h5] at hq) <;> (try (have hh : True := hq; clear hh hq))))) | (refine wpcall_pure ?_ (hw2) ?_; (focus (solve | simp [hlt, h14, hts, h5])); simp [hlt, h14, hts, h5]; (try (refine gen fun q hq => ?_; cases q <;> (try simp [hlt, h14, hts, h5] at hq) <;> (try (have hh : True := hq; clear hh hq))))) | (refine wpcall_pure rfl (htv) ?_; simp [hlt, h14, hts, h5]; (try (refine gen fun q hq => ?_; cases q <;> (try simp [hlt, h14, hts, h5] at hq) <;> (try (have hh : True := hq; clear hh hq))))) | refine T.rd (id := 3) mixed (fun _ => false) [8] (by kernel_rfl) fun K hK => ?_ | refine T.rd1 (id := 3) mixed (fun _ => false) [8] (by kernel_rfl) fun K hK => ?_ | refine T.rd (id := 14) mixed (fun _ => false) [8] (by kernel_rfl) fun K hK => ?_ | refine T.rd1 (id := 14) mixed (fun _ => false) [8] (by kernel_rfl) fun K hK => ?_ | refine T.rd (id := 21) mixed (fun _ => false) [] (by kernel_rfl) fun K hK => ?_ | refine T.rd1 (id := 21) mixed (fun _ => false) [] (by kernel_rfl) fun K hK => ?_ | refine T.r0 fun K hK => ?_ | refine T.r1 fun K hK => ?_ | (refine ⟨by omega, ?_⟩) | refine T.ct rfl ?_ | refine T.cf rfl ?_ | refine T.seq ?_ | refine T.block ?_ | refine T.skip ?_ | refine T.exit ?_
          refine T.loopK (α := Nat × List (List CV)) [4, 7, 13, 78, 79] (fun x => [(5, .b false), (80, .i x.1)]) (fun x => []) (fun x => x.2) (fun x A => A) (fun x => ws.length + 1 - x.1) (fun x => x.1 ≤ q) (by simp; rfl) (fun x hx => ?_) (0, []) (by simp) (by simp) (by simp) (by simp)
          obtain ⟨p, G2⟩ := x
          dsimp only at hx ⊢
          simp only [ups, List.set_cons_zero, List.set_cons_succ, List.cons_append, List.nil_append]
          have hpl : p < ws.length := by omega
          have hp2 : p < ts.length := by omega
          have hp4 : p < e.kids.length := by omega
          obtain ⟨w, hw⟩ := get_lt hpl
          obtain ⟨h, hh⟩ := get_lt hp2
          have hgw : ws[p] = w := by rw [List.getElem?_eq_getElem hpl] at hw; exact Option.some.inj hw
          have hgh : ts[p] = h := by rw [List.getElem?_eq_getElem hp2] at hh; exact Option.some.inj hh
          have hsame := TypeSame_ok w h (by have := hwn w (List.mem_of_getElem? hw); omega)
          by_cases hpq : p = q
          · subst hpq
            rw [e1] at hw; rw [e2] at hh
            cases hw; cases hh
            rw [e3] at hsame
            repeat' first | ((first | refine aops_end (hK _ ?_) | refine aopsD_end (hK _ ?_) | refine aopsF_end (hK _ ?_) | refine aopsG_end (hK _ ?_)); clear hK K) | ((first | refine aops_go ?_ | refine aopsD_go ?_ | refine aopsF_go ?_ | refine aopsG_go ?_); simp [hpl, hp2, hp4, hgw, hgh, hts]; (try simp (disch := omega) only [wrap64]); (try (refine gen fun q hq => ?_; cases q <;> (try simp [hpl, hp2, hp4, hgw, hgh, hts] at hq) <;> (try (have hh : True := hq; clear hh hq))))) | (refine wpcall_pure rfl (hsame) ?_; simp [hpl, hp2, hp4, hgw, hgh, hts]; (try simp (disch := omega) only [wrap64]); (try (refine gen fun q hq => ?_; cases q <;> (try simp [hpl, hp2, hp4, hgw, hgh, hts] at hq) <;> (try (have hh : True := hq; clear hh hq))))) | (refine T.ret (Done.tup (Or.inr rfl) ?_) <;> simp [resAs, Try.results40] <;> omega) | refine T.rd (id := 3) mixed (fun _ => false) [8] (by kernel_rfl) fun K hK => ?_ | refine T.rd1 (id := 3) mixed (fun _ => false) [8] (by kernel_rfl) fun K hK => ?_ | refine T.rd (id := 14) mixed (fun _ => false) [8] (by kernel_rfl) fun K hK => ?_ | refine T.rd1 (id := 14) mixed (fun _ => false) [8] (by kernel_rfl) fun K hK => ?_ | refine T.rd (id := 21) mixed (fun _ => false) [] (by kernel_rfl) fun K hK => ?_ | refine T.rd1 (id := 21) mixed (fun _ => false) [] (by kernel_rfl) fun K hK => ?_ | refine T.r0 fun K hK => ?_ | refine T.r1 fun K hK => ?_ | (refine ⟨by omega, ?_⟩) | refine T.ct rfl ?_ | refine T.cf rfl ?_ | refine T.seq ?_ | refine T.block ?_ | refine T.skip ?_ | refine T.exit ?_
          · obtain rfl := e4 p w h (by omega) hw hh
            rw [sameTy_refl] at hsame
            repeat' first | ((first | refine aops_end (hK _ ?_) | refine aopsD_end (hK _ ?_) | refine aopsF_end (hK _ ?_)); clear hK K) | ((first | refine aops_go ?_ | refine aopsD_go ?_ | refine aopsF_go ?_); simp [hpl, hp2, hp4, hgw, hgh, hts]; (try simp (disch := omega) only [wrap64]); (try (refine gen fun q hq => ?_; cases q <;> (try simp [hpl, hp2, hp4, hgw, hgh, hts] at hq) <;> (try (have hh : True := hq; clear hh hq))))) | (refine wpcall_pure rfl (hsame) ?_; simp [hpl, hp2, hp4, hgw, hgh, hts]; (try simp (disch := omega) only [wrap64]); (try (refine gen fun q hq => ?_; cases q <;> (try simp [hpl, hp2, hp4, hgw, hgh, hts] at hq) <;> (try (have hh : True := hq; clear hh hq))))) | refine T.rd (id := 3) mixed (fun _ => false) [8] (by kernel_rfl) fun K hK => ?_ | refine T.rd1 (id := 3) mixed (fun _ => false) [8] (by kernel_rfl) fun K hK => ?_ | refine T.rd (id := 14) mixed (fun _ => false) [8] (by kernel_rfl) fun K hK => ?_ | refine T.rd1 (id := 14) mixed (fun _ => false) [8] (by kernel_rfl) fun K hK => ?_ | refine T.rd (id := 21) mixed (fun _ => false) [] (by kernel_rfl) fun K hK => ?_ | refine T.rd1 (id := 21) mixed (fun _ => false) [] (by kernel_rfl) fun K hK => ?_ | refine T.r0 fun K hK => ?_ | refine T.r1 fun K hK => ?_ | (refine ⟨by omega, ?_⟩) | refine T.ct rfl ?_ | refine T.cf rfl ?_ | refine T.seq ?_ | refine T.block ?_ | refine T.skip ?_ | refine T.exit ?_
            refine ⟨(p + 1, _), by dsimp only; omega, by dsimp only; omega, (by simp only [ups, List.set_cons_zero, List.cons_append, List.append_assoc, List.nil_append]; rfl), ?_, ?_⟩
            · simp [eTy_def]
            · simp (disch := omega) [wrap64]

theorem castType_no : ∀ (e : MTm) (d : Nat) (ctx : List MBd), shapeTm 13 d e = true → ctx.length + d ≤ 1073741824 → okCtx ctx → CTn ctx e := by
  intro e
  induction e using MTm.ind with
  | h e ih =>
    intro d ctx hs hl hc hno
    have hs0 := hs
    obtain ⟨d', rfl, hne, hlen, hown, hkids⟩ := shapeTm_kids hs
    have hb := kidsM_lt e.kind _ hlen
    have hil : (insideM ctx e).length ≤ ctx.length + 1 := by simp only [insideM]; split <;> simp
    have hty := own_typed hown
    have hci : okCtx (insideM ctx e) := by
      simp only [insideM]
      split
      · rename_i h5
        intro b hb
        rcases List.mem_append.1 hb with h | h
        · exact hc b h
        · simp at h; subst h; exact hty (by simp [typedM, h5])
      · exact hc
    have hih1 : ∀ u ∈ e.kids, CTy (insideM ctx e) u := fun u hu => castType_ok u d' (insideM ctx e) (hkids u hu) (by omega)
    have hih2 : ∀ u ∈ e.kids, CTn (insideM ctx e) u := fun u hu => ih u hu d' (insideM ctx e) (hkids u hu) (by omega) hci
    have hkl : e.kids.length ≤ 3 := by have := kidsM_le e.kind; omega
    rw [castTyM_def] at hno
    cases hS : castTyS (insideM ctx e) e.kids with
    | none =>
      refine ⟨zeroT, ?_⟩
      by_cases h5 : e.kind = 5
      · exact castNoA_lam ctx e hb h5 (insideM ctx e) (by simp [insideM, h5]) (by omega) hkl hS (fun u hu => ⟨hih1 u hu, hih2 u hu⟩)
      · rw [show insideM ctx e = ctx by simp [insideM, h5]] at hS hih1 hih2
        exact castNoA_non ctx e hb h5 (by omega) hkl hS (fun u hu => ⟨hih1 u hu, hih2 u hu⟩)
    | some ts0 =>
      rw [hS] at hno
      simp only at hno
      have hlts := castTyS_len hS
      have hsh := castTyS_shape hkids hS
      have hsm : ∀ ws u, wantM ctx e.kind e.name e.ty ts0 = some (ws, u) → nTy u ≤ 1000 ∧ ws.length ≤ ts0.length ∧ ∀ w ∈ ws, nTy w ≤ 1000 := fun ws u h => ⟨want_small hc hty hsh h, want_len h, want_smallW hty hsh h⟩
      obtain ⟨tz, hz⟩ : ∃ tz, (e.kind = 14 ∧ tz = e.ty ∧ ∃ x, ts0 = [x] ∧ sameTy x e.fr = false) ∨ (e.kind ≠ 14 ∧ tz = zeroT ∧ (wantM ctx e.kind e.name e.ty ts0 = none ∨ ∃ ws u, wantM ctx e.kind e.name e.ty ts0 = some (ws, u) ∧ (shapeTy 4 u = false ∨ shapeTy 4 u = true ∧ exactS ws ts0 = false))) := by
        by_cases h14 : e.kind = 14
        · rw [if_pos h14] at hno
          have h1 : e.kids.length = 1 := by rw [h14] at hlen; simp [kidsM] at hlen; omega
          refine ⟨e.ty, .inl ⟨h14, rfl, ?_⟩⟩
          match ts0, hlts, hno with
          | [x], _, hno =>
            simp only at hno
            split at hno
            · simp at hno
            · rename_i hq; exact ⟨x, rfl, by simpa using hq⟩
          | [], hlts, _ => simp at hlts; omega
          | _ :: _ :: _, hlts, _ => simp at hlts; omega
        · rw [if_neg h14] at hno
          refine ⟨zeroT, .inr ⟨h14, rfl, ?_⟩⟩
          cases hw : wantM ctx e.kind e.name e.ty ts0 with
          | none => exact .inl rfl
          | some p =>
            obtain ⟨ws, u⟩ := p
            rw [hw] at hno
            simp only at hno
            split at hno
            · simp at hno
            · rename_i hq
              refine .inr ⟨ws, u, rfl, ?_⟩
              cases h1 : shapeTy 4 u with
              | false => exact .inl rfl
              | true =>
                refine .inr ⟨rfl, ?_⟩
                cases h2 : exactS ws ts0 with
                | false => rfl
                | true => exact absurd ⟨h1, h2⟩ hq
      refine ⟨tz, ?_⟩
      by_cases h5 : e.kind = 5
      · exact castNoB_lam ctx e hb h5 (insideM ctx e) (by simp [insideM, h5]) (by omega) hlen ts0 hS hlts hsh hih1 hsm tz hz
      · rw [show insideM ctx e = ctx by simp [insideM, h5]] at hS hih1
        exact castNoB_non ctx e hb h5 (by omega) hlen ts0 hS hlts hsh hih1 hsm tz hz

theorem CastTypeOf_ok (e : MTm) (hn : nTm e ≤ 1099511627776) : ACalls Try.prog 21 [aTm e] [] (.tup (tyRes (castTypeM e))) [] [] := by
  have h1 := CastValid_ok e hn
  rw [castTypeM]
  cases hv : castValidM e with
  | false =>
    rw [hv] at h1
    simp only [Bool.false_eq_true, if_false]
    refine ACalls.of_body Try.func21 (by kernel_rfl) rfl (by kernel_rfl) (by simp [Try.ntmps21]) (by simp) ?_
    rw [Try.ntmps21]
    repeat' first | ((first | refine aops_end (hK _ ?_) | refine aopsD_end (hK _ ?_) | refine aopsF_end (hK _ ?_)); clear hK K) | ((first | refine aops_go ?_ | refine aopsD_go ?_ | refine aopsF_go ?_); simp; (try (refine gen fun q hq => ?_; cases q <;> (try simp at hq) <;> (try (have hh : True := hq; clear hh hq))))) | (refine wpcall_pure rfl (h1) ?_; simp; (try (refine gen fun q hq => ?_; cases q <;> (try simp at hq) <;> (try (have hh : True := hq; clear hh hq))))) | (refine T.ret (Done.tup (Or.inr rfl) ?_) <;> simp [resAs, Try.results21] <;> omega) | refine T.r0 fun K hK => ?_ | refine T.r1 fun K hK => ?_ | (refine ⟨by omega, ?_⟩) | refine T.ct rfl ?_ | refine T.cf rfl ?_ | refine T.seq ?_ | refine T.block ?_ | refine T.skip ?_ | refine T.exit ?_
  | true =>
    simp only [if_true]
    have hs : shapeTm 13 40 e = true := by simp only [castValidM, Bool.and_eq_true] at hv; exact hv.1
    cases hr : castTyM [] e with
    | some t => exact CastTypeOf_some e t hn hv hr
    | none =>
      rw [hv] at h1
      obtain ⟨tz, h2⟩ := castType_no e 40 [] hs (by simp) (by intro b hb; simp at hb) hr
      simp only [tyRes]
      refine ACalls.of_body Try.func21 (by kernel_rfl) rfl (by kernel_rfl) (by simp [Try.ntmps21]) (by simp) ?_
      rw [Try.ntmps21]
      repeat' first | ((first | refine aops_end (hK _ ?_) | refine aopsD_end (hK _ ?_) | refine aopsF_end (hK _ ?_)); clear hK K) | ((first | refine aops_go ?_ | refine aopsD_go ?_ | refine aopsF_go ?_); simp; (try (refine gen fun q hq => ?_; cases q <;> (try simp at hq) <;> (try (have hh : True := hq; clear hh hq))))) | (refine wpcall_pure rfl (h1) ?_; simp; (try (refine gen fun q hq => ?_; cases q <;> (try simp at hq) <;> (try (have hh : True := hq; clear hh hq))))) | (refine wpcall_pure ?_ (h2) ?_; (focus (solve | simp)); simp; (try (refine gen fun q hq => ?_; cases q <;> (try simp at hq) <;> (try (have hh : True := hq; clear hh hq))))) | (refine T.ret (Done.tup (Or.inr rfl) ?_) <;> simp [resAs, Try.results21] <;> omega) | refine T.r0 fun K hK => ?_ | refine T.r1 fun K hK => ?_ | (refine ⟨by omega, ?_⟩) | refine T.ct rfl ?_ | refine T.cf rfl ?_ | refine T.seq ?_ | refine T.block ?_ | refine T.skip ?_ | refine T.exit ?_
end Go.Proofs.Ytbakdfnmippcoaa

namespace Go.Proofs.Ytbakdfnmippcoaa
attribute [-simp] Go.Av.astepJ Go.Av.relC Go.Av.relL Go.Av.relV Go.Av.relVs Go.Av.callJ
open Go Go.Av
attribute [local irreducible] T ACalls TX EX LX Draws Some_ ACallsX eTy eTm MTy.kind MTy.kids MTm.kind MTm.name MTm.num MTm.ty MTm.fr MTm.label MTm.kids
attribute [local simp] eTy_def eTm_def
set_option maxHeartbeats 16000000
set_option maxRecDepth 8000
attribute [local simp] Option.bind

abbrev ruleR (o : Option MTm) : List AV := match o with
  | some x => [aTm x, .i 1]
  | none => [aTm zeroE, .i 3]

end Go.Proofs.Ytbakdfnmippcoaa

namespace Go.Proofs.Ytbakdfnmippcoaa
attribute [-simp] Go.Av.astepJ Go.Av.relC Go.Av.relL Go.Av.relV Go.Av.relVs Go.Av.callJ
open Go Go.Av
attribute [local irreducible] T ACalls TX EX LX Draws Some_ ACallsX eTy eTm MTy.kind MTy.kids MTm.kind MTm.name MTm.num MTm.ty MTm.fr MTm.label MTm.kids
attribute [local simp] eTy_def eTm_def
set_option maxHeartbeats 16000000
set_option maxRecDepth 8000
attribute [local simp] Option.bind

abbrev stepR (p : MTm × Int × Int) : List AV := [aTm p.1, .i p.2.1, .i p.2.2]

abbrev runR (p : MTm × Int × Int × Int) : List AV := [aTm p.1, .i p.2.1, .i p.2.2.1, .i p.2.2.2]

end Go.Proofs.Ytbakdfnmippcoaa
