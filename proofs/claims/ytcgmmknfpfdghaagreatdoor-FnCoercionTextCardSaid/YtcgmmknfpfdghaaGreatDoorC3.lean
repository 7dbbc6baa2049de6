/- A part of the library of this seat. -/
import Derived.Test.YtcgmmknfpfdghaaGreatDoorC2
set_option linter.unusedVariables false
set_option linter.unusedSimpArgs false
namespace Go.Av
open Go

section
variable {P : Program} {s : St}
theorem gdo_mk {all : Array Oper} {o : Oper} {y n : Prop} (h : gdo all s o True True) (hy : gw all s o = true -> y) (hn : gw all s o = false -> n) : gdo all s o y n := by
 unfold gdo at h ⊢
 unfold gw at hy hn
 cases hg : o.guard with
 | none => rw [hg] at hy; exact hy rfl
 | some p =>
  obtain ⟨j, want⟩ := p
  rw [hg] at h hy hn
  refine onv_elim h fun oj h1 h2 => onv_elim h2 fun t h3 h4 => onv_elim h4 fun x h5 h6 => ?_
  simp only [h1, Option.bind_some, h3, h5] at hy hn
  show onv (all[j]?) _
  rw [h1]
  show onv oj.dst _
  rw [h3]
  show onv (look s.fr t) _
  rw [h5]
  simp only [onv]
  split at h6
  ·rename_i b
   simp only [beq_iff_eq, beq_eq_false_iff_ne] at hy hn
   exact ⟨fun e => hy e, fun e => hn (by subst e; cases want <;> decide)⟩
  ·exact hn rfl
  ·exact h6.elim

theorem aops_det {all : Array Oper} {ow : Nat -> Bool} : ∀ (ops : List Oper) (i : Nat) (s : St) {K : St -> Prop}, aops P all ow K i ops s -> ∃ s', K s' /\ ∀ K' : St -> Prop, K' s' -> aops P all ow K' i ops s
 | [], i, s, K, h => ⟨s, h, fun K' h => h⟩
 | o :: rest, i, s, K, h => by
  simp only [aops] at h
  obtain ⟨h0, hg⟩ := gdo_mono h
  rcases h0 with ⟨h1, h2⟩ | ⟨h1, h2⟩
  ·obtain ⟨x, V, A, h3, h4⟩ := astep_det h2
   obtain ⟨s', h5, h6⟩ := aops_det rest (i + 1) _ h3
   refine ⟨s', h5, fun K' hK' => ?_⟩
   simp only [aops]
   exact gdo_mk hg (fun _ => h4 _ (h6 K' hK')) (fun e => by rw [h1] at e; cases e)
  ·obtain ⟨s', h5, h6⟩ := aops_det rest (i + 1) _ h2
   refine ⟨s', h5, fun K' hK' => ?_⟩
   simp only [aops]
   exact gdo_mk hg (fun e => by rw [h1] at e; cases e) (fun _ => h6 K' hK')

theorem aopsD_det {all : Array Oper} {ow : Nat -> Bool} {ws : List Nat} : ∀ (ops : List Oper) (i : Nat) (s : St) {K : St -> Prop}, aopsD P all ow ws K i ops s -> ∃ s', K s' /\ ∀ K' : St -> Prop, K' s' -> aopsD P all ow ws K' i ops s
 | [], i, s, K, h => ⟨s, h, fun K' h => h⟩
 | o :: rest, i, s, K, h => by
  simp only [aopsD] at h
  obtain ⟨h0, hg⟩ := gdo_mono h
  rcases h0 with ⟨h1, h2⟩ | ⟨h1, h2⟩
  ·obtain ⟨x, V, A, ⟨h3, h3'⟩, h4⟩ := astep_det h2
   obtain ⟨s', h5, h6⟩ := aopsD_det rest (i + 1) _ h3'
   refine ⟨s', h5, fun K' hK' => ?_⟩
   simp only [aopsD]
   exact gdo_mk hg (fun _ => h4 _ ⟨h3, h6 K' hK'⟩) (fun e => by rw [h1] at e; cases e)
  ·obtain ⟨s', h5, h6⟩ := aopsD_det rest (i + 1) _ h2
   refine ⟨s', h5, fun K' hK' => ?_⟩
   simp only [aopsD]
   exact gdo_mk hg (fun e => by rw [h1] at e; cases e) (fun _ => h6 K' hK')

theorem aopsF_det {all : Array Oper} {ow : Nat -> Bool} {ws fs : List Nat} {m : Nat} {ex : List Nat} {V0 : List (List CV)} {A0 : List Arr} : ∀ (ops : List Oper) (i : Nat) (s : St) {K : St -> Prop}, aopsF P all ow ws fs m ex V0 A0 K i ops s -> ∃ s', K s' /\ ∀ K' : St -> Prop, K' s' -> aopsF P all ow ws fs m ex V0 A0 K' i ops s
 | [], i, s, K, h => ⟨s, h, fun K' h => h⟩
 | o :: rest, i, s, K, h => by
  simp only [aopsF] at h
  obtain ⟨h0, hg⟩ := gdo_mono h
  rcases h0 with ⟨h1, h2⟩ | ⟨h1, h2⟩
  ·obtain ⟨x, V, A, ⟨h3, h3', h3'', h3c⟩, h4⟩ := astep_det h2
   obtain ⟨s', h5, h6⟩ := aopsF_det rest (i + 1) _ h3c
   refine ⟨s', h5, fun K' hK' => ?_⟩
   simp only [aopsF]
   exact gdo_mk hg (fun _ => h4 _ ⟨h3, h3', h3'', h6 K' hK'⟩) (fun e => by rw [h1] at e; cases e)
  ·obtain ⟨s', h5, h6⟩ := aopsF_det rest (i + 1) _ h2
   refine ⟨s', h5, fun K' hK' => ?_⟩
   simp only [aopsF]
   exact gdo_mk hg (fun e => by rw [h1] at e; cases e) (fun _ => h6 K' hK')
end

section
variable {P : Program} {n : Nat} {ι : Type} {Q : ι -> Exit -> St -> Prop} {s s' : St}

def TX (P : Program) (n : Nat) (c : Code) (Q : ι -> Exit -> St -> Prop) (s : St) : Prop := ∃ x, T P n c (Q x) s
def EX (Q : ι -> Exit -> St -> Prop) (e : Exit) (s : St) : Prop := ∃ x, Q x e s

theorem TX.seq {x y : Code} (h : TX P n x (fun i => Then P n y (Q i)) s) : TX P n (.seq x y) Q s := h.imp fun _ h => T.seq h
theorem TX.skip (h : EX Q .normal s) : TX P n .skip Q s := h.imp fun _ h => T.skip h
theorem TX.exit {id : Nat} (h : EX Q (.exit id) s) : TX P n (.exit id) Q s := h.imp fun _ h => T.exit h
theorem TX.ret (h : EX Q .ret s) : TX P n .ret Q s := h.imp fun _ h => T.ret h
theorem TX.block {id : Nat} {c : Code} (h : TX P n c (fun i => InBlock id (Q i)) s) : TX P n (.block id c) Q s := h.imp fun _ h => T.block h
theorem TX.cond {c : Operand} {x y : Code} {b : Bool} (hc : aval s c = some (.c (.d (.bool b)))) (ht : b = true -> TX P n x Q s) (hf : b = false -> TX P n y Q s) : TX P n (.cond c x y) Q s := by
 cases b
 ·exact (hf rfl).imp fun _ h => T.cond hc (fun e => by cases e) (fun _ => h)
 ·exact (ht rfl).imp fun _ h => T.cond hc (fun _ => h) (fun e => by cases e)

section
variable {id : Nat} {l : List Oper} {y : Code}
theorem TX.rs (ow : Nat -> Bool) (h : ∀ K : St -> Prop, (∀ s', TX P n y Q s' -> K s') -> Ops P l.toArray ow K 0 l s) : TX P n (.seq (.region id l.toArray false) y) Q s := by
 obtain ⟨s', ⟨x, hx⟩, h2⟩ := aops_det l 0 s (h (fun s' => TX P n y Q s') fun _ h => h).run
 exact ⟨x, T.rs ow fun K hK => ⟨h2 _ (hK _ hx)⟩⟩
theorem TX.rs1 (ow : Nat -> Bool) (h : ∀ K : St -> Prop, (∀ s', EX Q .normal s' -> K s') -> Ops P l.toArray ow K 0 l s) : TX P n (.region id l.toArray false) Q s := by
 obtain ⟨s', ⟨x, hx⟩, h2⟩ := aops_det l 0 s (h (fun s' => EX Q .normal s') fun _ h => h).run
 exact ⟨x, T.rs1 ow fun K hK => ⟨h2 _ (hK _ hx)⟩⟩
theorem TX.rd (hm : P.follows .mixedOrders = true) (ow : Nat -> Bool) (ws : List Nat) (hd : drawOk l.toArray ws = true) (h : ∀ K : St -> Prop, (∀ s', TX P n y Q s' -> K s') -> OpsD P l.toArray ow ws K 0 l s) : TX P n (.seq (.region id l.toArray true) y) Q s := by
 obtain ⟨s', ⟨x, hx⟩, h2⟩ := aopsD_det l 0 s (h (fun s' => TX P n y Q s') fun _ h => h).run
 exact ⟨x, T.rd hm ow ws hd fun K hK => ⟨h2 _ (hK _ hx)⟩⟩
theorem TX.rd1 (hm : P.follows .mixedOrders = true) (ow : Nat -> Bool) (ws : List Nat) (hd : drawOk l.toArray ws = true) (h : ∀ K : St -> Prop, (∀ s', EX Q .normal s' -> K s') -> OpsD P l.toArray ow ws K 0 l s) : TX P n (.region id l.toArray true) Q s := by
 obtain ⟨s', ⟨x, hx⟩, h2⟩ := aopsD_det l 0 s (h (fun s' => EX Q .normal s') fun _ h => h).run
 exact ⟨x, T.rd1 hm ow ws hd fun K hK => ⟨h2 _ (hK _ hx)⟩⟩
theorem TX.rdF (hm : P.follows .mixedOrders = true) (ow : Nat -> Bool) (ws fs : List Nat) (m : Nat) (ex : List Nat) (hd : drawOkF l.toArray ws fs m = true) (h : ∀ K : St -> Prop, (∀ s', TX P n y Q s' -> K s') -> OpsF P l.toArray ow ws fs m ex s.V s.A K 0 l s) : TX P n (.seq (.region id l.toArray true) y) Q s := by
 obtain ⟨s', ⟨x, hx⟩, h2⟩ := aopsF_det l 0 s (h (fun s' => TX P n y Q s') fun _ h => h).run
 exact ⟨x, T.rdF hm ow ws fs m ex hd fun K hK => ⟨h2 _ (hK _ hx)⟩⟩
theorem TX.rdF1 (hm : P.follows .mixedOrders = true) (ow : Nat -> Bool) (ws fs : List Nat) (m : Nat) (ex : List Nat) (hd : drawOkF l.toArray ws fs m = true) (h : ∀ K : St -> Prop, (∀ s', EX Q .normal s' -> K s') -> OpsF P l.toArray ow ws fs m ex s.V s.A K 0 l s) : TX P n (.region id l.toArray true) Q s := by
 obtain ⟨s', ⟨x, hx⟩, h2⟩ := aopsF_det l 0 s (h (fun s' => EX Q .normal s') fun _ h => h).run
 exact ⟨x, T.rdF1 hm ow ws fs m ex hd fun K hK => ⟨h2 _ (hK _ hx)⟩⟩
end

theorem EX.thenN {c : Code} (h : TX P n c Q s) : EX (fun i => Then P n c (Q i)) .normal s := h
theorem EX.thenR {c : Code} (h : EX Q .ret s) : EX (fun i => Then P n c (Q i)) .ret s := h
theorem EX.thenE {c : Code} {id : Nat} (h : EX Q (.exit id) s) : EX (fun i => Then P n c (Q i)) (.exit id) s := h
theorem EX.blockN {id : Nat} (h : EX Q .normal s) : EX (fun i => InBlock id (Q i)) .normal s := h
theorem EX.blockR {id : Nat} (h : EX Q .ret s) : EX (fun i => InBlock id (Q i)) .ret s := h
theorem EX.blockE {id : Nat} (h : EX Q .normal s) : EX (fun i => InBlock id (Q i)) (.exit id) s := h.imp fun _ h => by simpa [InBlock] using h
theorem EX.blockO {id id' : Nat} (hne : (id' = id) = False) (h : EX Q (.exit id') s) : EX (fun i => InBlock id (Q i)) (.exit id') s := h.imp fun _ h => by simpa [InBlock, hne] using h

def RoundX {α : Type} (S : α -> St) (m : α -> Nat) (H : α -> Prop) (k : Nat) (Q : ι -> Exit -> St -> Prop) : {a : α // m a < k /\ H a} ⊕ ι -> Exit -> St -> Prop
 | .inl a, e, s => e = .normal /\ Sub (S a.1) s
 | .inr x, e, s => e ≠ .normal /\ Q x e s

theorem EX.next {α : Type} {S : α -> St} {m : α -> Nat} {H : α -> Prop} {k : Nat} (a : α) (hm : m a < k) (hH : H a) (hs : Sub (S a) s) : EX (RoundX S m H k Q) .normal s := ⟨.inl ⟨a, hm, hH⟩, rfl, hs⟩
theorem EX.outR {α : Type} {S : α -> St} {m : α -> Nat} {H : α -> Prop} {k : Nat} (h : EX Q .ret s) : EX (RoundX S m H k Q) .ret s := h.elim fun x h => ⟨.inr x, by simp, h⟩
theorem EX.outE {α : Type} {S : α -> St} {m : α -> Nat} {H : α -> Prop} {k id : Nat} (h : EX Q (.exit id) s) : EX (RoundX S m H k Q) (.exit id) s := h.elim fun x h => ⟨.inr x, by simp, h⟩

theorem Iter.sub {c : Code} {Q : Exit -> St -> Prop} {k : Nat} {s s' : St} (h : Iter P n c Q k s) (hs : Sub s s') : Iter P n c Q k s' := by
 cases k with
 | zero => exact h.elim
 | succ k => exact T.sub h hs

theorem TX.loopF {α : Type} {c : Code} (S : α -> St) (m : α -> Nat) (H : α -> Prop) (h : ∀ a, H a -> TX P n c (RoundX S m H (m a) Q) (S a)) (a : α) (ha : H a) (hs : Sub (S a) s) : TX P n (.loop c) Q s := by
 have key : ∀ k a, m a = k -> H a -> ∃ x j, Iter P n c (Q x) j (S a) := by
  intro k
  induction k using Nat.strongRecOn with
  | _ k ih =>
   intro a hk ha
   obtain ⟨y, hy⟩ := h a ha
   cases y with
   | inl b =>
    obtain ⟨x, j, hx⟩ := ih (m b.1) (by have := b.2.1; omega) b.1 rfl b.2.2
    refine ⟨x, j + 1, T.mono hy fun e s' h1 => ?_⟩
    obtain ⟨rfl, h2⟩ := h1
    exact hx.sub h2
   | inr x =>
    refine ⟨x, 1, T.mono hy fun e s' h1 => ?_⟩
    obtain ⟨h1, h2⟩ := h1
    cases e <;> first | exact absurd rfl h1 | exact h2
 obtain ⟨x, j, hx⟩ := key _ a rfl ha
 exact ⟨x, T.loop_iter (hx.sub hs)⟩
end

section
variable {P : Program} {f : FuncId} {fn : Func} {c : Code} {s : St} {e : Exit} {b : List Int}

def ACallsX (P : Program) (f : FuncId) (as : List AV) (V : List (List CV)) (R : AV -> List (List CV) -> List Arr -> Prop) : Prop := ∃ v V' A', R v V' A' /\ ACalls P f as V v V' A'
abbrev ResT (R : AV -> List (List CV) -> List Arr -> Prop) : Type := {x : AV × List (List CV) × List Arr // R x.1 x.2.1 x.2.2}
abbrev DoneX (P : Program) (fn : Func) (m : Nat) (R : AV -> List (List CV) -> List Arr -> Prop) (x : ResT R) : Exit -> St -> Prop := Done P fn m x.1.1 x.1.2.1 x.1.2.2

theorem ACallsX.of_body {as : List AV} {V : List (List CV)} {R : AV -> List (List CV) -> List Arr -> Prop} (hf : P.funcs[f]? = some fn) (hname : (fn.name == "runtime.NumGoroutine") = false) (hb : fn.body = some c) (hok : codeOk fn.ntmps c = true) (hn : as.length <= fn.ntmps)
  (hV : ∀ v V' A', R v V' A' -> V.length <= V'.length) (h : TX P fn.ntmps c (DoneX P fn V.length R) ⟨argFr as, V, []⟩) : ACallsX P f as V R := by
 obtain ⟨x, hx⟩ := h
 exact ⟨_, _, _, x.2, ACalls.of_body hf hname hb hok hn (hV _ _ _ x.2) hx⟩

theorem Done.gen {m : Nat} {r : AV} {V' : List (List CV)} {A' : List Arr} (ext ks : List Nat) {ys : List AV} (he : e = .normal \/ e = .ret) (hys : (ares P s fn.results.toList).bind (resAs s.A (List.range m ++ ext) ks) = some ys) (hr : one ys = r)
  (hV : resVs s.A s.V (List.range m ++ ext) ks (List.range m ++ ext) = some V') (hA : getAs s.A ks = some A') (hks : ks.Nodup) (hext : ext.Nodup) (hm : ∀ l ∈ ext, m <= l) : Done P fn m r V' A' e s := by
 cases hx : ares P s fn.results.toList with
 | none => rw [hx] at hys; simp at hys
 | some xs => rw [hx] at hys; exact ⟨he, ext, ks, xs, ys, hx, hks, hext, hm, hys, hr.symm, hV, hA⟩

theorem Done.own1 {r : AV} {a : Arr} (k : Nat) {ys : List AV} (he : e = .normal \/ e = .ret) (hys : (ares P s fn.results.toList).bind (resAs s.A [] [k]) = some ys) (hr : one ys = r) (hA : s.A[k]? = some a) : Done P fn 0 r [] [a] e s :=
 Done.gen [] [k] he (by simpa using hys) hr rfl (by simp [getAs, hA]) (by simp) (by simp) (by simp)

def Draws (P : Program) (f : FuncId) (as : List AV) (b : List Int) (p N : Nat) (R : AV -> List Arr -> Prop) : Prop :=
 ACallsX P f (.c (.ptr 0 0) :: as) (dV [rd b p]) fun v V' A' => ∃ p', V' = dV [rd b p'] /\ p <= p' /\ p' <= p + N /\ R v A'

theorem EX.draw {p N p' : Nat} {R : AV -> List Arr -> Prop} (ks : List Nat) {ys : List AV} {A' : List Arr} (he : e = .normal \/ e = .ret) (hys : (ares P s fn.results.toList).bind (resAs s.A [0] ks) = some ys) (hV : s.V[0]? = some ((rd b p').map CV.d)) (hA : getAs s.A ks = some A') (hks : ks.Nodup)
  (h1 : p <= p') (h2 : p' <= p + N) (hR : R (one ys) A') : EX (DoneX P fn 1 (fun v V' A' => ∃ p', V' = dV [rd b p'] /\ p <= p' /\ p' <= p + N /\ R v A')) e s := by
 refine ⟨⟨(one ys, dV [rd b p'], A'), p', rfl, h1, h2, hR⟩, ?_⟩
 refine Done.gen [] ks he (by simpa using hys) rfl ?_ hA hks (by simp) (by simp)
 refine resVs_d [0] [rd b p'] rfl ?_
 intro j l' row' h1 h2
 match j with
 | 0 => simp at h1 h2; subst h1; subst h2; exact hV
 | j + 1 => simp at h1

theorem wpcall_draw (l : Nat) {p N : Nat} {R : AV -> List Arr -> Prop} {xs as : List AV} {K : AV -> List (List CV) -> List Arr -> Prop} (hrow : s.V[l]? = some ((rd b p).map CV.d)) (hin : innAs s.A [l] xs = some (.c (.ptr 0 0) :: as)) (hd : Draws P f as b p N R)
  (hK : ∀ v A' p', R v A' -> p <= p' -> p' <= p + N -> K (v.outn [l] s.V.length s.A.length) (s.V.set l ((rd b p').map CV.d)) (sealAs s.A (argCells xs) ++ A')) : wpcall P s f xs K := by
 obtain ⟨v, V', A', ⟨p', rfl, h1, h2, hR⟩, hc⟩ := hd
 refine .inl ⟨[l], _, dV [rd b p], v, dV [rd b p'], A', by simp, hin, innVs_d [l] [rd b p] rfl ?_, hc, ?_⟩
 ·intro j l' row'' h1 h2
  match j with
  | 0 => simp at h1 h2; subst h1; subst h2; exact hrow
  | j + 1 => simp at h1
 ·obtain ⟨ds, hds⟩ := objCells_d (V := s.V) [l] [rd b p] rfl (by
   intro j l' row'' h1 h2
   match j with
   | 0 => simp at h1 h2; subst h1; subst h2; exact hrow
   | j + 1 => simp at h1)
  rw [hds, sealAs_append, sealAs_d]
  have hp : putBack s.A.length s.V.length [l] s.V [l] (dV [rd b p']) = s.V.set l ((rd b p').map CV.d) := by
   simp only [dV, List.map_cons, List.map_nil, putBack, List.append_nil]
   rfl
  rw [hp]; exact hK v A' p' hR h1 h2

theorem wpcall_own {xs as : List AV} {r : AV} {A' : List Arr} {K : AV -> List (List CV) -> List Arr -> Prop} (hin : innAs s.A [] xs = some as) (hc : ACalls P f as [] r [] A') (hK : K (r.outn [] s.V.length s.A.length) s.V (sealAs s.A (argCells xs) ++ A')) : wpcall P s f xs K := by
 refine .inl ⟨[], as, [], r, [], A', by simp, hin, rfl, hc, ?_⟩
 simpa [putBack, objCells] using hK

abbrev RV {α : Type} (enc : α -> AV) (arr : α -> List Arr) (good : α -> Prop) : AV -> List Arr -> Prop := fun v A' => ∃ x, (v = enc x /\ A' = arr x) /\ good x
abbrev noA {α : Type} : α -> List Arr := fun _ => []

theorem wpcall_dr (l : Nat) {α : Type} {enc : α -> AV} {arr : α -> List Arr} {good : α -> Prop} {p N : Nat} {xs as : List AV} {K : AV -> List (List CV) -> List Arr -> Prop} (hrow : s.V[l]? = some ((rd b p).map CV.d)) (hin : innAs s.A [l] xs = some (.c (.ptr 0 0) :: as)) (hd : Draws P f as b p N (RV enc arr good))
  (hK : ∀ x p', good x -> p <= p' -> p' <= p + N -> K ((enc x).outn [l] s.V.length s.A.length) (s.V.set l ((rd b p').map CV.d)) (sealAs s.A (argCells xs) ++ arr x)) : wpcall P s f xs K :=
 wpcall_draw l hrow hin hd fun _ _ p' h h1 h2 => by obtain ⟨x, ⟨rfl, rfl⟩, hg⟩ := h; exact hK x p' hg h1 h2

theorem EX.dr {α : Type} {enc : α -> AV} {arr : α -> List Arr} {good : α -> Prop} {p N p' : Nat} (ks : List Nat) (x : α) {ys : List AV} (he : e = .normal \/ e = .ret) (hys : (ares P s fn.results.toList).bind (resAs s.A [0] ks) = some ys) (hx : one ys = enc x) (hV : s.V[0]? = some ((rd b p').map CV.d)) (hA : getAs s.A ks = some (arr x)) (hks : ks.Nodup)
  (h1 : p <= p') (h2 : p' <= p + N) (hg : good x) : EX (DoneX P fn 1 (fun v V' A' => ∃ p', V' = dV [rd b p'] /\ p <= p' /\ p' <= p + N /\ RV enc arr good v A')) e s :=
 EX.draw ks he hys hV hA hks h1 h2 ⟨x, ⟨hx, rfl⟩, hg⟩

theorem Draws.mk {α : Type} {enc : α -> AV} {arr : α -> List Arr} {good : α -> Prop} {p p' N : Nat} {as : List AV} (x : α) (hg : good x) (h1 : p <= p') (h2 : p' <= p + N) (hc : ACalls P f (.c (.ptr 0 0) :: as) (dV [rd b p]) (enc x) (dV [rd b p']) (arr x)) : Draws P f as b p N (RV enc arr good) :=
 ⟨_, _, _, ⟨p', rfl, h1, h2, x, ⟨rfl, rfl⟩, hg⟩, hc⟩
theorem Draws.mono {α : Type} {enc : α -> AV} {arr : α -> List Arr} {good good' : α -> Prop} {p N N' : Nat} {as : List AV} (h : Draws P f as b p N (RV enc arr good)) (hN : N <= N') (hg : ∀ x, good x -> good' x) : Draws P f as b p N' (RV enc arr good') := by
 obtain ⟨v, V', A', ⟨p', h1, h2, h3, x, h4, h5⟩, hc⟩ := h
 exact ⟨v, V', A', ⟨p', h1, h2, by omega, x, h4, hg x h5⟩, hc⟩
theorem Draws.of_body {p N : Nat} {as : List AV} {R : AV -> List Arr -> Prop} (hf : P.funcs[f]? = some fn) (hname : (fn.name == "runtime.NumGoroutine") = false) (hb : fn.body = some c) (hok : codeOk fn.ntmps c = true) (hn : as.length + 1 <= fn.ntmps)
  (h : TX P fn.ntmps c (DoneX P fn 1 (fun v V' A' => ∃ p', V' = dV [rd b p'] /\ p <= p' /\ p' <= p + N /\ R v A')) ⟨argFr (.c (.ptr 0 0) :: as), dV [rd b p], []⟩) : Draws P f as b p N R :=
 ACallsX.of_body hf hname hb hok hn (by rintro v V' A' ⟨p', rfl, -⟩; simp) h

def Some_ (P : Program) (f : FuncId) (as : List AV) (R : AV -> List Arr -> Prop) : Prop := ACallsX P f as [] fun v V' A' => V' = [] /\ R v A'
theorem Some_.of_body {as : List AV} {R : AV -> List Arr -> Prop} (hf : P.funcs[f]? = some fn) (hname : (fn.name == "runtime.NumGoroutine") = false) (hb : fn.body = some c) (hok : codeOk fn.ntmps c = true) (hn : as.length <= fn.ntmps)
  (h : TX P fn.ntmps c (DoneX P fn 0 (fun v V' A' => V' = [] /\ R v A')) ⟨argFr as, [], []⟩) : Some_ P f as R :=
 ACallsX.of_body hf hname hb hok hn (by rintro v V' A' ⟨rfl, -⟩; simp) h
theorem EX.sm {α : Type} {enc : α -> AV} {arr : α -> List Arr} {good : α -> Prop} (ks : List Nat) (x : α) {ys : List AV} (he : e = .normal \/ e = .ret) (hys : (ares P s fn.results.toList).bind (resAs s.A [] ks) = some ys) (hx : one ys = enc x) (hA : getAs s.A ks = some (arr x)) (hks : ks.Nodup) (hg : good x) :
  EX (DoneX P fn 0 (fun v V' A' => V' = [] /\ RV enc arr good v A')) e s := by
 refine ⟨⟨(one ys, [], arr x), rfl, x, ⟨hx, rfl⟩, hg⟩, ?_⟩
 exact Done.gen [] ks he (by simpa using hys) rfl rfl hA hks (by simp) (by simp)
theorem wpcall_new1 {row : List DV} {xs as : List AV} {r : AV} {K : AV -> List (List CV) -> List Arr -> Prop} (hin : innAs s.A [] xs = some as) (hc : ACalls P f as [] r (dV [row]) []) (hK : K (r.outn [] s.V.length s.A.length) (s.V ++ [row.map CV.d]) (sealAs s.A (argCells xs))) : wpcall P s f xs K := by
 refine .inl ⟨[], as, [], r, dV [row], [], by simp, hin, rfl, hc, ?_⟩
 have hm : (row.map CV.d).map (CV.outn [] s.V.length s.A.length) = row.map CV.d := by
  rw [List.map_map]; rfl
 have hp : putBack s.A.length s.V.length [] s.V [] (dV [row]) = s.V ++ [row.map CV.d] := by
  simp only [dV, List.map_cons, List.map_nil, putBack, hm]
 rw [hp]
 simpa [objCells] using hK
end

section
variable {P : Program} {n : Nat} {ι : Type} {Q : ι -> Exit -> St -> Prop} {s s' : St} {c : Code}
def LX (P : Program) (n : Nat) (c : Code) (Q : ι -> Exit -> St -> Prop) (s : St) : Prop := ∃ x j, Iter P n c (Q x) j s
def UnrX (P : Program) (n : Nat) (c : Code) (Q : ι -> Exit -> St -> Prop) : ι × Nat -> Exit -> St -> Prop
 | (x, j), .normal, s => Iter P n c (Q x) j s
 | (x, _), e, s => Q x e s
theorem LX.unroll (h : TX P n c (UnrX P n c Q) s) : LX P n c Q s := by
 obtain ⟨⟨x, j⟩, h⟩ := h
 exact ⟨x, j + 1, T.mono h fun e s' h1 => by cases e <;> exact h1⟩
theorem TX.unroll (h : TX P n c (UnrX P n c Q) s) : TX P n (.loop c) Q s := by
 obtain ⟨x, j, h⟩ := LX.unroll h
 exact ⟨x, T.loop_iter h⟩
theorem EX.againN (h : TX P n c (UnrX P n c Q) s) : EX (UnrX P n c Q) .normal s := by
 obtain ⟨x, j, h⟩ := LX.unroll h
 exact ⟨(x, j), h⟩
theorem EX.unrR (h : EX Q .ret s) : EX (UnrX P n c Q) .ret s := h.imp' (fun x => (x, 0)) fun _ h => h
theorem EX.unrE {id : Nat} (h : EX Q (.exit id) s) : EX (UnrX P n c Q) (.exit id) s := h.imp' (fun x => (x, 0)) fun _ h => h
end

section
variable {P : Program} {n : Nat} {s : St} {c : Code}
def keepL : List Nat -> List (Nat × AV) -> List (Nat × AV)
 | [], _ => []
 | t :: r, fr => match look fr t with
  | some x => (t, x) :: keepL r fr
  | none => keepL r fr
def ups : List (Nat × List CV) -> List (List CV) -> List (List CV)
 | [], V => V
 | p :: r, V => ups r (V.set p.1 p.2)
attribute [simp] keepL ups
end
end Go.Av

namespace Go.Av
open Go

def IsTy (r : List DV) (t : MTy) : Prop := r = eTy t
def IsTys (rs : List (List DV)) (ts : List MTy) : Prop := rs = ts.map eTy
def IsTm (r : List DV) (e : MTm) : Prop := r = eTm e
def IsTms (rs : List (List DV)) (es : List MTm) : Prop := rs = es.map eTm
structure IsT2 (k : Int) (rs : List (List DV)) (t : MTy) : Prop where
 k : k = t.kind
 rs : rs = t.kids.map eTy
theorem IsT2.var (t : MTy) : IsT2 t.kind (t.kids.map eTy) t := ⟨rfl, rfl⟩
theorem IsT2.node {k : Int} {rs : List (List DV)} {ts : List MTy} (h : IsTys rs ts) : IsT2 k rs (.mk k ts) := ⟨rfl, h⟩
theorem IsTy.of {k : Int} {rs : List (List DV)} {t : MTy} (h : IsT2 k rs t) : IsTy [.int .i64 k, .sl rs] t := by rw [IsTy, eTy_def, <- h.k, <- h.rs]
theorem IsTy.row (t : MTy) : IsTy (eTy t) t := rfl
theorem IsTys.map (l : List MTy) : IsTys (l.map eTy) l := rfl
theorem IsTys.nil : IsTys [] [] := rfl
theorem IsTys.cons {r : List DV} {rs : List (List DV)} {t : MTy} {ts : List MTy} (h : IsTy r t) (hs : IsTys rs ts) : IsTys (r :: rs) (t :: ts) := by rw [IsTys, List.map_cons, <- hs, <- h]
theorem IsTys.app {rs rs' : List (List DV)} {ts ts' : List MTy} (h : IsTys rs ts) (h' : IsTys rs' ts') : IsTys (rs ++ rs') (ts ++ ts') := by rw [IsTys, List.map_append, <- h, <- h']
theorem IsTm.row (e : MTm) : IsTm (eTm e) e := rfl
theorem IsTm.var (e : MTm) : IsTm [.int .i64 e.kind, .str e.name, .int .i64 e.num, .int .i64 e.ty.kind, .sl (e.ty.kids.map eTy), .int .i64 e.fr.kind, .sl (e.fr.kids.map eTy), .int .i64 e.label, .sl (e.kids.map eTm)] e := by rw [IsTm, eTm_def]
theorem IsTm.node {k n k1 k2 lb : Int} {s : List UInt8} {r1 r2 r3 : List (List DV)} {t f : MTy} {es : List MTm} (h1 : IsT2 k1 r1 t) (h2 : IsT2 k2 r2 f) (h3 : IsTms r3 es) :
  IsTm [.int .i64 k, .str s, .int .i64 n, .int .i64 k1, .sl r1, .int .i64 k2, .sl r2, .int .i64 lb, .sl r3] (.mk k s n t f lb es) := by
 rw [IsTm, eTm_def, h1.k, h1.rs, h2.k, h2.rs, h3]; rfl
theorem IsTms.map (l : List MTm) : IsTms (l.map eTm) l := rfl
theorem IsTms.nil : IsTms [] [] := rfl
theorem IsTms.cons {r : List DV} {rs : List (List DV)} {t : MTm} {ts : List MTm} (h : IsTm r t) (hs : IsTms rs ts) : IsTms (r :: rs) (t :: ts) := by rw [IsTms, List.map_cons, <- hs, <- h]
theorem IsTms.app {rs rs' : List (List DV)} {ts ts' : List MTm} (h : IsTms rs ts) (h' : IsTms rs' ts') : IsTms (rs ++ rs') (ts ++ ts') := by rw [IsTms, List.map_append, <- h, <- h']

def IsV {α : Type} (enc : α -> AV) (v : AV) (x : α) : Prop := v = enc x
theorem IsV.ty {k : Int} {rs : List (List DV)} {t : MTy} (h : IsT2 k rs t) : IsV aTy (.agg [.d (.int .i64 k), .d (.sl rs)]) t := by rw [IsV, h.k, h.rs]
theorem IsV.tmv (e : MTm) : IsV aTm (.agg [.d (.int .i64 e.kind), .d (.str e.name), .d (.int .i64 e.num), .d (.int .i64 e.ty.kind), .d (.sl (e.ty.kids.map eTy)), .d (.int .i64 e.fr.kind), .d (.sl (e.fr.kids.map eTy)), .d (.int .i64 e.label), .d (.sl (e.kids.map eTm))]) e := rfl
theorem IsV.tm {k n k1 k2 lb : Int} {s : List UInt8} {r1 r2 r3 : List (List DV)} {t f : MTy} {es : List MTm} (h1 : IsT2 k1 r1 t) (h2 : IsT2 k2 r2 f) (h3 : IsTms r3 es) :
  IsV aTm (.agg [.d (.int .i64 k), .d (.str s), .d (.int .i64 n), .d (.int .i64 k1), .d (.sl r1), .d (.int .i64 k2), .d (.sl r2), .d (.int .i64 lb), .d (.sl r3)]) (.mk k s n t f lb es) := by
 rw [IsV, aTm, h1.k, h1.rs, h2.k, h2.rs, h3]; rfl
abbrev aP {α β : Type} (f : α -> AV) (g : β -> AV) : α × β -> AV := fun x => .tup [f x.1, g x.2]
abbrev aP3 {α β γ : Type} (f : α -> AV) (g : β -> AV) (h : γ -> AV) : α × β × γ -> AV := fun x => .tup [f x.1, g x.2.1, h x.2.2]
theorem IsV.p2 {α β : Type} {f : α -> AV} {g : β -> AV} {v u : AV} {a : α} {b : β} (h : IsV f v a) (h' : IsV g u b) : IsV (aP f g) (.tup [v, u]) (a, b) := by rw [IsV, h, h']
theorem IsV.p3 {α β γ : Type} {f : α -> AV} {g : β -> AV} {i : γ -> AV} {v u w : AV} {a : α} {b : β} {c : γ} (h : IsV f v a) (h' : IsV g u b) (h'' : IsV i w c) : IsV (aP3 f g i) (.tup [v, u, w]) (a, b, c) := by rw [IsV, h, h', h'']
abbrev aTys (l : List MTy) : AV := .l (l.map eTy)
abbrev aTms (l : List MTm) : AV := .l (l.map eTm)
abbrev aBds (l : List MBd) : AV := .l (l.map eBd)
theorem IsV.tys {rs : List (List DV)} {ts : List MTy} (h : IsTys rs ts) : IsV aTys (.c (.d (.sl rs))) ts := by rw [IsV, h]
theorem IsV.tms {rs : List (List DV)} {ts : List MTm} (h : IsTms rs ts) : IsV aTms (.c (.d (.sl rs))) ts := by rw [IsV, h]
def IsBds (rs : List (List DV)) (ts : List MBd) : Prop := rs = ts.map eBd
theorem IsBds.map (l : List MBd) : IsBds (l.map eBd) l := rfl
theorem IsBds.nil : IsBds [] [] := rfl
theorem IsBds.cons {s : List UInt8} {k : Int} {r1 rs : List (List DV)} {t : MTy} {ts : List MBd} (h : IsT2 k r1 t) (hs : IsBds rs ts) : IsBds ([.str s, .int .i64 k, .sl r1] :: rs) (⟨s, t⟩ :: ts) := by rw [IsBds, List.map_cons, <- hs, eBd, h.k, h.rs]
theorem IsBds.app {rs rs' : List (List DV)} {ts ts' : List MBd} (h : IsBds rs ts) (h' : IsBds rs' ts') : IsBds (rs ++ rs') (ts ++ ts') := by rw [IsBds, List.map_append, <- h, <- h']
theorem IsV.bds {rs : List (List DV)} {ts : List MBd} (h : IsBds rs ts) : IsV aBds (.c (.d (.sl rs))) ts := by rw [IsV, h]
theorem IsV.int (n : Int) : IsV (fun n : Int => .i n) (.c (.d (.int .i64 n))) n := rfl
theorem IsV.str (s : List UInt8) : IsV (fun s : List UInt8 => .s s) (.c (.d (.str s))) s := rfl
theorem IsV.bool (s : Bool) : IsV (fun s : Bool => .b s) (.c (.d (.bool s))) s := rfl

section
variable {P : Program} {f : FuncId} {fn : Func} {c : Code} {s : St} {e : Exit} {b : List Int}
theorem EX.drA {α : Type} {enc : α -> AV} {arr : α -> List Arr} {good : α -> Prop} {p N p' : Nat} (ks : List Nat) {x : α} {ys : List AV} {v : AV} (he : e = .normal \/ e = .ret) (hys : (ares P s fn.results.toList).bind (resAs s.A [0] ks) = some ys) (hv : one ys = v) (hx : IsV enc v x) (hV : s.V[0]? = some ((rd b p').map CV.d)) (hA : getAs s.A ks = some (arr x)) (hks : ks.Nodup)
  (h1 : p <= p') (h2 : p' <= p + N) (hg : good x) : EX (DoneX P fn 1 (fun v V' A' => ∃ p', V' = dV [rd b p'] /\ p <= p' /\ p' <= p + N /\ RV enc arr good v A')) e s :=
 EX.dr ks x he hys (hv.trans hx) hV hA hks h1 h2 hg
theorem EX.someA {α : Type} {enc : α -> AV} {arr : α -> List Arr} {good : α -> Prop} (ks : List Nat) {x : α} {ys : List AV} {v : AV} (he : e = .normal \/ e = .ret) (hys : (ares P s fn.results.toList).bind (resAs s.A [] ks) = some ys) (hv : one ys = v) (hx : IsV enc v x) (hA : getAs s.A ks = some (arr x)) (hks : ks.Nodup) (hg : good x) :
  EX (DoneX P fn 0 (fun v V' A' => V' = [] /\ RV enc arr good v A')) e s :=
 EX.sm ks x he hys (hv.trans hx) hA hks hg
end
theorem shape_mk (d : Nat) (k : Int) (l : List MTy) : shapeTy (d + 1) (.mk k l) = (decide (tyKids k = l.length) && l.all (shapeTy d)) := rfl
end Go.Av

namespace Go.Av
open Go

def addM (c : UInt8) : List UInt8 -> List UInt8
 | [] => [c]
 | x :: r => if x < c then x :: addM c r else if x = c then x :: r else c :: x :: r
theorem addM_len (c : UInt8) : ∀ (s : List UInt8), (addM c s).length <= s.length + 1
 | [] => by simp [addM]
 | x :: r => by
  have := addM_len c r
  simp only [addM]
  split
  ·simp; omega
  ·split <;> simp
theorem nTy_mk (k : Int) (l : List MTy) : nTy (.mk k l) = nTyS l := by simp [nTy]
end Go.Av

namespace Go.Av
open Go
@[simp] theorem take_app_len {α : Type} (G X : List α) (k : Nat) : (G ++ X).take (G.length + k) = G ++ X.take k := by
 rw [List.take_append, List.take_of_length_le (by omega), show G.length + k - G.length = k by omega]
end Go.Av

namespace Go.Av
open Go

mutual
def sameTy : MTy -> MTy -> Bool
 | .mk k l, .mk k' l' => decide (k = k') && sameTyS l l'
def sameTyS : List MTy -> List MTy -> Bool
 | [], [] => true
 | x :: xs, y :: ys => sameTy x y && sameTyS xs ys
 | _, _ => false
end
mutual
theorem sameTy_eq : ∀ (a b : MTy), sameTy a b = true -> a = b
 | .mk k l, .mk k' l', h => by
  simp only [sameTy, Bool.and_eq_true, decide_eq_true_eq] at h
  obtain ⟨rfl, h⟩ := h
  rw [sameTyS_eq l l' h]
theorem sameTyS_eq : ∀ (l m : List MTy), sameTyS l m = true -> l = m
 | [], [], _ => rfl
 | x :: xs, y :: ys, h => by
  simp only [sameTyS, Bool.and_eq_true] at h
  rw [sameTy_eq x y h.1, sameTyS_eq xs ys h.2]
 | [], _ :: _, h => by simp [sameTyS] at h
 | _ :: _, [], h => by simp [sameTyS] at h
end
mutual
theorem sameTy_refl : ∀ (a : MTy), sameTy a a = true
 | .mk k l => by simp [sameTy, sameTyS_refl l]
theorem sameTyS_refl : ∀ (l : List MTy), sameTyS l l = true
 | [] => rfl
 | x :: xs => by simp [sameTyS, sameTy_refl x, sameTyS_refl xs]
end
def castM (n : Int) (e : MTm) (f t : MTy) : MTm × Int := if sameTy f t = true then (e, n) else (.mk 14 [] 0 t f (n + 1) [e], n + 1)

def wantM (ctx : List MBd) (k : Int) (name : List UInt8) (ty : MTy) (ts : List MTy) : Option (List MTy × MTy) :=
 if k = 1 then (lookM ctx name).map fun t => ([], t)
 else if k = 2 then some ([], intT)
 else if k = 3 \/ k = 4 then some ([], boolT)
 else match ts with
  | [a] =>
   if k = 5 then some ([], .mk 4 [ty, a])
   else if k = 11 then (matchM 5 a).map fun p => ([.mk 5 [p.1, p.2]], p.1)
   else if k = 12 then (matchM 5 a).map fun p => ([.mk 5 [p.1, p.2]], p.2)
   else if k = 13 then if consTy a ty = true then some ([ty], ty) else none
   else none
  | [a, b] =>
   if k = 6 then match matchM 4 a with
    | some (x, y) => if consTy b x = true then some ([.mk 4 [x, y], x], y) else none
    | none => none
   else if k = 7 then if consTy a intT = true /\ consTy b intT = true then some ([intT, intT], intT) else none
   else if k = 8 then if consTy a intT = true /\ consTy b intT = true then some ([intT, intT], boolT) else none
   else if k = 10 then some ([], .mk 5 [a, b])
   else none
  | [a, b, c] => if k = 9 then if consTy a boolT = true /\ consTy b c = true then some ([boolT, meetTy b c, meetTy b c], meetTy b c) else none else none
  | _ => none

def castS : Int -> List MTm -> List MTy -> List MTy -> List MTm × Int
 | n, e :: es, h :: hs, w :: ws => let (e', m) := castM n e h w; let (r, m') := castS m es hs ws; (e' :: r, m')
 | n, es, _, _ => (es, n)

def finM (ctx : List MBd) (k : Int) (name : List UInt8) (num : Int) (ty fr : MTy) (lb : Int) : Option (List MTm × List MTy) × Int -> Option (MTm × MTy) × Int
 | (none, n) => (none, n)
 | (some (es, ts), n) => match wantM ctx k name ty ts with
  | none => (none, n)
  | some (ws, t) => if shapeTy 4 t = true then
    let (es', m) := castS n es ts ws
    if k = 13 then (es'.head?.map fun x => (x, t), m) else (some (.mk k name num ty fr lb es', t), m)
   else (none, n)
def consE : Option (MTm × MTy) × Int -> (Int -> Option (List MTm × List MTy) × Int) -> Option (List MTm × List MTy) × Int
 | (none, n), _ => (none, n)
 | (some (e, t), n), f => match f n with
  | (none, m) => (none, m)
  | (some (es, ts), m) => (some (e :: es, t :: ts), m)

mutual
def elabM : List MBd -> MTm -> Int -> Option (MTm × MTy) × Int
 | ctx, .mk k s n t f b l, c => finM ctx k s n t f b (elabS (if k = 5 then ctx ++ [⟨s, t⟩] else ctx) l c)
def elabS : List MBd -> List MTm -> Int -> Option (List MTm × List MTy) × Int
 | _, [], c => (some ([], []), c)
 | ctx, e :: r, c => consE (elabM ctx e c) (elabS ctx r)
end
end Go.Av

namespace Go.Av
open Go

inductive VTy : Nat -> MTy -> Prop
 | any (d : Nat) : VTy (d + 1) anyT
 | int (d : Nat) : VTy (d + 1) intT
 | bool (d : Nat) : VTy (d + 1) boolT
 | fn {d : Nat} {a b : MTy} : VTy d a -> VTy d b -> VTy (d + 1) (.mk 4 [a, b])
 | pair {d : Nat} {a b : MTy} : VTy d a -> VTy d b -> VTy (d + 1) (.mk 5 [a, b])

theorem VTy.of : ∀ {d : Nat} {t : MTy}, shapeTy d t = true -> VTy d t
 | 0, t, h => by simp [shapeTy] at h
 | d + 1, .mk k l, h => by
  simp only [shapeTy, Bool.and_eq_true, decide_eq_true_eq, List.all_eq_true] at h
  simp only [MTy.kind_mk, MTy.kids_mk] at h
  obtain ⟨h1, h2⟩ := h
  match l, h1, h2 with
  | [], h1, _ =>
   simp only [tyKids, List.length_nil] at h1
   split at h1
   ·rename_i h; rcases h with rfl | rfl | rfl
    ·exact .any d
    ·exact .int d
    ·exact .bool d
   ·split at h1 <;> simp at h1
  | [a], h1, _ =>
   simp only [tyKids] at h1
   split at h1
   ·simp at h1
   ·split at h1 <;> simp at h1
  | [a, b], h1, h2 =>
   simp only [tyKids] at h1
   split at h1
   ·simp at h1
   ·split at h1
    ·rename_i h; rcases h with rfl | rfl
     ·exact .fn (VTy.of (h2 a (by simp))) (VTy.of (h2 b (by simp)))
     ·exact .pair (VTy.of (h2 a (by simp))) (VTy.of (h2 b (by simp)))
    ·simp at h1
  | a :: b :: c :: r, h1, _ =>
   simp only [tyKids, List.length_cons] at h1
   split at h1
   ·omega
   ·split at h1 <;> omega

theorem VTy.shape {d : Nat} {t : MTy} (h : VTy d t) : shapeTy d t = true := by
 induction h with
 | any d => simp [shapeTy, tyKids]
 | int d => simp [shapeTy, tyKids]
 | bool d => simp [shapeTy, tyKids]
 | fn _ _ h1 h2 => simp [shapeTy, tyKids, h1, h2]
 | pair _ _ h1 h2 => simp [shapeTy, tyKids, h1, h2]

abbrev tVar (s : List UInt8) : MTm := .mk 1 s 0 zeroT zeroT 0 []
abbrev tNum (n : Int) : MTm := .mk 2 [] n zeroT zeroT 0 []
abbrev tTrue : MTm := .mk 3 [] 0 zeroT zeroT 0 []
abbrev tFalse : MTm := .mk 4 [] 0 zeroT zeroT 0 []
abbrev tLam (s : List UInt8) (t : MTy) (b : MTm) : MTm := .mk 5 s 0 t zeroT 0 [b]
abbrev tN1 (k : Int) (a : MTm) : MTm := .mk k [] 0 zeroT zeroT 0 [a]
abbrev tN2 (k : Int) (a b : MTm) : MTm := .mk k [] 0 zeroT zeroT 0 [a, b]
abbrev tIf (a b c : MTm) : MTm := .mk 9 [] 0 zeroT zeroT 0 [a, b, c]
abbrev tAs (a : MTm) (t : MTy) : MTm := .mk 13 [] 0 t zeroT 0 [a]
abbrev tCast (a : MTm) (f t : MTy) (l : Int) : MTm := .mk 14 [] 0 t f l [a]

inductive TmV (nt : Int) : Nat -> MTm -> Prop
 | var {d : Nat} {s : List UInt8} : nt ≠ 1 -> nameM s = true -> TmV nt (d + 1) (tVar s)
 | num {d : Nat} {n : Int} : nt ≠ 2 -> 0 <= n -> n <= 999 -> TmV nt (d + 1) (tNum n)
 | tru {d : Nat} : nt ≠ 3 -> TmV nt (d + 1) tTrue
 | fls {d : Nat} : nt ≠ 4 -> TmV nt (d + 1) tFalse
 | lam {d : Nat} {s : List UInt8} {t : MTy} {b : MTm} : nt ≠ 5 -> nameM s = true -> shapeTy 4 t = true -> TmV nt d b -> TmV nt (d + 1) (tLam s t b)
 | n2 {d : Nat} {k : Int} {a b : MTm} : nt ≠ k -> k = 6 \/ k = 7 \/ k = 8 \/ k = 10 -> TmV nt d a -> TmV nt d b -> TmV nt (d + 1) (tN2 k a b)
 | ite {d : Nat} {a b c : MTm} : nt ≠ 9 -> TmV nt d a -> TmV nt d b -> TmV nt d c -> TmV nt (d + 1) (tIf a b c)
 | n1 {d : Nat} {k : Int} {a : MTm} : nt ≠ k -> k = 11 \/ k = 12 -> TmV nt d a -> TmV nt (d + 1) (tN1 k a)
 | asc {d : Nat} {t : MTy} {a : MTm} : nt ≠ 13 -> shapeTy 4 t = true -> TmV nt d a -> TmV nt (d + 1) (tAs a t)
 | cast {d : Nat} {f t : MTy} {l : Int} {a : MTm} : nt ≠ 14 -> shapeTy 4 f = true -> shapeTy 4 t = true -> consTy f t = true -> labM l = true -> TmV nt d a -> TmV nt (d + 1) (tCast a f t l)

section
variable {nt : Int} {d : Nat}
end

section
variable (ctx : List MBd) (s : List UInt8) (n : Int) (t : MTy) (a b c : MTm)
end
def subCtx (c c' : List MBd) : Prop := ∀ s t, lookM c s = some t -> lookM c' s = some t
end Go.Av

namespace Go.Av
open Go

mutual
def substM (x : List UInt8) (v : MTm) : MTm -> MTm
 | .mk k s n t f b l => if k = 1 /\ s = x then v else if k = 5 /\ s = x then .mk k s n t f b l else .mk k s n t f b (substS x v l)
def substS (x : List UInt8) (v : MTm) : List MTm -> List MTm
 | [] => []
 | e :: r => substM x v e :: substS x v r
end
def eqCtx (c c' : List MBd) : Prop := ∀ s, lookM c s = lookM c' s
mutual
def precTy : MTy -> MTy -> Bool
 | .mk k l, .mk k' l' => decide (k' = 1) || (decide (k = k') && precTyS l l')
def precTyS : List MTy -> List MTy -> Bool
 | [], [] => true
 | x :: xs, y :: ys => precTy x y && precTyS xs ys
 | _, _ => false
end
def hasTyM (k : Int) : Bool := decide (k = 5) || decide (k = 13)
mutual
def alikeM (q : MTy -> MTy -> Bool) : MTm -> MTm -> Bool
 | .mk k s n t _ _ l, .mk k' s' n' t' _ _ l' => !(hasTyM k && decide (k = k') && !q t t') && (decide (k = k') && (decide (s = s') && (decide (n = n') && alikeS q l l')))
def alikeS (q : MTy -> MTy -> Bool) : List MTm -> List MTm -> Bool
 | [], [] => true
 | x :: xs, y :: ys => alikeM q x y && alikeS q xs ys
 | _, _ => false
end
def precCtx : List MBd -> List MBd -> Prop
 | [], [] => True
 | b :: r, b' :: r' => b.name = b'.name /\ precTy b.ty b'.ty = true /\ precCtx r r'
 | _, _ => False
inductive AlV (q : MTy -> MTy -> Bool) : MTm -> MTm -> Prop
 | var (s : List UInt8) : AlV q (tVar s) (tVar s)
 | num (n : Int) : AlV q (tNum n) (tNum n)
 | tru : AlV q tTrue tTrue
 | fls : AlV q tFalse tFalse
 | lam {s : List UInt8} {t t' : MTy} {b b' : MTm} : q t t' = true -> AlV q b b' -> AlV q (tLam s t b) (tLam s t' b')
 | n2 {k : Int} {a b a' b' : MTm} : AlV q a a' -> AlV q b b' -> AlV q (tN2 k a b) (tN2 k a' b')
 | ite {a b c a' b' c' : MTm} : AlV q a a' -> AlV q b b' -> AlV q c c' -> AlV q (tIf a b c) (tIf a' b' c')
 | n1 {k : Int} {a a' : MTm} : AlV q a a' -> AlV q (tN1 k a) (tN1 k a')
 | asc {t t' : MTy} {a a' : MTm} : q t t' = true -> AlV q a a' -> AlV q (tAs a t) (tAs a' t')

end Go.Av

namespace Go.Av
open Go
section
variable {P : Program} {n : Nat} {ι : Type} {Q : Exit -> St -> Prop} {QX : ι -> Exit -> St -> Prop} {s s' : St} {c : Code}
theorem subL.app : ∀ {l m fr : List (Nat × AV)}, subL l fr -> subL m fr -> subL (l ++ m) fr
 | [], m, fr, _, h => h
 | (t, x) :: r, m, fr, h, h' => ⟨h.1, subL.app h.2 h'⟩
theorem keepL_sub' : ∀ (ks : List Nat) {fr fr' : List (Nat × AV)}, (∀ t x, look fr t = some x -> look fr' t = some x) -> subL (keepL ks fr) fr'
 | [], _, _, _ => trivial
 | k :: r, fr, fr', h => by
  simp only [keepL]
  cases hk : look fr k with
  | some x => exact ⟨h k x hk, keepL_sub' r h⟩
  | none => exact keepL_sub' r h
theorem keepL_sub (ks : List Nat) (fr : List (Nat × AV)) : subL (keepL ks fr) fr := keepL_sub' ks fun _ _ h => h

theorem T.loopK {α : Type} (ks : List Nat) (ph : α -> List (Nat × AV)) (ob : α -> List (Nat × List CV)) (G : α -> List (List CV)) (ar : α -> List Arr -> List Arr) (m : α -> Nat) (H : α -> Prop) {fr0 : List (Nat × AV)} (hk : keepL ks s.fr = fr0)
  (h : ∀ a, H a -> T P n c (Round (fun a => ⟨ph a ++ fr0, ups (ob a) s.V ++ G a, ar a s.A⟩) m H (m a) Q) ⟨ph a ++ fr0, ups (ob a) s.V ++ G a, ar a s.A⟩) (a : α) (ha : H a) (hV : ups (ob a) s.V ++ G a = s.V) (hA : ar a s.A = s.A) (hp : subL (ph a) s.fr) : T P n (.loop c) Q s := by
 subst hk
 exact T.loopF (fun a => ⟨ph a ++ keepL ks s.fr, ups (ob a) s.V ++ G a, ar a s.A⟩) m H h a ha ⟨hV, hA, hp.app (keepL_sub ks s.fr)⟩
theorem TX.loopK {α : Type} (ks : List Nat) (ph : α -> List (Nat × AV)) (ob : α -> List (Nat × List CV)) (G : α -> List (List CV)) (ar : α -> List Arr -> List Arr) (m : α -> Nat) (H : α -> Prop) {fr0 : List (Nat × AV)} (hk : keepL ks s.fr = fr0)
  (h : ∀ a, H a -> TX P n c (RoundX (fun a => ⟨ph a ++ fr0, ups (ob a) s.V ++ G a, ar a s.A⟩) m H (m a) QX) ⟨ph a ++ fr0, ups (ob a) s.V ++ G a, ar a s.A⟩) (a : α) (ha : H a) (hV : ups (ob a) s.V ++ G a = s.V) (hA : ar a s.A = s.A) (hp : subL (ph a) s.fr) : TX P n (.loop c) QX s := by
 subst hk
 exact TX.loopF (fun a => ⟨ph a ++ keepL ks s.fr, ups (ob a) s.V ++ G a, ar a s.A⟩) m H h a ha ⟨hV, hA, hp.app (keepL_sub ks s.fr)⟩
end
end Go.Av

namespace Go.Av
attribute [-simp] Go.Av.take_app_len
open Go

def pairOkL (all : Array Oper) (ws fs : List Nat) (m q : Nat) (ms : List Nat) (oi oj : Oper) (i j : Nat) : Bool :=
 if j = q then oi.dst.isNone || oi.dst != oj.dst else pairOkF all ws fs m ms oi oj i j && (!(decide (i <= q) && decide (q < j)) || (ms.getD j 0).testBit i)

def drawOkL (all : Array Oper) (ws fs : List Nat) (m q : Nat) : Bool :=
 let l := all.toList.zipIdx
 let ms := masks all.toList []
 (l.all fun (o, j) => o.after.toList.all fun e => !Region.binds .any e || decide (e.on < j)) &&
 (l.all fun (oj, j) => l.all fun (oi, i) => !(decide (i < j)) || pairOkL all ws fs m q ms oi oj i j) &&
 (l.all fun (o, j) => !ws.contains j || !isS o.op) && (fs.all fun j => !ws.contains j) && (fs.all fun j => ws.all fun i => decide (i < m) || decide (j < i)) && ws.contains q

section
variable {P : Program} {n : Nat} {Q Q' : Exit -> St -> Prop} {s s' : St} {w0 : World} {g0 g g' : Gh} {a : Act} {w w' : World} {V : List (List CV)} {A A' : List Arr}

theorem Fr.trans (h : Fr w0 g0 w g) (k : Fr w g w' g') : Fr w0 g0 w' g' := by
 have notOb : ∀ b, b < w0.heap.size -> b ∉ g0.ob -> b ∉ g.ob := fun b hb h1 hm => by
  obtain ⟨new, e, hn⟩ := h.ob
  rw [e] at hm
  rcases List.mem_append.1 hm with q | q
  ·exact h1 q
  ·exact absurd (hn b q) (by omega)
 have notArb : ∀ b, b < w0.heap.size -> b ∉ g0.arb -> b ∉ g.arb := fun b hb h1 hm => by
  obtain ⟨k, v, q1, q2⟩ := Gh.mem_arb hm
  rcases h.ar k v b q1 q2 with q | q
  ·omega
  ·exact h1 q
 refine ⟨k.os.trans h.os, k.tape.trans h.tape, k.output.trans h.output, Nat.le_trans h.size k.size, fun b h1 h2 h3 => ?_, fun b h1 h2 => ?_, ?_, fun i v b h1 h2 => ?_, fun i v h1 => ?_, h.tab⟩
 ·rw [k.blk b (Nat.lt_of_lt_of_le h1 h.size) (notOb b h1 h2) (notArb b h1 h3)]; exact h.blk b h1 h2 h3
 ·rw [k.imeq b (Nat.lt_of_lt_of_le h1 h.size) (notArb b h1 h2)]; exact h.imeq b h1 h2
 ·obtain ⟨new, e, hn⟩ := h.ob
  obtain ⟨new', e', hn'⟩ := k.ob
  refine ⟨new ++ new', by rw [e', e, List.append_assoc], fun b hb => ?_⟩
  rcases List.mem_append.1 hb with q | q
  ·exact hn b q
  ·exact Nat.le_trans h.size (hn' b q)
 ·rcases k.ar i v b h1 h2 with q | q
  ·exact .inl (Nat.le_trans h.size q)
  ·obtain ⟨j, v', q1, q2⟩ := Gh.mem_arb q
   exact h.ar j v' b q1 q2
 ·obtain ⟨v1, q1, q2, q3⟩ := h.arx i v h1
  obtain ⟨v2, q4, q5, q6⟩ := k.arx i v1 q1
  exact ⟨v2, q4, Nat.le_trans q2 q5, fun e => (q6 (by omega)).trans (q3 (by omega))⟩
theorem Fr.reg (h : Fr w0 g0 w g) {b : Nat} (hb : w0.heap.size <= b) : Fr w0 g0 w { g with ob := g.ob ++ [b] } := by
 refine ⟨h.os, h.tape, h.output, h.size, h.blk, h.imeq, ?_, h.ar, h.arx, h.tab⟩
 obtain ⟨new, e, hn⟩ := h.ob
 refine ⟨new ++ [b], by show g.ob ++ [b] = _; rw [e, List.append_assoc], fun c hc => ?_⟩
 rcases List.mem_append.1 hc with q | q
 ·exact hn c q
 ·simp at q; omega

theorem Inv.reg (hi : Inv g w V A) {b : Nat} {cs : Array Value} {ty : TypeId} {row : List CV} (hb : w.heap[b]? = some (.cells cs ty)) (hs : cs.size = row.length) (hr : ∀ (j : Nat) c u, row[j]? = some c -> cs[j]? = some u -> ∀ g w A, RepC g w A c u)
  (h1 : b ∉ g.ob) (h2 : b ∉ g.arb) (h3 : g.im b = 0) : Inv { g with ob := g.ob ++ [b] } w (V ++ [row]) A /\ Ext g w A { g with ob := g.ob ++ [b] } w A /\ (g.ob ++ [b])[V.length]? = some b := by
 have hx2 : Ext g w A { g with ob := g.ob ++ [b] } w A :=
  ⟨fun l c hc => by show (g.ob ++ [b])[l]? = some c; rw [List.getElem?_append_left (List.getElem?_eq_some_iff.1 hc).1]; exact hc, .refl _ _, fun _ r h => ⟨r, h, rfl, Nat.le_refl _, fun _ => rfl⟩⟩
 have hall : ∀ (l c : Nat), (g.ob ++ [b])[l]? = some c -> (g.ob[l]? = some c /\ c ≠ b) \/ (l = V.length /\ c = b) := fun l c hc => by
  rcases Nat.lt_or_ge l g.ob.length with h | h
  ·rw [List.getElem?_append_left h] at hc; exact .inl ⟨hc, fun e => h1 (e ▸ List.mem_of_getElem? hc)⟩
  ·rw [List.getElem?_append_right h] at hc
   have h0 : l - g.ob.length = 0 := by
    have := (List.getElem?_eq_some_iff.1 hc).1
    simp at this; omega
   rw [h0] at hc; simp at hc
   exact .inr ⟨by rw [<- hi.obl]; omega, hc.symm⟩
 refine ⟨⟨by simp [hi.obl], hi.arl, fun l row' c q1 q2 => ?_, fun k r v q1 q2 => ?_, fun l l' c q1 q2 => ?_, hi.arar, fun l k v c q1 q2 => ?_, hi.fresh⟩, hx2, ?_⟩
 ·rcases hall l c q2 with ⟨h4, _⟩ | ⟨h4, h5⟩
  ·have h5 : V[l]? = some row' := by
    have : l < V.length := by rw [<- hi.obl]; exact (List.getElem?_eq_some_iff.1 h4).1
    rwa [List.getElem?_append_left this] at q1
   exact hi.objKeep hx2 h5 h4 rfl (hi.obj l row' c h5 h4).1
  ·subst h4; subst h5
   simp at q1; subst q1
   exact ⟨h3, cs, ty, hb, hs, fun j c u h6 h7 => hr j c u h6 h7 _ _ _⟩
 ·exact hi.arrKeep hx2 q1 q2 (fun _ _ => rfl) (fun _ _ => rfl)
 ·rcases hall l c q1 with ⟨h4, h5⟩ | ⟨h4, h5⟩ <;> rcases hall l' c q2 with ⟨h6, h7⟩ | ⟨h6, h7⟩
  ·exact hi.obob l l' c h4 h6
  ·exact absurd h7 h5
  ·exact absurd h5 h7
  ·omega
 ·rcases hall l c q1 with ⟨h4, h5⟩ | ⟨h4, h5⟩
  ·exact hi.obar l k v c h4 q2
  ·subst h5
   exact fun e => h2 (Gh.arb_mem q2 e)
 ·rw [<- hi.obl]; simp

set_option maxHeartbeats 2000000 in
theorem drawL_one {all : Array Oper} {ow : Nat -> Bool} {ws fs : List Nat} {m q : Nat} {ex : List Nat} {V0 : List (List CV)} {A0 : List Arr} {σ : Nat -> St} (hd : drawOkL all ws fs m q = true) (hdst : dstsOk n all.toList = true)
  (htr : ∀ (j : Nat) o, all[j]? = some o -> StpF P all (ow j) fs j ex V0 A0 o (σ j) (σ (j + 1)) /\ (j ∈ ws \/ ((σ (j + 1)).V = (σ j).V /\ (σ (j + 1)).A = (σ j).A)) /\ (j < m -> Pre ex V0 A0 (σ (j + 1)) \/ ((σ (j + 1)).V = (σ j).V /\ (σ (j + 1)).A = (σ j).A))) (h00 : (σ 0).V = V0 /\ (σ 0).A = A0)
  {listed : Array Bool} {k0 : Nat} (hD : DSF all ws σ n w0 g0 listed k0 g a w) (hL : listed[q]? = some true -> ∀ i, i < q -> listed[i]? = some true) {j : Nat} (hj : j ∈ Region.ready .any all listed) (hq : j = q -> ∀ i, i < q -> listed[i]? = some true)
  {next : Act -> World -> Prop} {Q : Exit -> Act -> World -> Prop} (ih : ∀ k1 o g' a' w', all[j]? = some o -> (∀ t, o.dst ≠ some t -> a'.tmps[t]? = a.tmps[t]?) -> DSF all ws σ n w0 g0 (listed.setIfInBounds j true) k1 g' a' w' -> Fr w g w' g' -> next a' w') : wpOp P all Q j next a w := by
 simp only [drawOkL, Bool.and_eq_true, List.all_eq_true] at hd
 obtain ⟨⟨⟨⟨⟨hd1, hd2⟩, hd3⟩, hd4⟩, hd5⟩, hqw⟩ := hd
 have hqw : q ∈ ws := by simpa using hqw
 -- the checks, read
 have hmem : ∀ (j : Nat) o, all[j]? = some o -> (o, j) ∈ all.toList.zipIdx := fun j o h => by
  rw [List.mem_iff_getElem?]
  exact ⟨j, by simp [List.getElem?_zipIdx, h]⟩
 have hedge : ∀ (j : Nat) o, all[j]? = some o -> ∀ e ∈ o.after, Region.binds .any e = true -> e.on < j := fun j o h e he hb => by
  have := hd1 _ (hmem j o h) e (Array.mem_toList_iff.2 he)
  simpa [hb] using this
 have hpairL : ∀ (i j : Nat) oi oj, all[i]? = some oi -> all[j]? = some oj -> i < j -> pairOkL all ws fs m q (masks all.toList []) oi oj i j = true := fun i j oi oj h1 h2 hlt => by
  have := hd2 _ (hmem j oj h2) _ (hmem i oi h1)
  simpa [hlt] using this
 have hpairF : ∀ (i j : Nat) oi oj, all[i]? = some oi -> all[j]? = some oj -> i < j -> j ≠ q -> pairOkF all ws fs m (masks all.toList []) oi oj i j = true := fun i j oi oj h1 h2 hlt hne => by
  have := hpairL i j oi oj h1 h2 hlt
  simp only [pairOkL, if_neg hne, Bool.and_eq_true] at this
  exact this.1
 have hpair : ∀ (i j : Nat) oi oj, all[i]? = some oi -> all[j]? = some oj -> i < j -> j ≠ q -> i ∉ fs -> j ∉ fs -> pairOk all ws (masks all.toList []) oi oj i j = true := fun i j oi oj h1 h2 hlt hne hi hj => by
  have := hpairF i j oi oj h1 h2 hlt hne
  simpa [pairOkF, pairOk, hi, hj] using this
 have hwf : ∀ i, i ∈ ws -> i ∉ fs := fun i hi hf => by
  have := hd4 i hf
  simp [hi] at this
 have hpre : ∀ k, k <= m -> k <= all.size -> Pre ex V0 A0 (σ k) := by
  intro k
  induction k with
  | zero =>
   intro _ _
   refine ⟨?_, by rw [h00.2]; simp⟩
   rw [h00.1, exV_same]; simp
  | succ k ih =>
   intro h1 h2
   have ho : all[k]? = some all[k] := Array.getElem?_eq_getElem (by omega)
   rcases (htr k _ ho).2.2 (by omega) with h3 | ⟨h3, h4⟩
   ·exact h3
   ·have := ih (by omega) (by omega)
    exact ⟨by rw [h3]; exact this.1, by rw [h4]; exact this.2⟩
 have hws : ∀ (j : Nat) o, all[j]? = some o -> j ∈ ws -> isS o.op = false := fun j o h hj => by
  have := hd3 _ (hmem j o h)
  simpa [hj] using this
 have hdne : ∀ (i j : Nat) oi oj d, all[i]? = some oi -> all[j]? = some oj -> i < j -> oi.dst = some d -> oj.dst ≠ some d := fun i j oi oj d h1 h2 hlt h3 h4 => by
  have := hpairL i j oi oj h1 h2 hlt
  simp only [pairOkL, pairOkF, h3, h4] at this
  split at this <;> simp at this
 have hdu : ∀ (i j : Nat) oi oj d, all[i]? = some oi -> all[j]? = some oj -> oi.dst = some d -> oj.dst = some d -> i = j := fun i j oi oj d h1 h2 h3 h4 => by
  rcases Nat.lt_trichotomy i j with h | h | h
  ·exact absurd h4 (hdne i j oi oj d h1 h2 h h3)
  ·exact h
  ·exact absurd h3 (hdne j i oj oi d h2 h1 h h4)
 have hdn : ∀ (j : Nat) o d, all[j]? = some o -> o.dst = some d -> d < n := fun j o d h1 h2 => by
  have := List.all_eq_true.1 hdst o (by rw [Array.mem_toList_iff]; exact Array.mem_of_getElem? h1)
  simpa [h2] using this
 obtain ⟨hml, _, hms⟩ := masks_spec all.toList []
 -- the order that the edges force
 have hbit : ∀ {listed : Array Bool}, (∀ (i : Nat) o, all[i]? = some o -> listed[i]? = some true -> ∀ e ∈ o.after, Region.binds .any e = true -> listed[e.on]? = some true) ->
   ∀ (i : Nat) o, all[i]? = some o -> (∀ e ∈ o.after, Region.binds .any e = true -> listed[e.on]? = some true) -> ∀ k, ((masks all.toList []).getD i 0).testBit k = true -> listed[k]? = some true := by
  intro listed hcl i
  induction i using Nat.strongRecOn with
  | _ i ih =>
   intro o ho hafter k hk
   obtain ⟨pre, h1, h2, h3⟩ := hms i o (by simpa using ho)
   simp only [List.length_nil, Nat.zero_add] at h1 h3
   have h4 : (masks all.toList []).getD i 0 = mask1 pre o := by simp [List.getD, h3]
   rw [h4] at hk
   obtain ⟨e, he, hb, h5⟩ := mask1_spec hk
   have he1 := hafter e he hb
   rcases h5 with rfl | h5
   ·exact he1
   ·have hlt := hedge i o ho e he hb
    have h6 : pre.getD e.on 0 = (masks all.toList []).getD e.on 0 := by simp only [List.getD, h2 e.on (by omega)]
    rw [h6] at h5
    have hsz : e.on < all.size := by have := (Array.getElem?_eq_some_iff.1 ho).1; omega
    have hoe : all[e.on]? = some all[e.on] := Array.getElem?_eq_getElem hsz
    exact ih e.on hlt _ hoe (hcl e.on _ hoe he1) k h5
 -- frames
 have hstep : ∀ (j : Nat) o t, all[j]? = some o -> o.dst ≠ some t -> look (σ (j + 1)).fr t = look (σ j).fr t := fun j o t h1 h2 => by
  obtain ⟨⟨_, h3⟩, _⟩ := htr j o h1
  have hput : ∀ (x : AV) V A, look ((σ j).put o.dst x V A).fr t = look (σ j).fr t := fun x V A => by
   simp only [St.put]
   cases hdd : o.dst with
   | none => rfl
   | some d => simp only [look]; rw [if_neg (fun e => h2 (by rw [hdd, e]))]
  rcases h3 with ⟨_, x, V, A, h4, _, _⟩ | ⟨_, h4⟩
  ·rw [h4]; exact hput x V A
  ·rw [h4]; exact hput _ _ _
 have hfrB : ∀ (j t : Nat), j <= all.size -> (∀ (i : Nat) o, i < j -> all[i]? = some o -> o.dst ≠ some t) -> look (σ j).fr t = look (σ 0).fr t := by
  intro j
  induction j with
  | zero => intro t _ _; rfl
  | succ j ih =>
   intro t hj hno
   have ho : all[j]? = some all[j] := Array.getElem?_eq_getElem (by omega)
   rw [hstep j _ t ho (hno j _ (by omega) ho)]
   exact ih t (by omega) (fun i o hi => hno i o (by omega))
 have hfrA : ∀ (j i : Nat) oi t, j <= all.size -> i < j -> all[i]? = some oi -> oi.dst = some t -> look (σ j).fr t = look (σ (i + 1)).fr t := by
  intro j
  induction j with
  | zero => intro i oi t _ h; omega
  | succ j ih =>
   intro i oi t hj hij hoi hdt
   by_cases e : i = j
   ·subst e; rfl
   ·have ho : all[j]? = some all[j] := Array.getElem?_eq_getElem (by omega)
    rw [hstep j _ t ho (hdne i j oi _ t hoi ho (by omega) hdt)]
    exact ih i oi t (by omega) (by omega) hoi hdt
 have hVA : ∀ (b a : Nat), a <= b -> b <= all.size -> (∀ i, a <= i -> i < b -> i ∉ ws) -> (σ b).V = (σ a).V /\ (σ b).A = (σ a).A := by
  intro b
  induction b with
  | zero =>
   intro a h _ _
   obtain rfl : a = 0 := by omega
   exact ⟨rfl, rfl⟩
  | succ b ih =>
   intro a hab hb hno
   by_cases e : a = b + 1
   ·subst e; exact ⟨rfl, rfl⟩
   ·have ho : all[b]? = some all[b] := Array.getElem?_eq_getElem (by omega)
    obtain ⟨h1, h2⟩ := ih a (by omega) (by omega) (fun i hi hi' => hno i hi (by omega))
    rcases (htr b _ ho).2.1 with h3 | ⟨h3, h4⟩
    ·exact absurd h3 (hno b (by omega) (by omega))
    ·exact ⟨h3.trans h1, h4.trans h2⟩
 -- one operation
 obtain ⟨hun, o, ho, hafter⟩ := mem_ready.1 hj
 have hju := unlisted_of hun
 have hjn : j < all.size := (Array.getElem?_eq_some_iff.1 ho).1
 have hjl : j < listed.size := by rw [hD.lsize]; exact hjn
 have hne : ∀ i, j < i -> listed[i]? = some true -> i ≠ q := fun i h hl e => by
  subst e
  have := hL hl j h
  rw [hju] at this; simp at this
 have hafter' : ∀ e ∈ o.after, Region.binds .any e = true -> listed[e.on]? = some true := fun e he hb => listed_iff.1 (hafter e he hb)
 have hbefore : ∀ k, ((masks all.toList []).getD j 0).testBit k = true -> listed[k]? = some true := hbit hD.closed j o ho hafter'
 have hbehind : ∀ (i : Nat) oi, all[i]? = some oi -> listed[i]? = some true -> ((masks all.toList []).getD i 0).testBit j = false := fun i oi hoi hli => by
  cases hb : ((masks all.toList []).getD i 0).testBit j with
  | false => rfl
  | true => have := hbit hD.closed i oi hoi (hD.closed i oi hoi hli) j hb; rw [hju] at this; simp at this
 -- what the operation looks at
 have hlooks : ∀ t ∈ o.looksAt all, ∀ x, look (σ j).fr t = some x -> ∃ u, a.tmps[t]? = some u /\ RepV g w (σ k0).A x u := by
  intro t ht x hx
  by_cases hex : ∃ (i : Nat) (oi : Oper), i < j /\ all[i]? = some oi /\ oi.dst = some t
  ·obtain ⟨i, oi, hij, hoi, hdt⟩ := hex
   rw [hfrA j i oi t (by omega) hij hoi hdt] at hx
   have hli : listed[i]? = some true := by
    by_cases e : j = q
    ·exact hq e i (by omega)
    ·have hp := hpairF i j oi o hoi ho hij e
     have htc : touch all oi o = true := by simp only [touch, hdt]; simpa using ht
     simp only [pairOkF, htc, Bool.and_eq_true, Bool.or_eq_true] at hp
     have hb : ((masks all.toList []).getD j 0).testBit i = true := by simpa using hp.2
     exact hbefore i hb
   exact hD.slot1 i oi t x hoi hli hdt hx
  ·rw [hfrB j t (by omega) (fun i oi hij hoi hdt => hex ⟨i, oi, hij, hoi, hdt⟩)] at hx
   refine hD.slot0 t x (fun i oi hoi hli hdt => ?_) hx
   rcases Nat.lt_trichotomy i j with h | h | h
   ·exact hex ⟨i, oi, h, hoi, hdt⟩
   ·subst h; rw [hju] at hli; simp at hli
   ·have hp := hpairF j i o oi ho hoi h (hne i h hli)
    have htc : touch all oi o = true := by simp only [touch, hdt]; simpa using ht
    have hb := hbehind i oi hoi hli
    simp only [pairOkF, htc, hb, Bool.and_eq_true, Bool.or_eq_true] at hp
    simp at hp
 let fr' := (σ j).fr.filter fun p => (o.looksAt all).contains p.1
 have hlk : ∀ t, look fr' t = if (o.looksAt all).contains t then look (σ j).fr t else none := fun t => look_filter (fun t => (o.looksAt all).contains t) (σ j).fr t
 have hS : ∀ (V : List (List CV)), Slots g w ⟨fr', V, (σ k0).A⟩ a := fun V t x hx => by
  simp only [hlk] at hx
  split at hx
  ·rename_i hc; exact hlooks t (by simpa using hc) x hx
  ·cases hx
 have hop : ∀ (V V' : List (List CV)) (A A' : List Arr), ∀ x ∈ o.op.operands.toList, aval ⟨fr', V, A⟩ x = aval ⟨(σ j).fr, V', A'⟩ x := fun V V' A A' x hx => by
  cases x with
  | tmp t =>
   simp only [aval, hlk]
   rw [if_pos]
   simp only [Oper.looksAt, List.contains_eq_mem, decide_eq_true_eq, List.mem_append, List.mem_filterMap]
   exact .inl ⟨.tmp t, hx, rfl⟩
  | _ => rfl
 have hRr : Rp n w0 g0 ⟨fr', (σ k0).V, (σ k0).A⟩ g a w := ⟨hD.inv, hD.fr, hD.size, hD.defers, hS _⟩
 -- the guard
 obtain ⟨⟨hgd, hst⟩, hor, _⟩ := htr j o ho
 have hgd' : gdo all ⟨fr', (σ k0).V, (σ k0).A⟩ o True True /\ gw all ⟨fr', (σ k0).V, (σ k0).A⟩ o = gw all (σ j) o := by
  unfold gdo gw at *
  cases hgg : o.guard with
  | none => simp
  | some jw =>
   obtain ⟨q, want⟩ := jw
   simp only [hgg] at hgd ⊢
   obtain ⟨oq, h1, h2⟩ := onv_some hgd
   obtain ⟨t, h3, h4⟩ := onv_some h2
   have : look fr' t = look (σ j).fr t := by
    rw [hlk, if_pos]
    simp only [Oper.looksAt, hgg, List.contains_eq_mem, decide_eq_true_eq, List.mem_append]
    exact .inr (by simp [h1, h3])
   simp only [h1, onv, h3, Option.bind_some, this] at h4 ⊢
   exact ⟨h4, trivial⟩
 have hwant : Region.wanted o (yielded all a.tmps) = gw all (σ j) o := by
  rw [<- hgd'.2]
  have h0 := gdo_mono hgd'.1
  -- both say the same
  have h1 := hgd'.1
  unfold gdo at h1
  unfold gw
  cases hgg : o.guard with
  | none => simp [Region.wanted, hgg]
  | some jw =>
   obtain ⟨q, want⟩ := jw
   simp only [hgg] at h1 ⊢
   obtain ⟨oq, h2, h3⟩ := onv_some h1
   obtain ⟨t, h4, h5⟩ := onv_some h3
   obtain ⟨x, h6, h7⟩ := onv_some h5
   obtain ⟨h8, h9⟩ := yielded_of hRr h2 h4 h6
   simp only [h2, Option.bind_some, h4, h6]
   split at h7
   ·rename_i b; simp [Region.wanted, hgg, h8 b rfl]
   ·simp [Region.wanted, hgg, h9 rfl]
   ·exact h7.elim
 -- the state behind it
 have hset : ∀ i, (listed.setIfInBounds j true)[i]? = if i = j then some true else listed[i]? := fun i => by
  by_cases e : i = j
  ·subst e; simp [hjl]
  ·rw [if_neg e, Array.getElem?_setIfInBounds_ne (fun h => e h.symm)]
 have hoth : ∀ (v : Value) (t : Nat), o.dst ≠ some t -> (a.put o.dst v).tmps[t]? = a.tmps[t]? := fun v t hne => by
  cases hdd : o.dst with
  | none => rfl
  | some d =>
   simp only [Act.put]
   rw [Array.getElem?_setIfInBounds_ne (fun e => hne (by rw [hdd, e]))]
 have hnext : ∀ (k1 : Nat) (x : AV) (v : Value) (w' : World) (g' : Gh), look (σ (j + 1)).fr = look ((σ j).put o.dst x [] []).fr -> RepV g' w' (σ k1).A x v -> Inv g' w' (σ k1).V (σ k1).A -> Ext g w (σ k0).A g' w' (σ k1).A -> Fr w0 g0 w' g' -> k1 <= all.size -> (k1 = 0 \/ ∃ i ∈ ws, k1 = i + 1) ->
   (∀ i ∈ ws, i < all.size -> ((listed.setIfInBounds j true)[i]? = some true ↔ i < k1)) -> DSF all ws σ n w0 g0 (listed.setIfInBounds j true) k1 g' (a.put o.dst v) w' := by
  intro k1 x v w' g' hfr hrv hI hx hF hk hkw hwp
  have hputs : ∀ t u, o.dst ≠ some t -> a.tmps[t]? = some u -> (a.put o.dst v).tmps[t]? = some u := fun t u hne hu => by
   cases hdd : o.dst with
   | none => exact hu
   | some d =>
    simp only [Act.put]
    rw [Array.getElem?_setIfInBounds_ne (fun e => hne (by rw [hdd, e]))]; exact hu
  refine ⟨hI, hF, ?_, ?_, by simp [hD.lsize], fun i oi t y hoi hli hdt hy => ?_, fun t y hno hy => ?_, hwp, hk, hkw, fun i oi hoi hli e he hb => ?_⟩
  ·cases o.dst <;> simp [Act.put, hD.size]
  ·cases o.dst <;> simp [Act.put, hD.defers]
  ·rw [hset] at hli
   by_cases e : i = j
   ·subst e
    obtain rfl : o = oi := by rw [ho] at hoi; exact Option.some.inj hoi
    rw [hfr] at hy
    simp only [St.put, hdt, look, if_true] at hy
    cases hy
    refine ⟨v, ?_, hrv⟩
    have : t < a.tmps.size := by rw [hD.size]; exact hdn i o t ho hdt
    simp [Act.put, hdt, this]
   ·rw [if_neg e] at hli
    obtain ⟨u, h1, h2⟩ := hD.slot1 i oi t y hoi hli hdt hy
    exact ⟨u, hputs t u (fun h => e (hdu i j oi o t hoi ho hdt h)) h1, RepV.ext hx h2⟩
  ·have hne : o.dst ≠ some t := hno j o ho (by rw [hset, if_pos rfl])
   obtain ⟨u, h1, h2⟩ := hD.slot0 t y (fun i oi hoi hli => hno i oi hoi (by
    rw [hset]
    by_cases e : i = j
    ·rw [if_pos e]
    ·rw [if_neg e]; exact hli)) hy
   exact ⟨u, hputs t u hne h1, RepV.ext hx h2⟩
  ·rw [hset] at hli ⊢
   have : listed[e.on]? = some true := by
    by_cases e' : i = j
    ·subst e'
     obtain rfl : o = oi := by rw [ho] at hoi; exact Option.some.inj hoi
     exact hafter' e he hb
    ·rw [if_neg e'] at hli
     exact hD.closed i oi hoi hli e he hb
   by_cases e' : e.on = j
   ·rw [if_pos e']
   ·rw [if_neg e']; exact this
 have hwp0 : j ∉ ws -> ∀ i ∈ ws, i < all.size -> ((listed.setIfInBounds j true)[i]? = some true ↔ i < k0) := fun hjw i hi hin => by
  rw [hset, if_neg (fun e => hjw (by rw [<- e]; exact hi))]
  exact hD.wprog i hi hin
 have hva : isS o.op = false -> j ∉ fs -> (σ j).V = (σ k0).V /\ (σ j).A = (σ k0).A := by
  intro hns hjf
  rcases Nat.le_total j k0 with h | h
  ·have := hVA k0 j h hD.kle (fun i h1 h2 h3 => by
    have hin : i < all.size := by have := hD.kle; omega
    have hli := (hD.wprog i h3 hin).2 h2
    have hoi : all[i]? = some all[i] := Array.getElem?_eq_getElem hin
    rcases Nat.lt_or_ge j i with h4 | h4
    ·have hp := hpair j i o _ ho hoi h4 (hne i h4 hli) hjf (hwf i h3)
     have hb := hbehind i _ hoi hli
     simp only [pairOk, hb, Bool.and_eq_true, Bool.or_eq_true] at hp
     simp [h3, hns, -isS] at hp
    ·obtain rfl : i = j := by omega
     rw [hju] at hli; simp at hli)
   exact ⟨this.1.symm, this.2.symm⟩
  ·exact hVA j k0 h (by omega) (fun i h1 h2 h3 => by
    have hin : i < all.size := by omega
    have hoi : all[i]? = some all[i] := Array.getElem?_eq_getElem hin
    have hli : listed[i]? = some true := by
     by_cases e : j = q
     ·exact hq e i (by omega)
     ·have hp := hpair i j _ o hoi ho h2 e (hwf i h3) hjf
      simp only [pairOk, Bool.and_eq_true, Bool.or_eq_true] at hp
      rcases hp.2 with h4 | h4
      ·simp [h3, hns, -isS] at h4
      ·exact hbefore i h4
    have := (hD.wprog i h3 hin).1 hli
    omega)
 -- carried out, or passed over
 unfold wpOp
 simp only [ho]
 rcases hst with ⟨h1, x, V, A, h2, h3, h3f⟩ | ⟨h1, h2⟩
 ·rw [if_pos (by rw [hwant, h1])]
  refine .inl ?_
  by_cases hs : isS o.op = true
  ·-- slots alone
   have hjw : j ∉ ws := fun h => by have := hws j o ho h; rw [hs] at this; simp at this
   have h4 : astep P ⟨fr', (σ k0).V, (σ k0).A⟩ (ow j) o (fun y V' A' => y = x /\ V' = (σ k0).V /\ A' = (σ k0).A) := astep_S (s := σ j) (s' := ⟨fr', (σ k0).V, (σ k0).A⟩) hs (hop _ _ _ _) h3 ⟨rfl, rfl, rfl⟩
   obtain ⟨y, V', A', ⟨rfl, rfl, rfl⟩, h5⟩ := astep_wp hRr.inv (Fr.refl hRr.fr.now) hRr.slot h4
   refine h5 _ _ fun v w' g' h6 h7 h8 h9 => ih k0 o g' _ w' ho (hoth v) (hnext k0 y v w' g' (by rw [h2]; rfl) h6 h7 h8 (hD.fr.trans h9) hD.kle hD.kw (hwp0 hjw)) h9
  ·have hns : isS o.op = false := by simpa using hs
   by_cases hjf : j ∈ fs
   ·have hjw : j ∉ ws := fun h => hwf j h hjf
    have hk0m : k0 <= m := by
     rcases hD.kw with h | ⟨i, hi, hk⟩
     ·omega
     ·rcases Nat.lt_or_ge i m with h | h
      ·omega
      ·exfalso
       have hin : i < all.size := by have := hD.kle; omega
       have hoi : all[i]? = some all[i] := Array.getElem?_eq_getElem hin
       have hli := (hD.wprog i hi hin).2 (by omega)
       have hji : j < i := by
        have := hd5 j hjf i hi
        simp at this; omega
       have hp := hpairF j i o _ ho hoi hji (hne i hji hli)
       have hb := hbehind i _ hoi hli
       have hnm : ¬ i < m := by omega
       simp only [pairOkF, hb, Bool.and_eq_true, Bool.or_eq_true] at hp
       simp [-isS, hi, hns, hnm, hjf, hjw] at hp
    obtain ⟨hp1, hp2⟩ := hpre k0 hk0m hD.kle
    have h4 : astep P ⟨fr', (σ k0).V, (σ k0).A⟩ (ow j) o (fun y V' A' => y = x /\ V' = (σ k0).V /\ A' = (σ k0).A) := by
     have h5 := h3f hjf (fun i => (σ k0).V.getD i []) ((σ k0).V.drop V0.length) ((σ k0).A.drop A0.length)
     have e1 : exV ex (fun i => (σ k0).V.getD i []) V0 ++ (σ k0).V.drop V0.length = (σ k0).V := by
      rw [<- hp1]; exact List.take_append_drop _ _
     have e2 : A0 ++ (σ k0).A.drop A0.length = (σ k0).A := by conv => lhs; arg 1; rw [<- hp2]
                                                              exact List.take_append_drop _ _
     rw [e1, e2] at h5
     exact astep_congr (fr := (σ j).fr) (hop _ _ _ _) h5
    obtain ⟨y, V', A', ⟨rfl, rfl, rfl⟩, h5⟩ := astep_wp hRr.inv (Fr.refl hRr.fr.now) hRr.slot h4
    exact h5 _ _ fun v w' g' h6 h7 h8 h9 => ih k0 o g' _ w' ho (hoth v) (hnext k0 y v w' g' (by rw [h2]; rfl) h6 h7 h8 (hD.fr.trans h9) hD.kle hD.kw (hwp0 hjw)) h9
   obtain ⟨hv1, hv2⟩ := hva hns hjf
   have h4 : astep P ⟨fr', (σ k0).V, (σ k0).A⟩ (ow j) o (fun y V' A' => y = x /\ V' = V /\ A' = A) := by
    rw [<- hv1, <- hv2]
    exact astep_congr (fr := (σ j).fr) (hop _ _ _ _) (h3 _ ⟨rfl, rfl, rfl⟩)
   obtain ⟨y, V', A', ⟨rfl, rfl, rfl⟩, h5⟩ := astep_wp hRr.inv (Fr.refl hRr.fr.now) hRr.slot h4
   have hVj : (σ (j + 1)).V = V' := by rw [h2]; rfl
   have hAj : (σ (j + 1)).A = A' := by rw [h2]; rfl
   by_cases hjw : j ∈ ws
   ·refine h5 _ _ fun v w' g' h6 h7 h8 h9 => ih (j + 1) o g' _ w' ho (hoth v) (hnext (j + 1) y v w' g' (by rw [h2]; rfl) (by rw [hAj]; exact h6) (by rw [hVj, hAj]; exact h7) (by rw [hAj]; exact h8) (hD.fr.trans h9) (by omega) (.inr ⟨j, hjw, rfl⟩) (fun i hi hin => ?_)) h9
    have hoi : all[i]? = some all[i] := Array.getElem?_eq_getElem hin
    rw [hset]
    by_cases e : i = j
    ·subst e; simp
    ·rw [if_neg e]
     constructor
     ·intro hli
      rcases Nat.lt_or_ge j i with h | h
      ·have hp := hpair j i o _ ho hoi h (hne i h hli) (hwf j hjw) (hwf i hi)
       have hb := hbehind i _ hoi hli
       simp only [pairOk, hb, Bool.and_eq_true, Bool.or_eq_true] at hp
       simp [hi, hns, -isS] at hp
      ·omega
     ·intro hlt
      by_cases e : j = q
      ·exact hq e i (by omega)
      have hp := hpair i j _ o hoi ho (by omega) e (hwf i hi) (hwf j hjw)
      simp only [pairOk, Bool.and_eq_true, Bool.or_eq_true] at hp
      rcases hp.2 with h | h
      ·simp [hi, hns, -isS] at h
      ·exact hbefore i h
   ·rcases hor with hor | ⟨ho1, ho2⟩
    ·exact absurd hor hjw
    ·refine h5 _ _ fun v w' g' h6 h7 h8 h9 => ih k0 o g' _ w' ho (hoth v) (hnext k0 y v w' g' (by rw [h2]; rfl) ?_ ?_ ?_ (hD.fr.trans h9) hD.kle hD.kw (hwp0 hjw)) h9
     ·rw [<- hv2, <- ho2, hAj]; exact h6
     ·rw [<- hv1, <- hv2, <- ho1, <- ho2, hVj, hAj]; exact h7
     ·have e1 : (σ k0).A = A' := by rw [<- hv2, <- ho2, hAj]
      rw [e1] at h8 ⊢; exact h8
 ·rw [if_neg (by rw [hwant, h1]; simp)]
  have hVj : (σ (j + 1)).V = (σ j).V := by rw [h2]; rfl
  have hAj : (σ (j + 1)).A = (σ j).A := by rw [h2]; rfl
  by_cases hjw : j ∈ ws
  ·have hns := hws j o ho hjw
   obtain ⟨hv1, hv2⟩ := hva hns (hwf j hjw)
   refine ih (j + 1) o g _ w ho (hoth undef) (hnext (j + 1) (.c .undef) undef w g (by rw [h2]; rfl) rfl ?_ ?_ hD.fr (by omega) (.inr ⟨j, hjw, rfl⟩) (fun i hi hin => ?_)) (.refl hD.fr.now)
   ·rw [hVj, hAj, hv1, hv2]; exact hD.inv
   ·rw [hAj, hv2]; exact .refl _ _ _
   ·have hoi : all[i]? = some all[i] := Array.getElem?_eq_getElem hin
    rw [hset]
    by_cases e : i = j
    ·subst e; simp
    ·rw [if_neg e]
     constructor
     ·intro hli
      rcases Nat.lt_or_ge j i with h | h
      ·have hp := hpair j i o _ ho hoi h (hne i h hli) (hwf j hjw) (hwf i hi)
       have hb := hbehind i _ hoi hli
       simp only [pairOk, hb, Bool.and_eq_true, Bool.or_eq_true] at hp
       simp [hi, hns, -isS] at hp
      ·omega
     ·intro hlt
      by_cases e : j = q
      ·exact hq e i (by omega)
      have hp := hpair i j _ o hoi ho (by omega) e (hwf i hi) (hwf j hjw)
      simp only [pairOk, Bool.and_eq_true, Bool.or_eq_true] at hp
      rcases hp.2 with h | h
      ·simp [hi, hns, -isS] at h
      ·exact hbefore i h
  ·exact ih k0 o g _ w ho (hoth undef) (hnext k0 (.c .undef) undef w g (by rw [h2]; rfl) rfl hD.inv (.refl _ _ _) hD.fr hD.kle hD.kw (hwp0 hjw)) (.refl hD.fr.now)

structure Late (all : Array Oper) (ws : List Nat) (σ : Nat -> St) (n : Nat) (w0 : World) (g0 : Gh) (q d : Nat) (row : List CV) (cs : Array Value) (ty : TypeId) (listed : Array Bool) (k0 : Nat) (b : Nat) (g : Gh) (a : Act) (w : World) : Prop where
 got : listed[q]? = some true
 base : DSF all ws σ n w0 g0 (listed.setIfInBounds q false) k0 g a w
 slot : a.tmps[d]? = some (.pointer (some ⟨b, 0, none⟩))
 mem : w.heap[b]? = some (.cells cs ty)
 ob : b ∉ g.ob
 arb : b ∉ g.arb
 im : g.im b = 0
 new : w0.heap.size <= b
 lt : b < w.heap.size
 closed : ∀ (i : Nat) o, all[i]? = some o -> listed[i]? = some true -> ∀ e ∈ o.after, Region.binds .any e = true -> listed[e.on]? = some true

theorem Late.step {all : Array Oper} {ws : List Nat} {σ : Nat -> St} {q d : Nat} {row : List CV} {cs : Array Value} {ty : TypeId} {listed : Array Bool} {k0 k1 b : Nat} {a' : Act} (h : Late all ws σ n w0 g0 q d row cs ty listed k0 b g a w) {j : Nat} (hjq : j ≠ q) (ha : a'.tmps[d]? = a.tmps[d]?)
  (hD : DSF all ws σ n w0 g0 ((listed.setIfInBounds q false).setIfInBounds j true) k1 g' a' w') (hF : Fr w g w' g') (hcl : ∀ (i : Nat) o, all[i]? = some o -> (listed.setIfInBounds j true)[i]? = some true -> ∀ e ∈ o.after, Region.binds .any e = true -> (listed.setIfInBounds j true)[e.on]? = some true) : Late all ws σ n w0 g0 q d row cs ty (listed.setIfInBounds j true) k1 b g' a' w' := by
 refine ⟨by rw [Array.getElem?_setIfInBounds_ne hjq]; exact h.got, ?_, by rw [ha]; exact h.slot, by rw [hF.blk b h.lt h.ob h.arb]; exact h.mem, fun hm => ?_, fun hm => ?_, by rw [hF.imeq b h.lt h.arb]; exact h.im, h.new, Nat.lt_of_lt_of_le h.lt hF.size, hcl⟩
 ·rw [Array.setIfInBounds_comm _ _ hjq]; exact hD
 ·obtain ⟨new, e, hn⟩ := hF.ob
  rw [e] at hm
  rcases List.mem_append.1 hm with p | p
  ·exact h.ob p
  ·have := hn b p; have := h.lt; omega
 ·obtain ⟨k, v, q1, q2⟩ := Gh.mem_arb hm
  rcases hF.ar k v b q1 q2 with p | p
  ·have := h.lt; omega
  ·exact h.arb p

structure LateOk (P : Program) (all : Array Oper) (ow : Nat -> Bool) (σ : Nat -> St) (q d : Nat) (row : List CV) (cs : Array Value) (ty : TypeId) (oq : Oper) : Prop where
 at_ : all[q]? = some oq
 guard : oq.guard = none
 dst : oq.dst = some d
 s0 : look (σ 0).fr d = none
 size : cs.size = row.length
 cells : ∀ (j : Nat) c u, row[j]? = some c -> cs[j]? = some u -> ∀ g w A, RepC g w A c u
 next : σ (q + 1) = (σ q).put (some d) (.c (.ptr (σ q).V.length 0)) ((σ q).V ++ [row]) (σ q).A
 run : ∀ (a : Act) (w : World), (execOp a.eval oq).run P w = .ok (.value (.pointer (some ⟨w.heap.size, 0, none⟩))) (w.alloc (.cells cs ty))

theorem setTF (l : Array Bool) (q : Nat) (h : l[q]? ≠ some true) (hq : q < l.size) : (l.setIfInBounds q true).setIfInBounds q false = l := by
 apply Array.ext_getElem?
 intro i
 rw [Array.getElem?_setIfInBounds]
 by_cases e : q = i
 ·subst e
  have : l[q] = false := by
   rw [Array.getElem?_eq_getElem hq] at h
   cases hx : l[q] <;> simp_all
  simp [hq, this]
 ·rw [if_neg e, Array.getElem?_setIfInBounds_ne e]

theorem hdrawL {all : Array Oper} {ws fs : List Nat} {m q : Nat} (hd : drawOkL all ws fs m q = true) : q ∈ ws /\ (∀ (j : Nat) o, all[j]? = some o -> ∀ e ∈ o.after, Region.binds .any e = true -> e.on < j) /\
  (∀ (i j : Nat) oi oj, all[i]? = some oi -> all[j]? = some oj -> i <= q -> q < j -> ((masks all.toList []).getD j 0).testBit i = true) /\ (∀ (i j : Nat) oi oj d, all[i]? = some oi -> all[j]? = some oj -> i ≠ j -> oi.dst = some d -> oj.dst ≠ some d) := by
 simp only [drawOkL, Bool.and_eq_true, List.all_eq_true] at hd
 obtain ⟨⟨⟨⟨⟨hd1, hd2⟩, hd3⟩, hd4⟩, hd5⟩, hqw⟩ := hd
 have hmem : ∀ (j : Nat) o, all[j]? = some o -> (o, j) ∈ all.toList.zipIdx := fun j o h => by
  rw [List.mem_iff_getElem?]
  exact ⟨j, by simp [List.getElem?_zipIdx, h]⟩
 have hpairL : ∀ (i j : Nat) oi oj, all[i]? = some oi -> all[j]? = some oj -> i < j -> pairOkL all ws fs m q (masks all.toList []) oi oj i j = true := fun i j oi oj h1 h2 hlt => by
  have := hd2 _ (hmem j oj h2) _ (hmem i oi h1)
  simpa [hlt] using this
 have hlt' : ∀ (i j : Nat) oi oj d, all[i]? = some oi -> all[j]? = some oj -> i < j -> oi.dst = some d -> oj.dst ≠ some d := fun i j oi oj d h1 h2 hlt h3 h4 => by
  have := hpairL i j oi oj h1 h2 hlt
  simp only [pairOkL, pairOkF, h3, h4] at this
  split at this <;> simp at this
 refine ⟨by simpa using hqw, fun j o h e he hb => ?_, fun i j oi oj h1 h2 h3 h4 => ?_, fun i j oi oj d h1 h2 hne h3 h4 => ?_⟩
 ·have := hd1 _ (hmem j o h) e (Array.mem_toList_iff.2 he)
  simpa [hb] using this
 ·have := hpairL i j oi oj h1 h2 (by omega)
  simp only [pairOkL, if_neg (show ¬ j = q by omega), Bool.and_eq_true] at this
  simpa [h3, h4] using this.2
 ·rcases Nat.lt_or_gt_of_ne hne with h | h
  ·exact hlt' i j oi oj d h1 h2 h h3 h4
  ·exact hlt' j i oj oi d h2 h1 h h4 h3

theorem bit_listed {all : Array Oper} (hedge : ∀ (j : Nat) o, all[j]? = some o -> ∀ e ∈ o.after, Region.binds .any e = true -> e.on < j) {listed : Array Bool} (hcl : ∀ (i : Nat) o, all[i]? = some o -> listed[i]? = some true -> ∀ e ∈ o.after, Region.binds .any e = true -> listed[e.on]? = some true) :
  ∀ (i : Nat) o, all[i]? = some o -> (∀ e ∈ o.after, Region.binds .any e = true -> listed[e.on]? = some true) -> ∀ k, ((masks all.toList []).getD i 0).testBit k = true -> listed[k]? = some true := by
 obtain ⟨hml, _, hms⟩ := masks_spec all.toList []
 intro i
 induction i using Nat.strongRecOn with
 | _ i ih =>
  intro o ho hafter k hk
  obtain ⟨pre, h1, h2, h3⟩ := hms i o (by simpa using ho)
  simp only [List.length_nil, Nat.zero_add] at h1 h3
  have h4 : (masks all.toList []).getD i 0 = mask1 pre o := by simp [List.getD, h3]
  rw [h4] at hk
  obtain ⟨e, he, hb, h5⟩ := mask1_spec hk
  have he1 := hafter e he hb
  rcases h5 with rfl | h5
  ·exact he1
  ·have hlt := hedge i o ho e he hb
   have h6 : pre.getD e.on 0 = (masks all.toList []).getD e.on 0 := by simp only [List.getD, h2 e.on (by omega)]
   rw [h6] at h5
   have hsz : e.on < all.size := by have := (Array.getElem?_eq_some_iff.1 ho).1; omega
   have hoe : all[e.on]? = some all[e.on] := Array.getElem?_eq_getElem hsz
   exact ih e.on hlt _ hoe (hcl e.on _ hoe he1) k h5

theorem Late.reg {all : Array Oper} {ow : Nat -> Bool} {ws fs : List Nat} {m q : Nat} {σ : Nat -> St} (hd : drawOkL all ws fs m q = true) {d : Nat} {row : List CV} {cs : Array Value} {ty : TypeId} {oq : Oper} (hk : LateOk P all ow σ q d row cs ty oq)
  (hw : ∀ (j : Nat) o, all[j]? = some o -> j ∈ ws \/ ((σ (j + 1)).V = (σ j).V /\ (σ (j + 1)).A = (σ j).A))
  {listed : Array Bool} {k0 b : Nat} (h : Late all ws σ n w0 g0 q d row cs ty listed k0 b g a w) (hall : ∀ i, i < q -> listed[i]? = some true) : ∃ g', DSF all ws σ n w0 g0 listed (q + 1) g' a w := by
 obtain ⟨hqw, hedge, hbits, hdu⟩ := hdrawL hd
 have hqn : q < all.size := (Array.getElem?_eq_some_iff.1 hk.at_).1
 have hset : ∀ i, i ≠ q -> (listed.setIfInBounds q false)[i]? = listed[i]? := fun i hi => Array.getElem?_setIfInBounds_ne (fun e => hi e.symm)
 have hql : q < listed.size := (Array.getElem?_eq_some_iff.1 h.got).1
 have hsq : (listed.setIfInBounds q false)[q]? = some false := by simp [hql]
 have hno : ∀ i, q < i -> listed[i]? ≠ some true := fun i hi hl => by
  have hin : i < all.size := by
   have := (Array.getElem?_eq_some_iff.1 hl).1
   have e := h.base.lsize
   simp at e; omega
  have hoi : all[i]? = some all[i] := Array.getElem?_eq_getElem hin
  have := bit_listed hedge h.base.closed i _ hoi (h.base.closed i _ hoi (by rw [hset i (by omega)]; exact hl)) q (hbits q i _ _ hk.at_ hoi (Nat.le_refl _) hi)
  rw [hsq] at this; simp at this
 have hk0 : k0 <= q := by
  rcases h.base.kw with e | ⟨i, hi, e⟩
  ·omega
  ·rcases Nat.lt_or_ge i q with h1 | h1
   ·omega
   ·have := h.base.kle
    have h2 := (h.base.wprog i hi (by omega)).2 (by omega)
    rcases Nat.eq_or_lt_of_le h1 with h3 | h3
    ·subst h3; rw [hsq] at h2; simp at h2
    ·rw [hset i (by omega)] at h2; exact absurd h2 (hno i h3)
 have hVA : ∀ c, k0 <= c -> c <= q -> (σ c).V = (σ k0).V /\ (σ c).A = (σ k0).A := by
  intro c
  induction c with
  | zero => intro h1 _; obtain rfl : k0 = 0 := by omega
            exact ⟨rfl, rfl⟩
  | succ c ih =>
   intro h1 h2
   by_cases e : k0 = c + 1
   ·subst e; exact ⟨rfl, rfl⟩
   ·obtain ⟨h3, h4⟩ := ih (by omega) (by omega)
    rcases hw c _ (Array.getElem?_eq_getElem (by omega)) with h5 | ⟨h5, h6⟩
    ·have := (h.base.wprog c h5 (by omega)).1 (by rw [hset c (by omega)]; exact hall c (by omega))
     omega
    ·exact ⟨h5.trans h3, h6.trans h4⟩
 obtain ⟨hv1, hv2⟩ := hVA q hk0 (Nat.le_refl _)
 obtain ⟨hI, hx, hb⟩ := h.base.inv.reg h.mem hk.size hk.cells h.ob h.arb h.im
 have hVn : (σ (q + 1)).V = (σ k0).V ++ [row] := by rw [hk.next, <- hv1]; rfl
 have hAn : (σ (q + 1)).A = (σ k0).A := by rw [hk.next, <- hv2]; rfl
 refine ⟨{ g with ob := g.ob ++ [b] }, by rw [hVn, hAn]; exact hI, h.base.fr.reg h.new, h.base.size, h.base.defers, by simpa using h.base.lsize, fun i o t x ho hl hdt hx' => ?_, fun t x hno' hx' => ?_, fun i hi hin => ?_, by omega, .inr ⟨q, hqw, rfl⟩, fun i o ho hl e he hb' => ?_⟩
 ·rw [hAn]
  by_cases e : i = q
  ·subst e
   rw [hk.at_] at ho
   cases ho
   rw [hk.dst] at hdt
   cases hdt
   rw [hk.next] at hx'
   simp only [St.put, look, if_true] at hx'
   cases hx'
   exact ⟨_, h.slot, b, by rw [hv1]; exact hb, rfl⟩
  ·obtain ⟨u, h1, h2⟩ := h.base.slot1 i o t x ho (by rw [hset i e]; exact hl) hdt hx'
   exact ⟨u, h1, RepV.ext hx h2⟩
 ·rw [hAn]
  obtain ⟨u, h1, h2⟩ := h.base.slot0 t x (fun i o ho hl => by
   by_cases e : i = q
   ·subst e; rw [hsq] at hl; simp at hl
   ·rw [hset i e] at hl; exact hno' i o ho hl) hx'
  exact ⟨u, h1, RepV.ext hx h2⟩
 ·constructor
  ·intro hl
   rcases Nat.lt_or_ge q i with h1 | h1
   ·exact absurd hl (hno i h1)
   ·omega
  ·intro hlt
   by_cases e : i = q
   ·subst e; exact h.got
   ·exact hall i (by omega)
 ·have hlt := hedge i o ho e he hb'
  by_cases e' : i = q
  ·subst e'; exact hall e.on hlt
  ·by_cases e2 : e.on = q
   ·rw [e2]; exact h.got
   ·have := h.base.closed i o ho (by rw [hset i e']; exact hl) e he hb'
    rwa [hset _ e2] at this

set_option maxHeartbeats 1000000 in
theorem drawL_sound {all : Array Oper} {ow : Nat -> Bool} {ws fs : List Nat} {m q : Nat} {ex : List Nat} {V0 : List (List CV)} {A0 : List Arr} {σ : Nat -> St} {K : St -> Prop} {Q : Exit -> Act -> World -> Prop} (hd : drawOkL all ws fs m q = true) (hdst : dstsOk n all.toList = true)
  (htr : ∀ (j : Nat) o, all[j]? = some o -> StpF P all (ow j) fs j ex V0 A0 o (σ j) (σ (j + 1)) /\ (j ∈ ws \/ ((σ (j + 1)).V = (σ j).V /\ (σ (j + 1)).A = (σ j).A)) /\ (j < m -> Pre ex V0 A0 (σ (j + 1)) \/ ((σ (j + 1)).V = (σ j).V /\ (σ (j + 1)).A = (σ j).A))) (h00 : (σ 0).V = V0 /\ (σ 0).A = A0)
  {d : Nat} {row : List CV} {cs : Array Value} {ty : TypeId} {oq : Oper} (hk : LateOk P all ow σ q d row cs ty oq)
  (hK : K (σ all.size)) (hQ : ∀ s' g' a' w', K s' -> Rp n w0 g0 s' g' a' w' -> Q .normal a' w') :
  ∀ (fuel : Nat) (listed : Array Bool) (k0 : Nat) (g : Gh) (a : Act) (w : World), ((List.range all.size).filter fun i => !listed.getD i true).length <= fuel ->
   ((DSF all ws σ n w0 g0 listed k0 g a w /\ (listed[q]? = some true -> ∀ i, i < q -> listed[i]? = some true)) \/ ((∃ i, i < q /\ listed[i]? ≠ some true) /\ ∃ b, Late all ws σ n w0 g0 q d row cs ty listed k0 b g a w)) -> wpAny P .any all Q fuel listed a w := by
 obtain ⟨hqw, hedge, hbits, hdu⟩ := hdrawL hd
 have hqn : q < all.size := (Array.getElem?_eq_some_iff.1 hk.at_).1
 have hready : ∀ {listed : Array Bool}, Region.ready .any all listed = [] -> listed.size = all.size -> ∀ i, i < all.size -> listed[i]? = some true := by
  intro listed hr hls i
  induction i using Nat.strongRecOn with
  | _ i ih =>
   intro hi
   have ho : all[i]? = some all[i] := Array.getElem?_eq_getElem hi
   have hli : i < listed.size := by omega
   cases hl : listed[i] with
   | true => rw [Array.getElem?_eq_getElem hli, hl]
   | false =>
    exfalso
    have : i ∈ Region.ready .any all listed := mem_ready.2 ⟨by simp [hli, hl], _, ho, fun e he hb => listed_iff.2 (ih e.on (hedge i _ ho e he hb) (by have := hedge i _ ho e he hb; omega))⟩
    rw [hr] at this; simp at this
 have hend : ∀ {listed : Array Bool} {k0 : Nat} {g : Gh} {a : Act} {w : World}, ((DSF all ws σ n w0 g0 listed k0 g a w /\ (listed[q]? = some true -> ∀ i, i < q -> listed[i]? = some true)) \/ ((∃ i, i < q /\ listed[i]? ≠ some true) /\ ∃ b, Late all ws σ n w0 g0 q d row cs ty listed k0 b g a w)) ->
   Region.ready .any all listed = [] -> Q .normal a w := by
  intro listed k0 g a w hD hr
  rcases hD with ⟨hD, _⟩ | ⟨⟨i, hi, hl⟩, b, hD⟩
  rotate_left
  ·have e := hD.base.lsize
   simp at e
   exact absurd (hready hr e i (by omega)) hl
  have hall := hready hr hD.lsize
  -- frames
  have hstep : ∀ (j : Nat) o t, all[j]? = some o -> o.dst ≠ some t -> look (σ (j + 1)).fr t = look (σ j).fr t := fun j o t h1 h2 => by
   obtain ⟨⟨_, h3⟩, _⟩ := htr j o h1
   have hput : ∀ (x : AV) V A, look ((σ j).put o.dst x V A).fr t = look (σ j).fr t := fun x V A => by
    simp only [St.put]
    cases hdd : o.dst with
    | none => rfl
    | some d => simp only [look]; rw [if_neg (fun e => h2 (by rw [hdd, e]))]
   rcases h3 with ⟨_, x, V, A, h4, _, _⟩ | ⟨_, h4⟩
   ·rw [h4]; exact hput x V A
   ·rw [h4]; exact hput _ _ _
  have hfrB : ∀ (j t : Nat), j <= all.size -> (∀ (i : Nat) o, i < j -> all[i]? = some o -> o.dst ≠ some t) -> look (σ j).fr t = look (σ 0).fr t := by
   intro j
   induction j with
   | zero => intro t _ _; rfl
   | succ j ih =>
    intro t hj hno
    have ho : all[j]? = some all[j] := Array.getElem?_eq_getElem (by omega)
    rw [hstep j _ t ho (hno j _ (by omega) ho)]
    exact ih t (by omega) (fun i o hi => hno i o (by omega))
  have hfrA : ∀ (j i : Nat) oi t, j <= all.size -> i < j -> all[i]? = some oi -> oi.dst = some t -> look (σ j).fr t = look (σ (i + 1)).fr t := by
   intro j
   induction j with
   | zero => intro i oi t _ h; omega
   | succ j ih =>
    intro i oi t hj hij hoi hdt
    by_cases e : i = j
    ·subst e; rfl
    ·have ho : all[j]? = some all[j] := Array.getElem?_eq_getElem (by omega)
     rw [hstep j _ t ho (hdu i j oi _ t hoi ho (by omega) hdt)]
     exact ih i oi t (by omega) (by omega) hoi hdt
  have hVA : ∀ c, k0 <= c -> c <= all.size -> (σ c).V = (σ k0).V /\ (σ c).A = (σ k0).A := by
   intro c
   induction c with
   | zero => intro h1 _; obtain rfl : k0 = 0 := by omega
             exact ⟨rfl, rfl⟩
   | succ c ih =>
    intro h1 h2
    by_cases e : k0 = c + 1
    ·subst e; exact ⟨rfl, rfl⟩
    ·obtain ⟨h3, h4⟩ := ih (by omega) (by omega)
     rcases (htr c _ (Array.getElem?_eq_getElem (by omega))).2.1 with h5 | ⟨h5, h6⟩
     ·have := (hD.wprog c h5 (by omega)).1 (hall c (by omega))
      omega
     ·exact ⟨h5.trans h3, h6.trans h4⟩
  have hva := hVA all.size hD.kle (Nat.le_refl _)
  refine hQ _ g a w hK ⟨by rw [hva.1, hva.2]; exact hD.inv, hD.fr, hD.size, hD.defers, fun t x hx => ?_⟩
  rw [hva.2]
  by_cases hex : ∃ (i : Nat) (o : Oper), all[i]? = some o /\ o.dst = some t
  ·obtain ⟨i, o, ho, hdt⟩ := hex
   have hi := (Array.getElem?_eq_some_iff.1 ho).1
   rw [hfrA all.size i o t (Nat.le_refl _) hi ho hdt] at hx
   exact hD.slot1 i o t x ho (hall i hi) hdt hx
  ·rw [hfrB all.size t (Nat.le_refl _) (fun i o _ ho hdt => hex ⟨i, o, ho, hdt⟩)] at hx
   exact hD.slot0 t x (fun i o ho _ hdt => hex ⟨i, o, ho, hdt⟩) hx
 intro fuel
 induction fuel with
 | zero =>
  intro listed k0 g a w hf hD
  have hnil : Region.ready .any all listed = [] := by
   have h0 : ((List.range all.size).filter fun i => !listed.getD i true) = [] := List.eq_nil_of_length_eq_zero (by omega)
   rcases hr : Region.ready .any all listed with _ | ⟨j, r⟩
   ·rfl
   ·have hj : j ∈ Region.ready .any all listed := by rw [hr]; simp
    obtain ⟨h1, o, h2, _⟩ := mem_ready.1 hj
    have : j ∈ ((List.range all.size).filter fun i => !listed.getD i true) := by
     rw [List.mem_filter, List.mem_range]
     exact ⟨(Array.getElem?_eq_some_iff.1 h2).1, by simp [h1]⟩
    rw [h0] at this; simp at this
  exact ⟨hnil, hend hD hnil⟩
 | succ fuel ih =>
  intro listed k0 g a w hf hD
  refine ⟨fun hr => hend hD hr, fun j hj => ?_⟩
  obtain ⟨hun, o, ho, hafter⟩ := mem_ready.1 hj
  have hju := unlisted_of hun
  have hjn : j < all.size := (Array.getElem?_eq_some_iff.1 ho).1
  have hls : listed.size = all.size := by
   rcases hD with ⟨hD, _⟩ | ⟨_, b, hD⟩
   ·exact hD.lsize
   ·simpa using hD.base.lsize
  have hjl : j < listed.size := by omega
  have hset : ∀ i, (listed.setIfInBounds j true)[i]? = if i = j then some true else listed[i]? := fun i => by
   by_cases e : i = j
   ·subst e; simp [hjl]
   ·rw [if_neg e, Array.getElem?_setIfInBounds_ne (fun h => e h.symm)]
  have hcount : ((List.range all.size).filter fun i => !(listed.setIfInBounds j true).getD i true).length <= fuel := by
   have hlt : ((List.range all.size).filter fun i => !(listed.setIfInBounds j true).getD i true).length < ((List.range all.size).filter fun i => !listed.getD i true).length := by
    have hsub : ∀ i, (!(listed.setIfInBounds j true).getD i true) = true -> (!listed.getD i true) = true := fun i h => by
     by_cases e : i = j
     ·subst e; simp [hjl] at h
     ·have : (listed.setIfInBounds j true).getD i true = listed.getD i true := by
       simp only [Array.getD_eq_getD_getElem?, hset, if_neg e]
      rwa [this] at h
    exact filter_lt hsub (List.mem_range.2 hjn) (by simp [hun]) (by simp [hjl])
   omega
  have hafter' : ∀ e ∈ o.after, Region.binds .any e = true -> listed[e.on]? = some true := fun e he hb => listed_iff.1 (hafter e he hb)
  rcases hD with ⟨hD, hL⟩ | ⟨⟨i0, hi0, hl0⟩, b, hD⟩
  ·by_cases hjq : j = q /\ ∃ i, i < q /\ listed[i]? ≠ some true
   ·-- the allocation, before its turn
    obtain ⟨rfl, hex⟩ := hjq
    obtain rfl : o = oq := by have := hk.at_; rw [ho] at this; exact Option.some.inj this
    unfold wpOp
    simp only [ho]
    rw [if_pos (by simp [Region.wanted, hk.guard])]
    refine .inl ?_
    unfold Oper.wp
    rw [hk.run]
    obtain ⟨g1, hg1, hI1, hx1⟩ := hD.inv.newBlock (.cells cs ty) 0
    have hF1 := (Fr.refl hD.fr.now).newBlock (.cells cs ty) 0
    rw [<- hg1] at hF1
    have hput : ∀ t, t ≠ d -> (a.put o.dst (.pointer (some ⟨w.heap.size, 0, none⟩))).tmps[t]? = a.tmps[t]? := fun t ht => by
     rw [hk.dst]
     simp only [Act.put]
     rw [Array.getElem?_setIfInBounds_ne (fun e => ht e.symm)]
    have hdn : d < n := by
     have := List.all_eq_true.1 hdst o (by rw [Array.mem_toList_iff]; exact Array.mem_of_getElem? ho)
     simpa [hk.dst] using this
    refine ih _ k0 g1 _ _ hcount (.inr ⟨?_, w.heap.size, ⟨by rw [hset, if_pos rfl], ?_, ?_, heap_alloc_new w _, fun hm => ?_, fun hm => ?_, by rw [hg1]; simp, hD.fr.size, by simp, fun i oi hoi hli e he hb => ?_⟩⟩)
    ·obtain ⟨i, hi, hl⟩ := hex
     exact ⟨i, hi, by rw [hset, if_neg (by omega)]; exact hl⟩
    ·rw [setTF listed j (by rw [hju]; simp) hjl]
     refine ⟨hI1, hD.fr.trans hF1, by rw [hk.dst]; simp [Act.put, hD.size], by rw [hk.dst]; simp [Act.put, hD.defers], hD.lsize, fun i oi t x hoi hli hdt hx => ?_, fun t x hno hx => ?_, hD.wprog, hD.kle, hD.kw, hD.closed⟩
     ·have hij : i ≠ j := fun e => by subst e; rw [hju] at hli; simp at hli
      have htd : t ≠ d := fun e => by
       subst e
       exact hdu i j oi o t hoi ho hij hdt hk.dst
      obtain ⟨u, h1, h2⟩ := hD.slot1 i oi t x hoi hli hdt hx
      exact ⟨u, by rw [hput t htd]; exact h1, RepV.ext hx1 h2⟩
     ·have htd : t ≠ d := fun e => by
       subst e
       rw [hk.s0] at hx; simp at hx
      obtain ⟨u, h1, h2⟩ := hD.slot0 t x hno hx
      exact ⟨u, by rw [hput t htd]; exact h1, RepV.ext hx1 h2⟩
    ·have : d < a.tmps.size := by rw [hD.size]; exact hdn
     rw [hk.dst]; simp [Act.put, this]
    ·rw [hg1] at hm
     obtain ⟨l, hl⟩ := List.getElem?_of_mem hm
     have := hD.inv.obLt hl
     omega
    ·rw [hg1] at hm
     obtain ⟨k, v', q1, q2⟩ := Gh.mem_arb (g := g) (by simpa [Gh.arb] using hm)
     have := hD.inv.arLt q1 q2
     omega
    ·rw [hset] at hli ⊢
     have : listed[e.on]? = some true := by
      by_cases e' : i = j
      ·subst e'
       obtain rfl : o = oi := by rw [ho] at hoi; exact Option.some.inj hoi
       exact hafter' e he hb
      ·rw [if_neg e'] at hli
       exact hD.closed i oi hoi hli e he hb
     by_cases e' : e.on = j
     ·rw [if_pos e']
     ·rw [if_neg e']; exact this
   ·refine drawL_one hd hdst htr h00 hD hL hj (fun e i hi => ?_) fun k1 o' g' a' w' ho' hoth hD' hF => ih _ k1 g' a' w' hcount (.inl ⟨hD', fun hl i hi => ?_⟩)
    ·by_cases hc : listed[i]? = some true
     ·exact hc
     ·exact absurd ⟨e, i, hi, hc⟩ hjq
    ·rw [hset]
     by_cases e : i = j
     ·rw [if_pos e]
     ·rw [if_neg e]
      by_cases e' : j = q
      ·by_cases hc : listed[i]? = some true
       ·exact hc
       ·exact absurd ⟨e', i, hi, hc⟩ hjq
      ·rw [hset, if_neg (fun h => e' h.symm)] at hl
       exact hL hl i hi
  ·-- with the block at hand
   have hjq : j ≠ q := fun e => by subst e; rw [hD.got] at hju; simp at hju
   have hjlt : j < q := by
    rcases Nat.lt_trichotomy j q with h | h | h
    ·exact h
    ·exact absurd h hjq
    ·exact absurd (bit_listed hedge hD.closed j o ho hafter' i0 (hbits i0 j _ o (Array.getElem?_eq_getElem (by omega)) ho (by omega) h)) hl0
   have hready' : j ∈ Region.ready .any all (listed.setIfInBounds q false) := by
    refine mem_ready.2 ⟨?_, o, ho, fun e he hb => listed_iff.2 ?_⟩
    ·have : (listed.setIfInBounds q false)[j]? = some false := by rw [Array.getElem?_setIfInBounds_ne (fun h => hjq h.symm)]; exact hju
     simp [Array.getD_eq_getD_getElem?, this]
    ·have hlt := hedge j o ho e he hb
     rw [Array.getElem?_setIfInBounds_ne (by omega)]; exact hafter' e he hb
   have hqs : q < listed.size := by omega
   refine drawL_one hd hdst htr h00 hD.base (fun hl => by simp [hqs] at hl) hready' (fun e => absurd e hjq) fun k1 o' g' a' w' ho' hoth hD' hF => ?_
   have hLate := hD.step hjq (hoth d fun e => hdu j q o' oq d ho' hk.at_ hjq e hk.dst) hD' hF (fun i oi hoi hli e he hb => by
    rw [hset] at hli ⊢
    have : listed[e.on]? = some true := by
     by_cases e' : i = j
     ·subst e'
      obtain rfl : o = oi := by rw [ho] at hoi; exact Option.some.inj hoi
      exact hafter' e he hb
     ·rw [if_neg e'] at hli
      exact hD.closed i oi hoi hli e he hb
    by_cases e' : e.on = j
    ·rw [if_pos e']
    ·rw [if_neg e']; exact this)
   by_cases hx : ∃ i, i < q /\ (listed.setIfInBounds j true)[i]? ≠ some true
   ·exact ih _ k1 g' a' w' hcount (.inr ⟨hx, b, hLate⟩)
   ·have hall : ∀ i, i < q -> (listed.setIfInBounds j true)[i]? = some true := fun i hi => by
     by_cases hc : (listed.setIfInBounds j true)[i]? = some true
     ·exact hc
     ·exact absurd ⟨i, hi, hc⟩ hx
    obtain ⟨g'', hD''⟩ := hLate.reg hd hk (fun j o ho => (htr j o ho).2.1) hall
    exact ih _ (q + 1) g'' a' w' hcount (.inl ⟨hD'', fun _ => hall⟩)

theorem T.region_drawL {id : Nat} {ops : Array Oper} (hm : P.follows .mixedOrders = true) (ow : Nat -> Bool) (ws fs : List Nat) (m : Nat) (ex : List Nat) (q d : Nat) {e : TypeId} {D : TD} {row : List CV} {oq : Oper} (hd : drawOkL ops ws fs m q = true)
  (hq : ops[q]? = some oq) (hop : oq.op = .alloc e) (hg : oq.guard = none) (hdq : oq.dst = some d) (ht : td P e = some D) (hz : D.zero = some row) (hs0 : look s.fr d = none)
  (h : aopsF P ops ow ws fs m ex s.V s.A (fun s' => Q .normal s') 0 ops.toList s) : T P n (.region id ops true) Q s := by
 intro hok w0 g0 g a w hR
 obtain ⟨σ, h0, hK, htr⟩ := aopsF_trace ops.toList 0 s h
 obtain ⟨hI, hx⟩ := hR.inv.heap (w' := { w with drawn := w.drawn + 1 }) rfl
 obtain ⟨inf, hi, _, _, hzz⟩ := td_info ht
 obtain ⟨v, hv, hc⟩ := hzz _ hz
 have htr' : ∀ (j : Nat) o, ops[j]? = some o -> StpF P ops (ow j) fs j ex s.V s.A o (σ j) (σ (j + 1)) /\ (j ∈ ws \/ ((σ (j + 1)).V = (σ j).V /\ (σ (j + 1)).A = (σ j).A)) /\ (j < m -> Pre ex s.V s.A (σ (j + 1)) \/ ((σ (j + 1)).V = (σ j).V /\ (σ (j + 1)).A = (σ j).A)) := fun j o ho => by
  have := htr j o (by simpa using ho)
  simpa only [Nat.zero_add] using this
 have hnext : σ (q + 1) = (σ q).put (some d) (.c (.ptr (σ q).V.length 0)) ((σ q).V ++ [row]) (σ q).A := by
  rcases (htr' q oq hq).1.2 with ⟨_, x, V, A, h1, h2, _⟩ | ⟨h1, _⟩
  ·have h3 := h2 (fun y V' A' => y = x /\ V' = V /\ A' = A) ⟨rfl, rfl, rfl⟩
   simp only [astep, hop, wpo, onv, ht, hz] at h3
   obtain ⟨rfl, rfl, rfl⟩ := h3
   rw [h1, hdq]
  ·simp [gw, hg] at h1
 have hkk : LateOk P ops ow σ q d row v.cells e oq := by
  refine ⟨hq, hg, hdq, by rw [h0]; exact hs0, ?_, fun j c u h1 h2 g w A => ?_, hnext, fun a w => ?_⟩
  ·have := cvsOf_len hc; simpa using this
  ·exact cvOf_sound (cvsOf_at hc j c u h1 (by simpa using h2))
  ·simp [execOp, hop, Instr.alloc, zeroValue, typeInfo, hi, hv, newVar, newRow_run]
 refine wp_region_any hm (drawL_sound (ex := ex) (K := fun s' => Q .normal s') (w0 := w0) (g0 := g0) (n := n) (σ := σ) (ow := ow) hd hok htr' ⟨by rw [h0], by rw [h0]⟩ hkk ?_ (fun s' g' a' w' h1 h2 => ⟨s', g', h1, h2⟩) ops.size (Array.replicate ops.size false) 0 g a _ ?_ (.inl ⟨?_, fun hl => ?_⟩))
 ·simpa using hK
 ·exact Nat.le_trans (List.length_filter_le _ _) (by simp)
 ·refine ⟨by rw [h0]; exact hI, hR.fr.heap rfl rfl rfl rfl, hR.size, hR.defers, by simp, fun i o t x ho hl => ?_, fun t x _ hx' => ?_, fun i _ hin => ?_, Nat.zero_le _, .inl rfl, fun i o ho hl => ?_⟩
  ·have hi := (Array.getElem?_eq_some_iff.1 ho).1
   simp [hi] at hl
  ·rw [h0] at hx' ⊢
   obtain ⟨u, h1, h2⟩ := hR.slot t x hx'
   exact ⟨u, h1, RepV.ext hx h2⟩
  ·simp [hin]
  ·have hi := (Array.getElem?_eq_some_iff.1 ho).1
   simp [hi] at hl
 ·have hi := (Array.getElem?_eq_some_iff.1 hq).1
  simp [hi] at hl

theorem T.rdL {id : Nat} {l : List Oper} {y : Code} (hm : P.follows .mixedOrders = true) (ow : Nat -> Bool) (ws fs : List Nat) (m : Nat) (ex : List Nat) (q d : Nat) {e : TypeId} {D : TD} {row : List CV} {oq : Oper} (hd : drawOkL l.toArray ws fs m q = true)
  (hq : l.toArray[q]? = some oq) (hop : oq.op = .alloc e) (hg : oq.guard = none) (hdq : oq.dst = some d) (ht : td P e = some D) (hz : D.zero = some row) (hs0 : look s.fr d = none)
  (h : ∀ K : St -> Prop, (∀ s', T P n y Q s' -> K s') -> OpsF P l.toArray ow ws fs m ex s.V s.A K 0 l s) : T P n (.seq (.region id l.toArray true) y) Q s :=
 T.seq (T.region_drawL hm ow ws fs m ex q d hd hq hop hg hdq ht hz hs0 (h _ fun _ h => h).run)
theorem TX.rdL {id : Nat} {l : List Oper} {y : Code} {α : Type} {Q : α -> Exit -> St -> Prop} (hm : P.follows .mixedOrders = true) (ow : Nat -> Bool) (ws fs : List Nat) (m : Nat) (ex : List Nat) (q d : Nat) {e : TypeId} {D : TD} {row : List CV} {oq : Oper} (hd : drawOkL l.toArray ws fs m q = true)
  (hq : l.toArray[q]? = some oq) (hop : oq.op = .alloc e) (hg : oq.guard = none) (hdq : oq.dst = some d) (ht : td P e = some D) (hz : D.zero = some row) (hs0 : look s.fr d = none)
  (h : ∀ K : St -> Prop, (∀ s', TX P n y Q s' -> K s') -> OpsF P l.toArray ow ws fs m ex s.V s.A K 0 l s) : TX P n (.seq (.region id l.toArray true) y) Q s := by
 obtain ⟨s', ⟨x, hx⟩, h2⟩ := aopsF_det l 0 s (h (fun s' => TX P n y Q s') fun _ h => h).run
 exact ⟨x, T.rdL hm ow ws fs m ex q d hd hq hop hg hdq ht hz hs0 fun K hK => ⟨h2 _ (hK _ hx)⟩⟩
end
end Go.Av

namespace Go.Av
attribute [-simp] Go.Av.get_app_len Go.Av.get_app_len0 Go.Av.set_app_len Go.Av.set_app_len0 Go.Av.freeStep Go.Av.exV Go.Av.keepL Go.Av.ups Go.Av.take_app_len
open Go

inductive MCo where
 | mk (kind tag label : Int) (kids : List MCo)
def MCo.kind : MCo -> Int | .mk k _ _ _ => k
def MCo.tag : MCo -> Int | .mk _ t _ _ => t
def MCo.label : MCo -> Int | .mk _ _ b _ => b
def MCo.kids : MCo -> List MCo | .mk _ _ _ l => l
section
variable (k t b : Int) (l : List MCo)
@[simp] theorem MCo.kind_mk : (MCo.mk k t b l).kind = k := rfl
@[simp] theorem MCo.tag_mk : (MCo.mk k t b l).tag = t := rfl
@[simp] theorem MCo.label_mk : (MCo.mk k t b l).label = b := rfl
@[simp] theorem MCo.kids_mk : (MCo.mk k t b l).kids = l := rfl
end
mutual
def eCo : MCo -> List DV
 | .mk k t b l => [.i k, .i t, .i b, .sl (eCoS l)]
def eCoS : List MCo -> List (List DV)
 | [] => []
 | t :: r => eCo t :: eCoS r
end
theorem eCoS_map : ∀ (l : List MCo), eCoS l = l.map eCo
 | [] => rfl
 | t :: r => by simp [eCoS, eCoS_map r]
theorem eCo_def (t : MCo) : eCo t = [.i t.kind, .i t.tag, .i t.label, .sl (t.kids.map eCo)] := by
 cases t; simp [eCo, eCoS_map]
abbrev aCo (t : MCo) : AV := .agg [.d (.i t.kind), .d (.i t.tag), .d (.i t.label), .d (.sl (t.kids.map eCo))]
mutual
def nCo : MCo -> Nat
 | .mk _ _ _ l => nCoS l
def nCoS : List MCo -> Nat
 | [] => 0
 | t :: r => 1 + nCo t + nCoS r
end
theorem nCo_def (t : MCo) : nCo t = nCoS t.kids := by cases t; simp [nCo]

theorem nCoS_len : ∀ (l : List MCo), l.length <= nCoS l
 | [] => by simp [nCoS]
 | t :: r => by have := nCoS_len r; simp [nCoS]; omega
theorem nCoS_mem : ∀ {l : List MCo} {t : MCo}, t ∈ l -> nCo t < nCoS l
 | x :: r, t, h => by
  simp only [List.mem_cons] at h
  simp only [nCoS]
  rcases h with rfl | h
  ·omega
  ·have := nCoS_mem h; omega

def sumCo (l : List MCo) : Nat := (l.map nCo).sum
mutual
def wCo : MCo -> Prop
 | .mk _ _ _ l => l.length <= 9223372036854775807 /\ wCoS l
def wCoS : List MCo -> Prop
 | [] => True
 | t :: r => wCo t /\ wCoS r
end
end Go.Av
