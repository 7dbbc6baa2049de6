/- A part of the library of this seat. -/
import Derived.Test.YtcmdpggdaiinpaaGreatDoorQ2
set_option linter.unusedVariables false
set_option linter.unusedSimpArgs false
namespace Go.Av
open Go

section
variable {P : Program} {s : St}
theorem gdo_mk {all : Array Oper} {o : Oper} {y n : Prop} (h : gdo all s o True True) (hy : gw all s o = true -> y) (hn : gw all s o = false -> n) : gdo all s o y n := by
 unfold gdo at h ⊢
 unfold gw at hy hn
 cases hg : o.guard with
 | none => rw [hg] at hy; exact hy rfl
 | some p =>
  obtain ⟨j, want⟩ := p
  rw [hg] at h hy hn
  refine onv_elim h fun oj h1 h2 => onv_elim h2 fun t h3 h4 => onv_elim h4 fun x h5 h6 => ?_
  simp only [h1, Option.bind_some, h3, h5] at hy hn
  show onv (all[j]?) _
  rw [h1]
  show onv oj.dst _
  rw [h3]
  show onv (look s.fr t) _
  rw [h5]
  simp only [onv]
  split at h6
  ·rename_i b
   simp only [beq_iff_eq, beq_eq_false_iff_ne] at hy hn
   exact ⟨fun e => hy e, fun e => hn (by subst e; cases want <;> decide)⟩
  ·exact hn rfl
  ·exact h6.elim

theorem aops_det {all : Array Oper} {ow : Nat -> Bool} : ∀ (ops : List Oper) (i : Nat) (s : St) {K : St -> Prop}, aops P all ow K i ops s -> ∃ s', K s' /\ ∀ K' : St -> Prop, K' s' -> aops P all ow K' i ops s
 | [], i, s, K, h => ⟨s, h, fun K' h => h⟩
 | o :: rest, i, s, K, h => by
  simp only [aops] at h
  obtain ⟨h0, hg⟩ := gdo_mono h
  rcases h0 with ⟨h1, h2⟩ | ⟨h1, h2⟩
  ·obtain ⟨x, V, A, h3, h4⟩ := astep_det h2
   obtain ⟨s', h5, h6⟩ := aops_det rest (i + 1) _ h3
   refine ⟨s', h5, fun K' hK' => ?_⟩
   simp only [aops]
   exact gdo_mk hg (fun _ => h4 _ (h6 K' hK')) (fun e => by rw [h1] at e; cases e)
  ·obtain ⟨s', h5, h6⟩ := aops_det rest (i + 1) _ h2
   refine ⟨s', h5, fun K' hK' => ?_⟩
   simp only [aops]
   exact gdo_mk hg (fun e => by rw [h1] at e; cases e) (fun _ => h6 K' hK')

theorem aopsD_det {all : Array Oper} {ow : Nat -> Bool} {ws : List Nat} : ∀ (ops : List Oper) (i : Nat) (s : St) {K : St -> Prop}, aopsD P all ow ws K i ops s -> ∃ s', K s' /\ ∀ K' : St -> Prop, K' s' -> aopsD P all ow ws K' i ops s
 | [], i, s, K, h => ⟨s, h, fun K' h => h⟩
 | o :: rest, i, s, K, h => by
  simp only [aopsD] at h
  obtain ⟨h0, hg⟩ := gdo_mono h
  rcases h0 with ⟨h1, h2⟩ | ⟨h1, h2⟩
  ·obtain ⟨x, V, A, ⟨h3, h3'⟩, h4⟩ := astep_det h2
   obtain ⟨s', h5, h6⟩ := aopsD_det rest (i + 1) _ h3'
   refine ⟨s', h5, fun K' hK' => ?_⟩
   simp only [aopsD]
   exact gdo_mk hg (fun _ => h4 _ ⟨h3, h6 K' hK'⟩) (fun e => by rw [h1] at e; cases e)
  ·obtain ⟨s', h5, h6⟩ := aopsD_det rest (i + 1) _ h2
   refine ⟨s', h5, fun K' hK' => ?_⟩
   simp only [aopsD]
   exact gdo_mk hg (fun e => by rw [h1] at e; cases e) (fun _ => h6 K' hK')

theorem aopsF_det {all : Array Oper} {ow : Nat -> Bool} {ws fs : List Nat} {m : Nat} {ex : List Nat} {V0 : List (List CV)} {A0 : List Arr} : ∀ (ops : List Oper) (i : Nat) (s : St) {K : St -> Prop}, aopsF P all ow ws fs m ex V0 A0 K i ops s -> ∃ s', K s' /\ ∀ K' : St -> Prop, K' s' -> aopsF P all ow ws fs m ex V0 A0 K' i ops s
 | [], i, s, K, h => ⟨s, h, fun K' h => h⟩
 | o :: rest, i, s, K, h => by
  simp only [aopsF] at h
  obtain ⟨h0, hg⟩ := gdo_mono h
  rcases h0 with ⟨h1, h2⟩ | ⟨h1, h2⟩
  ·obtain ⟨x, V, A, ⟨h3, h3', h3'', h3c⟩, h4⟩ := astep_det h2
   obtain ⟨s', h5, h6⟩ := aopsF_det rest (i + 1) _ h3c
   refine ⟨s', h5, fun K' hK' => ?_⟩
   simp only [aopsF]
   exact gdo_mk hg (fun _ => h4 _ ⟨h3, h3', h3'', h6 K' hK'⟩) (fun e => by rw [h1] at e; cases e)
  ·obtain ⟨s', h5, h6⟩ := aopsF_det rest (i + 1) _ h2
   refine ⟨s', h5, fun K' hK' => ?_⟩
   simp only [aopsF]
   exact gdo_mk hg (fun e => by rw [h1] at e; cases e) (fun _ => h6 K' hK')
end

section
variable {P : Program} {n : Nat} {ι : Type} {Q : ι -> Exit -> St -> Prop} {s s' : St}

def TX (P : Program) (n : Nat) (c : Code) (Q : ι -> Exit -> St -> Prop) (s : St) : Prop := ∃ x, T P n c (Q x) s
def EX (Q : ι -> Exit -> St -> Prop) (e : Exit) (s : St) : Prop := ∃ x, Q x e s

theorem TX.seq {x y : Code} (h : TX P n x (fun i => Then P n y (Q i)) s) : TX P n (.seq x y) Q s := h.imp fun _ h => T.seq h
theorem TX.skip (h : EX Q .normal s) : TX P n .skip Q s := h.imp fun _ h => T.skip h
theorem TX.exit {id : Nat} (h : EX Q (.exit id) s) : TX P n (.exit id) Q s := h.imp fun _ h => T.exit h
theorem TX.ret (h : EX Q .ret s) : TX P n .ret Q s := h.imp fun _ h => T.ret h
theorem TX.block {id : Nat} {c : Code} (h : TX P n c (fun i => InBlock id (Q i)) s) : TX P n (.block id c) Q s := h.imp fun _ h => T.block h
theorem TX.cond {c : Operand} {x y : Code} {b : Bool} (hc : aval s c = some (.c (.d (.bool b)))) (ht : b = true -> TX P n x Q s) (hf : b = false -> TX P n y Q s) : TX P n (.cond c x y) Q s := by
 cases b
 ·exact (hf rfl).imp fun _ h => T.cond hc (fun e => by cases e) (fun _ => h)
 ·exact (ht rfl).imp fun _ h => T.cond hc (fun _ => h) (fun e => by cases e)

section
variable {id : Nat} {l : List Oper} {y : Code}
theorem TX.rs (ow : Nat -> Bool) (h : ∀ K : St -> Prop, (∀ s', TX P n y Q s' -> K s') -> Ops P l.toArray ow K 0 l s) : TX P n (.seq (.region id l.toArray false) y) Q s := by
 obtain ⟨s', ⟨x, hx⟩, h2⟩ := aops_det l 0 s (h (fun s' => TX P n y Q s') fun _ h => h).run
 exact ⟨x, T.rs ow fun K hK => ⟨h2 _ (hK _ hx)⟩⟩
theorem TX.rs1 (ow : Nat -> Bool) (h : ∀ K : St -> Prop, (∀ s', EX Q .normal s' -> K s') -> Ops P l.toArray ow K 0 l s) : TX P n (.region id l.toArray false) Q s := by
 obtain ⟨s', ⟨x, hx⟩, h2⟩ := aops_det l 0 s (h (fun s' => EX Q .normal s') fun _ h => h).run
 exact ⟨x, T.rs1 ow fun K hK => ⟨h2 _ (hK _ hx)⟩⟩
theorem TX.rd (hm : P.follows .mixedOrders = true) (ow : Nat -> Bool) (ws : List Nat) (hd : drawOk l.toArray ws = true) (h : ∀ K : St -> Prop, (∀ s', TX P n y Q s' -> K s') -> OpsD P l.toArray ow ws K 0 l s) : TX P n (.seq (.region id l.toArray true) y) Q s := by
 obtain ⟨s', ⟨x, hx⟩, h2⟩ := aopsD_det l 0 s (h (fun s' => TX P n y Q s') fun _ h => h).run
 exact ⟨x, T.rd hm ow ws hd fun K hK => ⟨h2 _ (hK _ hx)⟩⟩
theorem TX.rdF (hm : P.follows .mixedOrders = true) (ow : Nat -> Bool) (ws fs : List Nat) (m : Nat) (ex : List Nat) (hd : drawOkF l.toArray ws fs m = true) (h : ∀ K : St -> Prop, (∀ s', TX P n y Q s' -> K s') -> OpsF P l.toArray ow ws fs m ex s.V s.A K 0 l s) : TX P n (.seq (.region id l.toArray true) y) Q s := by
 obtain ⟨s', ⟨x, hx⟩, h2⟩ := aopsF_det l 0 s (h (fun s' => TX P n y Q s') fun _ h => h).run
 exact ⟨x, T.rdF hm ow ws fs m ex hd fun K hK => ⟨h2 _ (hK _ hx)⟩⟩
theorem TX.rdF1 (hm : P.follows .mixedOrders = true) (ow : Nat -> Bool) (ws fs : List Nat) (m : Nat) (ex : List Nat) (hd : drawOkF l.toArray ws fs m = true) (h : ∀ K : St -> Prop, (∀ s', EX Q .normal s' -> K s') -> OpsF P l.toArray ow ws fs m ex s.V s.A K 0 l s) : TX P n (.region id l.toArray true) Q s := by
 obtain ⟨s', ⟨x, hx⟩, h2⟩ := aopsF_det l 0 s (h (fun s' => EX Q .normal s') fun _ h => h).run
 exact ⟨x, T.rdF1 hm ow ws fs m ex hd fun K hK => ⟨h2 _ (hK _ hx)⟩⟩
end

theorem EX.thenN {c : Code} (h : TX P n c Q s) : EX (fun i => Then P n c (Q i)) .normal s := h
theorem EX.thenR {c : Code} (h : EX Q .ret s) : EX (fun i => Then P n c (Q i)) .ret s := h
theorem EX.thenE {c : Code} {id : Nat} (h : EX Q (.exit id) s) : EX (fun i => Then P n c (Q i)) (.exit id) s := h
theorem EX.blockN {id : Nat} (h : EX Q .normal s) : EX (fun i => InBlock id (Q i)) .normal s := h
theorem EX.blockR {id : Nat} (h : EX Q .ret s) : EX (fun i => InBlock id (Q i)) .ret s := h
theorem EX.blockE {id : Nat} (h : EX Q .normal s) : EX (fun i => InBlock id (Q i)) (.exit id) s := h.imp fun _ h => by simpa [InBlock] using h
theorem EX.blockO {id id' : Nat} (hne : (id' = id) = False) (h : EX Q (.exit id') s) : EX (fun i => InBlock id (Q i)) (.exit id') s := h.imp fun _ h => by simpa [InBlock, hne] using h

def RoundX {α : Type} (S : α -> St) (m : α -> Nat) (H : α -> Prop) (k : Nat) (Q : ι -> Exit -> St -> Prop) : {a : α // m a < k /\ H a} ⊕ ι -> Exit -> St -> Prop
 | .inl a, e, s => e = .normal /\ Sub (S a.1) s
 | .inr x, e, s => e ≠ .normal /\ Q x e s

theorem EX.next {α : Type} {S : α -> St} {m : α -> Nat} {H : α -> Prop} {k : Nat} (a : α) (hm : m a < k) (hH : H a) (hs : Sub (S a) s) : EX (RoundX S m H k Q) .normal s := ⟨.inl ⟨a, hm, hH⟩, rfl, hs⟩
theorem EX.outR {α : Type} {S : α -> St} {m : α -> Nat} {H : α -> Prop} {k : Nat} (h : EX Q .ret s) : EX (RoundX S m H k Q) .ret s := h.elim fun x h => ⟨.inr x, by simp, h⟩
theorem EX.outE {α : Type} {S : α -> St} {m : α -> Nat} {H : α -> Prop} {k id : Nat} (h : EX Q (.exit id) s) : EX (RoundX S m H k Q) (.exit id) s := h.elim fun x h => ⟨.inr x, by simp, h⟩

theorem Iter.sub {c : Code} {Q : Exit -> St -> Prop} {k : Nat} {s s' : St} (h : Iter P n c Q k s) (hs : Sub s s') : Iter P n c Q k s' := by
 cases k with
 | zero => exact h.elim
 | succ k => exact T.sub h hs

theorem TX.loopF {α : Type} {c : Code} (S : α -> St) (m : α -> Nat) (H : α -> Prop) (h : ∀ a, H a -> TX P n c (RoundX S m H (m a) Q) (S a)) (a : α) (ha : H a) (hs : Sub (S a) s) : TX P n (.loop c) Q s := by
 have key : ∀ k a, m a = k -> H a -> ∃ x j, Iter P n c (Q x) j (S a) := by
  intro k
  induction k using Nat.strongRecOn with
  | _ k ih =>
   intro a hk ha
   obtain ⟨y, hy⟩ := h a ha
   cases y with
   | inl b =>
    obtain ⟨x, j, hx⟩ := ih (m b.1) (by have := b.2.1; omega) b.1 rfl b.2.2
    refine ⟨x, j + 1, T.mono hy fun e s' h1 => ?_⟩
    obtain ⟨rfl, h2⟩ := h1
    exact hx.sub h2
   | inr x =>
    refine ⟨x, 1, T.mono hy fun e s' h1 => ?_⟩
    obtain ⟨h1, h2⟩ := h1
    cases e <;> first | exact absurd rfl h1 | exact h2
 obtain ⟨x, j, hx⟩ := key _ a rfl ha
 exact ⟨x, T.loop_iter (hx.sub hs)⟩
end

section
variable {P : Program} {f : FuncId} {fn : Func} {c : Code} {s : St} {e : Exit} {b : List Int}

def ACallsX (P : Program) (f : FuncId) (as : List AV) (V : List (List CV)) (R : AV -> List (List CV) -> List Arr -> Prop) : Prop := ∃ v V' A', R v V' A' /\ ACalls P f as V v V' A'
abbrev ResT (R : AV -> List (List CV) -> List Arr -> Prop) : Type := {x : AV × List (List CV) × List Arr // R x.1 x.2.1 x.2.2}
abbrev DoneX (P : Program) (fn : Func) (m : Nat) (R : AV -> List (List CV) -> List Arr -> Prop) (x : ResT R) : Exit -> St -> Prop := Done P fn m x.1.1 x.1.2.1 x.1.2.2

theorem ACallsX.of_body {as : List AV} {V : List (List CV)} {R : AV -> List (List CV) -> List Arr -> Prop} (hf : P.funcs[f]? = some fn) (hname : (fn.name == "runtime.NumGoroutine") = false) (hb : fn.body = some c) (hok : codeOk fn.ntmps c = true) (hn : as.length <= fn.ntmps)
  (hV : ∀ v V' A', R v V' A' -> V.length <= V'.length) (h : TX P fn.ntmps c (DoneX P fn V.length R) ⟨argFr as, V, []⟩) : ACallsX P f as V R := by
 obtain ⟨x, hx⟩ := h
 exact ⟨_, _, _, x.2, ACalls.of_body hf hname hb hok hn (hV _ _ _ x.2) hx⟩

theorem Done.gen {m : Nat} {r : AV} {V' : List (List CV)} {A' : List Arr} (ext ks : List Nat) {ys : List AV} (he : e = .normal \/ e = .ret) (hys : (ares P s fn.results.toList).bind (resAs s.A (List.range m ++ ext) ks) = some ys) (hr : one ys = r)
  (hV : resVs s.A s.V (List.range m ++ ext) ks (List.range m ++ ext) = some V') (hA : getAs s.A ks = some A') (hks : ks.Nodup) (hext : ext.Nodup) (hm : ∀ l ∈ ext, m <= l) : Done P fn m r V' A' e s := by
 cases hx : ares P s fn.results.toList with
 | none => rw [hx] at hys; simp at hys
 | some xs => rw [hx] at hys; exact ⟨he, ext, ks, xs, ys, hx, hks, hext, hm, hys, hr.symm, hV, hA⟩

theorem Done.own1 {r : AV} {a : Arr} (k : Nat) {ys : List AV} (he : e = .normal \/ e = .ret) (hys : (ares P s fn.results.toList).bind (resAs s.A [] [k]) = some ys) (hr : one ys = r) (hA : s.A[k]? = some a) : Done P fn 0 r [] [a] e s :=
 Done.gen [] [k] he (by simpa using hys) hr rfl (by simp [getAs, hA]) (by simp) (by simp) (by simp)

def Draws (P : Program) (f : FuncId) (as : List AV) (b : List Int) (p N : Nat) (R : AV -> List Arr -> Prop) : Prop :=
 ACallsX P f (.c (.ptr 0 0) :: as) (dV [rd b p]) fun v V' A' => ∃ p', V' = dV [rd b p'] /\ p <= p' /\ p' <= p + N /\ R v A'

theorem EX.draw {p N p' : Nat} {R : AV -> List Arr -> Prop} (ks : List Nat) {ys : List AV} {A' : List Arr} (he : e = .normal \/ e = .ret) (hys : (ares P s fn.results.toList).bind (resAs s.A [0] ks) = some ys) (hV : s.V[0]? = some ((rd b p').map CV.d)) (hA : getAs s.A ks = some A') (hks : ks.Nodup)
  (h1 : p <= p') (h2 : p' <= p + N) (hR : R (one ys) A') : EX (DoneX P fn 1 (fun v V' A' => ∃ p', V' = dV [rd b p'] /\ p <= p' /\ p' <= p + N /\ R v A')) e s := by
 refine ⟨⟨(one ys, dV [rd b p'], A'), p', rfl, h1, h2, hR⟩, ?_⟩
 refine Done.gen [] ks he (by simpa using hys) rfl ?_ hA hks (by simp) (by simp)
 refine resVs_d [0] [rd b p'] rfl ?_
 intro j l' row' h1 h2
 match j with
 | 0 => simp at h1 h2; subst h1; subst h2; exact hV
 | j + 1 => simp at h1

theorem wpcall_draw (l : Nat) {p N : Nat} {R : AV -> List Arr -> Prop} {xs as : List AV} {K : AV -> List (List CV) -> List Arr -> Prop} (hrow : s.V[l]? = some ((rd b p).map CV.d)) (hin : innAs s.A [l] xs = some (.c (.ptr 0 0) :: as)) (hd : Draws P f as b p N R)
  (hK : ∀ v A' p', R v A' -> p <= p' -> p' <= p + N -> K (v.outn [l] s.V.length s.A.length) (s.V.set l ((rd b p').map CV.d)) (sealAs s.A (argCells xs) ++ A')) : wpcall P s f xs K := by
 obtain ⟨v, V', A', ⟨p', rfl, h1, h2, hR⟩, hc⟩ := hd
 refine .inl ⟨[l], _, dV [rd b p], v, dV [rd b p'], A', by simp, hin, innVs_d [l] [rd b p] rfl ?_, hc, ?_⟩
 ·intro j l' row'' h1 h2
  match j with
  | 0 => simp at h1 h2; subst h1; subst h2; exact hrow
  | j + 1 => simp at h1
 ·obtain ⟨ds, hds⟩ := objCells_d (V := s.V) [l] [rd b p] rfl (by
   intro j l' row'' h1 h2
   match j with
   | 0 => simp at h1 h2; subst h1; subst h2; exact hrow
   | j + 1 => simp at h1)
  rw [hds, sealAs_append, sealAs_d]
  have hp : putBack s.A.length s.V.length [l] s.V [l] (dV [rd b p']) = s.V.set l ((rd b p').map CV.d) := by
   simp only [dV, List.map_cons, List.map_nil, putBack, List.append_nil]
   rfl
  rw [hp]; exact hK v A' p' hR h1 h2

theorem wpcall_own {xs as : List AV} {r : AV} {A' : List Arr} {K : AV -> List (List CV) -> List Arr -> Prop} (hin : innAs s.A [] xs = some as) (hc : ACalls P f as [] r [] A') (hK : K (r.outn [] s.V.length s.A.length) s.V (sealAs s.A (argCells xs) ++ A')) : wpcall P s f xs K := by
 refine .inl ⟨[], as, [], r, [], A', by simp, hin, rfl, hc, ?_⟩
 simpa [putBack, objCells] using hK

abbrev RV {α : Type} (enc : α -> AV) (arr : α -> List Arr) (good : α -> Prop) : AV -> List Arr -> Prop := fun v A' => ∃ x, (v = enc x /\ A' = arr x) /\ good x
abbrev noA {α : Type} : α -> List Arr := fun _ => []

theorem wpcall_dr (l : Nat) {α : Type} {enc : α -> AV} {arr : α -> List Arr} {good : α -> Prop} {p N : Nat} {xs as : List AV} {K : AV -> List (List CV) -> List Arr -> Prop} (hrow : s.V[l]? = some ((rd b p).map CV.d)) (hin : innAs s.A [l] xs = some (.c (.ptr 0 0) :: as)) (hd : Draws P f as b p N (RV enc arr good))
  (hK : ∀ x p', good x -> p <= p' -> p' <= p + N -> K ((enc x).outn [l] s.V.length s.A.length) (s.V.set l ((rd b p').map CV.d)) (sealAs s.A (argCells xs) ++ arr x)) : wpcall P s f xs K :=
 wpcall_draw l hrow hin hd fun _ _ p' h h1 h2 => by obtain ⟨x, ⟨rfl, rfl⟩, hg⟩ := h; exact hK x p' hg h1 h2

theorem EX.dr {α : Type} {enc : α -> AV} {arr : α -> List Arr} {good : α -> Prop} {p N p' : Nat} (ks : List Nat) (x : α) {ys : List AV} (he : e = .normal \/ e = .ret) (hys : (ares P s fn.results.toList).bind (resAs s.A [0] ks) = some ys) (hx : one ys = enc x) (hV : s.V[0]? = some ((rd b p').map CV.d)) (hA : getAs s.A ks = some (arr x)) (hks : ks.Nodup)
  (h1 : p <= p') (h2 : p' <= p + N) (hg : good x) : EX (DoneX P fn 1 (fun v V' A' => ∃ p', V' = dV [rd b p'] /\ p <= p' /\ p' <= p + N /\ RV enc arr good v A')) e s :=
 EX.draw ks he hys hV hA hks h1 h2 ⟨x, ⟨hx, rfl⟩, hg⟩

theorem Draws.mk {α : Type} {enc : α -> AV} {arr : α -> List Arr} {good : α -> Prop} {p p' N : Nat} {as : List AV} (x : α) (hg : good x) (h1 : p <= p') (h2 : p' <= p + N) (hc : ACalls P f (.c (.ptr 0 0) :: as) (dV [rd b p]) (enc x) (dV [rd b p']) (arr x)) : Draws P f as b p N (RV enc arr good) :=
 ⟨_, _, _, ⟨p', rfl, h1, h2, x, ⟨rfl, rfl⟩, hg⟩, hc⟩
theorem Draws.mono {α : Type} {enc : α -> AV} {arr : α -> List Arr} {good good' : α -> Prop} {p N N' : Nat} {as : List AV} (h : Draws P f as b p N (RV enc arr good)) (hN : N <= N') (hg : ∀ x, good x -> good' x) : Draws P f as b p N' (RV enc arr good') := by
 obtain ⟨v, V', A', ⟨p', h1, h2, h3, x, h4, h5⟩, hc⟩ := h
 exact ⟨v, V', A', ⟨p', h1, h2, by omega, x, h4, hg x h5⟩, hc⟩
theorem Draws.of_body {p N : Nat} {as : List AV} {R : AV -> List Arr -> Prop} (hf : P.funcs[f]? = some fn) (hname : (fn.name == "runtime.NumGoroutine") = false) (hb : fn.body = some c) (hok : codeOk fn.ntmps c = true) (hn : as.length + 1 <= fn.ntmps)
  (h : TX P fn.ntmps c (DoneX P fn 1 (fun v V' A' => ∃ p', V' = dV [rd b p'] /\ p <= p' /\ p' <= p + N /\ R v A')) ⟨argFr (.c (.ptr 0 0) :: as), dV [rd b p], []⟩) : Draws P f as b p N R :=
 ACallsX.of_body hf hname hb hok hn (by rintro v V' A' ⟨p', rfl, -⟩; simp) h

def Some_ (P : Program) (f : FuncId) (as : List AV) (R : AV -> List Arr -> Prop) : Prop := ACallsX P f as [] fun v V' A' => V' = [] /\ R v A'
theorem Some_.of_body {as : List AV} {R : AV -> List Arr -> Prop} (hf : P.funcs[f]? = some fn) (hname : (fn.name == "runtime.NumGoroutine") = false) (hb : fn.body = some c) (hok : codeOk fn.ntmps c = true) (hn : as.length <= fn.ntmps)
  (h : TX P fn.ntmps c (DoneX P fn 0 (fun v V' A' => V' = [] /\ R v A')) ⟨argFr as, [], []⟩) : Some_ P f as R :=
 ACallsX.of_body hf hname hb hok hn (by rintro v V' A' ⟨rfl, -⟩; simp) h
theorem EX.sm {α : Type} {enc : α -> AV} {arr : α -> List Arr} {good : α -> Prop} (ks : List Nat) (x : α) {ys : List AV} (he : e = .normal \/ e = .ret) (hys : (ares P s fn.results.toList).bind (resAs s.A [] ks) = some ys) (hx : one ys = enc x) (hA : getAs s.A ks = some (arr x)) (hks : ks.Nodup) (hg : good x) :
  EX (DoneX P fn 0 (fun v V' A' => V' = [] /\ RV enc arr good v A')) e s := by
 refine ⟨⟨(one ys, [], arr x), rfl, x, ⟨hx, rfl⟩, hg⟩, ?_⟩
 exact Done.gen [] ks he (by simpa using hys) rfl rfl hA hks (by simp) (by simp)
theorem wpcall_new1 {row : List DV} {xs as : List AV} {r : AV} {K : AV -> List (List CV) -> List Arr -> Prop} (hin : innAs s.A [] xs = some as) (hc : ACalls P f as [] r (dV [row]) []) (hK : K (r.outn [] s.V.length s.A.length) (s.V ++ [row.map CV.d]) (sealAs s.A (argCells xs))) : wpcall P s f xs K := by
 refine .inl ⟨[], as, [], r, dV [row], [], by simp, hin, rfl, hc, ?_⟩
 have hm : (row.map CV.d).map (CV.outn [] s.V.length s.A.length) = row.map CV.d := by
  rw [List.map_map]; rfl
 have hp : putBack s.A.length s.V.length [] s.V [] (dV [row]) = s.V ++ [row.map CV.d] := by
  simp only [dV, List.map_cons, List.map_nil, putBack, hm]
 rw [hp]
 simpa [objCells] using hK
end

section
variable {P : Program} {n : Nat} {ι : Type} {Q : ι -> Exit -> St -> Prop} {s s' : St} {c : Code}
def LX (P : Program) (n : Nat) (c : Code) (Q : ι -> Exit -> St -> Prop) (s : St) : Prop := ∃ x j, Iter P n c (Q x) j s
def UnrX (P : Program) (n : Nat) (c : Code) (Q : ι -> Exit -> St -> Prop) : ι × Nat -> Exit -> St -> Prop
 | (x, j), .normal, s => Iter P n c (Q x) j s
 | (x, _), e, s => Q x e s
theorem LX.unroll (h : TX P n c (UnrX P n c Q) s) : LX P n c Q s := by
 obtain ⟨⟨x, j⟩, h⟩ := h
 exact ⟨x, j + 1, T.mono h fun e s' h1 => by cases e <;> exact h1⟩
theorem TX.unroll (h : TX P n c (UnrX P n c Q) s) : TX P n (.loop c) Q s := by
 obtain ⟨x, j, h⟩ := LX.unroll h
 exact ⟨x, T.loop_iter h⟩
theorem EX.againN (h : TX P n c (UnrX P n c Q) s) : EX (UnrX P n c Q) .normal s := by
 obtain ⟨x, j, h⟩ := LX.unroll h
 exact ⟨(x, j), h⟩
theorem EX.unrR (h : EX Q .ret s) : EX (UnrX P n c Q) .ret s := h.imp' (fun x => (x, 0)) fun _ h => h
theorem EX.unrE {id : Nat} (h : EX Q (.exit id) s) : EX (UnrX P n c Q) (.exit id) s := h.imp' (fun x => (x, 0)) fun _ h => h
end

section
variable {P : Program} {n : Nat} {s : St} {c : Code}
def keepL : List Nat -> List (Nat × AV) -> List (Nat × AV)
 | [], _ => []
 | t :: r, fr => match look fr t with
  | some x => (t, x) :: keepL r fr
  | none => keepL r fr
def ups : List (Nat × List CV) -> List (List CV) -> List (List CV)
 | [], V => V
 | p :: r, V => ups r (V.set p.1 p.2)
attribute [simp] keepL ups
end
end Go.Av

namespace Go.Av
open Go

def IsTy (r : List DV) (t : MTy) : Prop := r = eTy t
def IsTys (rs : List (List DV)) (ts : List MTy) : Prop := rs = ts.map eTy
def IsTm (r : List DV) (e : MTm) : Prop := r = eTm e
def IsTms (rs : List (List DV)) (es : List MTm) : Prop := rs = es.map eTm
structure IsT2 (k : Int) (rs : List (List DV)) (t : MTy) : Prop where
 k : k = t.kind
 rs : rs = t.kids.map eTy
theorem IsT2.var (t : MTy) : IsT2 t.kind (t.kids.map eTy) t := ⟨rfl, rfl⟩
theorem IsT2.node {k : Int} {rs : List (List DV)} {ts : List MTy} (h : IsTys rs ts) : IsT2 k rs (.mk k ts) := ⟨rfl, h⟩
theorem IsTy.of {k : Int} {rs : List (List DV)} {t : MTy} (h : IsT2 k rs t) : IsTy [.int .i64 k, .sl rs] t := by rw [IsTy, eTy_def, <- h.k, <- h.rs]
theorem IsTy.row (t : MTy) : IsTy (eTy t) t := rfl
theorem IsTys.map (l : List MTy) : IsTys (l.map eTy) l := rfl
theorem IsTys.nil : IsTys [] [] := rfl
theorem IsTys.cons {r : List DV} {rs : List (List DV)} {t : MTy} {ts : List MTy} (h : IsTy r t) (hs : IsTys rs ts) : IsTys (r :: rs) (t :: ts) := by rw [IsTys, List.map_cons, <- hs, <- h]
theorem IsTys.app {rs rs' : List (List DV)} {ts ts' : List MTy} (h : IsTys rs ts) (h' : IsTys rs' ts') : IsTys (rs ++ rs') (ts ++ ts') := by rw [IsTys, List.map_append, <- h, <- h']
theorem IsTm.row (e : MTm) : IsTm (eTm e) e := rfl
theorem IsTm.var (e : MTm) : IsTm [.int .i64 e.kind, .str e.name, .int .i64 e.num, .int .i64 e.ty.kind, .sl (e.ty.kids.map eTy), .int .i64 e.fr.kind, .sl (e.fr.kids.map eTy), .int .i64 e.label, .sl (e.kids.map eTm)] e := by rw [IsTm, eTm_def]
theorem IsTm.node {k n k1 k2 lb : Int} {s : List UInt8} {r1 r2 r3 : List (List DV)} {t f : MTy} {es : List MTm} (h1 : IsT2 k1 r1 t) (h2 : IsT2 k2 r2 f) (h3 : IsTms r3 es) :
  IsTm [.int .i64 k, .str s, .int .i64 n, .int .i64 k1, .sl r1, .int .i64 k2, .sl r2, .int .i64 lb, .sl r3] (.mk k s n t f lb es) := by
 rw [IsTm, eTm_def, h1.k, h1.rs, h2.k, h2.rs, h3]; rfl
theorem IsTms.map (l : List MTm) : IsTms (l.map eTm) l := rfl
theorem IsTms.nil : IsTms [] [] := rfl
theorem IsTms.cons {r : List DV} {rs : List (List DV)} {t : MTm} {ts : List MTm} (h : IsTm r t) (hs : IsTms rs ts) : IsTms (r :: rs) (t :: ts) := by rw [IsTms, List.map_cons, <- hs, <- h]
theorem IsTms.app {rs rs' : List (List DV)} {ts ts' : List MTm} (h : IsTms rs ts) (h' : IsTms rs' ts') : IsTms (rs ++ rs') (ts ++ ts') := by rw [IsTms, List.map_append, <- h, <- h']

def IsV {α : Type} (enc : α -> AV) (v : AV) (x : α) : Prop := v = enc x
theorem IsV.ty {k : Int} {rs : List (List DV)} {t : MTy} (h : IsT2 k rs t) : IsV aTy (.agg [.d (.int .i64 k), .d (.sl rs)]) t := by rw [IsV, h.k, h.rs]
theorem IsV.tmv (e : MTm) : IsV aTm (.agg [.d (.int .i64 e.kind), .d (.str e.name), .d (.int .i64 e.num), .d (.int .i64 e.ty.kind), .d (.sl (e.ty.kids.map eTy)), .d (.int .i64 e.fr.kind), .d (.sl (e.fr.kids.map eTy)), .d (.int .i64 e.label), .d (.sl (e.kids.map eTm))]) e := rfl
theorem IsV.tm {k n k1 k2 lb : Int} {s : List UInt8} {r1 r2 r3 : List (List DV)} {t f : MTy} {es : List MTm} (h1 : IsT2 k1 r1 t) (h2 : IsT2 k2 r2 f) (h3 : IsTms r3 es) :
  IsV aTm (.agg [.d (.int .i64 k), .d (.str s), .d (.int .i64 n), .d (.int .i64 k1), .d (.sl r1), .d (.int .i64 k2), .d (.sl r2), .d (.int .i64 lb), .d (.sl r3)]) (.mk k s n t f lb es) := by
 rw [IsV, aTm, h1.k, h1.rs, h2.k, h2.rs, h3]; rfl
abbrev aP {α β : Type} (f : α -> AV) (g : β -> AV) : α × β -> AV := fun x => .tup [f x.1, g x.2]
abbrev aP3 {α β γ : Type} (f : α -> AV) (g : β -> AV) (h : γ -> AV) : α × β × γ -> AV := fun x => .tup [f x.1, g x.2.1, h x.2.2]
theorem IsV.p2 {α β : Type} {f : α -> AV} {g : β -> AV} {v u : AV} {a : α} {b : β} (h : IsV f v a) (h' : IsV g u b) : IsV (aP f g) (.tup [v, u]) (a, b) := by rw [IsV, h, h']
theorem IsV.p3 {α β γ : Type} {f : α -> AV} {g : β -> AV} {i : γ -> AV} {v u w : AV} {a : α} {b : β} {c : γ} (h : IsV f v a) (h' : IsV g u b) (h'' : IsV i w c) : IsV (aP3 f g i) (.tup [v, u, w]) (a, b, c) := by rw [IsV, h, h', h'']
abbrev aTys (l : List MTy) : AV := .l (l.map eTy)
abbrev aTms (l : List MTm) : AV := .l (l.map eTm)
abbrev aBds (l : List MBd) : AV := .l (l.map eBd)
theorem IsV.tys {rs : List (List DV)} {ts : List MTy} (h : IsTys rs ts) : IsV aTys (.c (.d (.sl rs))) ts := by rw [IsV, h]
theorem IsV.tms {rs : List (List DV)} {ts : List MTm} (h : IsTms rs ts) : IsV aTms (.c (.d (.sl rs))) ts := by rw [IsV, h]
def IsBds (rs : List (List DV)) (ts : List MBd) : Prop := rs = ts.map eBd
theorem IsBds.map (l : List MBd) : IsBds (l.map eBd) l := rfl
theorem IsBds.nil : IsBds [] [] := rfl
theorem IsBds.cons {s : List UInt8} {k : Int} {r1 rs : List (List DV)} {t : MTy} {ts : List MBd} (h : IsT2 k r1 t) (hs : IsBds rs ts) : IsBds ([.str s, .int .i64 k, .sl r1] :: rs) (⟨s, t⟩ :: ts) := by rw [IsBds, List.map_cons, <- hs, eBd, h.k, h.rs]
theorem IsBds.app {rs rs' : List (List DV)} {ts ts' : List MBd} (h : IsBds rs ts) (h' : IsBds rs' ts') : IsBds (rs ++ rs') (ts ++ ts') := by rw [IsBds, List.map_append, <- h, <- h']
theorem IsV.bds {rs : List (List DV)} {ts : List MBd} (h : IsBds rs ts) : IsV aBds (.c (.d (.sl rs))) ts := by rw [IsV, h]
theorem IsV.int (n : Int) : IsV (fun n : Int => .i n) (.c (.d (.int .i64 n))) n := rfl
theorem IsV.str (s : List UInt8) : IsV (fun s : List UInt8 => .s s) (.c (.d (.str s))) s := rfl
theorem IsV.bool (s : Bool) : IsV (fun s : Bool => .b s) (.c (.d (.bool s))) s := rfl

section
variable {P : Program} {f : FuncId} {fn : Func} {c : Code} {s : St} {e : Exit} {b : List Int}
theorem EX.drA {α : Type} {enc : α -> AV} {arr : α -> List Arr} {good : α -> Prop} {p N p' : Nat} (ks : List Nat) {x : α} {ys : List AV} {v : AV} (he : e = .normal \/ e = .ret) (hys : (ares P s fn.results.toList).bind (resAs s.A [0] ks) = some ys) (hv : one ys = v) (hx : IsV enc v x) (hV : s.V[0]? = some ((rd b p').map CV.d)) (hA : getAs s.A ks = some (arr x)) (hks : ks.Nodup)
  (h1 : p <= p') (h2 : p' <= p + N) (hg : good x) : EX (DoneX P fn 1 (fun v V' A' => ∃ p', V' = dV [rd b p'] /\ p <= p' /\ p' <= p + N /\ RV enc arr good v A')) e s :=
 EX.dr ks x he hys (hv.trans hx) hV hA hks h1 h2 hg
theorem EX.someA {α : Type} {enc : α -> AV} {arr : α -> List Arr} {good : α -> Prop} (ks : List Nat) {x : α} {ys : List AV} {v : AV} (he : e = .normal \/ e = .ret) (hys : (ares P s fn.results.toList).bind (resAs s.A [] ks) = some ys) (hv : one ys = v) (hx : IsV enc v x) (hA : getAs s.A ks = some (arr x)) (hks : ks.Nodup) (hg : good x) :
  EX (DoneX P fn 0 (fun v V' A' => V' = [] /\ RV enc arr good v A')) e s :=
 EX.sm ks x he hys (hv.trans hx) hA hks hg
end
theorem shape_mk (d : Nat) (k : Int) (l : List MTy) : shapeTy (d + 1) (.mk k l) = (decide (tyKids k = l.length) && l.all (shapeTy d)) := rfl
end Go.Av

namespace Go.Av
open Go

def addM (c : UInt8) : List UInt8 -> List UInt8
 | [] => [c]
 | x :: r => if x < c then x :: addM c r else if x = c then x :: r else c :: x :: r
theorem addM_len (c : UInt8) : ∀ (s : List UInt8), (addM c s).length <= s.length + 1
 | [] => by simp [addM]
 | x :: r => by
  have := addM_len c r
  simp only [addM]
  split
  ·simp; omega
  ·split <;> simp
theorem bytesLess_one (x c : UInt8) : Op.bytesLess [x] [c] = decide (x < c) := by
 simp only [Op.bytesLess]
 by_cases h : x < c
 ·simp [h]
 ·by_cases h2 : x = c
  ·subst h2; simp
  ·simp [h, h2]
theorem nTy_mk (k : Int) (l : List MTy) : nTy (.mk k l) = nTyS l := by simp [nTy]
theorem nTm_mk (k : Int) (s : List UInt8) (n : Int) (t f : MTy) (b : Int) (l : List MTm) : nTm (.mk k s n t f b l) = s.length + nTy t + nTy f + nTmS l := by simp [nTm]
theorem slice_one {α : Type} {s : List α} {k : Nat} (h : k < s.length) : (s.take (k + 1)).drop k = [s[k]] := by
 rw [List.take_add_one, List.getElem?_eq_getElem h, List.drop_append_of_le_length (by simp; omega)]
 simp
end Go.Av

namespace Go.Av
open Go
@[simp] theorem take_app_len {α : Type} (G X : List α) (k : Nat) : (G ++ X).take (G.length + k) = G ++ X.take k := by
 rw [List.take_append, List.take_of_length_le (by omega), show G.length + k - G.length = k by omega]
theorem shape_int : shapeTy 4 intT = true := rfl
theorem shape_bool : shapeTy 4 boolT = true := rfl
theorem shape_zero : shapeTy 4 zeroT = false := rfl
end Go.Av

namespace Go.Av
open Go

mutual
def sameTy : MTy -> MTy -> Bool
 | .mk k l, .mk k' l' => decide (k = k') && sameTyS l l'
def sameTyS : List MTy -> List MTy -> Bool
 | [], [] => true
 | x :: xs, y :: ys => sameTy x y && sameTyS xs ys
 | _, _ => false
end
mutual
theorem sameTy_eq : ∀ (a b : MTy), sameTy a b = true -> a = b
 | .mk k l, .mk k' l', h => by
  simp only [sameTy, Bool.and_eq_true, decide_eq_true_eq] at h
  obtain ⟨rfl, h⟩ := h
  rw [sameTyS_eq l l' h]
theorem sameTyS_eq : ∀ (l m : List MTy), sameTyS l m = true -> l = m
 | [], [], _ => rfl
 | x :: xs, y :: ys, h => by
  simp only [sameTyS, Bool.and_eq_true] at h
  rw [sameTy_eq x y h.1, sameTyS_eq xs ys h.2]
 | [], _ :: _, h => by simp [sameTyS] at h
 | _ :: _, [], h => by simp [sameTyS] at h
end
mutual
theorem sameTy_refl : ∀ (a : MTy), sameTy a a = true
 | .mk k l => by simp [sameTy, sameTyS_refl l]
theorem sameTyS_refl : ∀ (l : List MTy), sameTyS l l = true
 | [] => rfl
 | x :: xs => by simp [sameTyS, sameTy_refl x, sameTyS_refl xs]
end
def castM (n : Int) (e : MTm) (f t : MTy) : MTm × Int := if sameTy f t = true then (e, n) else (.mk 14 [] 0 t f (n + 1) [e], n + 1)

def wantM (ctx : List MBd) (k : Int) (name : List UInt8) (ty : MTy) (ts : List MTy) : Option (List MTy × MTy) :=
 if k = 1 then (lookM ctx name).map fun t => ([], t)
 else if k = 2 then some ([], intT)
 else if k = 3 \/ k = 4 then some ([], boolT)
 else match ts with
  | [a] =>
   if k = 5 then some ([], .mk 4 [ty, a])
   else if k = 11 then (matchM 5 a).map fun p => ([.mk 5 [p.1, p.2]], p.1)
   else if k = 12 then (matchM 5 a).map fun p => ([.mk 5 [p.1, p.2]], p.2)
   else if k = 13 then if consTy a ty = true then some ([ty], ty) else none
   else none
  | [a, b] =>
   if k = 6 then match matchM 4 a with
    | some (x, y) => if consTy b x = true then some ([.mk 4 [x, y], x], y) else none
    | none => none
   else if k = 7 then if consTy a intT = true /\ consTy b intT = true then some ([intT, intT], intT) else none
   else if k = 8 then if consTy a intT = true /\ consTy b intT = true then some ([intT, intT], boolT) else none
   else if k = 10 then some ([], .mk 5 [a, b])
   else none
  | [a, b, c] => if k = 9 then if consTy a boolT = true /\ consTy b c = true then some ([boolT, meetTy b c, meetTy b c], meetTy b c) else none else none
  | _ => none

def castS : Int -> List MTm -> List MTy -> List MTy -> List MTm × Int
 | n, e :: es, h :: hs, w :: ws => let (e', m) := castM n e h w; let (r, m') := castS m es hs ws; (e' :: r, m')
 | n, es, _, _ => (es, n)

def finM (ctx : List MBd) (k : Int) (name : List UInt8) (num : Int) (ty fr : MTy) (lb : Int) : Option (List MTm × List MTy) × Int -> Option (MTm × MTy) × Int
 | (none, n) => (none, n)
 | (some (es, ts), n) => match wantM ctx k name ty ts with
  | none => (none, n)
  | some (ws, t) => if shapeTy 4 t = true then
    let (es', m) := castS n es ts ws
    if k = 13 then (es'.head?.map fun x => (x, t), m) else (some (.mk k name num ty fr lb es', t), m)
   else (none, n)
def consE : Option (MTm × MTy) × Int -> (Int -> Option (List MTm × List MTy) × Int) -> Option (List MTm × List MTy) × Int
 | (none, n), _ => (none, n)
 | (some (e, t), n), f => match f n with
  | (none, m) => (none, m)
  | (some (es, ts), m) => (some (e :: es, t :: ts), m)

mutual
def elabM : List MBd -> MTm -> Int -> Option (MTm × MTy) × Int
 | ctx, .mk k s n t f b l, c => finM ctx k s n t f b (elabS (if k = 5 then ctx ++ [⟨s, t⟩] else ctx) l c)
def elabS : List MBd -> List MTm -> Int -> Option (List MTm × List MTy) × Int
 | _, [], c => (some ([], []), c)
 | ctx, e :: r, c => consE (elabM ctx e c) (elabS ctx r)
end
end Go.Av

namespace Go.Av
open Go

inductive VTy : Nat -> MTy -> Prop
 | any (d : Nat) : VTy (d + 1) anyT
 | int (d : Nat) : VTy (d + 1) intT
 | bool (d : Nat) : VTy (d + 1) boolT
 | fn {d : Nat} {a b : MTy} : VTy d a -> VTy d b -> VTy (d + 1) (.mk 4 [a, b])
 | pair {d : Nat} {a b : MTy} : VTy d a -> VTy d b -> VTy (d + 1) (.mk 5 [a, b])

abbrev tVar (s : List UInt8) : MTm := .mk 1 s 0 zeroT zeroT 0 []
abbrev tNum (n : Int) : MTm := .mk 2 [] n zeroT zeroT 0 []
abbrev tTrue : MTm := .mk 3 [] 0 zeroT zeroT 0 []
abbrev tFalse : MTm := .mk 4 [] 0 zeroT zeroT 0 []
abbrev tLam (s : List UInt8) (t : MTy) (b : MTm) : MTm := .mk 5 s 0 t zeroT 0 [b]
abbrev tN1 (k : Int) (a : MTm) : MTm := .mk k [] 0 zeroT zeroT 0 [a]
abbrev tN2 (k : Int) (a b : MTm) : MTm := .mk k [] 0 zeroT zeroT 0 [a, b]
abbrev tIf (a b c : MTm) : MTm := .mk 9 [] 0 zeroT zeroT 0 [a, b, c]
abbrev tAs (a : MTm) (t : MTy) : MTm := .mk 13 [] 0 t zeroT 0 [a]
abbrev tCast (a : MTm) (f t : MTy) (l : Int) : MTm := .mk 14 [] 0 t f l [a]

inductive TmV (nt : Int) : Nat -> MTm -> Prop
 | var {d : Nat} {s : List UInt8} : nt ≠ 1 -> nameM s = true -> TmV nt (d + 1) (tVar s)
 | num {d : Nat} {n : Int} : nt ≠ 2 -> 0 <= n -> n <= 999 -> TmV nt (d + 1) (tNum n)
 | tru {d : Nat} : nt ≠ 3 -> TmV nt (d + 1) tTrue
 | fls {d : Nat} : nt ≠ 4 -> TmV nt (d + 1) tFalse
 | lam {d : Nat} {s : List UInt8} {t : MTy} {b : MTm} : nt ≠ 5 -> nameM s = true -> shapeTy 4 t = true -> TmV nt d b -> TmV nt (d + 1) (tLam s t b)
 | n2 {d : Nat} {k : Int} {a b : MTm} : nt ≠ k -> k = 6 \/ k = 7 \/ k = 8 \/ k = 10 -> TmV nt d a -> TmV nt d b -> TmV nt (d + 1) (tN2 k a b)
 | ite {d : Nat} {a b c : MTm} : nt ≠ 9 -> TmV nt d a -> TmV nt d b -> TmV nt d c -> TmV nt (d + 1) (tIf a b c)
 | n1 {d : Nat} {k : Int} {a : MTm} : nt ≠ k -> k = 11 \/ k = 12 -> TmV nt d a -> TmV nt (d + 1) (tN1 k a)
 | asc {d : Nat} {t : MTy} {a : MTm} : nt ≠ 13 -> shapeTy 4 t = true -> TmV nt d a -> TmV nt (d + 1) (tAs a t)
 | cast {d : Nat} {f t : MTy} {l : Int} {a : MTm} : nt ≠ 14 -> shapeTy 4 f = true -> shapeTy 4 t = true -> consTy f t = true -> labM l = true -> TmV nt d a -> TmV nt (d + 1) (tCast a f t l)

theorem noTy_eq {t : MTy} (h : noTyM t = true) : t = zeroT := by
 obtain ⟨k, l⟩ := t
 simp only [noTyM, Bool.and_eq_true, decide_eq_true_eq] at h
 obtain ⟨h1, h2⟩ := h
 cases h1; cases h2; rfl

theorem TmV.of {nt : Int} : ∀ {d : Nat} {e : MTm}, shapeTm nt d e = true -> TmV nt d e
 | 0, e, h => by simp [shapeTm] at h
 | d + 1, .mk k s n t f b l, h => by
  simp only [shapeTm, nodeM, Bool.and_eq_true, decide_eq_true_eq, List.all_eq_true] at h
  simp only [MTm.kind_mk, MTm.kids_mk] at h
  obtain ⟨⟨hk, h1, h2⟩, h3⟩ := h
  have h2' := h2
  have h2 : (if namedM k then nameM s else decide (s = [])) = true /\ (inM n 0 (if k = 2 then 999 else 0)) = true /\ (if typedM k then shapeTy 4 t else noTyM t) = true /\ (if k = 14 then castOwnM (.mk k s n t f b l) else noTyM f && decide (b = 0)) = true := by
   simp only [ownM, Bool.and_eq_true] at h2
   exact ⟨h2.1.1.1, h2.1.1.2, h2.1.2, h2.2⟩
  simp only [inM, Bool.and_eq_true, decide_eq_true_eq] at h2
  obtain ⟨g1, g2, g3, g4⟩ := h2
  have hnt : nt ≠ k := fun e => hk e.symm
  match l, h1, h3 with
  | [], h1, _ =>
   have : k = 1 \/ k = 2 \/ k = 3 \/ k = 4 := by
    simp only [kidsM, List.length_nil] at h1
    split at h1
    ·assumption
    ·split at h1
     ·omega
     ·split at h1
      ·omega
      ·split at h1 <;> omega
   rcases this with rfl | rfl | rfl | rfl <;> simp [namedM, typedM] at g1 g2 g3 g4 <;> obtain ⟨g4, rfl⟩ := g4 <;> obtain rfl := noTy_eq g3 <;> obtain rfl := noTy_eq g4
   ·obtain rfl : n = 0 := by omega
    exact .var hnt g1
   ·subst g1
    exact .num hnt g2.1 g2.2
   ·subst g1
    obtain rfl : n = 0 := by omega
    exact .tru hnt
   ·subst g1
    obtain rfl : n = 0 := by omega
    exact .fls hnt
  | [a], h1, h3 =>
   have : k = 5 \/ k = 11 \/ k = 12 \/ k = 13 \/ k = 14 := by
    simp only [kidsM, List.length_cons, List.length_nil] at h1
    split at h1
    ·omega
    ·split at h1
     ·assumption
     ·split at h1
      ·omega
      ·split at h1 <;> omega
   have ha := TmV.of (h3 a (by simp))
   rcases this with rfl | rfl | rfl | rfl | rfl <;> simp [namedM, typedM] at g1 g2 g3 g4
   ·obtain ⟨g4, rfl⟩ := g4
    obtain rfl := noTy_eq g4
    obtain rfl : n = 0 := by omega
    exact .lam hnt g1 g3 ha
   ·obtain ⟨g4, rfl⟩ := g4
    obtain rfl := noTy_eq g4
    obtain rfl := noTy_eq g3
    subst g1
    obtain rfl : n = 0 := by omega
    exact .n1 hnt (.inl rfl) ha
   ·obtain ⟨g4, rfl⟩ := g4
    obtain rfl := noTy_eq g4
    obtain rfl := noTy_eq g3
    subst g1
    obtain rfl : n = 0 := by omega
    exact .n1 hnt (.inr rfl) ha
   ·obtain ⟨g4, rfl⟩ := g4
    obtain rfl := noTy_eq g4
    subst g1
    obtain rfl : n = 0 := by omega
    exact .asc hnt g3 ha
   ·subst g1
    obtain rfl : n = 0 := by omega
    simp only [castOwnM, Bool.and_eq_true] at g4
    exact .cast hnt g4.1.1.1 g3 g4.1.2 g4.2 ha
  | [a, b'], h1, h3 =>
   have : k = 6 \/ k = 7 \/ k = 8 \/ k = 10 := by
    simp only [kidsM, List.length_cons, List.length_nil] at h1
    split at h1
    ·omega
    ·split at h1
     ·omega
     ·split at h1
      ·assumption
      ·split at h1 <;> omega
   have ha := TmV.of (h3 a (by simp))
   have hb := TmV.of (h3 b' (by simp))
   have e1 : namedM k = false := by rcases this with rfl | rfl | rfl | rfl <;> rfl
   have e2 : typedM k = false := by rcases this with rfl | rfl | rfl | rfl <;> rfl
   have e3 : ¬ k = 14 := by omega
   have e4 : ¬ k = 2 := by omega
   simp [e1, e2, e3, e4] at g1 g2 g3 g4
   obtain ⟨g4, rfl⟩ := g4
   obtain rfl := noTy_eq g4
   obtain rfl := noTy_eq g3
   subst g1
   obtain rfl : n = 0 := by omega
   exact .n2 hnt this ha hb
  | [a, b', c], h1, h3 =>
   have : k = 9 := by
    simp only [kidsM, List.length_cons, List.length_nil] at h1
    split at h1
    ·omega
    ·split at h1
     ·omega
     ·split at h1
      ·omega
      ·split at h1 <;> omega
   have ha := TmV.of (h3 a (by simp))
   have hb := TmV.of (h3 b' (by simp))
   have hc := TmV.of (h3 c (by simp))
   subst this
   simp [namedM, typedM] at g1 g2 g3 g4
   obtain ⟨g4, rfl⟩ := g4
   obtain rfl := noTy_eq g4
   obtain rfl := noTy_eq g3
   subst g1
   obtain rfl : n = 0 := by omega
   exact .ite hnt ha hb hc
  | a :: b' :: c :: x :: r, h1, _ =>
   exfalso
   have := kidsM_le k
   simp only [List.length_cons] at h1
   omega

theorem TmV.shape {nt : Int} {d : Nat} {e : MTm} (h : TmV nt d e) : shapeTm nt d e = true := by
 induction h with
 | var h1 h2 => simp [shapeTm, nodeM, ownM, kidsM, namedM, typedM, inM, noTyM, h1.symm, h2]
 | num h1 h2 h3 => simp [shapeTm, nodeM, ownM, kidsM, namedM, typedM, inM, noTyM, h1.symm, h2, h3]
 | tru h1 => simp [shapeTm, nodeM, ownM, kidsM, namedM, typedM, inM, noTyM, h1.symm]
 | fls h1 => simp [shapeTm, nodeM, ownM, kidsM, namedM, typedM, inM, noTyM, h1.symm]
 | lam h1 h2 h3 _ h4 => simp [shapeTm, nodeM, ownM, kidsM, namedM, typedM, inM, noTyM, h1.symm, h2, h3, h4]
 | n2 h1 h2 _ _ h3 h4 =>
  rcases h2 with rfl | rfl | rfl | rfl <;> simp [shapeTm, nodeM, ownM, kidsM, namedM, typedM, inM, noTyM, h1.symm, h3, h4]
 | ite h1 _ _ _ h2 h3 h4 => simp [shapeTm, nodeM, ownM, kidsM, namedM, typedM, inM, noTyM, h1.symm, h2, h3, h4]
 | n1 h1 h2 _ h3 =>
  rcases h2 with rfl | rfl <;> simp [shapeTm, nodeM, ownM, kidsM, namedM, typedM, inM, noTyM, h1.symm, h3]
 | asc h1 h2 _ h3 => simp [shapeTm, nodeM, ownM, kidsM, namedM, typedM, inM, noTyM, h1.symm, h2, h3]
 | cast h1 h2 h3 h4 h5 _ h6 => simp [shapeTm, nodeM, ownM, kidsM, namedM, typedM, inM, noTyM, castOwnM, h1.symm, h2, h3, h4, h5, h6]

section
variable {nt : Int} {d : Nat}
theorem TmV.mono {nt : Int} {d : Nat} {e : MTm} (h : TmV nt d e) : ∀ {m : Nat}, d <= m -> TmV nt m e := by
 induction h with
 | var h1 h2 => intro m hm; obtain ⟨m, rfl⟩ : ∃ j, m = j + 1 := ⟨m - 1, by omega⟩; exact .var h1 h2
 | num h1 h2 h3 => intro m hm; obtain ⟨m, rfl⟩ : ∃ j, m = j + 1 := ⟨m - 1, by omega⟩; exact .num h1 h2 h3
 | tru h1 => intro m hm; obtain ⟨m, rfl⟩ : ∃ j, m = j + 1 := ⟨m - 1, by omega⟩; exact .tru h1
 | fls h1 => intro m hm; obtain ⟨m, rfl⟩ : ∃ j, m = j + 1 := ⟨m - 1, by omega⟩; exact .fls h1
 | lam h1 h2 h3 _ ih => intro m hm; obtain ⟨m, rfl⟩ : ∃ j, m = j + 1 := ⟨m - 1, by omega⟩; exact .lam h1 h2 h3 (ih (by omega))
 | n2 h1 h2 _ _ ih1 ih2 => intro m hm; obtain ⟨m, rfl⟩ : ∃ j, m = j + 1 := ⟨m - 1, by omega⟩; exact .n2 h1 h2 (ih1 (by omega)) (ih2 (by omega))
 | ite h1 _ _ _ ih1 ih2 ih3 => intro m hm; obtain ⟨m, rfl⟩ : ∃ j, m = j + 1 := ⟨m - 1, by omega⟩; exact .ite h1 (ih1 (by omega)) (ih2 (by omega)) (ih3 (by omega))
 | n1 h1 h2 _ ih => intro m hm; obtain ⟨m, rfl⟩ : ∃ j, m = j + 1 := ⟨m - 1, by omega⟩; exact .n1 h1 h2 (ih (by omega))
 | asc h1 h2 _ ih => intro m hm; obtain ⟨m, rfl⟩ : ∃ j, m = j + 1 := ⟨m - 1, by omega⟩; exact .asc h1 h2 (ih (by omega))
 | cast h1 h2 h3 h4 h5 _ ih => intro m hm; obtain ⟨m, rfl⟩ : ∃ j, m = j + 1 := ⟨m - 1, by omega⟩; exact .cast h1 h2 h3 h4 h5 (ih (by omega))
end

section
variable (ctx : List MBd) (s : List UInt8) (n : Int) (t : MTy) (a b c : MTm)
end
def subCtx (c c' : List MBd) : Prop := ∀ s t, lookM c s = some t -> lookM c' s = some t
end Go.Av

namespace Go.Av
open Go

mutual
def substM (x : List UInt8) (v : MTm) : MTm -> MTm
 | .mk k s n t f b l => if k = 1 /\ s = x then v else if k = 5 /\ s = x then .mk k s n t f b l else .mk k s n t f b (substS x v l)
def substS (x : List UInt8) (v : MTm) : List MTm -> List MTm
 | [] => []
 | e :: r => substM x v e :: substS x v r
end
def eqCtx (c c' : List MBd) : Prop := ∀ s, lookM c s = lookM c' s
mutual
def precTy : MTy -> MTy -> Bool
 | .mk k l, .mk k' l' => decide (k' = 1) || (decide (k = k') && precTyS l l')
def precTyS : List MTy -> List MTy -> Bool
 | [], [] => true
 | x :: xs, y :: ys => precTy x y && precTyS xs ys
 | _, _ => false
end
def hasTyM (k : Int) : Bool := decide (k = 5) || decide (k = 13)
mutual
def alikeM (q : MTy -> MTy -> Bool) : MTm -> MTm -> Bool
 | .mk k s n t _ _ l, .mk k' s' n' t' _ _ l' => !(hasTyM k && decide (k = k') && !q t t') && (decide (k = k') && (decide (s = s') && (decide (n = n') && alikeS q l l')))
def alikeS (q : MTy -> MTy -> Bool) : List MTm -> List MTm -> Bool
 | [], [] => true
 | x :: xs, y :: ys => alikeM q x y && alikeS q xs ys
 | _, _ => false
end
def precCtx : List MBd -> List MBd -> Prop
 | [], [] => True
 | b :: r, b' :: r' => b.name = b'.name /\ precTy b.ty b'.ty = true /\ precCtx r r'
 | _, _ => False
inductive AlV (q : MTy -> MTy -> Bool) : MTm -> MTm -> Prop
 | var (s : List UInt8) : AlV q (tVar s) (tVar s)
 | num (n : Int) : AlV q (tNum n) (tNum n)
 | tru : AlV q tTrue tTrue
 | fls : AlV q tFalse tFalse
 | lam {s : List UInt8} {t t' : MTy} {b b' : MTm} : q t t' = true -> AlV q b b' -> AlV q (tLam s t b) (tLam s t' b')
 | n2 {k : Int} {a b a' b' : MTm} : AlV q a a' -> AlV q b b' -> AlV q (tN2 k a b) (tN2 k a' b')
 | ite {a b c a' b' c' : MTm} : AlV q a a' -> AlV q b b' -> AlV q c c' -> AlV q (tIf a b c) (tIf a' b' c')
 | n1 {k : Int} {a a' : MTm} : AlV q a a' -> AlV q (tN1 k a) (tN1 k a')
 | asc {t t' : MTy} {a a' : MTm} : q t t' = true -> AlV q a a' -> AlV q (tAs a t) (tAs a' t')

end Go.Av

namespace Go.Av
open Go
section
variable {P : Program} {n : Nat} {ι : Type} {Q : Exit -> St -> Prop} {QX : ι -> Exit -> St -> Prop} {s s' : St} {c : Code}
theorem subL.app : ∀ {l m fr : List (Nat × AV)}, subL l fr -> subL m fr -> subL (l ++ m) fr
 | [], m, fr, _, h => h
 | (t, x) :: r, m, fr, h, h' => ⟨h.1, subL.app h.2 h'⟩
theorem keepL_sub' : ∀ (ks : List Nat) {fr fr' : List (Nat × AV)}, (∀ t x, look fr t = some x -> look fr' t = some x) -> subL (keepL ks fr) fr'
 | [], _, _, _ => trivial
 | k :: r, fr, fr', h => by
  simp only [keepL]
  cases hk : look fr k with
  | some x => exact ⟨h k x hk, keepL_sub' r h⟩
  | none => exact keepL_sub' r h
theorem keepL_sub (ks : List Nat) (fr : List (Nat × AV)) : subL (keepL ks fr) fr := keepL_sub' ks fun _ _ h => h

theorem T.loopK {α : Type} (ks : List Nat) (ph : α -> List (Nat × AV)) (ob : α -> List (Nat × List CV)) (G : α -> List (List CV)) (ar : α -> List Arr -> List Arr) (m : α -> Nat) (H : α -> Prop) {fr0 : List (Nat × AV)} (hk : keepL ks s.fr = fr0)
  (h : ∀ a, H a -> T P n c (Round (fun a => ⟨ph a ++ fr0, ups (ob a) s.V ++ G a, ar a s.A⟩) m H (m a) Q) ⟨ph a ++ fr0, ups (ob a) s.V ++ G a, ar a s.A⟩) (a : α) (ha : H a) (hV : ups (ob a) s.V ++ G a = s.V) (hA : ar a s.A = s.A) (hp : subL (ph a) s.fr) : T P n (.loop c) Q s := by
 subst hk
 exact T.loopF (fun a => ⟨ph a ++ keepL ks s.fr, ups (ob a) s.V ++ G a, ar a s.A⟩) m H h a ha ⟨hV, hA, hp.app (keepL_sub ks s.fr)⟩
end
end Go.Av

namespace Go.Av
attribute [-simp] Go.Av.take_app_len
open Go

def pairOkL (all : Array Oper) (ws fs : List Nat) (m q : Nat) (ms : List Nat) (oi oj : Oper) (i j : Nat) : Bool :=
 if j = q then oi.dst.isNone || oi.dst != oj.dst else pairOkF all ws fs m ms oi oj i j && (!(decide (i <= q) && decide (q < j)) || (ms.getD j 0).testBit i)

def drawOkL (all : Array Oper) (ws fs : List Nat) (m q : Nat) : Bool :=
 let l := all.toList.zipIdx
 let ms := masks all.toList []
 (l.all fun (o, j) => o.after.toList.all fun e => !Region.binds .any e || decide (e.on < j)) &&
 (l.all fun (oj, j) => l.all fun (oi, i) => !(decide (i < j)) || pairOkL all ws fs m q ms oi oj i j) &&
 (l.all fun (o, j) => !ws.contains j || !isS o.op) && (fs.all fun j => !ws.contains j) && (fs.all fun j => ws.all fun i => decide (i < m) || decide (j < i)) && ws.contains q

section
variable {P : Program} {n : Nat} {Q Q' : Exit -> St -> Prop} {s s' : St} {w0 : World} {g0 g g' : Gh} {a : Act} {w w' : World} {V : List (List CV)} {A A' : List Arr}

structure Late (all : Array Oper) (ws : List Nat) (σ : Nat -> St) (n : Nat) (w0 : World) (g0 : Gh) (q d : Nat) (row : List CV) (cs : Array Value) (ty : TypeId) (listed : Array Bool) (k0 : Nat) (b : Nat) (g : Gh) (a : Act) (w : World) : Prop where
 got : listed[q]? = some true
 base : DSF all ws σ n w0 g0 (listed.setIfInBounds q false) k0 g a w
 slot : a.tmps[d]? = some (.pointer (some ⟨b, 0, none⟩))
 mem : w.heap[b]? = some (.cells cs ty)
 ob : b ∉ g.ob
 arb : b ∉ g.arb
 im : g.im b = 0
 new : w0.heap.size <= b
 lt : b < w.heap.size
 closed : ∀ (i : Nat) o, all[i]? = some o -> listed[i]? = some true -> ∀ e ∈ o.after, Region.binds .any e = true -> listed[e.on]? = some true

structure LateOk (P : Program) (all : Array Oper) (ow : Nat -> Bool) (σ : Nat -> St) (q d : Nat) (row : List CV) (cs : Array Value) (ty : TypeId) (oq : Oper) : Prop where
 at_ : all[q]? = some oq
 guard : oq.guard = none
 dst : oq.dst = some d
 s0 : look (σ 0).fr d = none
 size : cs.size = row.length
 cells : ∀ (j : Nat) c u, row[j]? = some c -> cs[j]? = some u -> ∀ g w A, RepC g w A c u
 next : σ (q + 1) = (σ q).put (some d) (.c (.ptr (σ q).V.length 0)) ((σ q).V ++ [row]) (σ q).A
 run : ∀ (a : Act) (w : World), (execOp a.eval oq).run P w = .ok (.value (.pointer (some ⟨w.heap.size, 0, none⟩))) (w.alloc (.cells cs ty))

end
end Go.Av

namespace Go.Av
attribute [-simp] Go.Av.get_app_len Go.Av.get_app_len0 Go.Av.set_app_len Go.Av.set_app_len0 Go.Av.freeStep Go.Av.exV Go.Av.keepL Go.Av.ups Go.Av.take_app_len
open Go

inductive MCo where
 | mk (kind tag label : Int) (kids : List MCo)
def MCo.kind : MCo -> Int | .mk k _ _ _ => k
def MCo.tag : MCo -> Int | .mk _ t _ _ => t
def MCo.label : MCo -> Int | .mk _ _ b _ => b
def MCo.kids : MCo -> List MCo | .mk _ _ _ l => l
section
variable (k t b : Int) (l : List MCo)
@[simp] theorem MCo.kind_mk : (MCo.mk k t b l).kind = k := rfl
@[simp] theorem MCo.tag_mk : (MCo.mk k t b l).tag = t := rfl
@[simp] theorem MCo.label_mk : (MCo.mk k t b l).label = b := rfl
@[simp] theorem MCo.kids_mk : (MCo.mk k t b l).kids = l := rfl
end
mutual
def eCo : MCo -> List DV
 | .mk k t b l => [.i k, .i t, .i b, .sl (eCoS l)]
def eCoS : List MCo -> List (List DV)
 | [] => []
 | t :: r => eCo t :: eCoS r
end
abbrev aCo (t : MCo) : AV := .agg [.d (.i t.kind), .d (.i t.tag), .d (.i t.label), .d (.sl (t.kids.map eCo))]
mutual
def nCo : MCo -> Nat
 | .mk _ _ _ l => nCoS l
def nCoS : List MCo -> Nat
 | [] => 0
 | t :: r => 1 + nCo t + nCoS r
end
def sumCo (l : List MCo) : Nat := (l.map nCo).sum
mutual
def wCo : MCo -> Prop
 | .mk _ _ _ l => l.length <= 9223372036854775807 /\ wCoS l
def wCoS : List MCo -> Prop
 | [] => True
 | t :: r => wCo t /\ wCoS r
end
end Go.Av
