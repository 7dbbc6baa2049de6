/- Convenience for walks: rules that hide what comes behind, loops by a function from a datum to a state, calls without objects; the words that 'simp' evaluates. -/
import Derived.Test.YtdbffbmbbfbamaaA14
namespace Go.Av
open Go

abbrev AV.i (n : Int) : AV := .c (.d (.int .i64 n))
abbrev AV.b (x : Bool) : AV := .c (.d (.bool x))
abbrev AV.s (x : List UInt8) : AV := .c (.d (.str x))
abbrev AV.l (x : List (List DV)) : AV := .c (.d (.sl x))
abbrev DV.i (n : Int) : DV := .int .i64 n

theorem wrap64 {n : Int} (h : -9223372036854775808 ≤ n) (h' : n ≤ 9223372036854775807) : IntKind.i64.wrap n = n := by
  have e : IntKind.i64.wrap n = if 9223372036854775808 ≤ n % 18446744073709551616 then n % 18446744073709551616 - 18446744073709551616 else n % 18446744073709551616 := by simp [IntKind.wrap, IntKind.signed, IntKind.bits]
  rw [e]
  split <;> omega

section
variable {P : Program} {n : Nat} {Q Q' : Exit → St → Prop} {s s' : St} {y : Code}

theorem onv_map {α : Type} {o : Option α} {k k' : α → Prop} (hk : ∀ v, k v → k' v) (h : onv o k) : onv o k' := by
  cases o with
  | none => exact h.elim
  | some v => exact hk v h

theorem gdo_map {all : Array Oper} {o : Oper} {y n y' n' : Prop} (hy : y → y') (hn : n → n') (h : gdo all s o y n) : gdo all s o y' n' := by
  unfold gdo at h ⊢
  split
  · rename_i e; rw [e] at h; exact hy h
  · rename_i j want e
    rw [e] at h
    refine onv_map (fun oj => onv_map fun t => onv_map fun x => ?_) h
    intro h
    split at h
    · exact ⟨fun a => hy (h.1 a), fun a => hn (h.2 a)⟩
    · exact hn h
    · exact h.elim

theorem astep_map {o : Oper} {ow : Bool} {K K' : AV → List (List CV) → List Arr → Prop} (hk : ∀ x V A, K x V A → K' x V A) (h : astep P s ow o K) : astep P s ow o K' := by
  obtain ⟨x, V, A, h1, h2⟩ := astep_det h
  exact h2 K' (hk x V A h1)

/-- The operations that are still to come: a word that is not unfolded. -/
structure Ops (P : Program) (all : Array Oper) (ow : Nat → Bool) (K : St → Prop) (i : Nat) (ops : List Oper) (s : St) : Prop where
  mk ::
  run : aops P all ow K i ops s
structure OpsD (P : Program) (all : Array Oper) (ow : Nat → Bool) (ws : List Nat) (K : St → Prop) (i : Nat) (ops : List Oper) (s : St) : Prop where
  mk ::
  run : aopsD P all ow ws K i ops s

theorem aops_go {all : Array Oper} {ow : Nat → Bool} {K : St → Prop} {i : Nat} {o : Oper} {rest : List Oper} (h : gdo all s o (astep P s (ow i) o fun x V A => Ops P all ow K (i + 1) rest (s.put o.dst x V A)) (Ops P all ow K (i + 1) rest (s.put o.dst (.c .undef) s.V s.A))) : Ops P all ow K i (o :: rest) s :=
  ⟨gdo_map (fun h => astep_map (fun _ _ _ h => h.run) h) (fun h => h.run) h⟩
theorem aops_end {all : Array Oper} {ow : Nat → Bool} {K : St → Prop} {i : Nat} (h : K s) : Ops P all ow K i [] s := ⟨h⟩
theorem aopsD_go {all : Array Oper} {ow : Nat → Bool} {ws : List Nat} {K : St → Prop} {i : Nat} {o : Oper} {rest : List Oper} (h : gdo all s o (astep P s (ow i) o fun x V A => (i ∈ ws ∨ (V = s.V ∧ A = s.A)) ∧ OpsD P all ow ws K (i + 1) rest (s.put o.dst x V A)) (OpsD P all ow ws K (i + 1) rest (s.put o.dst (.c .undef) s.V s.A))) : OpsD P all ow ws K i (o :: rest) s :=
  ⟨gdo_map (fun h => astep_map (fun _ _ _ h => ⟨h.1, h.2.run⟩) h) (fun h => h.run) h⟩
theorem aopsD_end {all : Array Oper} {ow : Nat → Bool} {ws : List Nat} {K : St → Prop} {i : Nat} (h : K s) : OpsD P all ow ws K i [] s := ⟨h⟩

/-- A region, and what comes behind: hidden in K. -/
theorem T.rs {id : Nat} {l : List Oper} (ow : Nat → Bool) (h : ∀ K : St → Prop, (∀ s', T P n y Q s' → K s') → Ops P l.toArray ow K 0 l s) : T P n (.seq (.region id l.toArray false) y) Q s :=
  T.seq (T.region ow (h _ fun _ h => h).run)

theorem T.rd {id : Nat} {l : List Oper} (hm : P.follows .mixedOrders = true) (ow : Nat → Bool) (ws : List Nat) (hd : drawOk l.toArray ws = true) (h : ∀ K : St → Prop, (∀ s', T P n y Q s' → K s') → OpsD P l.toArray ow ws K 0 l s) : T P n (.seq (.region id l.toArray true) y) Q s :=
  T.seq (T.region_draw hm ow ws hd (h _ fun _ h => h).run)

theorem T.rs1 {id : Nat} {l : List Oper} (ow : Nat → Bool) (h : ∀ K : St → Prop, (∀ s', Q .normal s' → K s') → Ops P l.toArray ow K 0 l s) : T P n (.region id l.toArray false) Q s :=
  T.region ow (h _ fun _ h => h).run

theorem T.rd1 {id : Nat} {l : List Oper} (hm : P.follows .mixedOrders = true) (ow : Nat → Bool) (ws : List Nat) (hd : drawOk l.toArray ws = true) (h : ∀ K : St → Prop, (∀ s', Q .normal s' → K s') → OpsD P l.toArray ow ws K 0 l s) : T P n (.region id l.toArray true) Q s :=
  T.region_draw hm ow ws hd (h _ fun _ h => h).run

@[congr] theorem aops_cong {all : Array Oper} {ow : Nat → Bool} {K : St → Prop} {i i' : Nat} {ops : List Oper} (hi : i = i') (h : s = s') : Ops P all ow K i ops s = Ops P all ow K i' ops s' := by rw [h, hi]
@[congr] theorem aopsD_cong {all : Array Oper} {ow : Nat → Bool} {ws : List Nat} {K : St → Prop} {i i' : Nat} {ops : List Oper} (hi : i = i') (h : s = s') : OpsD P all ow ws K i ops s = OpsD P all ow ws K i' ops s' := by rw [h, hi]
@[congr] theorem astep_cong {o : Oper} {ow : Bool} {K : AV → List (List CV) → List Arr → Prop} (h : s = s') : astep P s ow o K = astep P s' ow o K := by rw [h]
@[congr] theorem wpo_cong {o : Op} {ow : Bool} {K : AV → List (List CV) → List Arr → Prop} (h : s = s') : wpo P s ow o K = wpo P s' ow o K := by rw [h]
@[congr] theorem gdo_cong {all : Array Oper} {o : Oper} {y n : Prop} (h : s = s') : gdo all s o y n = gdo all s' o y n := by rw [h]
@[congr] theorem onv_cong {α : Type} {o o' : Option α} {k : α → Prop} (h : o = o') : onv o k = onv o' k := by rw [h]

/-- The slots of a frame that another has too. -/
def subL : List (Nat × AV) → List (Nat × AV) → Prop
  | [], _ => True
  | (t, x) :: r, fr => look fr t = some x ∧ subL r fr

theorem subL.look : ∀ {l fr : List (Nat × AV)}, subL l fr → ∀ t x, look l t = some x → look fr t = some x
  | [], _, _, t, x, h => by simp [Av.look] at h
  | (t', x') :: r, fr, hs, t, x, h => by
    simp only [Av.look] at h
    split at h
    · rename_i e; subst e; simp at h; subst h; exact hs.1
    · exact subL.look hs.2 t x h

def Sub (s s' : St) : Prop := s.V = s'.V ∧ s.A = s'.A ∧ subL s.fr s'.fr

theorem T.sub {c : Code} (h : T P n c Q s) (hs : Sub s s') : T P n c Q s' := by
  obtain ⟨h1, h2, h3⟩ := hs
  refine T.forget s.fr (subL.look h3) ?_
  rw [← h1, ← h2]; exact h

/-- Behind a round. -/
def Round {α : Type} (S : α → St) (m : α → Nat) (H : α → Prop) (k : Nat) (Q : Exit → St → Prop) : Exit → St → Prop
  | .normal, s' => ∃ a', m a' < k ∧ H a' ∧ Sub (S a') s'
  | e, s' => Q e s'

theorem T.loopF {α : Type} {c : Code} (S : α → St) (m : α → Nat) (H : α → Prop) (h : ∀ a, H a → T P n c (Round S m H (m a) Q) (S a)) (a : α) (ha : H a) (hs : Sub (S a) s) : T P n (.loop c) Q s := by
  refine T.loop (fun k s => ∃ a, m a = k ∧ H a ∧ (S a).V = s.V ∧ (S a).A = s.A ∧ ∀ t x, look (S a).fr t = some x → look s.fr t = some x) ?_ (k := m a) ⟨a, rfl, ha, hs.1, hs.2.1, subL.look hs.2.2⟩
  rintro k s1 ⟨a', rfl, h2, h3, h4, h5⟩
  refine T.forget (S a').fr h5 ?_
  rw [← h3, ← h4]
  refine T.mono (h a' h2) fun e s2 h6 => ?_
  cases e with
  | normal =>
    obtain ⟨a2, h7, h8, h9, h10, h11⟩ := h6
    exact ⟨_, h7, a2, rfl, h8, h9, h10, subL.look h11⟩
  | _ => exact h6

@[congr] theorem wpcall_cong {s s' : St} {f : FuncId} {xs xs' : List AV} {K : AV → List (List CV) → List Arr → Prop} (hs : s = s') (hx : xs = xs') : wpcall P s f xs K = wpcall P s' f xs' K := by subst hs; subst hx; rfl

/-- A call that takes no objects. -/
theorem wpcall_pure {f : FuncId} {xs as : List AV} {r : AV} {K : AV → List (List CV) → List Arr → Prop} (hin : innAs s.A [] xs = some as) (hc : ACalls P f as [] r [] []) (hK : K (r.outn [] s.V.length s.A.length) s.V (sealAs s.A (argCells xs))) : wpcall P s f xs K := by
  refine ⟨[], as, [], r, [], [], List.nodup_nil, hin, rfl, hc, ?_⟩
  simpa [putBack, objCells] using hK

/-- A body that is done, without objects or arrays to hand back. -/
theorem Done.pure {fn : Func} {r x : AV} {e : Exit} (he : e = .normal ∨ e = .ret) (hr : ares P s fn.results.toList = some [x]) (hx : x.res1 s.A [] [] = some r) : Done P fn 0 r [] [] e s :=
  ⟨he, [], [], [x], [r], hr, List.nodup_nil, List.nodup_nil, by simp, by simp [resAs, hx], rfl, rfl, rfl⟩
end

/-- An array that is filled from the front. -/
def fillR {α : Type} (f : α → List DV) (z : List DV) (l : List α) (i : Nat) : List (List DV) := (l.take i).map f ++ List.replicate (l.length - i) z

section
variable {α : Type} {f : α → List DV} {z : List DV} {l : List α} {i : Nat}
theorem fillR_len (h : i ≤ l.length) : (fillR f z l i).length = l.length := by simp [fillR]; omega
theorem fillR_zero : fillR f z l 0 = List.replicate l.length z := by simp [fillR]
theorem fillR_full : fillR f z l l.length = l.map f := by simp [fillR]
theorem fillR_get (h : i < l.length) : (fillR f z l i)[i]? = some z := by
  rw [fillR, List.getElem?_append_right (by simp only [List.length_map, List.length_take]; omega), List.getElem?_replicate, if_pos (by simp only [List.length_map, List.length_take]; omega)]
theorem fillR_set (h : i < l.length) : (fillR f z l i).set i (f l[i]) = fillR f z l (i + 1) := by
  have e : l.take (i + 1) = l.take i ++ [l[i]] := by rw [List.take_add_one]; simp [h]
  rw [fillR, fillR, e, List.set_append_right _ _ (by simp only [List.length_map, List.length_take]; omega)]
  have e2 : l.length - i = (l.length - (i + 1)) + 1 := by omega
  have e3 : i - ((l.take i).map f).length = 0 := by simp only [List.length_map, List.length_take]; omega
  rw [e3, e2, List.replicate_succ, List.set_cons_zero, List.map_append, List.append_assoc]
  rfl
theorem fillR_set' {o : α} (h : l[i]? = some o) : (fillR f z l i).set i (f o) = fillR f z l (i + 1) := by
  obtain ⟨h1, rfl⟩ := List.getElem?_eq_some_iff.1 h
  exact fillR_set h1
theorem fillR_at (h : i < l.length) (h' : i < (fillR f z l i).length) : (fillR f z l i)[i] = z := by
  have := fillR_get (f := f) (z := z) h
  rw [List.getElem?_eq_getElem h'] at this
  exact Option.some.inj this
theorem get_lt (h : i < l.length) : ∃ o, l[i]? = some o := ⟨l[i], List.getElem?_eq_getElem h⟩
end

theorem keep {p : Prop} (h : p) : p := h

attribute [simp] astep wpo gdo onv aval avals oval slow shigh alen rowsOf look cvOf St.put cellsAt mkV splice abin aun abinS abinB cEq AV.plain AV.cells CV.isUndef toD toDs toRows sealA sealAs innAs AV.inn CV.inn inns AV.outn CV.outn argCells aparts arows afill isS ares ares1 AV.res1 CV.res ress pos? poss Then InBlock Sub subL argFr
end Go.Av
