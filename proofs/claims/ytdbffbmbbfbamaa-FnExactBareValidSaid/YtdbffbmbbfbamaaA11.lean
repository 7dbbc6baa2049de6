/- Triples: what a piece of code does to the abstract state; the rules, one for each form of code; and how a body's triple gives the function's contract. -/
import Derived.Test.YtdbffbmbbfbamaaA10
namespace Go.Av
open Go

def astep (P : Program) (s : St) (ow : Bool) (o : Oper) (K : AV → List (List CV) → List Arr → Prop) : Prop :=
  match o.op with
  | .call { callee := .value f, args, .. } => onv (aval s f) fun fv => match fv with
    | .c (.fn fid cap) => onv (avals s args.toList) fun xs => wpcall P s fid (xs ++ cap.map fun l => .c (.ptr l 0)) K
    | _ => False
  | op => wpo P s ow op K

def St.put (s : St) (dst : Option Tmp) (x : AV) (V : List (List CV)) (A : List Arr) : St :=
  ⟨match dst with | some d => (d, x) :: s.fr | none => s.fr, V, A⟩

/-- The guard of an operation: is it carried out? -/
def gdo (all : Array Oper) (s : St) (o : Oper) (yes no : Prop) : Prop :=
  match o.guard with
  | none => yes
  | some (j, want) => onv (all[j]?) fun oj => onv oj.dst fun t => onv (look s.fr t) fun x => match x with
    | .c (.d (.bool b)) => (b = want → yes) ∧ (b = (!want) → no)
    | .c .undef => no
    | _ => False

/-- The operations of a region, in the order of the text. -/
def aops (P : Program) (all : Array Oper) (ow : Nat → Bool) (K : St → Prop) : Nat → List Oper → St → Prop
  | _, [], s => K s
  | i, o :: rest, s => gdo all s o (astep P s (ow i) o fun x V A => aops P all ow K (i + 1) rest (s.put o.dst x V A)) (aops P all ow K (i + 1) rest (s.put o.dst (.c .undef) s.V s.A))

def dstsOk (n : Nat) (ops : List Oper) : Bool := ops.all fun o => match o.dst with
  | some d => decide (d < n)
  | none => true

def codeOk (n : Nat) : Code → Bool
  | .region _ ops _ => dstsOk n ops.toList
  | .seq a b => codeOk n a && codeOk n b
  | .cond _ a b => codeOk n a && codeOk n b
  | .block _ c => codeOk n c
  | .loop c => codeOk n c
  | .scope c => codeOk n c
  | _ => true

/-- THE TRIPLE. -/
def T (P : Program) (n : Nat) (c : Code) (Q : Exit → St → Prop) (s : St) : Prop :=
  codeOk n c = true → ∀ w0 g0 g a w, Rp n w0 g0 s g a w → c.wp P (fun e a' w' => ∃ s' g', Q e s' ∧ Rp n w0 g0 s' g' a' w') a w

section
variable {P : Program} {n : Nat} {Q Q' : Exit → St → Prop} {s s' : St} {w0 : World} {g0 g g' : Gh} {a : Act} {w w' : World}

theorem astep_wp (hI : Inv g w s.V s.A) (hF : Fr w0 g0 w g) (hS : Slots g w s a) {ow : Bool} {o : Oper} {K : AV → List (List CV) → List Arr → Prop} (h : astep P s ow o K) :
    ∃ x V' A', K x V' A' ∧ ∀ (next : Act → World → Prop) (Q : Exit → Act → World → Prop), (∀ v w' g', RepV g' w' A' x v → Inv g' w' V' A' → Ext g w s.A g' w' A' → Fr w0 g0 w' g' → next (a.put o.dst v) w') → o.wp P a w next Q := by
  have plain : wpo P s ow o.op K → ∃ x V' A', K x V' A' ∧ ∀ (next : Act → World → Prop) (Q : Exit → Act → World → Prop), (∀ v w' g', RepV g' w' A' x v → Inv g' w' V' A' → Ext g w s.A g' w' A' → Fr w0 g0 w' g' → next (a.put o.dst v) w') → o.wp P a w next Q := by
    intro h
    obtain ⟨x, V', A', nx, v, w', g', h1, h2, h3, h4, h5, h6, h7⟩ := wpo_sound hI hF hS h
    refine ⟨x, V', A', h1, fun next Q hn => ?_⟩
    unfold Oper.wp
    rw [h2]
    rcases h3 with rfl | ⟨rfl, rfl⟩
    · exact hn v w' g' h4 h5 h6 h7
    · exact hn _ w' g' h4 h5 h6 h7
  unfold astep at h
  split at h
  · rename_i f args argTypes heq
    refine onv_elim h fun fv h1 h2 => ?_
    have hfv := aval_sound hS h1
    split at h2
    · rename_i fid cap
      refine onv_elim h2 fun xs h3 h4 => ?_
      obtain ⟨h5, h6⟩ := avals_sound hS h3
      have h5' : xs.length = args.size := by rw [h5, Array.length_toList]
      obtain ⟨bks, h7, h8, h9⟩ : RepC g w s.A (.fn fid cap) (a.eval f) := hfv
      have hargs : args.map a.eval ++ (bks.map fun b => Value.pointer (some ⟨b, 0, none⟩)).toArray = ((args.toList.map a.eval) ++ bks.map fun b => Value.pointer (some ⟨b, 0, none⟩)).toArray := by
        apply Array.ext'; simp
      obtain ⟨hent, x, V', A', hK, hc⟩ := wpcall_sound (vs := ((args.toList.map a.eval) ++ bks.map fun b => Value.pointer (some ⟨b, 0, none⟩)).toArray) hI hF (by simp [h5, h8]) (fun i x u h10 h11 => by
        simp only [List.getElem?_toArray] at h11
        by_cases hi : i < xs.length
        · rw [List.getElem?_append_left hi] at h10
          rw [List.getElem?_append_left (by simp; omega)] at h11
          exact h6 i x u h10 h11
        · rw [List.getElem?_append_right (by omega)] at h10
          rw [List.getElem?_append_right (by simp; omega)] at h11
          simp only [List.getElem?_map, Option.map_eq_some_iff] at h10 h11
          obtain ⟨l, h12, rfl⟩ := h10
          obtain ⟨b, h13, rfl⟩ := h11
          exact ⟨b, h9 _ l b h12 (by rw [← h13]; congr 1; simp [h5]), rfl⟩) h4
      refine ⟨x, V', A', hK, fun next Q hn => ?_⟩
      have hrun : (execOp a.eval o).run P w = .ok (.enter fid ((args.toList.map a.eval) ++ bks.map fun b => Value.pointer (some ⟨b, 0, none⟩)).toArray) w := by
        simp only [execOp, heq, resolve, h7, Deferred.ofValue, Sem.run_bind, Sem.run_pure, Result.andThen_ok, invoke, Array.empty_append]
        rw [hent, hargs]
      unfold Oper.wp
      rw [hrun]
      show Calls P fid _ w _
      refine hc.mono ?_
      rintro e w' ⟨v, g', rfl, h14, h15, h16, h17⟩
      exact hn v w' g' h14 h15 h16 h17
    · exact h2.elim
  · exact plain h

theorem Rp.put (h : Rp n w0 g0 s g a w) {dst : Option Tmp} (hd : ∀ d, dst = some d → d < n) {x : AV} {v : Value} {V' : List (List CV)} {A' : List Arr} (hr : RepV g' w' A' x v) (hI : Inv g' w' V' A') (hx : Ext g w s.A g' w' A') (hF : Fr w0 g0 w' g') :
    Rp n w0 g0 (s.put dst x V' A') g' (a.put dst v) w' := by
  refine ⟨hI, hF, ?_, ?_, fun t y hy => ?_⟩
  · cases dst <;> simp [Act.put, h.size]
  · cases dst <;> simp [Act.put, h.defers]
  · cases dst with
    | none =>
      obtain ⟨u, h1, h2⟩ := h.slot t y hy
      exact ⟨u, h1, RepV.ext hx h2⟩
    | some d =>
      have hdn := hd d rfl
      simp only [St.put, look] at hy
      by_cases e : t = d
      · subst e
        simp at hy; subst hy
        refine ⟨v, ?_, hr⟩
        have : t < a.tmps.size := by rw [h.size]; exact hdn
        simp [Act.put, this]
      · rw [if_neg e] at hy
        obtain ⟨u, h1, h2⟩ := h.slot t y hy
        refine ⟨u, ?_, RepV.ext hx h2⟩
        simp only [Act.put]
        rw [Array.getElem?_setIfInBounds_ne (fun e' => e e'.symm)]; exact h1

theorem yielded_of (h : Rp n w0 g0 s g a w) {all : Array Oper} {j t : Nat} {oj : Oper} {x : AV} (h1 : all[j]? = some oj) (h2 : oj.dst = some t) (h3 : look s.fr t = some x) : (∀ b, x = .c (.d (.bool b)) → yielded all a.tmps j = some b) ∧ (x = .c .undef → yielded all a.tmps j = none) := by
  obtain ⟨u, h4, h5⟩ := h.slot t x h3
  refine ⟨fun b hb => ?_, fun hb => ?_⟩
  · subst hb
    simp only [RepV, RepE, RepC, RepD] at h5
    subst h5
    simp [yielded, h1, h2, h4]
  · subst hb
    simp only [RepV, RepE, RepC] at h5
    subst h5
    simp [yielded, h1, h2, h4, undef]

theorem gdo_sound (h : Rp n w0 g0 s g a w) {all : Array Oper} {o : Oper} {yes no : Prop} (hg : gdo all s o yes no) : (Region.wanted o (yielded all a.tmps) = true ∧ yes) ∨ (Region.wanted o (yielded all a.tmps) = false ∧ no) := by
  unfold gdo at hg
  split at hg
  · rename_i hgd; exact .inl ⟨by simp [Region.wanted, hgd], hg⟩
  · rename_i j want hgd
    refine onv_elim hg fun oj h1 h2 => onv_elim h2 fun t h3 h4 => onv_elim h4 fun x h5 h6 => ?_
    obtain ⟨h7, h8⟩ := yielded_of h h1 h3 h5
    split at h6
    · rename_i b
      have h9 := h7 b rfl
      by_cases e : b = want
      · exact .inl ⟨by simp [Region.wanted, hgd, h9, e], h6.1 e⟩
      · exact .inr ⟨by simp [Region.wanted, hgd, h9, e], h6.2 (by cases b <;> cases want <;> simp_all)⟩
    · exact .inr ⟨by simp [Region.wanted, hgd, h8 rfl], h6⟩
    · exact h6.elim

theorem aops_sound {all : Array Oper} {ow : Nat → Bool} {K : St → Prop} {Q : Exit → Act → World → Prop} : ∀ (ops : List Oper) (i : Nat) (s : St) (g : Gh) (a : Act) (w : World), dstsOk n ops = true → Rp n w0 g0 s g a w → aops P all ow K i ops s →
    (∀ s' g' a' w', K s' → Rp n w0 g0 s' g' a' w' → Q .normal a' w') → wpList P all Q ops a w
  | [], i, s, g, a, w, _, hR, h, hQ => hQ s g a w h hR
  | o :: rest, i, s, g, a, w, hd, hR, h, hQ => by
    simp only [dstsOk, List.all_cons, Bool.and_eq_true] at hd
    have hdst : ∀ d, o.dst = some d → d < n := fun d e => by have := hd.1; rw [e] at this; simpa using this
    simp only [aops] at h
    unfold wpList
    rcases gdo_sound hR h with ⟨h1, h2⟩ | ⟨h1, h2⟩
    · rw [if_pos h1]
      obtain ⟨x, V', A', h3, h4⟩ := astep_wp hR.inv hR.fr hR.slot h2
      exact .inl (h4 _ _ fun v w' g' h5 h6 h7 h8 => aops_sound rest (i + 1) _ g' _ w' hd.2 (hR.put hdst h5 h6 h7 h8) h3 hQ)
    · rw [if_neg (by rw [h1]; simp)]
      exact aops_sound rest (i + 1) _ g _ w hd.2 (hR.put hdst (x := .c .undef) (v := undef) rfl hR.inv (.refl _ _ _) hR.fr) h2 hQ

theorem T.region {id : Nat} {ops : Array Oper} (ow : Nat → Bool) (h : aops P ops ow (fun s' => Q .normal s') 0 ops.toList s) : T P n (.region id ops false) Q s := by
  intro hok w0 g0 g a w hR
  exact wp_region_list (aops_sound ops.toList 0 s g a w hok hR h fun s' g' a' w' h1 h2 => ⟨s', g', h1, h2⟩)

theorem T.mono {c : Code} (h : T P n c Q s) (hq : ∀ e s', Q e s' → Q' e s') : T P n c Q' s :=
  fun hok w0 g0 g a w hR => Go.wp_mono (h hok w0 g0 g a w hR) fun _ _ _ ⟨s', g', h1, h2⟩ => ⟨s', g', hq _ _ h1, h2⟩

/-- What comes behind. -/
def Then (P : Program) (n : Nat) (c : Code) (Q : Exit → St → Prop) : Exit → St → Prop
  | .normal, s => T P n c Q s
  | e, s => Q e s

theorem T.seq {x y : Code} (h : T P n x (Then P n y Q) s) : T P n (.seq x y) Q s := by
  intro hok w0 g0 g a w hR
  simp only [codeOk, Bool.and_eq_true] at hok
  refine wp_seq (Go.wp_mono (h hok.1 w0 g0 g a w hR) ?_)
  rintro e a' w' ⟨s', g', h1, h2⟩
  cases e with
  | normal => exact h1 hok.2 w0 g0 g' a' w' h2
  | _ => exact ⟨s', g', h1, h2⟩

theorem T.skip (h : Q .normal s) : T P n .skip Q s := fun _ _ _ g _ _ hR => wp_skip ⟨s, g, h, hR⟩
theorem T.exit {id : Nat} (h : Q (.exit id) s) : T P n (.exit id) Q s := fun _ _ _ g _ _ hR => wp_exit ⟨s, g, h, hR⟩
theorem T.ret (h : Q .ret s) : T P n .ret Q s := fun _ _ _ g _ _ hR => wp_ret ⟨s, g, h, hR⟩

theorem T.cond {c : Operand} {x y : Code} {b : Bool} (hc : aval s c = some (.c (.d (.bool b)))) (ht : b = true → T P n x Q s) (hf : b = false → T P n y Q s) : T P n (.cond c x y) Q s := by
  intro hok w0 g0 g a w hR
  simp only [codeOk, Bool.and_eq_true] at hok
  have hv := aval_sound hR.slot hc
  simp only [RepV, RepE, RepC, RepD] at hv
  exact wp_cond_split hv (fun e => ht e hok.1 w0 g0 g a w hR) (fun e => hf e hok.2 w0 g0 g a w hR)

/-- Behind a block. -/
def InBlock (id : Nat) (Q : Exit → St → Prop) : Exit → St → Prop
  | .exit id', s => if id' = id then Q .normal s else Q (.exit id') s
  | e, s => Q e s

theorem T.block {id : Nat} {c : Code} (h : T P n c (InBlock id Q) s) : T P n (.block id c) Q s := by
  intro hok w0 g0 g a w hR
  refine wp_block (Go.wp_mono (h hok w0 g0 g a w hR) ?_)
  rintro e a' w' ⟨s', g', h1, h2⟩
  cases e with
  | exit id' =>
    simp only [InBlock] at h1
    simp only [Exit.inBlock]
    split
    · rename_i e; rw [if_pos e] at h1; exact ⟨s', g', h1, h2⟩
    · rename_i e; rw [if_neg e] at h1; exact ⟨s', g', h1, h2⟩
  | _ => exact ⟨s', g', h1, h2⟩

/-- So many rounds at most. -/
def Iter (P : Program) (n : Nat) (c : Code) (Q : Exit → St → Prop) : Nat → St → Prop
  | 0, _ => False
  | k + 1, s => T P n c (fun e s' => match e with | .normal => Iter P n c Q k s' | e => Q e s') s

theorem Iter.succ {c : Code} : ∀ {k : Nat} {s : St}, Iter P n c Q k s → Iter P n c Q (k + 1) s
  | 0, _, h => h.elim
  | k + 1, s, h => T.mono h fun e s' h1 => by cases e <;> first | exact Iter.succ h1 | exact h1

theorem Iter.le {c : Code} {k k' : Nat} (hk : k ≤ k') {s : St} (h : Iter P n c Q k s) : Iter P n c Q k' s := by
  induction hk with
  | refl => exact h
  | step _ ih => exact ih.succ

theorem T.loop_iter {c : Code} {k : Nat} (h : Iter P n c Q k s) : T P n (.loop c) Q s := by
  intro hok w0 g0 g a w hR
  refine wp_loop_rounds k ?_
  have key : ∀ k s g a w, Iter P n c Q k s → Rp n w0 g0 s g a w → Code.rounds P c (fun e a' w' => ∃ s' g', Q e s' ∧ Rp n w0 g0 s' g' a' w') k a w := by
    intro k
    induction k with
    | zero => intro s g a w h _; exact h.elim
    | succ k ih =>
      intro s g a w h hR
      rw [rounds_succ]
      refine Go.wp_mono (h hok w0 g0 g a w hR) ?_
      rintro e a' w' ⟨s', g', h1, h2⟩
      cases e with
      | normal => exact ih s' g' a' w' h1 h2
      | _ => exact ⟨s', g', h1, h2⟩
  exact key k s g a w h hR

/-- A LOOP, by an invariant that says how many rounds are to come at most. -/
theorem T.loop {c : Code} (I : Nat → St → Prop) (h : ∀ k s, I k s → T P n c (fun e s' => match e with | .normal => ∃ k', k' < k ∧ I k' s' | e => Q e s') s) {k : Nat} (h0 : I k s) : T P n (.loop c) Q s := by
  have key : ∀ k s, I k s → Iter P n c Q (k + 1) s := by
    intro k
    induction k using Nat.strongRecOn with
    | _ k ih =>
      intro s hs
      refine T.mono (h k s hs) fun e s' h1 => ?_
      cases e with
      | normal => obtain ⟨k', hk, h2⟩ := h1; exact (ih k' hk s' h2).le hk
      | _ => exact h1
  exact T.loop_iter (key k s h0)

/-- Slots may be forgotten. -/
theorem T.forget {c : Code} (fr' : List (Nat × AV)) (hsub : ∀ t x, look fr' t = some x → look s.fr t = some x) (h : T P n c Q ⟨fr', s.V, s.A⟩) : T P n c Q s :=
  fun hok w0 g0 g a w hR => h hok w0 g0 g a w ⟨hR.inv, hR.fr, hR.size, hR.defers, fun t x hx => hR.slot t x (hsub t x hx)⟩

/-- A nil slice in a slot is taken for an own array without elements. -/
theorem T.ownify {c : Code} (t : Nat) (sz : Nat) (e : TypeId) (ht : look s.fr t = some (.c .nil)) (h : T P n c Q ⟨(t, .c (.own s.A.length 0)) :: s.fr, s.V, s.A ++ [⟨sz, e, [], true⟩]⟩) : T P n c Q s := by
  intro hok w0 g0 g a w hR
  obtain ⟨g1, hm1, ho1, ha1, hI1, hx1, hF1⟩ := hR.inv.newArr hR.fr { sz := sz, ety := e, rows := [], wr := true } (.slice none 0 0) [] (by simp) (World.ownsRow_nil w 0 e sz) (fun j x u h => by simp at h) (fun b h => by simp [Value.ownBlock] at h)
  refine h hok w0 g0 g1 a w ⟨hI1, hF1, hR.size, hR.defers, fun t' x hx => ?_⟩
  simp only [look] at hx
  by_cases e' : t' = t
  · subst e'
    simp at hx; subst hx
    obtain ⟨u, h1, h2⟩ := hR.slot t' _ ht
    refine ⟨u, h1, ?_⟩
    simp only [RepV, RepE, RepC] at h2
    subst h2
    exact ⟨none, 0, rfl, _, by simp; rfl, Nat.zero_le _, fun _ => by rw [ha1, List.getElem?_append_right (by rw [hR.inv.arl]; exact Nat.le_refl _), hR.inv.arl]; simp⟩
  · rw [if_neg e'] at hx
    obtain ⟨u, h1, h2⟩ := hR.slot t' x hx
    exact ⟨u, h1, RepV.ext hx1 h2⟩

/-- The same in a cell of an object. -/
theorem T.ownifyObj {c : Code} (l j : Nat) (sz : Nat) (e : TypeId) {row : List CV} (hl : s.V[l]? = some row) (hj : row[j]? = some .nil) (h : T P n c Q ⟨s.fr, s.V.set l (row.set j (.own s.A.length 0)), s.A ++ [⟨sz, e, [], true⟩]⟩) : T P n c Q s := by
  intro hok w0 g0 g a w hR
  obtain ⟨g1, hm1, ho1, ha1, hI1, hx1, hF1⟩ := hR.inv.newArr hR.fr { sz := sz, ety := e, rows := [], wr := true } (.slice none 0 0) [] (by simp) (World.ownsRow_nil w 0 e sz) (fun j x u h => by simp at h) (fun b h => by simp [Value.ownBlock] at h)
  refine h hok w0 g0 g1 a w ⟨?_, hF1, hR.size, hR.defers, fun t' x hx => ?_⟩
  · refine ⟨by simpa using hI1.obl, hI1.arl, fun l' row' b h1 h2 => ?_, hI1.arr, hI1.obob, hI1.arar, hI1.obar, hI1.fresh⟩
    have h1' : (s.V.set l (row.set j (.own s.A.length 0)))[l']? = some row' := h1
    rw [set_get hl] at h1'
    by_cases e' : l' = l
    · subst e'
      simp at h1'; subst h1'
      obtain ⟨h3, cs, ty, h4, h5, h6⟩ := hI1.obj l' row b hl h2
      refine ⟨h3, cs, ty, h4, by simpa using h5, fun i c u h7 h8 => ?_⟩
      rw [set_get hj] at h7
      by_cases e'' : i = j
      · subst e''
        simp at h7; subst h7
        have h9 := h6 i _ u hj h8
        simp only [RepC] at h9; subst h9
        exact ⟨none, 0, rfl, _, by simp; rfl, Nat.zero_le _, fun _ => by rw [ha1, List.getElem?_append_right (by rw [hR.inv.arl]; exact Nat.le_refl _), hR.inv.arl]; simp⟩
      · rw [if_neg e''] at h7; exact h6 i c u h7 h8
    · rw [if_neg e'] at h1'; exact hI1.obj l' row' b h1' h2
  · obtain ⟨u, h1, h2⟩ := hR.slot t' x hx
    exact ⟨u, h1, RepV.ext hx1 h2⟩
end

/-! ### From a body to the contract -/

def ares1 (P : Program) (s : St) : ResultVar → Option AV
  | .tmp t => look s.fr t
  | .cell t ty => match td P ty, look s.fr t with
    | some d, some (.c p) => match cellsAt s p d.sz with
      | some cs => mkV d.ag cs
      | none => none
    | _, _ => none

def ares (P : Program) (s : St) : List ResultVar → Option (List AV)
  | [] => some []
  | r :: rs => match ares1 P s r, ares P s rs with
    | some x, some xs => some (x :: xs)
    | _, _ => none

def one (xs : List AV) : AV := match xs with
  | [x] => x
  | xs => .tup xs

/-- A cell as it is handed back: own arrays of the list 'ks' are handed over, the others sealed; objects of the list 'os' alone. -/
def CV.res (A : List Arr) (os ks : List Nat) : CV → Option CV
  | .own k n => match pos? ks k with
    | some i => (toD A (.own k n)).map fun _ => .own i n
    | none => (toD A (.own k n)).map CV.d
  | c => c.inn A os

def ress (A : List Arr) (os ks : List Nat) : List CV → Option (List CV)
  | [] => some []
  | c :: r => match c.res A os ks, ress A os ks r with
    | some d, some ds => some (d :: ds)
    | _, _ => none

def AV.res1 (A : List Arr) (os ks : List Nat) : AV → Option AV
  | .c x => (x.res A os ks).map AV.c
  | .agg xs => (ress A os ks xs).map AV.agg
  | .tup _ => none

def resAs (A : List Arr) (os ks : List Nat) : List AV → Option (List AV)
  | [] => some []
  | c :: r => match c.res1 A os ks, resAs A os ks r with
    | some d, some ds => some (d :: ds)
    | _, _ => none

def resVs (A : List Arr) (V : List (List CV)) (os ks : List Nat) : List Nat → Option (List (List CV))
  | [] => some []
  | l :: r => match V[l]?, resVs A V os ks r with
    | some row, some rs => match ress A os ks row with
      | some row' => some (row' :: rs)
      | none => none
    | _, _ => none

def getAs (A : List Arr) : List Nat → Option (List Arr)
  | [] => some []
  | k :: r => match A[k]?, getAs A r with
    | some x, some xs => some (x :: xs)
    | _, _ => none

/-- What a body that is done must have come to. -/
def Done (P : Program) (fn : Func) (m : Nat) (r : AV) (V' : List (List CV)) (A' : List Arr) (e : Exit) (s : St) : Prop :=
  (e = .normal ∨ e = .ret) ∧ ∃ (ext ks : List Nat) (xs ys : List AV), ares P s fn.results.toList = some xs ∧ ks.Nodup ∧ ext.Nodup ∧ (∀ l ∈ ext, m ≤ l) ∧ resAs s.A (List.range m ++ ext) ks xs = some ys ∧ r = one ys ∧
    resVs s.A s.V (List.range m ++ ext) ks (List.range m ++ ext) = some V' ∧ getAs s.A ks = some A'

end Go.Av
