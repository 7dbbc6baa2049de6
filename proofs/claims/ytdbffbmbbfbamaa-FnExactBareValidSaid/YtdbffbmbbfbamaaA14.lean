/- A region that draws its order, continued: the theorem. -/
import Derived.Test.YtdbffbmbbfbamaaA13
namespace Go.Av
open Go

section
variable {P : Program} {n : Nat} {Q Q' : Exit → St → Prop} {s s' : St} {w0 : World} {g0 g g' : Gh} {a : Act} {w w' : World} {V : List (List CV)} {A A' : List Arr}

theorem cellsAt_congr {fr fr' : List (Nat × AV)} {p : CV} {k : Nat} : cellsAt ⟨fr', V, A⟩ p k = cellsAt ⟨fr, V, A⟩ p k := by
  cases p <;> rfl

theorem aparts_congr : ∀ {parts : List (Nat × Operand)}, (∀ p ∈ parts, aval s' p.2 = aval s p.2) → aparts s' parts = aparts s parts
  | [], _ => rfl
  | (i, x) :: r, h => by
    have e := aparts_congr (parts := r) (fun p hp => h p (List.mem_cons_of_mem _ hp))
    simp only [aparts, h (i, x) (by simp), e]

theorem arows_congr {sz : Nat} : ∀ {parts : List (Nat × Operand)} {k : Nat}, (∀ p ∈ parts, aval s' p.2 = aval s p.2) → arows s' sz k parts = arows s sz k parts
  | [], _, _ => rfl
  | (i, x) :: r, k, h => by
    have e := arows_congr (sz := sz) (parts := r) (k := k + 1) (fun p hp => h p (List.mem_cons_of_mem _ hp))
    simp only [arows, h (i, x) (by simp), e]

theorem avals_congr : ∀ {os : List Operand}, (∀ p ∈ os, aval s' p = aval s p) → avals s' os = avals s os
  | [], _ => rfl
  | x :: r, h => by
    have e := avals_congr (os := r) (fun p hp => h p (List.mem_cons_of_mem _ hp))
    simp only [avals, h x (by simp), e]

theorem onv_congr {α : Type} {o : Option α} {k k' : α → Prop} (h : ∀ v, o = some v → (k v ↔ k' v)) : onv o k ↔ onv o k' := by
  cases o with
  | none => exact Iff.rfl
  | some v => exact h v rfl

theorem wpo_congr {fr fr' : List (Nat × AV)} {ow : Bool} {op : Op} {K : AV → List (List CV) → List Arr → Prop} (he : ∀ x ∈ op.operands.toList, aval ⟨fr', V, A⟩ x = aval ⟨fr, V, A⟩ x) (h : wpo P ⟨fr, V, A⟩ ow op K) : wpo P ⟨fr', V, A⟩ ow op K := by
  cases op with
  | move x => simpa only [wpo, he x (by simp [Op.operands])] using h
  | assign x => simpa only [wpo, he x (by simp [Op.operands])] using h
  | pick c x y => simpa only [wpo, he c (by simp [Op.operands]), he x (by simp [Op.operands]), he y (by simp [Op.operands])] using h
  | alloc e => exact h
  | box e x => simpa only [wpo, he x (by simp [Op.operands])] using h
  | build t parts => simpa only [wpo, aparts_congr (s' := ⟨fr', V, A⟩) (s := ⟨fr, V, A⟩) (parts := parts.toList) (fun p hp => he p.2 (by simp only [Op.operands, List.mem_map]; exact ⟨p, hp, rfl⟩))] using h
  | buildSlice t len parts =>
    simp only [wpo] at h ⊢
    have : ∀ sz, arows ⟨fr', V, A⟩ sz 0 parts.toList = arows ⟨fr, V, A⟩ sz 0 parts.toList := fun sz => arows_congr (fun p hp => he p.2 (by simp only [Op.operands, List.mem_map]; exact ⟨p, hp, rfl⟩))
    simpa only [this] using h
  | load t x =>
    simp only [wpo, he x (by simp [Op.operands])] at h ⊢
    simpa only [cellsAt_congr (fr := fr) (fr' := fr')] using h
  | store t x y => simpa only [wpo, he x (by simp [Op.operands]), he y (by simp [Op.operands])] using h
  | nilCheck x => simpa only [wpo, he x (by simp [Op.operands])] using h
  | binOp op t x y t' => simpa only [wpo, he x (by simp [Op.operands]), he y (by simp [Op.operands])] using h
  | unOp op t x => simpa only [wpo, he x (by simp [Op.operands])] using h
  | convert src dst x => simpa only [wpo, he x (by simp [Op.operands])] using h
  | makeFunc fn first captured =>
    cases fn with
    | func f => simpa only [wpo, avals_congr (s' := ⟨fr', V, A⟩) (s := ⟨fr, V, A⟩) (os := captured.toList) (fun p hp => he p (by simp [Op.operands]; exact .inr (by simpa using hp)))] using h
    | _ => exact h
  | makeSlice t l c => simpa only [wpo, he l (by simp [Op.operands]), he c (by simp [Op.operands])] using h
  | slice t x lo hi mx =>
    have hlo : oval ⟨fr', V, A⟩ lo = oval ⟨fr, V, A⟩ lo := by
      cases lo with
      | none => rfl
      | some l => simp only [oval, he l (by simp [Op.operands])]
    have hhi : oval ⟨fr', V, A⟩ hi = oval ⟨fr, V, A⟩ hi := by
      cases hi with
      | none => rfl
      | some l => simp only [oval, he l (by simp [Op.operands])]
    simpa only [wpo, he x (by simp [Op.operands]), hlo, hhi] using h
  | fieldAddr t x f => simpa only [wpo, he x (by simp [Op.operands])] using h
  | indexAddr t x ix => simpa only [wpo, he x (by simp [Op.operands]), he ix (by simp [Op.operands])] using h
  | index t x ix => simpa only [wpo, he x (by simp [Op.operands]), he ix (by simp [Op.operands])] using h
  | extract x i => simpa only [wpo, he x (by simp [Op.operands])] using h
  | call c =>
    obtain ⟨callee, args, argTypes⟩ := c
    cases callee with
    | builtin b =>
      have hx : ∀ (i : Nat) x, args[i]? = some x → aval ⟨fr', V, A⟩ x = aval ⟨fr, V, A⟩ x := fun i x hi => he x (by
        simp only [Op.operands, Call.operands, Array.empty_append, Array.mem_toList_iff]
        exact Array.mem_of_getElem? hi)
      cases b with
      | len => exact onv_elim h fun x h1 h2 => by simp only [wpo, onv, h1, hx 0 x h1]; exact h2
      | append => exact onv_elim h fun x h1 h2 => onv_elim h2 fun y h3 h4 => by simp only [wpo, onv, h1, h3, hx 0 x h1, hx 1 y h3]; exact h4
      | max => exact onv_elim h fun x h1 h2 => onv_elim h2 fun y h3 h4 => by simp only [wpo, onv, h1, h3, hx 0 x h1, hx 1 y h3]; exact h4
      | min => exact onv_elim h fun x h1 h2 => onv_elim h2 fun y h3 h4 => by simp only [wpo, onv, h1, h3, hx 0 x h1, hx 1 y h3]; exact h4
      | _ => exact h
    | _ => exact h
  | _ => exact h

theorem wpcall_congr {fr fr' : List (Nat × AV)} {f : FuncId} {xs : List AV} {K : AV → List (List CV) → List Arr → Prop} (h : wpcall P ⟨fr, V, A⟩ f xs K) : wpcall P ⟨fr', V, A⟩ f xs K := h

theorem astep_congr {fr fr' : List (Nat × AV)} {ow : Bool} {o : Oper} {K : AV → List (List CV) → List Arr → Prop} (he : ∀ x ∈ o.op.operands.toList, aval ⟨fr', V, A⟩ x = aval ⟨fr, V, A⟩ x) (h : astep P ⟨fr, V, A⟩ ow o K) : astep P ⟨fr', V, A⟩ ow o K := by
  by_cases hop : ∃ f args ts, o.op = .call ⟨.value f, args, ts⟩
  · obtain ⟨f, args, ts, heq⟩ := hop
    simp only [astep, heq] at h he ⊢
    have h1 : aval ⟨fr', V, A⟩ f = aval ⟨fr, V, A⟩ f := he f (by simp [Op.operands, Call.operands])
    have h2 : avals ⟨fr', V, A⟩ args.toList = avals ⟨fr, V, A⟩ args.toList := avals_congr fun p hp => he p (by simp [Op.operands, Call.operands]; exact .inr (by simpa using hp))
    rw [h1, h2]
    exact h
  · have hne : ∀ f args ts, o.op ≠ .call ⟨.value f, args, ts⟩ := fun f args ts e => hop ⟨f, args, ts, e⟩
    rw [astep_plain hne] at h ⊢
    exact wpo_congr he h

/-- An operation that looks at slots alone does the same over whatever memory. -/
theorem astep_S {ow : Bool} {o : Oper} (hs : isS o.op = true) (he : ∀ x ∈ o.op.operands.toList, aval s' x = aval s x) {x : AV} {V0 : List (List CV)} {A0 : List Arr} (h : ∀ K : AV → List (List CV) → List Arr → Prop, K x V0 A0 → astep P s ow o K)
    {K : AV → List (List CV) → List Arr → Prop} (hK : K x s'.V s'.A) : astep P s' ow o K := by
  have hne : ∀ f args ts, o.op ≠ .call ⟨.value f, args, ts⟩ := fun f args ts e => by rw [e] at hs; simp [isS] at hs
  have h0 := h (fun v _ _ => v = x) rfl
  rw [astep_plain hne] at h0 ⊢
  obtain ⟨dst, op, ty, pos, after, guard⟩ := o
  simp only at h0 he hs ⊢
  cases op with
  | move y => exact onv_elim h0 fun v h1 h2 => by subst h2; simp only [wpo, onv, he y (by simp [Op.operands]), h1]; exact hK
  | assign y => exact onv_elim h0 fun v h1 h2 => by subst h2; simp only [wpo, onv, he y (by simp [Op.operands]), h1]; exact hK
  | pick c y z =>
    refine onv_elim h0 fun v h1 h2 => ?_
    split at h2
    · rename_i t
      cases t with
      | true => simp only [if_true] at h2; exact onv_elim h2 fun v h3 h4 => by subst h4; simp only [wpo, onv, he c (by simp [Op.operands]), h1, if_true, he y (by simp [Op.operands]), h3]; exact hK
      | false => simp only [Bool.false_eq_true, if_false] at h2; exact onv_elim h2 fun v h3 h4 => by subst h4; simp only [wpo, onv, he c (by simp [Op.operands]), h1, Bool.false_eq_true, if_false, he z (by simp [Op.operands]), h3]; exact hK
    · exact h2.elim
  | fieldAddr t y f =>
    refine onv_elim h0 fun d h1 h2 => onv_elim h2 fun fo h3 h4 => ?_
    obtain ⟨off, sz⟩ := fo
    obtain ⟨h5, h6⟩ := h4
    refine onv_elim h6 fun v h7 h8 => ?_
    split at h8
    · subst h8; simp only [wpo, onv, h1, h3, he y (by simp [Op.operands]), h7]; exact ⟨h5, hK⟩
    · subst h8; simp only [wpo, onv, h1, h3, he y (by simp [Op.operands]), h7]; exact ⟨h5, hK⟩
    · subst h8; simp only [wpo, onv, h1, h3, he y (by simp [Op.operands]), h7]; exact ⟨h5, hK⟩
    · exact h8.elim
  | unOp op t y => exact onv_elim h0 fun u h1 h2 => onv_elim h2 fun r h3 h4 => by subst h4; simp only [wpo, onv, he y (by simp [Op.operands]), h1, h3]; exact hK
  | binOp op t y z t' =>
    refine onv_elim h0 fun u h1 h2 => onv_elim h2 fun v h3 h4 => ?_
    split at h4
    · rename_i r hr
      subst h4; simp only [wpo, onv, he y (by simp [Op.operands]), he z (by simp [Op.operands]), h1, h3, hr]; exact hK
    · rename_i hr
      split at h4
      · rename_i r hr2
        subst h4; simp only [wpo, onv, he y (by simp [Op.operands]), he z (by simp [Op.operands]), h1, h3, hr, hr2]; exact hK
      rename_i hr2
      exact onv_elim h4 fun r h5 h6 => onv_elim h6 fun d h7 h8 => by
        obtain ⟨h8, h9⟩ := h8
        subst h9; simp only [wpo, onv, he y (by simp [Op.operands]), he z (by simp [Op.operands]), h1, h3, hr, hr2, h5, h7]; exact ⟨h8, hK⟩
  | extract y i =>
    refine onv_elim h0 fun v h1 h2 => ?_
    split at h2
    · refine onv_elim h2 fun u h3 h4 => ?_
      split at h4
      · exact h4.elim
      · subst h4; simp only [wpo, onv, he y (by simp [Op.operands]), h1, h3]; exact hK
    · exact h2.elim
  | _ => simp [isS] at hs

theorem mask1_spec {acc : List Nat} {o : Oper} {k : Nat} (h : (mask1 acc o).testBit k = true) : ∃ e ∈ o.after, Region.binds .any e = true ∧ (k = e.on ∨ (acc.getD e.on 0).testBit k = true) := by
  have key : ∀ (l : List Edge) (m : Nat), (l.foldl (fun m e => if Region.binds .any e then m ||| 2 ^ e.on ||| acc.getD e.on 0 else m) m).testBit k = true → m.testBit k = true ∨ ∃ e ∈ l, Region.binds .any e = true ∧ (k = e.on ∨ (acc.getD e.on 0).testBit k = true) := by
    intro l
    induction l with
    | nil => intro m h; exact .inl h
    | cons e l ih =>
      intro m h
      simp only [List.foldl_cons] at h
      rcases ih _ h with h1 | ⟨e', h1, h2⟩
      · split at h1
        · rename_i hb
          rw [Nat.testBit_or, Nat.testBit_or, Bool.or_eq_true, Bool.or_eq_true] at h1
          rcases h1 with (h1 | h1) | h1
          · exact .inl h1
          · rw [Nat.testBit_two_pow] at h1
            exact .inr ⟨e, by simp, hb, .inl (by simpa using (by simpa using h1 : e.on = k).symm)⟩
          · exact .inr ⟨e, by simp, hb, .inr h1⟩
        · exact .inl h1
      · exact .inr ⟨e', by simp [h1], h2⟩
  rcases key _ 0 h with h1 | ⟨e, h1, h2⟩
  · simp at h1
  · exact ⟨e, Array.mem_toList_iff.1 h1, h2⟩

theorem masks_spec : ∀ (l : List Oper) (acc : List Nat), (masks l acc).length = acc.length + l.length ∧ (∀ i, i < acc.length → (masks l acc)[i]? = acc[i]?) ∧
    ∀ (i : Nat) o, l[i]? = some o → ∃ pre : List Nat, pre.length = acc.length + i ∧ (∀ j, j < pre.length → pre[j]? = (masks l acc)[j]?) ∧ (masks l acc)[acc.length + i]? = some (mask1 pre o)
  | [], acc => ⟨by simp [masks], fun _ _ => rfl, fun i o h => by simp at h⟩
  | o :: r, acc => by
    obtain ⟨h1, h2, h3⟩ := masks_spec r (acc ++ [mask1 acc o])
    simp only [masks]
    refine ⟨by rw [h1]; simp; omega, fun i hi => ?_, fun i o' ho => ?_⟩
    · rw [h2 i (by simp; omega), List.getElem?_append_left hi]
    · cases i with
      | zero =>
        simp at ho; subst ho
        refine ⟨acc, by simp, fun j hj => ?_, ?_⟩
        · rw [h2 j (by simp; omega), List.getElem?_append_left hj]
        · rw [Nat.add_zero, h2 _ (by simp)]; simp
      | succ i =>
        simp at ho
        obtain ⟨pre, h4, h5, h6⟩ := h3 i o' ho
        simp at h4
        exact ⟨pre, by omega, h5, by rw [← h6]; congr 1; simp; omega⟩

theorem look_filter (f : Nat → Bool) : ∀ (fr : List (Nat × AV)) (t : Nat), look (fr.filter fun p => f p.1) t = if f t then look fr t else none
  | [], t => by simp [look]
  | (d, x) :: r, t => by
    by_cases hd : f d = true
    · rw [List.filter_cons_of_pos (by exact hd)]
      simp only [look]
      rw [look_filter f r t]
      by_cases e : t = d
      · subst e; simp [hd]
      · simp [e]
    · rw [List.filter_cons_of_neg (by exact hd), look_filter f r t]
      simp only [look]
      by_cases e : t = d
      · subst e; simp [hd]
      · simp [e]

/-- How far an execution in some order has come. -/
structure DS (all : Array Oper) (ws : List Nat) (σ : Nat → St) (n : Nat) (w0 : World) (g0 : Gh) (listed : Array Bool) (k0 : Nat) (g : Gh) (a : Act) (w : World) : Prop where
  inv : Inv g w (σ k0).V (σ k0).A
  fr : Fr w0 g0 w g
  size : a.tmps.size = n
  defers : a.defers = []
  lsize : listed.size = all.size
  slot1 : ∀ (i : Nat) o t x, all[i]? = some o → listed[i]? = some true → o.dst = some t → look (σ (i + 1)).fr t = some x → ∃ u, a.tmps[t]? = some u ∧ RepV g w (σ k0).A x u
  slot0 : ∀ t x, (∀ (i : Nat) o, all[i]? = some o → listed[i]? = some true → o.dst ≠ some t) → look (σ 0).fr t = some x → ∃ u, a.tmps[t]? = some u ∧ RepV g w (σ k0).A x u
  wprog : ∀ i ∈ ws, i < all.size → (listed[i]? = some true ↔ i < k0)
  kle : k0 ≤ all.size
  closed : ∀ (i : Nat) o, all[i]? = some o → listed[i]? = some true → ∀ e ∈ o.after, Region.binds .any e = true → listed[e.on]? = some true

theorem filter_le {α : Type} {p q : α → Bool} (h : ∀ i, p i = true → q i = true) : ∀ (l : List α), (l.filter p).length ≤ (l.filter q).length
  | [] => by simp
  | x :: l => by
    have ih := filter_le h l
    cases hp : p x with
    | true => simp [hp, h x hp]; exact ih
    | false => cases hq : q x <;> simp [hp, hq] <;> omega

theorem filter_lt {α : Type} {p q : α → Bool} (h : ∀ i, p i = true → q i = true) {j : α} : ∀ {l : List α}, j ∈ l → q j = true → p j = false → (l.filter p).length < (l.filter q).length
  | [], hj, _, _ => by simp at hj
  | x :: l, hj, hq, hp => by
    rcases List.mem_cons.1 hj with rfl | hj'
    · have := filter_le h l
      simp [hp, hq]; omega
    · have ih := filter_lt h hj' hq hp
      cases hp' : p x with
      | true => simp [hp', h x hp']; exact ih
      | false => cases hq' : q x <;> simp [hp', hq'] <;> omega

theorem listed_iff {listed : Array Bool} {i : Nat} : listed.getD i false = true ↔ listed[i]? = some true := by
  rcases Nat.lt_or_ge i listed.size with h | h
  · simp [h]
  · simp [h]

theorem unlisted_of {listed : Array Bool} {i : Nat} (h : listed.getD i true = false) : listed[i]? = some false := by
  rcases Nat.lt_or_ge i listed.size with h1 | h1
  · simp [h1] at h ⊢; exact h
  · simp [h1] at h

set_option maxHeartbeats 2000000 in
theorem draw_sound {all : Array Oper} {ow : Nat → Bool} {ws : List Nat} {σ : Nat → St} {K : St → Prop} {Q : Exit → Act → World → Prop} (hd : drawOk all ws = true) (hdst : dstsOk n all.toList = true)
    (htr : ∀ (j : Nat) o, all[j]? = some o → Stp P all (ow j) o (σ j) (σ (j + 1)) ∧ (j ∈ ws ∨ ((σ (j + 1)).V = (σ j).V ∧ (σ (j + 1)).A = (σ j).A)))
    (hK : K (σ all.size)) (hQ : ∀ s' g' a' w', K s' → Rp n w0 g0 s' g' a' w' → Q .normal a' w') :
    ∀ (fuel : Nat) (listed : Array Bool) (k0 : Nat) (g : Gh) (a : Act) (w : World), ((List.range all.size).filter fun i => !listed.getD i true).length ≤ fuel → DS all ws σ n w0 g0 listed k0 g a w → wpAny P .any all Q fuel listed a w := by
  simp only [drawOk, Bool.and_eq_true, List.all_eq_true] at hd
  obtain ⟨⟨hd1, hd2⟩, hd3⟩ := hd
  -- the checks, read
  have hmem : ∀ (j : Nat) o, all[j]? = some o → (o, j) ∈ all.toList.zipIdx := fun j o h => by
    rw [List.mem_iff_getElem?]
    exact ⟨j, by simp [List.getElem?_zipIdx, h]⟩
  have hedge : ∀ (j : Nat) o, all[j]? = some o → ∀ e ∈ o.after, Region.binds .any e = true → e.on < j := fun j o h e he hb => by
    have := hd1 _ (hmem j o h) e (Array.mem_toList_iff.2 he)
    simpa [hb] using this
  have hpair : ∀ (i j : Nat) oi oj, all[i]? = some oi → all[j]? = some oj → i < j → pairOk all ws (masks all.toList []) oi oj i j = true := fun i j oi oj h1 h2 hlt => by
    have := hd2 _ (hmem j oj h2) _ (hmem i oi h1)
    simpa [hlt] using this
  have hws : ∀ (j : Nat) o, all[j]? = some o → j ∈ ws → isS o.op = false := fun j o h hj => by
    have := hd3 _ (hmem j o h)
    simpa [hj] using this
  have hdne : ∀ (i j : Nat) oi oj d, all[i]? = some oi → all[j]? = some oj → i < j → oi.dst = some d → oj.dst ≠ some d := fun i j oi oj d h1 h2 hlt h3 h4 => by
    have := hpair i j oi oj h1 h2 hlt
    simp [pairOk, h3, h4] at this
  have hdu : ∀ (i j : Nat) oi oj d, all[i]? = some oi → all[j]? = some oj → oi.dst = some d → oj.dst = some d → i = j := fun i j oi oj d h1 h2 h3 h4 => by
    rcases Nat.lt_trichotomy i j with h | h | h
    · exact absurd h4 (hdne i j oi oj d h1 h2 h h3)
    · exact h
    · exact absurd h3 (hdne j i oj oi d h2 h1 h h4)
  have hdn : ∀ (j : Nat) o d, all[j]? = some o → o.dst = some d → d < n := fun j o d h1 h2 => by
    have := List.all_eq_true.1 hdst o (by rw [Array.mem_toList_iff]; exact Array.mem_of_getElem? h1)
    simpa [h2] using this
  obtain ⟨hml, _, hms⟩ := masks_spec all.toList []
  -- the order that the edges force
  have hbit : ∀ {listed : Array Bool}, (∀ (i : Nat) o, all[i]? = some o → listed[i]? = some true → ∀ e ∈ o.after, Region.binds .any e = true → listed[e.on]? = some true) →
      ∀ (i : Nat) o, all[i]? = some o → (∀ e ∈ o.after, Region.binds .any e = true → listed[e.on]? = some true) → ∀ k, ((masks all.toList []).getD i 0).testBit k = true → listed[k]? = some true := by
    intro listed hcl i
    induction i using Nat.strongRecOn with
    | _ i ih =>
      intro o ho hafter k hk
      obtain ⟨pre, h1, h2, h3⟩ := hms i o (by simpa using ho)
      simp only [List.length_nil, Nat.zero_add] at h1 h3
      have h4 : (masks all.toList []).getD i 0 = mask1 pre o := by simp [List.getD, h3]
      rw [h4] at hk
      obtain ⟨e, he, hb, h5⟩ := mask1_spec hk
      have he1 := hafter e he hb
      rcases h5 with rfl | h5
      · exact he1
      · have hlt := hedge i o ho e he hb
        have h6 : pre.getD e.on 0 = (masks all.toList []).getD e.on 0 := by simp only [List.getD, h2 e.on (by omega)]
        rw [h6] at h5
        have hsz : e.on < all.size := by have := (Array.getElem?_eq_some_iff.1 ho).1; omega
        have hoe : all[e.on]? = some all[e.on] := Array.getElem?_eq_getElem hsz
        exact ih e.on hlt _ hoe (hcl e.on _ hoe he1) k h5
  -- frames
  have hstep : ∀ (j : Nat) o t, all[j]? = some o → o.dst ≠ some t → look (σ (j + 1)).fr t = look (σ j).fr t := fun j o t h1 h2 => by
    obtain ⟨⟨_, h3⟩, _⟩ := htr j o h1
    have hput : ∀ (x : AV) V A, look ((σ j).put o.dst x V A).fr t = look (σ j).fr t := fun x V A => by
      simp only [St.put]
      cases hdd : o.dst with
      | none => rfl
      | some d => simp only [look]; rw [if_neg (fun e => h2 (by rw [hdd, e]))]
    rcases h3 with ⟨_, x, V, A, h4, _⟩ | ⟨_, h4⟩
    · rw [h4]; exact hput x V A
    · rw [h4]; exact hput _ _ _
  have hfrB : ∀ (j t : Nat), j ≤ all.size → (∀ (i : Nat) o, i < j → all[i]? = some o → o.dst ≠ some t) → look (σ j).fr t = look (σ 0).fr t := by
    intro j
    induction j with
    | zero => intro t _ _; rfl
    | succ j ih =>
      intro t hj hno
      have ho : all[j]? = some all[j] := Array.getElem?_eq_getElem (by omega)
      rw [hstep j _ t ho (hno j _ (by omega) ho)]
      exact ih t (by omega) (fun i o hi => hno i o (by omega))
  have hfrA : ∀ (j i : Nat) oi t, j ≤ all.size → i < j → all[i]? = some oi → oi.dst = some t → look (σ j).fr t = look (σ (i + 1)).fr t := by
    intro j
    induction j with
    | zero => intro i oi t _ h; omega
    | succ j ih =>
      intro i oi t hj hij hoi hdt
      by_cases e : i = j
      · subst e; rfl
      · have ho : all[j]? = some all[j] := Array.getElem?_eq_getElem (by omega)
        rw [hstep j _ t ho (hdne i j oi _ t hoi ho (by omega) hdt)]
        exact ih i oi t (by omega) (by omega) hoi hdt
  have hVA : ∀ (b a : Nat), a ≤ b → b ≤ all.size → (∀ i, a ≤ i → i < b → i ∉ ws) → (σ b).V = (σ a).V ∧ (σ b).A = (σ a).A := by
    intro b
    induction b with
    | zero =>
      intro a h _ _
      obtain rfl : a = 0 := by omega
      exact ⟨rfl, rfl⟩
    | succ b ih =>
      intro a hab hb hno
      by_cases e : a = b + 1
      · subst e; exact ⟨rfl, rfl⟩
      · have ho : all[b]? = some all[b] := Array.getElem?_eq_getElem (by omega)
        obtain ⟨h1, h2⟩ := ih a (by omega) (by omega) (fun i hi hi' => hno i hi (by omega))
        rcases (htr b _ ho).2 with h3 | ⟨h3, h4⟩
        · exact absurd h3 (hno b (by omega) (by omega))
        · exact ⟨h3.trans h1, h4.trans h2⟩
  -- at the end
  have hend : ∀ {listed : Array Bool} {k0 : Nat} {g : Gh} {a : Act} {w : World}, DS all ws σ n w0 g0 listed k0 g a w → Region.ready .any all listed = [] → Q .normal a w := by
    intro listed k0 g a w hD hr
    have hall : ∀ i, i < all.size → listed[i]? = some true := by
      intro i
      induction i using Nat.strongRecOn with
      | _ i ih =>
        intro hi
        have ho : all[i]? = some all[i] := Array.getElem?_eq_getElem hi
        have hli : i < listed.size := by rw [hD.lsize]; exact hi
        cases hl : listed[i] with
        | true => rw [Array.getElem?_eq_getElem hli, hl]
        | false =>
          exfalso
          have : i ∈ Region.ready .any all listed := mem_ready.2 ⟨by simp [hli, hl], _, ho, fun e he hb => listed_iff.2 (ih e.on (hedge i _ ho e he hb) (by have := hedge i _ ho e he hb; omega))⟩
          rw [hr] at this; simp at this
    have hva := hVA all.size k0 hD.kle (Nat.le_refl _) (fun i h1 h2 h3 => by have := (hD.wprog i h3 h2).1 (hall i h2); omega)
    refine hQ _ g a w hK ⟨by rw [hva.1, hva.2]; exact hD.inv, hD.fr, hD.size, hD.defers, fun t x hx => ?_⟩
    rw [hva.2]
    by_cases hex : ∃ (i : Nat) (o : Oper), all[i]? = some o ∧ o.dst = some t
    · obtain ⟨i, o, ho, hdt⟩ := hex
      have hi := (Array.getElem?_eq_some_iff.1 ho).1
      rw [hfrA all.size i o t (Nat.le_refl _) hi ho hdt] at hx
      exact hD.slot1 i o t x ho (hall i hi) hdt hx
    · rw [hfrB all.size t (Nat.le_refl _) (fun i o _ ho hdt => hex ⟨i, o, ho, hdt⟩)] at hx
      exact hD.slot0 t x (fun i o ho _ hdt => hex ⟨i, o, ho, hdt⟩) hx
  -- one operation
  intro fuel
  induction fuel with
  | zero =>
    intro listed k0 g a w hf hD
    have hnil : Region.ready .any all listed = [] := by
      have h0 : ((List.range all.size).filter fun i => !listed.getD i true) = [] := List.eq_nil_of_length_eq_zero (by omega)
      rcases hr : Region.ready .any all listed with _ | ⟨j, r⟩
      · rfl
      · have hj : j ∈ Region.ready .any all listed := by rw [hr]; simp
        obtain ⟨h1, o, h2, _⟩ := mem_ready.1 hj
        have : j ∈ ((List.range all.size).filter fun i => !listed.getD i true) := by
          rw [List.mem_filter, List.mem_range]
          exact ⟨(Array.getElem?_eq_some_iff.1 h2).1, by simp [h1]⟩
        rw [h0] at this; simp at this
    exact ⟨hnil, hend hD hnil⟩
  | succ fuel ih =>
    intro listed k0 g a w hf hD
    refine ⟨fun hr => hend hD hr, fun j hj => ?_⟩
    obtain ⟨hun, o, ho, hafter⟩ := mem_ready.1 hj
    have hju := unlisted_of hun
    have hjn : j < all.size := (Array.getElem?_eq_some_iff.1 ho).1
    have hjl : j < listed.size := by rw [hD.lsize]; exact hjn
    have hafter' : ∀ e ∈ o.after, Region.binds .any e = true → listed[e.on]? = some true := fun e he hb => listed_iff.1 (hafter e he hb)
    have hbefore : ∀ k, ((masks all.toList []).getD j 0).testBit k = true → listed[k]? = some true := hbit hD.closed j o ho hafter'
    have hbehind : ∀ (i : Nat) oi, all[i]? = some oi → listed[i]? = some true → ((masks all.toList []).getD i 0).testBit j = false := fun i oi hoi hli => by
      cases hb : ((masks all.toList []).getD i 0).testBit j with
      | false => rfl
      | true => have := hbit hD.closed i oi hoi (hD.closed i oi hoi hli) j hb; rw [hju] at this; simp at this
    -- what the operation looks at
    have hlooks : ∀ t ∈ o.looksAt all, ∀ x, look (σ j).fr t = some x → ∃ u, a.tmps[t]? = some u ∧ RepV g w (σ k0).A x u := by
      intro t ht x hx
      by_cases hex : ∃ (i : Nat) (oi : Oper), i < j ∧ all[i]? = some oi ∧ oi.dst = some t
      · obtain ⟨i, oi, hij, hoi, hdt⟩ := hex
        rw [hfrA j i oi t (by omega) hij hoi hdt] at hx
        have hp := hpair i j oi o hoi ho hij
        have htc : touch all oi o = true := by simp only [touch, hdt]; simpa using ht
        simp only [pairOk, htc, Bool.and_eq_true, Bool.or_eq_true] at hp
        have hb : ((masks all.toList []).getD j 0).testBit i = true := by simpa using hp.2
        exact hD.slot1 i oi t x hoi (hbefore i hb) hdt hx
      · rw [hfrB j t (by omega) (fun i oi hij hoi hdt => hex ⟨i, oi, hij, hoi, hdt⟩)] at hx
        refine hD.slot0 t x (fun i oi hoi hli hdt => ?_) hx
        rcases Nat.lt_trichotomy i j with h | h | h
        · exact hex ⟨i, oi, h, hoi, hdt⟩
        · subst h; rw [hju] at hli; simp at hli
        · have hp := hpair j i o oi ho hoi h
          have htc : touch all oi o = true := by simp only [touch, hdt]; simpa using ht
          have hb := hbehind i oi hoi hli
          simp only [pairOk, htc, hb, Bool.and_eq_true, Bool.or_eq_true] at hp
          simp at hp
    let fr' := (σ j).fr.filter fun p => (o.looksAt all).contains p.1
    have hlk : ∀ t, look fr' t = if (o.looksAt all).contains t then look (σ j).fr t else none := fun t => look_filter (fun t => (o.looksAt all).contains t) (σ j).fr t
    have hS : ∀ (V : List (List CV)), Slots g w ⟨fr', V, (σ k0).A⟩ a := fun V t x hx => by
      simp only [hlk] at hx
      split at hx
      · rename_i hc; exact hlooks t (by simpa using hc) x hx
      · cases hx
    have hop : ∀ (V V' : List (List CV)) (A A' : List Arr), ∀ x ∈ o.op.operands.toList, aval ⟨fr', V, A⟩ x = aval ⟨(σ j).fr, V', A'⟩ x := fun V V' A A' x hx => by
      cases x with
      | tmp t =>
        simp only [aval, hlk]
        rw [if_pos]
        simp only [Oper.looksAt, List.contains_eq_mem, decide_eq_true_eq, List.mem_append, List.mem_filterMap]
        exact .inl ⟨.tmp t, hx, rfl⟩
      | _ => rfl
    have hRr : Rp n w0 g0 ⟨fr', (σ k0).V, (σ k0).A⟩ g a w := ⟨hD.inv, hD.fr, hD.size, hD.defers, hS _⟩
    -- the guard
    obtain ⟨⟨hgd, hst⟩, hor⟩ := htr j o ho
    have hgd' : gdo all ⟨fr', (σ k0).V, (σ k0).A⟩ o True True ∧ gw all ⟨fr', (σ k0).V, (σ k0).A⟩ o = gw all (σ j) o := by
      unfold gdo gw at *
      cases hgg : o.guard with
      | none => simp
      | some jw =>
        obtain ⟨q, want⟩ := jw
        simp only [hgg] at hgd ⊢
        obtain ⟨oq, h1, h2⟩ := onv_some hgd
        obtain ⟨t, h3, h4⟩ := onv_some h2
        have : look fr' t = look (σ j).fr t := by
          rw [hlk, if_pos]
          simp only [Oper.looksAt, hgg, List.contains_eq_mem, decide_eq_true_eq, List.mem_append]
          exact .inr (by simp [h1, h3])
        simp only [h1, onv, h3, Option.bind_some, this] at h4 ⊢
        exact ⟨h4, trivial⟩
    have hwant : Region.wanted o (yielded all a.tmps) = gw all (σ j) o := by
      rw [← hgd'.2]
      have h0 := gdo_mono hgd'.1
      -- both say the same
      have h1 := hgd'.1
      unfold gdo at h1
      unfold gw
      cases hgg : o.guard with
      | none => simp [Region.wanted, hgg]
      | some jw =>
        obtain ⟨q, want⟩ := jw
        simp only [hgg] at h1 ⊢
        obtain ⟨oq, h2, h3⟩ := onv_some h1
        obtain ⟨t, h4, h5⟩ := onv_some h3
        obtain ⟨x, h6, h7⟩ := onv_some h5
        obtain ⟨h8, h9⟩ := yielded_of hRr h2 h4 h6
        simp only [h2, Option.bind_some, h4, h6]
        split at h7
        · rename_i b; simp [Region.wanted, hgg, h8 b rfl]
        · simp [Region.wanted, hgg, h9 rfl]
        · exact h7.elim
    -- the state behind it
    have hset : ∀ i, (listed.setIfInBounds j true)[i]? = if i = j then some true else listed[i]? := fun i => by
      by_cases e : i = j
      · subst e; simp [hjl]
      · rw [if_neg e, Array.getElem?_setIfInBounds_ne (fun h => e h.symm)]
    have hcount : ((List.range all.size).filter fun i => !(listed.setIfInBounds j true).getD i true).length ≤ fuel := by
      have hlt : ((List.range all.size).filter fun i => !(listed.setIfInBounds j true).getD i true).length < ((List.range all.size).filter fun i => !listed.getD i true).length := by
        have hsub : ∀ i, (!(listed.setIfInBounds j true).getD i true) = true → (!listed.getD i true) = true := fun i h => by
          by_cases e : i = j
          · subst e; simp [hjl] at h
          · have : (listed.setIfInBounds j true).getD i true = listed.getD i true := by
              simp only [Array.getD_eq_getD_getElem?, hset, if_neg e]
            rwa [this] at h
        exact filter_lt hsub (List.mem_range.2 hjn) (by simp [hun]) (by simp [hjl])
      omega
    have hnext : ∀ (k1 : Nat) (x : AV) (v : Value) (w' : World) (g' : Gh), look (σ (j + 1)).fr = look ((σ j).put o.dst x [] []).fr → RepV g' w' (σ k1).A x v → Inv g' w' (σ k1).V (σ k1).A → Ext g w (σ k0).A g' w' (σ k1).A → Fr w0 g0 w' g' → k1 ≤ all.size →
        (∀ i ∈ ws, i < all.size → ((listed.setIfInBounds j true)[i]? = some true ↔ i < k1)) → DS all ws σ n w0 g0 (listed.setIfInBounds j true) k1 g' (a.put o.dst v) w' := by
      intro k1 x v w' g' hfr hrv hI hx hF hk hwp
      have hputs : ∀ t u, o.dst ≠ some t → a.tmps[t]? = some u → (a.put o.dst v).tmps[t]? = some u := fun t u hne hu => by
        cases hdd : o.dst with
        | none => exact hu
        | some d =>
          simp only [Act.put]
          rw [Array.getElem?_setIfInBounds_ne (fun e => hne (by rw [hdd, e]))]; exact hu
      refine ⟨hI, hF, ?_, ?_, by simp [hD.lsize], fun i oi t y hoi hli hdt hy => ?_, fun t y hno hy => ?_, hwp, hk, fun i oi hoi hli e he hb => ?_⟩
      · cases o.dst <;> simp [Act.put, hD.size]
      · cases o.dst <;> simp [Act.put, hD.defers]
      · rw [hset] at hli
        by_cases e : i = j
        · subst e
          obtain rfl : o = oi := by rw [ho] at hoi; exact Option.some.inj hoi
          rw [hfr] at hy
          simp only [St.put, hdt, look, if_true] at hy
          cases hy
          refine ⟨v, ?_, hrv⟩
          have : t < a.tmps.size := by rw [hD.size]; exact hdn i o t ho hdt
          simp [Act.put, hdt, this]
        · rw [if_neg e] at hli
          obtain ⟨u, h1, h2⟩ := hD.slot1 i oi t y hoi hli hdt hy
          exact ⟨u, hputs t u (fun h => e (hdu i j oi o t hoi ho hdt h)) h1, RepV.ext hx h2⟩
      · have hne : o.dst ≠ some t := hno j o ho (by rw [hset, if_pos rfl])
        obtain ⟨u, h1, h2⟩ := hD.slot0 t y (fun i oi hoi hli => hno i oi hoi (by
          rw [hset]
          by_cases e : i = j
          · rw [if_pos e]
          · rw [if_neg e]; exact hli)) hy
        exact ⟨u, hputs t u hne h1, RepV.ext hx h2⟩
      · rw [hset] at hli ⊢
        have : listed[e.on]? = some true := by
          by_cases e' : i = j
          · subst e'
            obtain rfl : o = oi := by rw [ho] at hoi; exact Option.some.inj hoi
            exact hafter' e he hb
          · rw [if_neg e'] at hli
            exact hD.closed i oi hoi hli e he hb
        by_cases e' : e.on = j
        · rw [if_pos e']
        · rw [if_neg e']; exact this
    have hwp0 : j ∉ ws → ∀ i ∈ ws, i < all.size → ((listed.setIfInBounds j true)[i]? = some true ↔ i < k0) := fun hjw i hi hin => by
      rw [hset, if_neg (fun e => hjw (by rw [← e]; exact hi))]
      exact hD.wprog i hi hin
    have hva : isS o.op = false → (σ j).V = (σ k0).V ∧ (σ j).A = (σ k0).A := by
      intro hns
      rcases Nat.le_total j k0 with h | h
      · have := hVA k0 j h hD.kle (fun i h1 h2 h3 => by
          have hin : i < all.size := by have := hD.kle; omega
          have hli := (hD.wprog i h3 hin).2 h2
          have hoi : all[i]? = some all[i] := Array.getElem?_eq_getElem hin
          rcases Nat.lt_or_ge j i with h4 | h4
          · have hp := hpair j i o _ ho hoi h4
            have hb := hbehind i _ hoi hli
            simp only [pairOk, hb, Bool.and_eq_true, Bool.or_eq_true] at hp
            simp [h3, hns] at hp
          · obtain rfl : i = j := by omega
            rw [hju] at hli; simp at hli)
        exact ⟨this.1.symm, this.2.symm⟩
      · exact hVA j k0 h (by omega) (fun i h1 h2 h3 => by
          have hin : i < all.size := by omega
          have hoi : all[i]? = some all[i] := Array.getElem?_eq_getElem hin
          have hp := hpair i j _ o hoi ho h2
          simp only [pairOk, Bool.and_eq_true, Bool.or_eq_true] at hp
          have hb : ((masks all.toList []).getD j 0).testBit i = true := by
            rcases hp.2 with h4 | h4
            · simp [h3, hns] at h4
            · exact h4
          have := (hD.wprog i h3 hin).1 (hbefore i hb)
          omega)
    -- carried out, or passed over
    unfold wpOp
    simp only [ho]
    rcases hst with ⟨h1, x, V, A, h2, h3⟩ | ⟨h1, h2⟩
    · rw [if_pos (by rw [hwant, h1])]
      refine .inl ?_
      by_cases hs : isS o.op = true
      · -- slots alone
        have hjw : j ∉ ws := fun h => by have := hws j o ho h; rw [hs] at this; simp at this
        have h4 : astep P ⟨fr', (σ k0).V, (σ k0).A⟩ (ow j) o (fun y V' A' => y = x ∧ V' = (σ k0).V ∧ A' = (σ k0).A) := astep_S (s := σ j) (s' := ⟨fr', (σ k0).V, (σ k0).A⟩) hs (hop _ _ _ _) h3 ⟨rfl, rfl, rfl⟩
        obtain ⟨y, V', A', ⟨rfl, rfl, rfl⟩, h5⟩ := astep_wp hRr.inv hRr.fr hRr.slot h4
        refine h5 _ _ fun v w' g' h6 h7 h8 h9 => ih _ k0 g' _ w' hcount (hnext k0 y v w' g' (by rw [h2]; rfl) h6 h7 h8 h9 hD.kle (hwp0 hjw))
      · have hns : isS o.op = false := by simpa using hs
        obtain ⟨hv1, hv2⟩ := hva hns
        have h4 : astep P ⟨fr', (σ k0).V, (σ k0).A⟩ (ow j) o (fun y V' A' => y = x ∧ V' = V ∧ A' = A) := by
          rw [← hv1, ← hv2]
          exact astep_congr (fr := (σ j).fr) (hop _ _ _ _) (h3 _ ⟨rfl, rfl, rfl⟩)
        obtain ⟨y, V', A', ⟨rfl, rfl, rfl⟩, h5⟩ := astep_wp hRr.inv hRr.fr hRr.slot h4
        have hVj : (σ (j + 1)).V = V' := by rw [h2]; rfl
        have hAj : (σ (j + 1)).A = A' := by rw [h2]; rfl
        by_cases hjw : j ∈ ws
        · refine h5 _ _ fun v w' g' h6 h7 h8 h9 => ih _ (j + 1) g' _ w' hcount (hnext (j + 1) y v w' g' (by rw [h2]; rfl) (by rw [hAj]; exact h6) (by rw [hVj, hAj]; exact h7) (by rw [hAj]; exact h8) h9 (by omega) (fun i hi hin => ?_))
          have hoi : all[i]? = some all[i] := Array.getElem?_eq_getElem hin
          rw [hset]
          by_cases e : i = j
          · subst e; simp
          · rw [if_neg e]
            constructor
            · intro hli
              rcases Nat.lt_or_ge j i with h | h
              · have hp := hpair j i o _ ho hoi h
                have hb := hbehind i _ hoi hli
                simp only [pairOk, hb, Bool.and_eq_true, Bool.or_eq_true] at hp
                simp [hi, hns] at hp
              · omega
            · intro hlt
              have hp := hpair i j _ o hoi ho (by omega)
              simp only [pairOk, Bool.and_eq_true, Bool.or_eq_true] at hp
              rcases hp.2 with h | h
              · simp [hi, hns] at h
              · exact hbefore i h
        · rcases hor with hor | ⟨ho1, ho2⟩
          · exact absurd hor hjw
          · refine h5 _ _ fun v w' g' h6 h7 h8 h9 => ih _ k0 g' _ w' hcount (hnext k0 y v w' g' (by rw [h2]; rfl) ?_ ?_ ?_ h9 hD.kle (hwp0 hjw))
            · rw [← hv2, ← ho2, hAj]; exact h6
            · rw [← hv1, ← hv2, ← ho1, ← ho2, hVj, hAj]; exact h7
            · have e1 : (σ k0).A = A' := by rw [← hv2, ← ho2, hAj]
              rw [e1] at h8 ⊢; exact h8
    · rw [if_neg (by rw [hwant, h1]; simp)]
      have hVj : (σ (j + 1)).V = (σ j).V := by rw [h2]; rfl
      have hAj : (σ (j + 1)).A = (σ j).A := by rw [h2]; rfl
      by_cases hjw : j ∈ ws
      · have hns := hws j o ho hjw
        obtain ⟨hv1, hv2⟩ := hva hns
        refine ih _ (j + 1) g _ w hcount (hnext (j + 1) (.c .undef) undef w g (by rw [h2]; rfl) rfl ?_ ?_ hD.fr (by omega) (fun i hi hin => ?_))
        · rw [hVj, hAj, hv1, hv2]; exact hD.inv
        · rw [hAj, hv2]; exact .refl _ _ _
        · have hoi : all[i]? = some all[i] := Array.getElem?_eq_getElem hin
          rw [hset]
          by_cases e : i = j
          · subst e; simp
          · rw [if_neg e]
            constructor
            · intro hli
              rcases Nat.lt_or_ge j i with h | h
              · have hp := hpair j i o _ ho hoi h
                have hb := hbehind i _ hoi hli
                simp only [pairOk, hb, Bool.and_eq_true, Bool.or_eq_true] at hp
                simp [hi, hns] at hp
              · omega
            · intro hlt
              have hp := hpair i j _ o hoi ho (by omega)
              simp only [pairOk, Bool.and_eq_true, Bool.or_eq_true] at hp
              rcases hp.2 with h | h
              · simp [hi, hns] at h
              · exact hbefore i h
      · exact ih _ k0 g _ w hcount (hnext k0 (.c .undef) undef w g (by rw [h2]; rfl) rfl hD.inv (.refl _ _ _) hD.fr hD.kle (hwp0 hjw))

/-- A REGION THAT DRAWS ITS ORDER. -/
theorem T.region_draw {id : Nat} {ops : Array Oper} (hm : P.follows .mixedOrders = true) (ow : Nat → Bool) (ws : List Nat) (hd : drawOk ops ws = true) (h : aopsD P ops ow ws (fun s' => Q .normal s') 0 ops.toList s) : T P n (.region id ops true) Q s := by
  intro hok w0 g0 g a w hR
  obtain ⟨σ, h0, hK, htr⟩ := aopsD_trace ops.toList 0 s h
  obtain ⟨hI, hx⟩ := hR.inv.heap (w' := { w with drawn := w.drawn + 1 }) rfl
  refine wp_region_any hm (draw_sound (K := fun s' => Q .normal s') (w0 := w0) (g0 := g0) (n := n) (σ := σ) (ow := ow) hd hok (fun j o ho => ?_) ?_ (fun s' g' a' w' h1 h2 => ⟨s', g', h1, h2⟩) ops.size (Array.replicate ops.size false) 0 g a _ ?_ ?_)
  · have := htr j o (by simpa using ho)
    simpa only [Nat.zero_add] using this
  · simpa using hK
  · exact Nat.le_trans (List.length_filter_le _ _) (by simp)
  · refine ⟨by rw [h0]; exact hI, hR.fr.heap rfl rfl rfl rfl, hR.size, hR.defers, by simp, fun i o t x ho hl => ?_, fun t x _ hx' => ?_, fun i _ hin => ?_, Nat.zero_le _, fun i o ho hl => ?_⟩
    · have hi := (Array.getElem?_eq_some_iff.1 ho).1
      simp [hi] at hl
    · rw [h0] at hx' ⊢
      obtain ⟨u, h1, h2⟩ := hR.slot t x hx'
      exact ⟨u, h1, RepV.ext hx h2⟩
    · simp [hin]
    · have hi := (Array.getElem?_eq_some_iff.1 ho).1
      simp [hi] at hl
end
end Go.Av
