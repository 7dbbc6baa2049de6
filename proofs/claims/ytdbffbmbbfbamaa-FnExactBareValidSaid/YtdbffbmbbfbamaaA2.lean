/- Steps of memory as the abstract state sees them: a new block, a new object, a store into an object, an own array that is made, grows, is stored into, is sealed. Each keeps the invariant. -/
import Derived.Test.YtdbffbmbbfbamaaA1
namespace Go.Av
open Go

section
variable {g g' g0 : Gh} {w w' w0 : World} {V V' : List (List CV)} {A A' : List Arr}

theorem Fr.obOK (h : Fr w0 g0 w g) {l b : Nat} (hb : g.ob[l]? = some b) : b ∈ g0.ob ∨ w0.heap.size ≤ b := by
  obtain ⟨new, e, hn⟩ := h.ob
  rw [e] at hb
  have := List.mem_of_getElem? hb
  rcases List.mem_append.1 this with h1 | h1
  · exact .inl h1
  · exact .inr (hn b h1)

theorem ownsRow_heap {base : Nat} {e : TypeId} {sz : Nat} {v : Value} {n : Nat} {xs : List Value} (h : w.ownsRow base e sz v n xs) (hb : ∀ b, v.ownBlock = some b → w'.heap[b]? = w.heap[b]?) : w'.ownsRow base e sz v n xs := by
  refine ⟨h.1, ?_⟩
  rcases h.2 with h2 | ⟨b, cap, cur, hv, h3, hh, r⟩
  · exact .inl h2
  · exact .inr ⟨b, cap, cur, hv, h3, by rw [hb b (by rw [hv]; rfl)]; exact hh, r⟩

theorem Inv.obLt (h : Inv g w V A) {l b : Nat} (hb : g.ob[l]? = some b) : b < w.heap.size := by
  have hl : l < V.length := by
    rw [← h.obl]; exact (List.getElem?_eq_some_iff.1 hb).1
  obtain ⟨_, cs, ty, hh, _⟩ := h.obj l _ b (List.getElem?_eq_getElem hl) hb
  exact (Array.getElem?_eq_some_iff.1 hh).1

theorem Inv.arLt (h : Inv g w V A) {k b : Nat} {v : Value} (hv : g.ar[k]? = some v) (hb : v.ownBlock = some b) : b < w.heap.size := by
  have hl : k < A.length := by
    rw [← h.arl]; exact (List.getElem?_eq_some_iff.1 hv).1
  obtain ⟨_, _, xs, ho, _⟩ := h.arr k _ v (List.getElem?_eq_getElem hl) hv
  exact (ho.lt b hb).2

theorem Inv.imLt (h : Inv g w V A) {b o : Nat} (ho : o < g.im b) : b < w.heap.size := by
  rcases Nat.lt_or_ge b w.heap.size with h1 | h1
  · exact h1
  · have := h.fresh b h1; omega

/-- The objects that a step did not touch. -/
theorem Inv.objKeep (h : Inv g w V A) (hx : Ext g w A g' w' A') {l b : Nat} {row : List CV} (hl : V[l]? = some row) (hb : g.ob[l]? = some b) (hh : w'.heap[b]? = w.heap[b]?) (hi : g'.im b = 0) :
    g'.im b = 0 ∧ ∃ cs ty, w'.heap[b]? = some (.cells cs ty (0, 0)) ∧ cs.size = row.length ∧ ∀ (j : Nat) c u, row[j]? = some c → cs[j]? = some u → RepC g' w' A' c u := by
  obtain ⟨_, cs, ty, hc, hs, hr⟩ := h.obj l row b hl hb
  exact ⟨hi, cs, ty, hh.trans hc, hs, fun j c u h1 h2 => RepC.ext hx (hr j c u h1 h2)⟩

theorem Inv.arrKeep (h : Inv g w V A) (hx : Ext g w A g' w' A') {k : Nat} {r : Arr} {v : Value} (hk : A[k]? = some r) (hv : g.ar[k]? = some v)
    (hh : ∀ b, v.ownBlock = some b → w'.heap[b]? = w.heap[b]?) (hi : ∀ b, v.ownBlock = some b → g'.im b = g.im b) :
    (∀ row ∈ r.rows, row.length = r.sz) ∧ (∀ b, v.ownBlock = some b → g'.im b ≤ if r.wr then 0 else r.rows.length * r.sz) ∧
    ∃ xs, w'.ownsRow 0 r.ety r.sz v r.rows.length xs ∧ ∀ (j : Nat) x u, r.rows.flatten[j]? = some x → xs[j]? = some u → RepD g'.im w' x u := by
  obtain ⟨h1, h2, xs, ho, hr⟩ := h.arr k r v hk hv
  exact ⟨h1, fun b hb => by rw [hi b hb]; exact h2 b hb, xs, ownsRow_heap ho hh, fun j x u hj hu => RepD.grows hx.gr x u (hr j x u hj hu)⟩

/-- A world that differs in the count of draws alone. -/
theorem Inv.heap (h : Inv g w V A) (hh : w'.heap = w.heap) : Inv g w' V A ∧ Ext g w A g w' A := by
  have hx : Ext g w A g w' A := ⟨fun _ _ h => h, ⟨fun _ => Nat.le_refl _, fun b o _ => by simp [World.cell?, hh]⟩, fun _ r h => ⟨r, h, rfl, Nat.le_refl _, fun _ => rfl⟩⟩
  refine ⟨⟨h.obl, h.arl, fun l row b h1 h2 => ?_, fun k r v h1 h2 => ?_, h.obob, h.arar, h.obar, fun b hb => h.fresh b (by rwa [hh] at hb)⟩, hx⟩
  · exact h.objKeep hx h1 h2 (by rw [hh]) (h.obj l row b h1 h2).1
  · exact h.arrKeep hx h1 h2 (fun _ _ => by rw [hh]) (fun _ _ => rfl)

theorem Fr.heap (h : Fr w0 g0 w g) (hh : w'.heap = w.heap) (ho : w'.os = w.os) (ht : w'.tape = w.tape) (hp : w'.output = w.output) : Fr w0 g0 w' g :=
  ⟨ho.trans h.os, ht.trans h.tape, hp.trans h.output, by rw [hh]; exact h.size, fun b h1 h2 => by rw [hh]; exact h.blk b h1 h2, h.imeq, h.ob, h.ar⟩

/-- A new block of cells; m of them are read-only from the first. -/
theorem Inv.newBlock (h : Inv g w V A) (o : Obj) (m : Nat) : ∃ g', g' = { g with im := fun b => if b = w.heap.size then m else g.im b } ∧ Inv g' (w.alloc o) V A ∧ Ext g w A g' (w.alloc o) A := by
  have hheap : ∀ b, b < w.heap.size → (w.alloc o).heap[b]? = w.heap[b]? := fun b hb => RowKit.Below.heap_alloc w o b hb
  have him : ∀ b, b < w.heap.size → (if b = w.heap.size then m else g.im b) = g.im b := fun b hb => by rw [if_neg (by omega)]
  have hx : Ext g w A { g with im := fun b => if b = w.heap.size then m else g.im b } (w.alloc o) A := by
    refine ⟨fun _ _ h => h, ⟨fun b => ?_, fun b o' ho => ?_⟩, fun _ r h => ⟨r, h, rfl, Nat.le_refl _, fun _ => rfl⟩⟩
    · show g.im b ≤ if b = w.heap.size then m else g.im b
      split
      · rename_i e; rw [h.fresh b (by omega)]; exact Nat.zero_le _
      · exact Nat.le_refl _
    · exact World.cell?_of_block (a := ⟨b, o', none⟩) (hheap b (h.imLt ho))
  refine ⟨_, rfl, ⟨h.obl, h.arl, fun l row b h1 h2 => ?_, fun k r v h1 h2 => ?_, h.obob, h.arar, h.obar, fun b hb => ?_⟩, hx⟩
  · exact h.objKeep hx h1 h2 (hheap b (h.obLt h2)) ((him b (h.obLt h2)).trans (h.obj l row b h1 h2).1)
  · exact h.arrKeep hx h1 h2 (fun b hb => hheap b (h.arLt h2 hb)) (fun b hb => him b (h.arLt h2 hb))
  · have hs : (w.alloc o).heap.size = w.heap.size + 1 := by simp
    show (if b = w.heap.size then m else g.im b) = 0
    rw [hs] at hb
    rw [if_neg (by omega)]; exact h.fresh b (by omega)

theorem Fr.newBlock (h : Fr w0 g0 w g) (o : Obj) (m : Nat) : Fr w0 g0 (w.alloc o) { g with im := fun b => if b = w.heap.size then m else g.im b } := by
  have hs : (w.alloc o).heap.size = w.heap.size + 1 := by simp
  refine ⟨h.os, h.tape, h.output, by rw [hs]; have := h.size; omega, fun b h1 h2 => ?_, fun b hb => ?_, h.ob, h.ar⟩
  · rw [RowKit.Below.heap_alloc w o b (by have := h.size; omega)]; exact h.blk b h1 h2
  · show (if b = w.heap.size then m else g.im b) = _
    have := h.size
    rw [if_neg (by omega)]; exact h.imeq b hb

/-- A new object. -/
theorem Inv.newObj (h : Inv g w V A) (hf : Fr w0 g0 w g) (cs : Array Value) (ty : TypeId) (row : List CV) (hs : cs.size = row.length) (hr : ∀ (j : Nat) c u, row[j]? = some c → cs[j]? = some u → RepC g w A c u) :
    ∃ g', Inv g' (w.alloc (.cells cs ty)) (V ++ [row]) A ∧ Ext g w A g' (w.alloc (.cells cs ty)) A ∧ Fr w0 g0 (w.alloc (.cells cs ty)) g' ∧ g'.ob[V.length]? = some w.heap.size := by
  obtain ⟨g1, hg1, hi, hx⟩ := h.newBlock (.cells cs ty) 0
  have hf1 := hf.newBlock (.cells cs ty) 0
  rw [← hg1] at hf1
  have hx2 : Ext g1 (w.alloc (.cells cs ty)) A { g1 with ob := g1.ob ++ [w.heap.size] } (w.alloc (.cells cs ty)) A :=
    ⟨fun l b hb => by show (g1.ob ++ [w.heap.size])[l]? = some b; rw [List.getElem?_append_left (List.getElem?_eq_some_iff.1 hb).1]; exact hb, .refl _ _, fun _ r h => ⟨r, h, rfl, Nat.le_refl _, fun _ => rfl⟩⟩
  have hlt : ∀ (l b : Nat), g1.ob[l]? = some b → b < w.heap.size := fun l b hb => by
    subst hg1
    exact h.obLt (g := g) hb
  have hall : ∀ (l b : Nat), (g1.ob ++ [w.heap.size])[l]? = some b → (g1.ob[l]? = some b ∧ b < w.heap.size) ∨ (l = V.length ∧ b = w.heap.size) := fun l b hb => by
    rcases Nat.lt_or_ge l g1.ob.length with h1 | h1
    · rw [List.getElem?_append_left h1] at hb; exact .inl ⟨hb, hlt l b hb⟩
    · rw [List.getElem?_append_right h1] at hb
      have h0 : l - g1.ob.length = 0 := by
        have := (List.getElem?_eq_some_iff.1 hb).1
        simp at this; omega
      rw [h0] at hb; simp at hb
      exact .inr ⟨by rw [← hi.obl]; omega, hb.symm⟩
  have him : g1.im w.heap.size = 0 := by subst hg1; simp
  have harlt : ∀ (k : Nat) (v : Value) (b : Nat), g1.ar[k]? = some v → v.ownBlock = some b → b < w.heap.size := fun k v b hv hb => by
    subst hg1
    exact h.arLt (g := g) hv hb
  refine ⟨{ g1 with ob := g1.ob ++ [w.heap.size] }, ⟨by simp [hi.obl], hi.arl, fun l row' b h1 h2 => ?_, fun k r v h1 h2 => ?_, fun l l' b h1 h2 => ?_, hi.arar, fun l k v b h1 h2 => ?_, hi.fresh⟩, hx.trans hx2, ?_, ?_⟩
  · rcases hall l b h2 with ⟨h3, h4⟩ | ⟨h3, h4⟩
    · have h5 : V[l]? = some row' := by
        have : l < V.length := by rw [← hi.obl]; exact (List.getElem?_eq_some_iff.1 h3).1
        rwa [List.getElem?_append_left this] at h1
      exact hi.objKeep hx2 h5 h3 rfl (hi.obj l row' b h5 h3).1
    · subst h3; subst h4
      simp at h1; subst h1
      exact ⟨him, cs, ty, heap_alloc_new w _, hs, fun j c u h6 h7 => RepC.ext (hx.trans hx2) (hr j c u h6 h7)⟩
  · exact hi.arrKeep hx2 h1 h2 (fun _ _ => rfl) (fun _ _ => rfl)
  · rcases hall l b h1 with ⟨h3, h4⟩ | ⟨h3, h4⟩ <;> rcases hall l' b h2 with ⟨h5, h6⟩ | ⟨h5, h6⟩
    · exact hi.obob l l' b h3 h5
    · omega
    · omega
    · omega
  · rcases hall l b h1 with ⟨h3, h4⟩ | ⟨h3, h4⟩
    · exact hi.obar l k v b h3 h2
    · intro hb; have := harlt k v b h2 hb; omega
  · refine ⟨hf1.os, hf1.tape, hf1.output, hf1.size, hf1.blk, hf1.imeq, ?_, hf1.ar⟩
    obtain ⟨new, e, hn⟩ := hf1.ob
    exact ⟨new ++ [w.heap.size], by show g1.ob ++ [w.heap.size] = _; rw [e]; simp, fun b hb => by
      rcases List.mem_append.1 hb with h1 | h1
      · exact hn b h1
      · simp at h1; rw [h1]; exact hf.size⟩
  · show (g1.ob ++ [w.heap.size])[V.length]? = some w.heap.size
    rw [List.getElem?_append_right (by rw [hi.obl]; exact Nat.le_refl _), hi.obl]; simp

theorem heap_setRow_other (w : World) (b k : Nat) (cs : Array Value) (h : k ≠ b) : (w.setRow b cs).heap[k]? = w.heap[k]? := by
  simp only [World.setRow, Array.getElem?_modify]
  rw [if_neg (fun e => h e.symm)]

/-- Writing a whole block whose cells are not read-only: every name keeps its reading. -/
theorem Ext.setRow (g : Gh) (w : World) (A : List Arr) (b : Nat) (cs : Array Value) (h : g.im b = 0) : Ext g w A g (w.setRow b cs) A := by
  refine ⟨fun _ _ h => h, ⟨fun _ => Nat.le_refl _, fun b' o ho => ?_⟩, fun _ r h => ⟨r, h, rfl, Nat.le_refl _, fun _ => rfl⟩⟩
  exact World.cell?_of_block (a := ⟨b', o, none⟩) (heap_setRow_other w b b' cs (fun e => by subst e; omega))

theorem Fr.setRow (hf : Fr w0 g0 w g) (b : Nat) (cs : Array Value) (h : b ∈ g0.ob ∨ w0.heap.size ≤ b) : Fr w0 g0 (w.setRow b cs) g :=
  ⟨hf.os, hf.tape, hf.output, by simpa using hf.size, fun b' h1 h2 => by
    rw [heap_setRow_other w b b' cs (fun e => by subst e; rcases h with h | h <;> first | exact h2 h | omega)]; exact hf.blk b' h1 h2, hf.imeq, hf.ob, hf.ar⟩

/-- A store into an object: the whole row anew. -/
theorem Inv.setObj (h : Inv g w V A) (hf : Fr w0 g0 w g) {l b : Nat} {row row' : List CV} (hl : V[l]? = some row) (hb : g.ob[l]? = some b) (cs : Array Value) (hs : cs.size = row'.length)
    (hr : ∀ (j : Nat) c u, row'[j]? = some c → cs[j]? = some u → RepC g w A c u) :
    Inv g (w.setRow b cs) (V.set l row') A ∧ Ext g w A g (w.setRow b cs) A ∧ Fr w0 g0 (w.setRow b cs) g := by
  obtain ⟨hi, cs0, ty, hh, _⟩ := h.obj l row b hl hb
  have hx := Ext.setRow g w A b cs hi
  refine ⟨⟨by rw [h.obl]; simp, h.arl, fun l' rw' b' h1 h2 => ?_, fun k r v h1 h2 => ?_, h.obob, h.arar, h.obar, fun b' hb' => h.fresh b' (by simpa using hb')⟩, hx, hf.setRow b cs (hf.obOK hb)⟩
  · by_cases e : l' = l
    · subst e
      obtain rfl : b = b' := by rw [hb] at h2; exact Option.some.inj h2
      have hlt := (List.getElem?_eq_some_iff.1 hl).1
      simp [hlt] at h1; subst h1
      exact ⟨hi, cs, ty, setRow_heap w b cs0 cs ty (0, 0) hh, hs, fun j c u h3 h4 => RepC.ext hx (hr j c u h3 h4)⟩
    · rw [List.getElem?_set_ne (by omega)] at h1
      have hne : b' ≠ b := fun e' => e (h.obob l' l b' h2 (e' ▸ hb))
      exact h.objKeep hx h1 h2 (heap_setRow_other w b b' cs hne) (h.obj l' rw' b' h1 h2).1
  · exact h.arrKeep hx h1 h2 (fun b' hb' => heap_setRow_other w b b' cs (fun e => by subst e; exact h.obar l k v _ hb h2 hb')) (fun _ _ => rfl)

/-- An own array more, of whatever row that the world owns and no other name knows. -/
theorem Inv.newArr (h : Inv g w V A) (hf : Fr w0 g0 w g) (r : Arr) (v : Value) (xs : List Value) (h1 : ∀ row ∈ r.rows, row.length = r.sz) (ho : w.ownsRow 0 r.ety r.sz v r.rows.length xs)
    (hr : ∀ (j : Nat) x u, r.rows.flatten[j]? = some x → xs[j]? = some u → RepD g.im w x u)
    (hb : ∀ b, v.ownBlock = some b → g.im b = 0 ∧ w0.heap.size ≤ b ∧ (∀ l : Nat, g.ob[l]? ≠ some b) ∧ ∀ (k : Nat) v', g.ar[k]? = some v' → v'.ownBlock ≠ some b) :
    ∃ g', g'.im = g.im ∧ g'.ob = g.ob ∧ g'.ar = g.ar ++ [v] ∧ Inv g' w V (A ++ [r]) ∧ Ext g w A g' w (A ++ [r]) ∧ Fr w0 g0 w g' := by
  have hx : Ext g w A { g with ar := g.ar ++ [v] } w (A ++ [r]) := by
    refine ⟨fun _ _ h => h, .refl _ _, fun k r' hk => ⟨r', ?_, rfl, Nat.le_refl _, fun _ => ?_⟩⟩
    · rw [List.getElem?_append_left (List.getElem?_eq_some_iff.1 hk).1]; exact hk
    · show (g.ar ++ [v])[k]? = _
      rw [List.getElem?_append_left (by rw [h.arl]; exact (List.getElem?_eq_some_iff.1 hk).1)]
  have hall : ∀ (k : Nat) (v' : Value), (g.ar ++ [v])[k]? = some v' → g.ar[k]? = some v' ∨ (k = A.length ∧ v' = v) := fun k v' hk => by
    rcases Nat.lt_or_ge k g.ar.length with h1 | h1
    · rw [List.getElem?_append_left h1] at hk; exact .inl hk
    · rw [List.getElem?_append_right h1] at hk
      have h0 : k - g.ar.length = 0 := by
        have := (List.getElem?_eq_some_iff.1 hk).1
        simp at this; omega
      rw [h0] at hk; simp at hk
      exact .inr ⟨by rw [← h.arl]; omega, hk.symm⟩
  refine ⟨{ g with ar := g.ar ++ [v] }, rfl, rfl, rfl, ⟨h.obl, by simp [h.arl], fun l row b h2 h3 => ?_, fun k r' v' h2 h3 => ?_, h.obob, fun k k' v1 v2 b h2 h3 h4 h5 => ?_, fun l k v' b h2 h3 => ?_, h.fresh⟩, hx, ?_⟩
  · exact h.objKeep hx h2 h3 rfl (h.obj l row b h2 h3).1
  · rcases hall k v' h3 with h4 | ⟨h4, h5⟩
    · have h6 : A[k]? = some r' := by
        have : k < A.length := by rw [← h.arl]; exact (List.getElem?_eq_some_iff.1 h4).1
        rwa [List.getElem?_append_left this] at h2
      exact h.arrKeep hx h6 h4 (fun _ _ => rfl) (fun _ _ => rfl)
    · subst h4; subst h5
      simp at h2; subst h2
      exact ⟨h1, fun b hv => by show g.im b ≤ _; rw [(hb b hv).1]; exact Nat.zero_le _, xs, ho, hr⟩
  · rcases hall k v1 h2 with h6 | ⟨h6, h7⟩ <;> rcases hall k' v2 h3 with h8 | ⟨h8, h9⟩
    · exact h.arar k k' v1 v2 b h6 h8 h4 h5
    · subst h9; exact absurd h4 ((hb b h5).2.2.2 k v1 h6)
    · subst h7; exact absurd h5 ((hb b h4).2.2.2 k' v2 h8)
    · omega
  · rcases hall k v' h3 with h4 | ⟨h4, h5⟩
    · exact h.obar l k v' b h2 h4
    · subst h5; intro hv; exact (hb b hv).2.2.1 l h2
  · refine ⟨hf.os, hf.tape, hf.output, hf.size, hf.blk, hf.imeq, hf.ob, fun k v' b h2 h3 => ?_⟩
    rcases hall k v' h2 with h4 | ⟨h4, h5⟩
    · exact hf.ar k v' b h4 h3
    · subst h5; exact (hb b h3).2.1
end
end Go.Av
