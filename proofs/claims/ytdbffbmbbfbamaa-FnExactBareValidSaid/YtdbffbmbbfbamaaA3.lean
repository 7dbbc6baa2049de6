/- Steps of memory, continued: an own array grows by append, is stored into, is sealed to plain data. Each keeps the invariant. -/
import Derived.Test.YtdbffbmbbfbamaaA2
namespace Go.Av
open Go

theorem flatten_at {α : Type} {sz : Nat} : ∀ {rows : List (List α)}, (∀ row ∈ rows, row.length = sz) → ∀ {i j : Nat} {row : List α} {x : α}, rows[i]? = some row → row[j]? = some x → rows.flatten[i * sz + j]? = some x
  | [], _, i, j, row, x, h, _ => by simp at h
  | r :: rs, hl, 0, j, row, x, h, hx => by
    simp at h; subst h
    have hj := (List.getElem?_eq_some_iff.1 hx).1
    simp only [List.flatten_cons, Nat.zero_mul, Nat.zero_add]
    rw [List.getElem?_append_left hj]; exact hx
  | r :: rs, hl, i + 1, j, row, x, h, hx => by
    simp at h
    have hr : r.length = sz := hl r (by simp)
    have ih := flatten_at (fun q hq => hl q (by simp [hq])) h hx
    simp only [List.flatten_cons]
    rw [List.getElem?_append_right (by rw [hr, Nat.add_mul]; omega)]
    rwa [show (i + 1) * sz + j - r.length = i * sz + j by rw [hr, Nat.add_mul]; omega]

theorem flatten_len {α : Type} {sz : Nat} : ∀ {rows : List (List α)}, (∀ row ∈ rows, row.length = sz) → rows.flatten.length = rows.length * sz
  | [], _ => by simp
  | r :: rs, hl => by
    have hr : r.length = sz := hl r (by simp)
    have ih := flatten_len (rows := rs) (fun q hq => hl q (by simp [hq]))
    simp only [List.flatten_cons, List.length_append, List.length_cons, ih, hr, Nat.add_mul]; omega

/-- Some cells of a list anew. -/
def splice {α : Type} (l : List α) (off : Nat) (ds : List α) : List α := l.take off ++ ds ++ l.drop (off + ds.length)

theorem splice_len {α : Type} {l : List α} {off : Nat} {ds : List α} (h : off + ds.length ≤ l.length) : (splice l off ds).length = l.length := by
  simp [splice]; omega

theorem splice_at {α : Type} {l : List α} {off : Nat} {ds : List α} (h : off + ds.length ≤ l.length) (j : Nat) : (splice l off ds)[j]? = if off ≤ j ∧ j < off + ds.length then ds[j - off]? else l[j]? := by
  simp only [splice, List.append_assoc]
  by_cases h1 : j < off
  · rw [if_neg (by omega), List.getElem?_append_left (by simp; omega), List.getElem?_take, if_pos h1]
  · by_cases h2 : j < off + ds.length
    · rw [if_pos (by omega), List.getElem?_append_right (by simp; omega), List.getElem?_append_left (by simp; omega)]
      congr 1; simp; omega
    · rw [if_neg (by omega), List.getElem?_append_right (by simp; omega), List.getElem?_append_right (by simp; omega), List.getElem?_drop]
      congr 1; simp; omega

theorem flatten_splice {α : Type} {sz : Nat} : ∀ {rows : List (List α)}, (∀ row ∈ rows, row.length = sz) → ∀ {i off : Nat} {row ds : List α}, rows[i]? = some row → off + ds.length ≤ sz →
    (rows.set i (splice row off ds)).flatten = splice rows.flatten (i * sz + off) ds
  | [], _, i, _, row, _, h, _ => by simp at h
  | r :: rs, hl, 0, off, row, ds, h, ho => by
    simp at h; subst h
    have hr : r.length = sz := hl r (by simp)
    simp only [List.set_cons_zero, List.flatten_cons, Nat.zero_mul, Nat.zero_add, splice]
    rw [List.take_append_of_le_length (by omega), List.drop_append_of_le_length (by omega)]
    simp
  | r :: rs, hl, i + 1, off, row, ds, h, ho => by
    simp at h
    have hr : r.length = sz := hl r (by simp)
    have ih := flatten_splice (fun q hq => hl q (by simp [hq])) h ho
    simp only [List.set_cons_succ, List.flatten_cons, ih]
    have e : (i + 1) * sz + off = r.length + (i * sz + off) := by rw [hr, Nat.add_mul]; omega
    rw [e]
    simp only [splice, Nat.add_assoc, List.take_length_add_append, List.drop_length_add_append, List.append_assoc]

section
variable {g g' g0 : Gh} {w w' w0 : World} {V V' : List (List CV)} {A A' : List Arr} {P : Program}

/-- The rows of an own array, as data of a slice, once they are read-only. -/
theorem repD_of_own {im : Nat → Nat} {r : Arr} {v : Value} {xs : List Value} (h1 : ∀ row ∈ r.rows, row.length = r.sz) (ho : w.ownsRow 0 r.ety r.sz v r.rows.length xs)
    (hr : ∀ (j : Nat) x u, r.rows.flatten[j]? = some x → xs[j]? = some u → RepD im w x u) (hi : ∀ b, v.ownBlock = some b → r.rows.length * r.sz ≤ im b) : RepD im w (.sl r.rows) v := by
  simp only [RepD]
  have ho' := ho
  rcases ho.2 with ⟨hv, hn⟩ | ⟨b, cap, cur, hv, _, hh, hnc, _, hcs, htake⟩
  · have hn' : r.rows = [] := List.eq_nil_of_length_eq_zero hn
    exact ⟨none, 0, by rw [hv, hn], by omega, .inl hn'⟩
  · refine ⟨some ⟨b, 0, none⟩, cap, hv, hnc, .inr ⟨b, 0, r.sz, rfl, by have := hi b (by rw [hv]; rfl); omega, ?_⟩⟩
    refine RepRows.mk fun i row hrow => ⟨h1 row (List.mem_of_getElem? hrow), RepRow.mk fun j x hx => ?_⟩
    have hf := flatten_at h1 hrow hx
    have hlt : i * r.sz + j < xs.length := by
      have := (List.getElem?_eq_some_iff.1 hf).1
      rw [flatten_len h1] at this; rw [ho'.1]; exact this
    have hu : xs[i * r.sz + j]? = some xs[i * r.sz + j] := List.getElem?_eq_getElem hlt
    refine ⟨_, ?_, hr _ x _ hf hu⟩
    have hc := ho'.cells (g := b) (by rw [hv]; rfl) _ _ hu
    have hadd : (⟨b, 0, none⟩ : Addr).add (i * r.sz + j) = ⟨b, 0 + i * r.sz + j, none⟩ := by unfold Addr.add; split <;> simp_all
    rwa [hadd] at hc

/-- An own array is sealed: from here on its cells are read-only. -/
theorem Inv.seal (h : Inv g w V A) (hf : Fr w0 g0 w g) {k : Nat} {r : Arr} {v : Value} (hk : A[k]? = some r) (hv : g.ar[k]? = some v) :
    ∃ g', Inv g' w V (A.set k { r with wr := false }) ∧ Ext g w A g' w (A.set k { r with wr := false }) ∧ Fr w0 g0 w g' ∧ g'.ar = g.ar ∧ g'.ob = g.ob ∧ RepD g'.im w (.sl r.rows) v := by
  obtain ⟨h1, h2, xs, ho, hr⟩ := h.arr k r v hk hv
  let im' : Nat → Nat := fun b => if v.ownBlock = some b then max (g.im b) (r.rows.length * r.sz) else g.im b
  have hgr : Grows g.im w im' w := ⟨fun b => by simp only [im']; split <;> omega, fun _ _ _ => rfl⟩
  have hlt := (List.getElem?_eq_some_iff.1 hk).1
  have hset : ∀ k', (A.set k { r with wr := false })[k']? = if k' = k then some { r with wr := false } else A[k']? := fun k' => by
    by_cases e : k' = k
    · subst e; simp [hlt]
    · rw [if_neg e, List.getElem?_set_ne (by omega)]
  have hx : Ext g w A { g with im := im' } w (A.set k { r with wr := false }) := by
    refine ⟨fun _ _ h => h, hgr, fun k' r' hk' => ?_⟩
    rw [hset]
    by_cases e : k' = k
    · subst e
      obtain rfl : r = r' := by rw [hk] at hk'; exact Option.some.inj hk'
      exact ⟨{ r with wr := false }, by simp, rfl, Nat.le_refl _, fun _ => rfl⟩
    · exact ⟨r', by simp [e, hk'], rfl, Nat.le_refl _, fun _ => rfl⟩
  have hbk : ∀ b, v.ownBlock = some b → b < w.heap.size := fun b hb => h.arLt hv hb
  refine ⟨{ g with im := im' }, ⟨h.obl, by rw [h.arl]; simp, fun l row b h3 h4 => ?_, fun k' r' v' h3 h4 => ?_, h.obob, h.arar, h.obar, fun b hb => ?_⟩, hx, ?_, rfl, rfl, ?_⟩
  · refine h.objKeep hx h3 h4 rfl ?_
    show im' b = 0
    simp only [im']
    rw [if_neg (h.obar l k v b h4 hv)]; exact (h.obj l row b h3 h4).1
  · rw [hset] at h3
    by_cases e : k' = k
    · subst e
      simp at h3; subst h3
      obtain rfl : v = v' := by rw [hv] at h4; exact Option.some.inj h4
      refine ⟨h1, fun b hb => ?_, xs, ho, fun j x u h5 h6 => RepD.grows hgr x u (hr j x u h5 h6)⟩
      show im' b ≤ _
      simp only [im', hb, if_true]
      have := h2 b hb
      simp only [Bool.false_eq_true, if_false]
      split at this <;> omega
    · simp [e] at h3
      refine h.arrKeep hx h3 h4 (fun _ _ => rfl) (fun b hb => ?_)
      show im' b = g.im b
      simp only [im']
      rw [if_neg (fun e' => e (h.arar k' k v' v b h4 hv hb e'))]
  · show im' b = 0
    simp only [im']
    rw [if_neg (fun e => by have := hbk b e; omega)]; exact h.fresh b hb
  · refine ⟨hf.os, hf.tape, hf.output, hf.size, hf.blk, fun b hb => ?_, hf.ob, hf.ar⟩
    show im' b = _
    simp only [im']
    rw [if_neg (fun e => by have := hf.ar k v b hv e; omega)]; exact hf.imeq b hb
  · exact repD_of_own h1 ho (fun j x u h5 h6 => RepD.grows hgr x u (hr j x u h5 h6)) (fun b hb => by simp only [im', hb, if_true]; omega)

/-- append: in place, or in a new block. -/
theorem run_append_av (t ty e : TypeId) (i : TypeInfo) (z : Value) (ht : P.underlying t = some (.slice e)) (hi : P.info? e = some i) (hz : i.zero = some z)
    (hzs : z.cells.size = i.size) (v : Value) (n : Nat) (xs : List Value) (hown : w.ownsRow 0 e i.size v n xs)
    (y : Value) (m : Nat) (news : List Value) (hy : (m = 0 ∧ news = [] ∧ ∃ a c, y = .slice a 0 c) ∨ ∃ a c, y = .slice (some a) m c ∧ news.length = m * i.size ∧ ∀ j u, news[j]? = some u → w.cell? (a.add j) = some u)
    (h1 : ∀ u ∈ news, u.oneCell' = true) (h63 : n + m ≤ maxLen) (hbytes : (n + m) * i.bytes ≤ 140737488355328) :
    ∃ v' w', (Builtin.append_ #[t, t] ty #[v, y]).run P w = .ok v' w' ∧ w'.ownsRow 0 e i.size v' (n + m) (xs ++ news) ∧
      ((v' = v ∧ w' = w) ∨ (∃ b cs, v.ownBlock = some b ∧ v'.ownBlock = some b ∧ w' = w.setRow b cs) ∨ (∃ o, v'.ownBlock = some w.heap.size ∧ w' = w.drew.alloc o)) := by
  have hlo : xs.length = n * i.size := hown.1
  by_cases hm : m = 0
  · subst hm
    have hn0 : news = [] := by
      rcases hy with ⟨_, h, _⟩ | ⟨_, _, _, h, _⟩
      · exact h
      · exact List.eq_nil_of_length_eq_zero (by simpa using h)
    obtain ⟨a, c, rfl⟩ : ∃ a c, y = .slice a 0 c := by
      rcases hy with ⟨_, _, h⟩ | ⟨a, c, h, _⟩
      · exact h
      · exact ⟨some a, c, h⟩
    subst hn0
    refine ⟨v, w, ?_, by simpa using hown, .inl ⟨rfl, rfl⟩⟩
    have hfc : ∀ w : World, (Builtin.firstCells i.size 0 (.slice a 0 c)).run P w = .ok #[] w := fun w => by
      cases a <;> simp [Builtin.firstCells, loadCells, loadCellsFrom]
    rcases hown.2 with ⟨rfl, rfl⟩ | ⟨g, cap, cur, rfl, _, _, hnc, _⟩
    · simp [Builtin.append_, run_underlying ht, sizeOf, typeInfo, hi, Builtin.lenOf, hfc]
    · simp [Builtin.append_, run_underlying ht, sizeOf, typeInfo, hi, Builtin.lenOf, hfc, hnc, storeCells]
  · rcases hy with ⟨h, _⟩ | ⟨a, c, rfl, hl, hnews⟩
    · exact absurd h hm
    have hsmall : n + m ≤ 9223372036854775807 := by simp only [maxLen] at h63; omega
    have hlen : (xs ++ news).length = (n + m) * i.size := by rw [List.length_append, hown.1, hl, Nat.add_mul]
    have grown : ∀ (old : Nat), old < n + m →
        (w.drew.alloc (.cells (xs.toArray ++ news.toArray ++ Builtin.zeroCells z.cells (grownCap w (n + m) old e - (n + m))) e)).ownsRow 0 e i.size
          (.slice (some ⟨w.heap.size, 0, none⟩) (n + m) (grownCap w (n + m) old e)) (n + m) (xs ++ news) := by
      intro old ho
      have hge := grownCap_ge w (n + m) old e
      have hcm : grownCap w (n + m) old e ≤ maxLen := grownCap_le_maxLen w (n + m) old e h63
      refine ⟨hlen, .inr ⟨w.heap.size, _, _, rfl, Nat.zero_le _, heap_alloc_new w.drew _, hge, hcm, ?_, ?_⟩⟩
      · simp only [Array.size_append, List.size_toArray, size_zeroCells, hzs, hlo, hl, ← Nat.add_mul]
        congr 1
        omega
      · simp only [Array.toList_append, List.append_assoc]
        rw [← List.append_assoc, ← hlen]
        exact List.take_left
    rcases hown.2 with ⟨rfl, rfl⟩ | ⟨g, cap, cur, rfl, _, hg, hnc, hcm, hcs, htake⟩
    · have hx : xs = [] := List.eq_nil_of_length_eq_zero (by simpa using hlo)
      subst hx
      have hr := run_append_nil (P := P) w t ty e i z ht hi hz a m c news hl hnews (by omega) (by omega) (by have hb := hbytes; simp only [Nat.zero_add] at hb; omega)
      have hgr := grown 0 (by omega)
      simp only [Nat.zero_add, List.nil_append, Array.empty_append] at hgr ⊢
      exact ⟨_, _, hr, hgr, .inr (.inr ⟨_, rfl, rfl⟩)⟩
    · by_cases hroom : n + m ≤ cap
      · have hfit : n * i.size + news.length ≤ cur.size := by rw [hl, hcs, ← Nat.add_mul]; exact Nat.mul_le_mul_right _ hroom
        have hr := run_append_room (P := P) w t ty e i ht hi g n cap cur hg a m c news hl hnews h1 hroom hfit
        refine ⟨_, _, hr, ⟨hlen, .inr ⟨g, cap, _, rfl, Nat.zero_le _, setRow_heap w g cur _ e _ hg, hroom, hcm, ?_, ?_⟩⟩, .inr (.inl ⟨g, _, rfl, rfl, rfl⟩)⟩
        · simp only [List.size_toArray, List.length_append, List.length_take, List.length_drop, Array.length_toList]
          omega
        · rw [htake, ← hlen]
          exact List.take_left
      · have holds : ∀ j u, xs[j]? = some u → w.cell? ((⟨g, 0, none⟩ : Addr).add j) = some u := hown.cells (g := g) rfl
        have hr := run_append_grow (P := P) w t ty e i z ht hi hz ⟨g, 0, none⟩ n cap xs hlo holds a m c news hl hnews (by omega) (by omega) (growslice_fits (by omega) hbytes)
        exact ⟨_, _, hr, grown cap (by omega), .inr (.inr ⟨_, rfl, rfl⟩)⟩

theorem set_get {α : Type} {l : List α} {k : Nat} {x y : α} (h : l[k]? = some x) (k' : Nat) : (l.set k y)[k']? = if k' = k then some y else l[k']? := by
  have hlt := (List.getElem?_eq_some_iff.1 h).1
  by_cases e : k' = k
  · subst e; simp [hlt]
  · rw [if_neg e, List.getElem?_set_ne (by omega)]

theorem rows_add {r : Arr} {nr : List (List DV)} {e : TypeId} {v' : Value} {xs news : List Value} {im : Nat → Nat} (h1 : ∀ row ∈ r.rows, row.length = r.sz) (hn : ∀ row ∈ nr, row.length = r.sz)
    (hxl : xs.length = r.rows.length * r.sz)
    (hr : ∀ (j : Nat) x u, r.rows.flatten[j]? = some x → xs[j]? = some u → RepD im w' x u) (hr2 : ∀ (j : Nat) x u, nr.flatten[j]? = some x → news[j]? = some u → RepD im w' x u)
    (ho : w'.ownsRow 0 e r.sz v' (r.rows.length + nr.length) (xs ++ news)) :
    (∀ row ∈ r.rows ++ nr, row.length = r.sz) ∧ w'.ownsRow 0 e r.sz v' (r.rows ++ nr).length (xs ++ news) ∧ ∀ (j : Nat) x u, (r.rows ++ nr).flatten[j]? = some x → (xs ++ news)[j]? = some u → RepD im w' x u := by
  refine ⟨fun row hrow => ?_, by simpa using ho, fun j x u hj hu => ?_⟩
  · rcases List.mem_append.1 hrow with h | h
    · exact h1 row h
    · exact hn row h
  · rw [List.flatten_append] at hj
    have hfl := flatten_len h1
    by_cases hlt : j < xs.length
    · rw [List.getElem?_append_left (by omega)] at hj
      rw [List.getElem?_append_left hlt] at hu
      exact hr j x u hj hu
    · rw [List.getElem?_append_right (by omega)] at hj
      rw [List.getElem?_append_right (by omega)] at hu
      rw [hfl, ← hxl] at hj
      exact hr2 _ x u hj hu

/-- An own array after an append. -/
theorem Inv.grow (h : Inv g w V A) (hf : Fr w0 g0 w g) {k : Nat} {r : Arr} {v v' : Value} (hk : A[k]? = some r) (hv : g.ar[k]? = some v) (nr : List (List DV)) (hne : nr ≠ []) (news : List Value)
    (hn : ∀ row ∈ nr, row.length = r.sz) (hr2 : ∀ (j : Nat) x u, nr.flatten[j]? = some x → news[j]? = some u → RepD g.im w x u)
    (ho' : ∀ xs, w.ownsRow 0 r.ety r.sz v r.rows.length xs → w'.ownsRow 0 r.ety r.sz v' (r.rows.length + nr.length) (xs ++ news))
    (hc : (v' = v ∧ w' = w) ∨ (∃ b cs, v.ownBlock = some b ∧ v'.ownBlock = some b ∧ w' = w.setRow b cs) ∨ (∃ o, v'.ownBlock = some w.heap.size ∧ w' = w.drew.alloc o)) :
    ∃ g', Inv g' w' V (A.set k { r with rows := r.rows ++ nr }) ∧ Ext g w A g' w' (A.set k { r with rows := r.rows ++ nr }) ∧ Fr w0 g0 w' g' ∧ g'.ar[k]? = some v' ∧ g'.ob = g.ob ∧ g'.im = g.im := by
  obtain ⟨h1, h2, xs, ho, hr⟩ := h.arr k r v hk hv
  have ho1 := ho' xs ho
  have hlt := (List.getElem?_eq_some_iff.1 hk).1
  have hnl : 0 < nr.length := List.length_pos_iff.2 hne
  -- the world
  have hsz : w.heap.size ≤ w'.heap.size := by
    rcases hc with ⟨_, rfl⟩ | ⟨b, cs, _, _, rfl⟩ | ⟨o, _, rfl⟩
    · exact Nat.le_refl _
    · simp
    · simp
  have hoth : ∀ b, b < w.heap.size → v.ownBlock ≠ some b → w'.heap[b]? = w.heap[b]? := by
    intro b hb hne
    rcases hc with ⟨_, rfl⟩ | ⟨b', cs, hb', _, rfl⟩ | ⟨o, _, rfl⟩
    · rfl
    · exact heap_setRow_other w b' b cs (fun e => hne (by rw [e]; exact hb'))
    · exact RowKit.Below.heap_alloc w.drew o b hb
  have hcell : ∀ b o, o < g.im b → w'.cell? ⟨b, o, none⟩ = w.cell? ⟨b, o, none⟩ := by
    intro b o hlo
    have hb := h.imLt hlo
    by_cases e : v.ownBlock = some b
    · rcases hc with ⟨_, rfl⟩ | ⟨b', cs, hb', hb'', rfl⟩ | ⟨o', _, rfl⟩
      · rfl
      · obtain rfl : b = b' := by rw [e] at hb'; exact Option.some.inj hb'
        have hle := h2 b e
        have hlo' : o < xs.length := by rw [ho.1]; split at hle <;> omega
        have hu : xs[o]? = some xs[o] := List.getElem?_eq_getElem hlo'
        have c1 := ho.cells (g := b) e _ _ hu
        have c2 := ho1.cells (g := b) hb'' o xs[o] (by rw [List.getElem?_append_left hlo']; exact hu)
        have hadd : (⟨b, 0, none⟩ : Addr).add o = ⟨b, o, none⟩ := by unfold Addr.add; split <;> simp_all
        rw [hadd] at c1 c2
        rw [c1, c2]
      · exact World.cell?_of_block (a := ⟨b, o, none⟩) (RowKit.Below.heap_alloc w.drew o' b hb)
    · exact World.cell?_of_block (a := ⟨b, o, none⟩) (hoth b hb e)
  have hgr : Grows g.im w g.im w' := ⟨fun _ => Nat.le_refl _, hcell⟩
  have hvl : g.ar.length = A.length := h.arl
  have hx : Ext g w A { g with ar := g.ar.set k v' } w' (A.set k { r with rows := r.rows ++ nr }) := by
    refine ⟨fun _ _ h => h, hgr, fun k' r' hk' => ?_⟩
    rw [set_get hk]
    by_cases e : k' = k
    · subst e
      obtain rfl : r = r' := by rw [hk] at hk'; exact Option.some.inj hk'
      exact ⟨{ r with rows := r.rows ++ nr }, by simp, rfl, by simp, fun he => by simp at he; exact absurd he hne⟩
    · refine ⟨r', by simp [e, hk'], rfl, Nat.le_refl _, fun _ => ?_⟩
      show (g.ar.set k v')[k']? = g.ar[k']?
      rw [set_get hv, if_neg e]
  have hvb : ∀ b, v'.ownBlock = some b → (v.ownBlock = some b) ∨ b = w.heap.size := by
    intro b hb
    rcases hc with ⟨rfl, _⟩ | ⟨b', cs, h3, h4, _⟩ | ⟨o, h3, _⟩
    · exact .inl hb
    · rw [h4] at hb; exact .inl (h3.trans hb)
    · rw [h3] at hb; exact .inr (Option.some.inj hb).symm
  have hadd := rows_add h1 hn ho.1 (fun j x u hj hu => RepD.grows hgr x u (hr j x u hj hu)) (fun j x u hj hu => RepD.grows hgr x u (hr2 j x u hj hu)) ho1
  refine ⟨{ g with ar := g.ar.set k v' }, ⟨h.obl, by simp [h.arl], fun l row b h3 h4 => ?_, fun k' r' u h3 h4 => ?_, h.obob, fun k1 k2 u1 u2 b h3 h4 h5 h6 => ?_, fun l k' u b h3 h4 => ?_, fun b hb => h.fresh b (by omega)⟩, hx, ?_, ?_, rfl, rfl⟩
  · exact h.objKeep hx h3 h4 (hoth b (h.obLt h4) (h.obar l k v b h4 hv)) (h.obj l row b h3 h4).1
  · rw [set_get hk] at h3
    have h4' : (g.ar.set k v')[k']? = some u := h4
    rw [set_get hv] at h4'
    by_cases e : k' = k
    · subst e
      simp at h3 h4'; subst h3; subst h4'
      refine ⟨hadd.1, fun b hb => ?_, xs ++ news, hadd.2.1, hadd.2.2⟩
      show g.im b ≤ _
      rcases hvb b hb with h5 | h5
      · have := h2 b h5
        simp only [List.length_append, Nat.add_mul]
        cases hwr : r.wr <;> simp only [hwr, if_true, Bool.false_eq_true, if_false] at this ⊢ <;> omega
      · rw [h.fresh b (by omega)]; exact Nat.zero_le _
    · simp [e] at h3 h4'
      refine h.arrKeep hx h3 h4' (fun b hb => hoth b (h.arLt h4' hb) (fun e' => e (h.arar k' k u v b h4' hv hb e'))) (fun _ _ => rfl)
  · have h3' : (g.ar.set k v')[k1]? = some u1 := h3
    have h4' : (g.ar.set k v')[k2]? = some u2 := h4
    rw [set_get hv] at h3' h4'
    by_cases e1 : k1 = k <;> by_cases e2 : k2 = k
    · omega
    · simp [e1, e2] at h3' h4'; subst h3'
      rcases hvb b h5 with h7 | h7
      · exact absurd (h.arar k2 k u2 v b h4' hv h6 h7) e2
      · have := h.arLt h4' h6; omega
    · simp [e1, e2] at h3' h4'; subst h4'
      rcases hvb b h6 with h7 | h7
      · exact absurd (h.arar k1 k u1 v b h3' hv h5 h7) e1
      · have := h.arLt h3' h5; omega
    · simp [e1, e2] at h3' h4'
      exact h.arar k1 k2 u1 u2 b h3' h4' h5 h6
  · have h4' : (g.ar.set k v')[k']? = some u := h4
    rw [set_get hv] at h4'
    by_cases e : k' = k
    · simp [e] at h4'; subst h4'
      intro hb
      rcases hvb b hb with h7 | h7
      · exact h.obar l k v b h3 hv h7
      · have := h.obLt h3; omega
    · simp [e] at h4'
      exact h.obar l k' u b h3 h4'
  · have hos : w'.os = w.os ∧ w'.tape = w.tape ∧ w'.output = w.output := by
      rcases hc with ⟨_, rfl⟩ | ⟨b, cs, _, _, rfl⟩ | ⟨o, _, rfl⟩ <;> exact ⟨rfl, rfl, rfl⟩
    refine ⟨hos.1.trans hf.os, hos.2.1.trans hf.tape, hos.2.2.trans hf.output, Nat.le_trans hf.size hsz, fun b h3 h4 => ?_, hf.imeq, hf.ob, fun k' u b h3 h4 => ?_⟩
    · rw [hoth b (Nat.lt_of_lt_of_le h3 hf.size) (fun e => by have := hf.ar k v b hv e; omega)]
      exact hf.blk b h3 h4
    · have h3' : (g.ar.set k v')[k']? = some u := h3
      rw [set_get hv] at h3'
      by_cases e : k' = k
      · simp [e] at h3'; subst h3'
        rcases hvb b h4 with h7 | h7
        · exact hf.ar k v b hv h7
        · rw [h7]; exact hf.size
      · simp [e] at h3'
        exact hf.ar k' u b h3' h4
  · show (g.ar.set k v')[k]? = some v'
    rw [set_get hv]; simp

/-- A store into an own array that nobody else reads. -/
theorem Inv.storeArr (h : Inv g w V A) (hf : Fr w0 g0 w g) {k : Nat} {r : Arr} {v : Value} (hk : A[k]? = some r) (hv : g.ar[k]? = some v) (hw : r.wr = true) {i off b : Nat} {row ds : List DV} (hi : r.rows[i]? = some row)
    (ho : off + ds.length ≤ r.sz) (hb : v.ownBlock = some b) (vs : List Value) (hvl : vs.length = ds.length) (hds : ∀ (j : Nat) x u, ds[j]? = some x → vs[j]? = some u → RepD g.im w x u) :
    ∃ cur ty cap, v = .slice (some ⟨b, 0, none⟩) r.rows.length cap ∧ w.heap[b]? = some (.cells cur ty (0, 0)) ∧ i * r.sz + off + vs.length ≤ cur.size ∧ i * r.sz + off + vs.length ≤ r.rows.length * r.sz ∧
      Inv g (w.setRow b (splice cur.toList (i * r.sz + off) vs).toArray) V (A.set k { r with rows := r.rows.set i (splice row off ds) }) ∧
      Ext g w A g (w.setRow b (splice cur.toList (i * r.sz + off) vs).toArray) (A.set k { r with rows := r.rows.set i (splice row off ds) }) ∧ Fr w0 g0 (w.setRow b (splice cur.toList (i * r.sz + off) vs).toArray) g := by
  obtain ⟨h1, h2, xs, hown, hr⟩ := h.arr k r v hk hv
  have him : g.im b = 0 := by have := h2 b hb; rw [hw] at this; simpa using this
  rcases hown.2 with ⟨rfl, _⟩ | ⟨b', cap, cur, rfl, _, hh, hnc, hcm, hcs, htake⟩
  · simp [Value.ownBlock] at hb
  simp [Value.ownBlock] at hb; subst hb
  have hlt := (List.getElem?_eq_some_iff.1 hi).1
  have hmul : (i + 1) * r.sz ≤ r.rows.length * r.sz := Nat.mul_le_mul_right _ hlt
  have hmul2 : r.rows.length * r.sz ≤ cap * r.sz := Nat.mul_le_mul_right _ hnc
  rw [Nat.add_mul, Nat.one_mul] at hmul
  have hfit : i * r.sz + off + vs.length ≤ r.rows.length * r.sz := by omega
  have hfit2 : i * r.sz + off + vs.length ≤ cur.size := by omega
  have hx1 := Ext.setRow g w A b' (splice cur.toList (i * r.sz + off) vs).toArray him
  have hx : Ext g w A g (w.setRow b' (splice cur.toList (i * r.sz + off) vs).toArray) (A.set k { r with rows := r.rows.set i (splice row off ds) }) := by
    refine ⟨hx1.ob, hx1.gr, fun k' r' hk' => ?_⟩
    rw [set_get hk]
    by_cases e : k' = k
    · subst e
      obtain rfl : r = r' := by rw [hk] at hk'; exact Option.some.inj hk'
      exact ⟨{ r with rows := r.rows.set i (splice row off ds) }, by simp, rfl, by simp, fun _ => rfl⟩
    · exact ⟨r', by simp [e, hk'], rfl, Nat.le_refl _, fun _ => rfl⟩
  refine ⟨cur, r.ety, cap, rfl, hh, hfit2, hfit, ⟨h.obl, by simp [h.arl], fun l row' b h3 h4 => ?_, fun k' r' u h3 h4 => ?_, h.obob, h.arar, h.obar, fun b hb => h.fresh b (by simpa using hb)⟩, hx, hf.setRow b' _ (.inr (hf.ar k _ b' hv rfl))⟩
  · exact h.objKeep hx h3 h4 (heap_setRow_other w b' b _ (fun e => by subst e; exact h.obar l k _ b h4 hv rfl)) (h.obj l row' b h3 h4).1
  · rw [set_get hk] at h3
    by_cases e : k' = k
    · subst e
      simp at h3; subst h3
      obtain rfl : Value.slice (some ⟨b', 0, none⟩) r.rows.length cap = u := by rw [hv] at h4; exact Option.some.inj h4
      have hrl : row.length = r.sz := h1 row (List.mem_of_getElem? hi)
      refine ⟨fun q hq => ?_, fun b hb => ?_, splice xs (i * r.sz + off) vs, ?_, fun j x u hj hu => ?_⟩
      · rcases List.mem_or_eq_of_mem_set hq with h5 | h5
        · exact h1 q h5
        · rw [h5, splice_len (by omega)]; exact hrl
      · simp [Value.ownBlock] at hb; subst hb; rw [him]; exact Nat.zero_le _
      · refine ⟨?_, .inr ⟨b', cap, (splice cur.toList (i * r.sz + off) vs).toArray, ?_, Nat.zero_le _, setRow_heap w b' cur _ r.ety (0, 0) hh, by simpa using hnc, hcm, ?_, ?_⟩⟩
        · rw [splice_len (by rw [hown.1]; exact hfit)]; simpa using hown.1
        · simp
        · simp only [List.size_toArray]
          rw [splice_len (by simpa using hfit2)]; simpa using hcs
        · apply List.ext_getElem?
          intro j
          simp only [List.length_set]
          rw [List.getElem?_take, splice_at (by simpa using hfit2), splice_at (by rw [hown.1]; exact hfit), ← htake, List.getElem?_take]
          split <;> split <;> first | rfl | (rename_i h5 h6; omega)
      · simp only at hj
        rw [flatten_splice h1 hi ho, splice_at (by rw [flatten_len h1]; omega)] at hj
        rw [splice_at (by rw [hown.1]; exact hfit), hvl] at hu
        split at hj
        · rename_i hc
          rw [if_pos hc] at hu
          exact RepD.grows hx.gr x u (hds _ x u hj hu)
        · rename_i hc
          rw [if_neg hc] at hu
          exact RepD.grows hx.gr x u (hr j x u hj hu)
    · simp [e] at h3
      refine h.arrKeep hx h3 h4 (fun b hb => heap_setRow_other w b' b _ (fun e' => by subst e'; exact e (h.arar k' k u _ b h4 hv hb rfl))) (fun _ _ => rfl)
end
end Go.Av
