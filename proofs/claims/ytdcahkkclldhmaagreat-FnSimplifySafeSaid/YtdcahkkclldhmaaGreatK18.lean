/- A part of the library of this seat: a value-semantic program logic over the model, plain models, and walks of functions. -/
import Derived.Test.YtdcahkkclldhmaaGreatK17
import Derived.Sort.OwnSortedInts
import Derived.Shelf.Sort.Plain
import Derived.Shelf.Slices.CompactI
import Derived.Lib.RowBridge
set_option linter.unusedVariables false
set_option linter.unusedSimpArgs false
namespace Go.Av
open Go
section
variable {P : Program} {g g' g0 : Gh} {w w' w0 : World} {V V' : List (List CV)} {A A' : List Arr}
theorem Inv.rewrote (h : Inv g w V A) (hf : Fr w0 g0 w g) {k : Nat} {r : Arr} {v : Value} (hk : A[k]? = some r) (hv : g.ar[k]? = some v) (hw : r.wr = true) {rows' : List (List DV)} {vs : List Value} (hl : rows'.length = r.rows.length) (hrow : ∀ q ∈ rows', q.length = r.sz)
    {b : Nat} (hb : v.ownBlock = some b) (hsz : w.heap.size ≤ w'.heap.size) (ho : w'.os = w.os) (ht : w'.tape = w.tape) (hp : w'.output = w.output) (hoth : ∀ b', b' < w.heap.size → b' ≠ b → w'.heap[b']? = w.heap[b']?)
    (hown : w'.ownsRow 0 r.ety r.sz v r.rows.length vs) (hds : ∀ (j : Nat) x u, rows'.flatten[j]? = some x → vs[j]? = some u → RepD g.im w x u) :
    Inv g w' V (A.set k { r with rows := rows' }) ∧ Ext g w A g w' (A.set k { r with rows := rows' }) ∧ Fr w0 g0 w' g := by
  obtain ⟨h1, h2, _⟩ := h.arr k r v hk hv
  have him : g.im b = 0 := by have := h2 b hb; rw [hw] at this; simpa using this
  have hgr : Grows g.im w g.im w' := ⟨fun _ => Nat.le_refl _, fun b' o hlo => by
    have hne : b' ≠ b := fun e => by subst e; omega
    exact World.cell?_of_block (a := ⟨b', o, none⟩) (hoth b' (h.imLt hlo) hne)⟩
  have hx : Ext g w A g w' (A.set k { r with rows := rows' }) := by
    refine ⟨fun _ _ h => h, hgr, fun k' r' hk' => ?_⟩
    rw [set_get hk]
    by_cases e : k' = k
    · subst e
      obtain rfl : r = r' := by rw [hk] at hk'; exact Option.some.inj hk'
      exact ⟨{ r with rows := rows' }, by simp, rfl, by simp [hl], fun _ => rfl⟩
    · exact ⟨r', by simp [e, hk'], rfl, Nat.le_refl _, fun _ => rfl⟩
  refine ⟨⟨h.obl, by simp [h.arl], fun l row' b' h3 h4 => ?_, fun k' r' u h3 h4 => ?_, h.obob, h.arar, h.obar, fun b' hb' => h.fresh b' (Nat.le_trans hsz hb')⟩, hx, ?_⟩
  · refine h.objKeep hx h3 h4 (hoth b' (h.obLt h4) (fun e => by subst e; exact h.obar l k _ b' h4 hv hb)) (h.obj l row' b' h3 h4).1
  · rw [set_get hk] at h3
    by_cases e : k' = k
    · subst e
      simp at h3; subst h3
      obtain rfl : v = u := by rw [hv] at h4; exact Option.some.inj h4
      refine ⟨hrow, fun b' hb' => ?_, vs, by simpa only [hl] using hown, fun j x u hj hu => RepD.grows hgr x u (hds j x u hj hu)⟩
      rw [hb] at hb'; cases hb'; rw [him]; exact Nat.zero_le _
    · simp [e] at h3
      refine h.arrKeep hx h3 h4 (fun b' hb' => hoth b' (h.arLt h4 hb') (fun e' => by subst e'; exact e (h.arar k' k u _ b' h4 hv hb' hb))) (fun _ _ => rfl)
  · exact ⟨ho.trans hf.os, ht.trans hf.tape, hp.trans hf.output, Nat.le_trans hf.size hsz, fun b' q1 q2 q3 => by
      rw [hoth b' (Nat.lt_of_lt_of_le q1 hf.size) (fun e => by
        subst e
        rcases hf.ar k v b' hv hb with q4 | q4
        · omega
        · exact q3 q4)]
      exact hf.blk b' q1 q2 q3, hf.imeq, hf.ob, hf.ar, hf.arx⟩

/-- Rows of integers. -/
def rI (l : List Int) : List (List DV) := l.map fun n => [.int .i64 n]
theorem rI_len (l : List Int) : (rI l).length = l.length := by simp [rI]
theorem rI_flat (l : List Int) : (rI l).flatten = l.map (DV.int .i64) := by
  induction l with
  | nil => rfl
  | cons x r ih => simp only [rI, List.map_cons, List.flatten_cons] at ih ⊢; rw [ih]; rfl
def sortI (l : List Int) : List Int := l.mergeSort fun x y => decide (x ≤ y)
theorem sortI_len (l : List Int) : (sortI l).length = l.length := by simp [sortI]

theorem rI_cells {im : Nat → Nat} {w : World} {l : List Int} {xs : List Value} (hl : xs.length = (rI l).length * 1) (hr : ∀ (j : Nat) x u, (rI l).flatten[j]? = some x → xs[j]? = some u → RepD im w x u) : xs = l.map (Value.int .i64) := by
  have hxl : xs.length = l.length := by simpa [rI] using hl
  apply List.ext_getElem?
  intro j
  by_cases hj : j < l.length
  · have hu : xs[j]? = some (xs[j]'(by omega)) := List.getElem?_eq_getElem (by omega)
    have hx : (rI l).flatten[j]? = some (.int .i64 l[j]) := by rw [rI_flat]; simp [hj]
    have := hr j _ _ hx hu
    simp only [RepD] at this
    rw [hu, this]; simp [hj]
  · rw [List.getElem?_eq_none (by omega), List.getElem?_eq_none (by simp; omega)]
theorem rI_rep {im : Nat → Nat} {w : World} {l : List Int} {j : Nat} {x : DV} {u : Value} (hj : (rI l).flatten[j]? = some x) (hu : (l.map (Value.int .i64))[j]? = some u) : RepD im w x u := by
  rw [rI_flat] at hj
  simp only [List.getElem?_map, Option.map_eq_some_iff] at hj hu
  obtain ⟨a, ha, rfl⟩ := hj
  obtain ⟨c, hc, rfl⟩ := hu
  rw [ha] at hc; cases hc
  simp only [RepD]

theorem sort_contract {ρ : Go.Shelf.Ren} (Ly : Go.Proofs.Lays.n189 P ρ) (hent : ∀ args w, (callFunc (ρ.f 189) args).run P w = .ok (.enter (ρ.f 189) args) w) {e : TypeId} (l : List Int) (hne : l ≠ []) (hl : l.length ≤ 1099511627776) :
    ACallsG P (ρ.f 189) [.c (.own 0 l.length)] [] [{ sz := 1, ety := e, rows := rI l, wr := true }] (.tup []) [] [{ sz := 1, ety := e, rows := rI (sortI l), wr := true }] := by
  refine ⟨hent, Nat.le_refl _, fun g w vs hI hvl hvr => ?_⟩
  obtain ⟨v, rfl⟩ : ∃ v, vs = #[v] := by
    have : vs.size = 1 := hvl
    exact ⟨vs[0], by apply Array.ext; · simpa using this
                     · intro i h1 h2; simp at h2; subst h2; rfl⟩
  have hv : RepC g w [{ sz := 1, ety := e, rows := rI l, wr := true }] (.own 0 l.length) v := hvr 0 _ v rfl rfl
  obtain ⟨ad, cap, hve, r, hk, _, hq⟩ := hv
  simp only [List.getElem?_cons_zero, Option.some.injEq] at hk
  subst hk
  have hv0 := hq (by simp [rI])
  obtain ⟨h1, _, xs, hown, hr⟩ := hI.arr 0 _ v rfl hv0
  have hlp : 0 < l.length := List.length_pos_iff.2 hne
  have hxs : xs = l.map (Value.int .i64) := rI_cells (by simpa using hown.1) hr
  subst hxs
  rcases hown.2 with ⟨_, h3⟩ | ⟨b, cap', cur, h2, _, hh, hnc, hcm, hcs, htake⟩
  · exact absurd (by simpa [rI] using h3) hne
  simp only [rI_len, Nat.mul_one] at hnc htake hcs
  have hb : v.ownBlock = some b := by rw [h2]; rfl
  have hH : Go.Sort.Holds (Value.int .i64) w b 0 l.toArray := holds_of_blockI hh htake
  have hbl : b < w.heap.size := (Array.getElem?_eq_some_iff.1 hh).1
  have hcall := Go.Proofs.Any.slices_Sort_int Ly b 0 cap' l w hH hbl (by omega)
  rw [h2]
  simp only [rI_len]
  refine hcall.mono ?_
  rintro ex w' ⟨rfl, n, os, rfl⟩
  have hgrow := grownBy_sortedI (w := w) (g := b) (n := n) (os := os) (sortI l).toArray
  have hown' := ownsRow_sortedI (w := w) (base := 0) (g := b) (cap := cap') (n := n) (e := e) (os := os) (cur := cur) (ss := l) (ts := sortI l) (sortI_len l) (Nat.zero_le _) hh hnc hcm (by simpa using hcs)
  have hoth : ∀ b', b' < w.heap.size → b' ≠ b → (Go.Sort.grow (Go.Sort.putRow (Value.int .i64) (Go.Sort.ahead w n) b 0 (sortI l).toArray) os).heap[b']? = w.heap[b']? := fun b' hb' hne' => by
    rw [Go.Sort.heap_grow_old _ _ (by simpa [Go.Sort.putRow, Go.Sort.mapBlock, Go.Sort.ahead] using hb')]
    simp [Go.Sort.putRow, Go.Sort.mapBlock, Go.Sort.ahead, Array.getElem?_modify, Ne.symm hne']
  obtain ⟨hI', _, hF'⟩ := hI.rewrote (w' := Go.Sort.grow (Go.Sort.putRow (Value.int .i64) (Go.Sort.ahead w n) b 0 (sortI l).toArray) os) Fr.refl (k := 0) (r := { sz := 1, ety := e, rows := rI l, wr := true }) rfl hv0 rfl (rows' := rI (sortI l)) (vs := (sortI l).map (Value.int .i64))
    (by simp [rI_len, sortI_len]) (fun q hq => by simp [rI] at hq; obtain ⟨_, _, rfl⟩ := hq; rfl) hb (by simp [Go.Sort.putRow, Go.Sort.mapBlock, Go.Sort.ahead]) rfl rfl rfl hoth (by rw [h2]; simpa [rI_len] using hown')
    (fun j x u hj hu => rI_rep hj hu)
  refine ⟨_, g, rfl, ⟨[], rfl, rfl, fun i x u h => by simp at h⟩, hI', hF'⟩

/-- Equal neighbours made one. -/
def compactI (l : List Int) : List Int := Go.Lib.compact l
theorem compactI_le (l : List Int) : (compactI l).length ≤ l.length := Go.Lib.compact_length_le l
theorem compact_contract {ρ : Go.Shelf.Ren} (Ly : Go.Proofs.Lays2.n20 P ρ) (hent : ∀ args w, (callFunc (ρ.f 20) args).run P w = .ok (.enter (ρ.f 20) args) w) {e : TypeId} (l : List Int) (hne : l ≠ []) (hl : l.length ≤ 1099511627776) :
    ACallsG P (ρ.f 20) [.c (.own 0 l.length)] [] [{ sz := 1, ety := e, rows := rI l, wr := true }] (.c (.d (.sl (rI (compactI l))))) [] [{ sz := 1, ety := e, rows := rI (compactI l ++ List.replicate (l.length - (compactI l).length) 0), wr := false }] := by
  refine ⟨hent, Nat.le_refl _, fun g w vs hI hvl hvr => ?_⟩
  obtain ⟨v, rfl⟩ : ∃ v, vs = #[v] := by
    have : vs.size = 1 := hvl
    exact ⟨vs[0], by apply Array.ext; · simpa using this
                     · intro i h1 h2; simp at h2; subst h2; rfl⟩
  have hv : RepC g w [{ sz := 1, ety := e, rows := rI l, wr := true }] (.own 0 l.length) v := hvr 0 _ v rfl rfl
  obtain ⟨ad, cap, hve, r, hk, _, hq⟩ := hv
  simp only [List.getElem?_cons_zero, Option.some.injEq] at hk
  subst hk
  have hv0 := hq (by simp [rI])
  obtain ⟨h1, _, xs, hown, hr⟩ := hI.arr 0 _ v rfl hv0
  have hlp : 0 < l.length := List.length_pos_iff.2 hne
  have hxs : xs = l.map (Value.int .i64) := rI_cells (by simpa using hown.1) hr
  subst hxs
  rcases hown.2 with ⟨_, h3⟩ | ⟨b, cap', cur, h2, _, hh, hnc, hcm, hcs, htake⟩
  · exact absurd (by simpa [rI] using h3) hne
  simp only [rI_len, Nat.mul_one] at hnc htake hcs
  have hb : v.ownBlock = some b := by rw [h2]; rfl
  have hH : Go.Sort.Holds (Value.int .i64) w b 0 l.toArray := holds_of_blockI hh htake
  have hcall := Go.Proofs.Any.slices_Compact_int Ly b 0 cap' l w hH (by omega) hnc
  rw [h2]
  simp only [rI_len]
  refine hcall.mono ?_
  rintro ex w' ⟨rfl, n, rfl⟩
  have hcl := compactI_le l
  obtain ⟨Z, hZ⟩ : ∃ Z, compactI l ++ List.replicate (l.length - (compactI l).length) 0 = Z := ⟨_, rfl⟩
  have hZl : Z.length = l.length := by rw [← hZ]; simp; omega
  have hZt : Z.take (compactI l).length = compactI l := by rw [← hZ]; simp
  rw [show Go.Lib.compact l = compactI l from rfl, hZ]
  rw [← Go.Sort.grow_empty (Go.Sort.putRow (Value.int .i64) (Go.Sort.ahead w n) b 0 Z.toArray)]
  have hown' := ownsRow_sortedI (w := w) (base := 0) (g := b) (cap := cap') (n := n) (e := e) (os := #[]) (cur := cur) (ss := l) (ts := Z) hZl (Nat.zero_le _) hh hnc hcm (by simpa using hcs)
  have hoth : ∀ b', b' < w.heap.size → b' ≠ b → (Go.Sort.grow (Go.Sort.putRow (Value.int .i64) (Go.Sort.ahead w n) b 0 Z.toArray) #[]).heap[b']? = w.heap[b']? := fun b' hb' hne' => by
    rw [Go.Sort.heap_grow_old _ _ (by simpa [Go.Sort.putRow, Go.Sort.mapBlock, Go.Sort.ahead] using hb')]
    simp [Go.Sort.putRow, Go.Sort.mapBlock, Go.Sort.ahead, Array.getElem?_modify, Ne.symm hne']
  obtain ⟨hI', _, hF'⟩ := hI.rewrote (w' := Go.Sort.grow (Go.Sort.putRow (Value.int .i64) (Go.Sort.ahead w n) b 0 Z.toArray) #[]) Fr.refl (k := 0) (r := { sz := 1, ety := e, rows := rI l, wr := true }) rfl hv0 rfl (rows' := rI Z) (vs := Z.map (Value.int .i64))
    (by simp [rI_len, hZl]) (fun q hq => by simp [rI] at hq; obtain ⟨_, _, rfl⟩ := hq; rfl) hb (by simp [Go.Sort.putRow, Go.Sort.mapBlock, Go.Sort.ahead]) rfl rfl rfl hoth (by rw [h2]; simpa [rI_len] using hown')
    (fun j x u hj hu => rI_rep hj hu)
  generalize Go.Sort.grow (Go.Sort.putRow (Value.int .i64) (Go.Sort.ahead w n) b 0 Z.toArray) #[] = w2 at *
  obtain ⟨g2, hI2, hx2, hF2, _, _, hd⟩ := hI'.seal hF' (k := 0) (r := { sz := 1, ety := e, rows := rI Z, wr := true }) rfl hv0
  refine ⟨_, g2, rfl, ?_, hI2, hF2⟩
  rw [h2] at hd
  simp only [RepD, rI_len] at hd
  obtain ⟨a2, c2, heq, hc2, hrr⟩ := hd
  simp only [Value.slice.injEq] at heq
  obtain ⟨rfl, _, rfl⟩ := heq
  simp only [RepV, RepE, RepC, RepD]
  refine ⟨_, _, by rw [rI_len], by rw [rI_len]; omega, ?_⟩
  rcases hrr with hrr | ⟨b2, off, sz, he, him, hrr⟩
  · exact absurd (congrArg List.length hrr) (by rw [rI_len, hZl]; simp; exact hne)
  · simp only [Option.some.injEq, Addr.mk.injEq] at he
    obtain ⟨rfl, rfl, _⟩ := he
    refine .inr ⟨b, 0, sz, rfl, ?_, RepRows.mk fun i q hq => RepRows.at_ hrr (i := i) ?_⟩
    · rw [rI_len]; rw [hZl] at him
      exact Nat.le_trans (Nat.add_le_add_left (Nat.mul_le_mul_right _ hcl) _) him
    · have hi : i < (compactI l).length := by have := (List.getElem?_eq_some_iff.1 hq).1; rwa [rI_len] at this
      rw [← hZt] at hq
      simp only [rI, List.getElem?_map, List.getElem?_take_of_lt hi] at hq ⊢
      exact hq
end
end Go.Av
