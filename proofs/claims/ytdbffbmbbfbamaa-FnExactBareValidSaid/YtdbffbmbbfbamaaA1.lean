/- The words of an abstract, value-semantic program logic over Go's model: plain data, cell values, how they lie in memory, and that they stay. No program in sight. -/
import Derived.WalkKit
import Derived.WalkSpells
import Derived.ChangeKeysEq
namespace Go.Av
open Go

/-- Plain data: numbers, truth values, strings, slices of rows of cells (read-only from here on). -/
inductive DV where
  | int (k : IntKind) (n : Int)
  | bool (b : Bool)
  | str (s : List UInt8)
  | sl (rows : List (List DV))

/-- The value of one cell. -/
inductive CV where
  | d (x : DV)
  | nil
  | own (k n : Nat)
  | ptr (l off : Nat)
  | np
  | ip (row : List DV) (off : Nat)
  | op (k n i off : Nat)
  | fn (f : FuncId) (cap : List Nat)
  | undef

/-- A value. -/
inductive AV where
  | c (x : CV)
  | agg (xs : List CV)
  | tup (xs : List AV)

/-- An array that the call made and still owns. -/
structure Arr where
  sz : Nat
  ety : TypeId
  rows : List (List DV)
  wr : Bool

/-- What stands behind the abstract names: the objects' blocks, the own arrays' slice values, how many cells of a block are read-only for good. -/
structure Gh where
  ob : List Nat
  ar : List Value
  im : Nat → Nat

def bs (s : List UInt8) : ByteArray := ⟨s.toArray⟩

mutual
def RepD (im : Nat → Nat) (w : World) : DV → Value → Prop
  | .int k n, v => v = .int k n
  | .bool b, v => v = .bool b
  | .str s, v => v = .string (bs s)
  | .sl rows, v => ∃ a cap, v = .slice a rows.length cap ∧ rows.length ≤ cap ∧ (rows = [] ∨ ∃ b off sz, a = some ⟨b, off, none⟩ ∧ off + rows.length * sz ≤ im b ∧ RepRows im w b sz off rows)
def RepRows (im : Nat → Nat) (w : World) (b sz : Nat) : Nat → List (List DV) → Prop
  | _, [] => True
  | off, r :: rs => r.length = sz ∧ RepRow im w b off r ∧ RepRows im w b sz (off + sz) rs
def RepRow (im : Nat → Nat) (w : World) (b : Nat) : Nat → List DV → Prop
  | _, [] => True
  | off, x :: xs => (∃ u, w.cell? ⟨b, off, none⟩ = some u ∧ RepD im w x u) ∧ RepRow im w b (off + 1) xs
end

/-- From one world to a later one: what is read-only stays. -/
structure Grows (im : Nat → Nat) (w : World) (im' : Nat → Nat) (w' : World) : Prop where
  imle : ∀ b, im b ≤ im' b
  cell : ∀ b o, o < im b → w'.cell? ⟨b, o, none⟩ = w.cell? ⟨b, o, none⟩

theorem Grows.refl (im : Nat → Nat) (w : World) : Grows im w im w := ⟨fun _ => Nat.le_refl _, fun _ _ _ => rfl⟩
theorem Grows.trans {im im' im'' : Nat → Nat} {w w' w'' : World} (h : Grows im w im' w') (k : Grows im' w' im'' w'') : Grows im w im'' w'' :=
  ⟨fun b => Nat.le_trans (h.imle b) (k.imle b), fun b o ho => (k.cell b o (Nat.lt_of_lt_of_le ho (h.imle b))).trans (h.cell b o ho)⟩

mutual
theorem RepD.grows {im im' : Nat → Nat} {w w' : World} (h : Grows im w im' w') : ∀ (x : DV) (v : Value), RepD im w x v → RepD im' w' x v
  | .int _ _, _, hx => hx
  | .bool _, _, hx => hx
  | .str _, _, hx => hx
  | .sl rows, v, hx => by
    simp only [RepD] at hx ⊢
    obtain ⟨a, cap, e, hc, hr⟩ := hx
    refine ⟨a, cap, e, hc, hr.imp id ?_⟩
    rintro ⟨b, off, sz, ha, hi, hrr⟩
    exact ⟨b, off, sz, ha, Nat.le_trans hi (h.imle b), RepRows.grows h b sz off rows hi hrr⟩
theorem RepRows.grows {im im' : Nat → Nat} {w w' : World} (h : Grows im w im' w') (b sz : Nat) : ∀ (off : Nat) (rs : List (List DV)), off + rs.length * sz ≤ im b → RepRows im w b sz off rs → RepRows im' w' b sz off rs
  | _, [], _, _ => by simp [RepRows]
  | off, r :: rs, hi, hx => by
    simp only [RepRows] at hx ⊢
    obtain ⟨hl, hr, hrs⟩ := hx
    have hi' : off + sz + rs.length * sz ≤ im b := by
      simp only [List.length_cons, Nat.add_mul, Nat.one_mul] at hi; omega
    exact ⟨hl, RepRow.grows h b off r (by omega) hr, RepRows.grows h b sz (off + sz) rs hi' hrs⟩
theorem RepRow.grows {im im' : Nat → Nat} {w w' : World} (h : Grows im w im' w') (b : Nat) : ∀ (off : Nat) (xs : List DV), off + xs.length ≤ im b → RepRow im w b off xs → RepRow im' w' b off xs
  | _, [], _, _ => by simp [RepRow]
  | off, x :: xs, hi, hx => by
    simp only [RepRow] at hx ⊢
    obtain ⟨⟨u, hu, hd⟩, hr⟩ := hx
    simp only [List.length_cons] at hi
    exact ⟨⟨u, (h.cell b off (by omega)).trans hu, RepD.grows h x u hd⟩, RepRow.grows h b (off + 1) xs (by omega) hr⟩
end

theorem RepRow.at_ {im : Nat → Nat} {w : World} {b : Nat} : ∀ {xs : List DV} {off : Nat}, RepRow im w b off xs → ∀ {j : Nat} {x : DV}, xs[j]? = some x → ∃ u, w.cell? ⟨b, off + j, none⟩ = some u ∧ RepD im w x u
  | [], _, _, j, x, hx => by simp at hx
  | y :: ys, off, h, 0, x, hx => by
    simp only [RepRow] at h
    simp at hx; subst hx
    simpa using h.1
  | y :: ys, off, h, j + 1, x, hx => by
    simp only [RepRow] at h
    simp at hx
    have := RepRow.at_ h.2 hx
    simpa [Nat.add_assoc, Nat.add_comm 1 j] using this

theorem RepRow.mk {im : Nat → Nat} {w : World} {b : Nat} : ∀ {xs : List DV} {off : Nat}, (∀ j x, xs[j]? = some x → ∃ u, w.cell? ⟨b, off + j, none⟩ = some u ∧ RepD im w x u) → RepRow im w b off xs
  | [], _, _ => by simp [RepRow]
  | y :: ys, off, h => by
    simp only [RepRow]
    refine ⟨by simpa using h 0 y rfl, RepRow.mk fun j x hx => ?_⟩
    have := h (j + 1) x (by simpa using hx)
    simpa [Nat.add_assoc, Nat.add_comm 1 j] using this

theorem RepRows.at_ {im : Nat → Nat} {w : World} {b sz : Nat} : ∀ {rs : List (List DV)} {off : Nat}, RepRows im w b sz off rs → ∀ {i : Nat} {r : List DV}, rs[i]? = some r → r.length = sz ∧ RepRow im w b (off + i * sz) r
  | [], _, _, i, r, hr => by simp at hr
  | y :: ys, off, h, 0, r, hr => by
    simp only [RepRows] at h
    simp at hr; subst hr
    simpa using ⟨h.1, h.2.1⟩
  | y :: ys, off, h, i + 1, r, hr => by
    simp only [RepRows] at h
    simp at hr
    have := RepRows.at_ h.2.2 hr
    rwa [show off + sz + i * sz = off + (i + 1) * sz by rw [Nat.add_mul]; omega] at this

theorem RepRows.mk {im : Nat → Nat} {w : World} {b sz : Nat} : ∀ {rs : List (List DV)} {off : Nat}, (∀ i r, rs[i]? = some r → r.length = sz ∧ RepRow im w b (off + i * sz) r) → RepRows im w b sz off rs
  | [], _, _ => by simp [RepRows]
  | y :: ys, off, h => by
    simp only [RepRows]
    have h0 := h 0 y rfl
    refine ⟨h0.1, by simpa using h0.2, RepRows.mk fun i r hr => ?_⟩
    have := h (i + 1) r (by simpa using hr)
    rwa [show off + (i + 1) * sz = off + sz + i * sz by rw [Nat.add_mul]; omega] at this

theorem RepD.oneCell {im : Nat → Nat} {w : World} : ∀ {x : DV} {v : Value}, RepD im w x v → v.oneCell' = true
  | .int _ _, _, h => by simp only [RepD] at h; subst h; rfl
  | .bool _, _, h => by simp only [RepD] at h; subst h; rfl
  | .str _, _, h => by simp only [RepD] at h; subst h; rfl
  | .sl _, _, h => by simp only [RepD] at h; obtain ⟨_, _, rfl, _⟩ := h; rfl

def CV.isUndef : CV → Bool
  | .undef => true
  | _ => false

def RepC (g : Gh) (w : World) (A : List Arr) : CV → Value → Prop
  | .d x, v => RepD g.im w x v
  | .nil, v => v = .slice none 0 0
  | .own k n, v => ∃ a cap, v = .slice a n cap ∧ ∃ r, A[k]? = some r ∧ n ≤ r.rows.length ∧ (n = r.rows.length → g.ar[k]? = some v)
  | .ptr l off, v => ∃ b, g.ob[l]? = some b ∧ v = .pointer (some ⟨b, off, none⟩)
  | .np, v => v = .pointer none
  | .ip row off, v => ∃ b o, v = .pointer (some ⟨b, o + off, none⟩) ∧ o + row.length ≤ g.im b ∧ RepRow g.im w b o row
  | .op k n i off, v => ∃ b e, v = .pointer (some ⟨b, e, none⟩) ∧ ∃ r, A[k]? = some r ∧ n ≤ r.rows.length ∧ (n = r.rows.length → ∃ cap, g.ar[k]? = some (.slice (some ⟨b, 0, none⟩) n cap) ∧ e = i * r.sz + off)
  | .fn f cap, v => ∃ bks : List Nat, v = .func (.func f) #[] (bks.map fun b => Value.pointer (some ⟨b, 0, none⟩)).toArray ∧ bks.length = cap.length ∧ ∀ (i l b : Nat), cap[i]? = some l → bks[i]? = some b → g.ob[l]? = some b
  | .undef, v => v = undef

def RepE (g : Gh) (w : World) (A : List Arr) : AV → Value → Prop
  | .c x, v => RepC g w A x v
  | .agg xs, v => ∃ vs : List Value, v = .agg vs.toArray ∧ vs.length = xs.length ∧ ∀ (i : Nat) (x : CV) (u : Value), xs[i]? = some x → vs[i]? = some u → RepC g w A x u
  | .tup _, _ => False

def RepV (g : Gh) (w : World) (A : List Arr) : AV → Value → Prop
  | .tup xs, v => ∃ vs : List Value, v = .tuple vs.toArray ∧ vs.length = xs.length ∧ ∀ (i : Nat) (x : AV) (u : Value), xs[i]? = some x → vs[i]? = some u → RepE g w A x u
  | x, v => RepE g w A x v

/-- Names keep what they stood for. -/
structure Ext (g : Gh) (w : World) (A : List Arr) (g' : Gh) (w' : World) (A' : List Arr) : Prop where
  ob : ∀ (l b : Nat), g.ob[l]? = some b → g'.ob[l]? = some b
  gr : Grows g.im w g'.im w'
  ar : ∀ (k : Nat) r, A[k]? = some r → ∃ r', A'[k]? = some r' ∧ r'.sz = r.sz ∧ r.rows.length ≤ r'.rows.length ∧ (r'.rows.length = r.rows.length → g'.ar[k]? = g.ar[k]?)

theorem Ext.refl (g : Gh) (w : World) (A : List Arr) : Ext g w A g w A :=
  ⟨fun _ _ h => h, .refl _ _, fun _ r h => ⟨r, h, rfl, Nat.le_refl _, fun _ => rfl⟩⟩

theorem Ext.trans {g g' g'' : Gh} {w w' w'' : World} {A A' A'' : List Arr} (h : Ext g w A g' w' A') (k : Ext g' w' A' g'' w'' A'') : Ext g w A g'' w'' A'' := by
  refine ⟨fun l b hb => k.ob l b (h.ob l b hb), h.gr.trans k.gr, fun i r hr => ?_⟩
  obtain ⟨r', h1, h2, h3, h4⟩ := h.ar i r hr
  obtain ⟨r'', k1, k2, k3, k4⟩ := k.ar i r' h1
  exact ⟨r'', k1, k2.trans h2, Nat.le_trans h3 k3, fun e => (k4 (by omega)).trans (h4 (by omega))⟩

section
variable {g g' : Gh} {w w' : World} {A A' : List Arr}

theorem RepC.ext (h : Ext g w A g' w' A') : ∀ {c : CV} {v : Value}, RepC g w A c v → RepC g' w' A' c v
  | .d x, v, hx => RepD.grows h.gr x v hx
  | .nil, _, hx => hx
  | .own k n, v, hx => by
    obtain ⟨a, cap, e, r, hr, hn, hv⟩ := hx
    obtain ⟨r', h1, _, h3, h4⟩ := h.ar k r hr
    exact ⟨a, cap, e, r', h1, by omega, fun en => (h4 (by omega)).trans (hv (by omega))⟩
  | .ptr l off, v, hx => by
    obtain ⟨b, hb, e⟩ := hx
    exact ⟨b, h.ob l b hb, e⟩
  | .np, _, hx => hx
  | .ip row off, v, hx => by
    obtain ⟨b, o, e, hi, hr⟩ := hx
    exact ⟨b, o, e, Nat.le_trans hi (h.gr.imle b), RepRow.grows h.gr b o row hi hr⟩
  | .op k n i off, v, hx => by
    obtain ⟨b, e, hv, r, hr, hn, hq⟩ := hx
    obtain ⟨r', h1, h2, h3, h4⟩ := h.ar k r hr
    refine ⟨b, e, hv, r', h1, by omega, fun en => ?_⟩
    obtain ⟨cap, hc, he⟩ := hq (by omega)
    exact ⟨cap, (h4 (by omega)).trans hc, by rw [h2]; exact he⟩
  | .fn f cap, v, hx => by
    obtain ⟨bks, e, hl, hb⟩ := hx
    exact ⟨bks, e, hl, fun i l b h1 h2 => h.ob l b (hb i l b h1 h2)⟩
  | .undef, _, hx => hx

theorem RepE.ext (h : Ext g w A g' w' A') : ∀ {x : AV} {v : Value}, RepE g w A x v → RepE g' w' A' x v
  | .c _, _, hx => RepC.ext h hx
  | .agg _, _, hx => by
    obtain ⟨vs, e, hl, hc⟩ := hx
    exact ⟨vs, e, hl, fun i x u h1 h2 => RepC.ext h (hc i x u h1 h2)⟩
  | .tup _, _, hx => hx.elim

theorem RepV.ext (h : Ext g w A g' w' A') : ∀ {x : AV} {v : Value}, RepV g w A x v → RepV g' w' A' x v
  | .c x, _, hx => RepE.ext (x := .c x) h hx
  | .agg xs, _, hx => RepE.ext (x := .agg xs) h hx
  | .tup _, _, hx => by
    obtain ⟨vs, e, hl, hc⟩ := hx
    exact ⟨vs, e, hl, fun i x u h1 h2 => RepE.ext h (hc i x u h1 h2)⟩

theorem RepC.oneCell : ∀ {c : CV} {v : Value}, c.isUndef = false → RepC g w A c v → v.oneCell' = true
  | .d _, _, _, h => RepD.oneCell h
  | .nil, _, _, h => by simp only [RepC] at h; subst h; rfl
  | .own _ _, _, _, h => by obtain ⟨_, _, rfl, _⟩ := h; rfl
  | .ptr _ _, _, _, h => by obtain ⟨_, _, rfl⟩ := h; rfl
  | .np, _, _, h => by simp only [RepC] at h; subst h; rfl
  | .ip _ _, _, _, h => by obtain ⟨_, _, rfl, _⟩ := h; rfl
  | .op _ _ _ _, _, _, h => by obtain ⟨_, _, rfl, _⟩ := h; rfl
  | .fn _ _, _, _, h => by obtain ⟨_, rfl, _⟩ := h; rfl
  | .undef, _, hu, _ => by simp [CV.isUndef] at hu
end

/-- The cells of a value. -/
def AV.cells : AV → List CV
  | .c x => [x]
  | .agg xs => xs
  | .tup _ => []

/-- The memory that the abstract state speaks of. -/
structure Inv (g : Gh) (w : World) (V : List (List CV)) (A : List Arr) : Prop where
  obl : g.ob.length = V.length
  arl : g.ar.length = A.length
  obj : ∀ (l : Nat) row b, V[l]? = some row → g.ob[l]? = some b → g.im b = 0 ∧ ∃ cs ty, w.heap[b]? = some (.cells cs ty (0, 0)) ∧ cs.size = row.length ∧ ∀ (j : Nat) c u, row[j]? = some c → cs[j]? = some u → RepC g w A c u
  arr : ∀ (k : Nat) r v, A[k]? = some r → g.ar[k]? = some v → (∀ row ∈ r.rows, row.length = r.sz) ∧ (∀ b, v.ownBlock = some b → g.im b ≤ if r.wr then 0 else r.rows.length * r.sz) ∧
    ∃ xs, w.ownsRow 0 r.ety r.sz v r.rows.length xs ∧ ∀ (j : Nat) x u, r.rows.flatten[j]? = some x → xs[j]? = some u → RepD g.im w x u
  obob : ∀ (l l' b : Nat), g.ob[l]? = some b → g.ob[l']? = some b → l = l'
  arar : ∀ (k k' : Nat) v v' b, g.ar[k]? = some v → g.ar[k']? = some v' → v.ownBlock = some b → v'.ownBlock = some b → k = k'
  obar : ∀ (l k : Nat) v b, g.ob[l]? = some b → g.ar[k]? = some v → v.ownBlock ≠ some b
  fresh : ∀ b, w.heap.size ≤ b → g.im b = 0

/-- What a call leaves alone. -/
structure Fr (w0 : World) (g0 : Gh) (w : World) (g : Gh) : Prop where
  os : w.os = w0.os
  tape : w.tape = w0.tape
  output : w.output = w0.output
  size : w0.heap.size ≤ w.heap.size
  blk : ∀ b, b < w0.heap.size → b ∉ g0.ob → w.heap[b]? = w0.heap[b]?
  imeq : ∀ b, b < w0.heap.size → g.im b = g0.im b
  ob : ∃ new, g.ob = g0.ob ++ new ∧ ∀ b ∈ new, w0.heap.size ≤ b
  ar : ∀ (k : Nat) v b, g.ar[k]? = some v → v.ownBlock = some b → w0.heap.size ≤ b

theorem Fr.refl {w : World} {g : Gh} (h : g.ar = []) : Fr w g w g :=
  ⟨rfl, rfl, rfl, Nat.le_refl _, fun _ _ _ => rfl, fun _ _ => rfl, ⟨[], by simp, by simp⟩, fun k v b hk => by simp [h] at hk⟩

/-- The abstract state of a body. -/
structure St where
  fr : List (Nat × AV)
  V : List (List CV)
  A : List Arr

def look : List (Nat × AV) → Nat → Option AV
  | [], _ => none
  | (t, x) :: r, s => if s = t then some x else look r s

structure Rp (n : Nat) (w0 : World) (g0 : Gh) (s : St) (g : Gh) (a : Act) (w : World) : Prop where
  inv : Inv g w s.V s.A
  fr : Fr w0 g0 w g
  size : a.tmps.size = n
  defers : a.defers = []
  slot : ∀ t x, look s.fr t = some x → ∃ u, a.tmps[t]? = some u ∧ RepV g w s.A x u

end Go.Av
