/- A part of the library of this seat. -/
import Derived.WalkKit
import Derived.WalkSpells
import Derived.ChangeKeysEq
set_option linter.unusedVariables false
set_option linter.unusedSimpArgs false
namespace Go.Av
open Go

inductive DV where
 | int (k : IntKind) (n : Int)
 | bool (b : Bool)
 | str (s : List UInt8)
 | sl (rows : List (List DV))
 | raw (v : Value)

inductive CV where
 | d (x : DV)
 | nil
 | own (k n : Nat)
 | ptr (l off : Nat)
 | np
 | ip (row : List DV) (off : Nat)
 | op (k n i off : Nat)
 | fn (f : FuncId) (cap : List Nat)
 | undef

inductive AV where
 | c (x : CV)
 | agg (xs : List CV)
 | tup (xs : List AV)

structure Arr where
 sz : Nat
 ety : TypeId
 rows : List (List DV)
 wr : Bool

structure Gh where
 ob : List Nat
 ar : List Value
 im : Nat -> Nat

def bs (s : List UInt8) : ByteArray := ⟨s.toArray⟩

mutual
def RepD (im : Nat -> Nat) (w : World) : DV -> Value -> Prop
 | .int k n, v => v = .int k n
 | .bool b, v => v = .bool b
 | .str s, v => v = .string (bs s)
 | .sl rows, v => ∃ a cap, v = .slice a rows.length cap /\ rows.length <= cap /\ (rows = [] \/ ∃ b off sz, a = some ⟨b, off, none⟩ /\ off + rows.length * sz <= im b /\ RepRows im w b sz off rows)
 | .raw u, v => v = u /\ u.oneCell' = true
def RepRows (im : Nat -> Nat) (w : World) (b sz : Nat) : Nat -> List (List DV) -> Prop
 | _, [] => True
 | off, r :: rs => r.length = sz /\ RepRow im w b off r /\ RepRows im w b sz (off + sz) rs
def RepRow (im : Nat -> Nat) (w : World) (b : Nat) : Nat -> List DV -> Prop
 | _, [] => True
 | off, x :: xs => (∃ u, w.cell? ⟨b, off, none⟩ = some u /\ RepD im w x u) /\ RepRow im w b (off + 1) xs
end

structure Grows (im : Nat -> Nat) (w : World) (im' : Nat -> Nat) (w' : World) : Prop where
 imle : ∀ b, im b <= im' b
 cell : ∀ b o, o < im b -> w'.cell? ⟨b, o, none⟩ = w.cell? ⟨b, o, none⟩

theorem Grows.refl (im : Nat -> Nat) (w : World) : Grows im w im w := ⟨fun _ => Nat.le_refl _, fun _ _ _ => rfl⟩
theorem Grows.trans {im im' im'' : Nat -> Nat} {w w' w'' : World} (h : Grows im w im' w') (k : Grows im' w' im'' w'') : Grows im w im'' w'' :=
 ⟨fun b => Nat.le_trans (h.imle b) (k.imle b), fun b o ho => (k.cell b o (Nat.lt_of_lt_of_le ho (h.imle b))).trans (h.cell b o ho)⟩

mutual
theorem RepD.grows {im im' : Nat -> Nat} {w w' : World} (h : Grows im w im' w') : ∀ (x : DV) (v : Value), RepD im w x v -> RepD im' w' x v
 | .int _ _, _, hx => hx
 | .bool _, _, hx => hx
 | .str _, _, hx => hx
 | .sl rows, v, hx => by
  simp only [RepD] at hx ⊢
  obtain ⟨a, cap, e, hc, hr⟩ := hx
  refine ⟨a, cap, e, hc, hr.imp id ?_⟩
  rintro ⟨b, off, sz, ha, hi, hrr⟩
  exact ⟨b, off, sz, ha, Nat.le_trans hi (h.imle b), RepRows.grows h b sz off rows hi hrr⟩
 | .raw _, _, hx => hx
theorem RepRows.grows {im im' : Nat -> Nat} {w w' : World} (h : Grows im w im' w') (b sz : Nat) : ∀ (off : Nat) (rs : List (List DV)), off + rs.length * sz <= im b -> RepRows im w b sz off rs -> RepRows im' w' b sz off rs
 | _, [], _, _ => by simp [RepRows]
 | off, r :: rs, hi, hx => by
  simp only [RepRows] at hx ⊢
  obtain ⟨hl, hr, hrs⟩ := hx
  have hi' : off + sz + rs.length * sz <= im b := by
   simp only [List.length_cons, Nat.add_mul, Nat.one_mul] at hi; omega
  exact ⟨hl, RepRow.grows h b off r (by omega) hr, RepRows.grows h b sz (off + sz) rs hi' hrs⟩
theorem RepRow.grows {im im' : Nat -> Nat} {w w' : World} (h : Grows im w im' w') (b : Nat) : ∀ (off : Nat) (xs : List DV), off + xs.length <= im b -> RepRow im w b off xs -> RepRow im' w' b off xs
 | _, [], _, _ => by simp [RepRow]
 | off, x :: xs, hi, hx => by
  simp only [RepRow] at hx ⊢
  obtain ⟨⟨u, hu, hd⟩, hr⟩ := hx
  simp only [List.length_cons] at hi
  exact ⟨⟨u, (h.cell b off (by omega)).trans hu, RepD.grows h x u hd⟩, RepRow.grows h b (off + 1) xs (by omega) hr⟩
end

theorem RepRow.at_ {im : Nat -> Nat} {w : World} {b : Nat} : ∀ {xs : List DV} {off : Nat}, RepRow im w b off xs -> ∀ {j : Nat} {x : DV}, xs[j]? = some x -> ∃ u, w.cell? ⟨b, off + j, none⟩ = some u /\ RepD im w x u
 | [], _, _, j, x, hx => by simp at hx
 | y :: ys, off, h, 0, x, hx => by
  simp only [RepRow] at h
  simp at hx; subst hx
  simpa using h.1
 | y :: ys, off, h, j + 1, x, hx => by
  simp only [RepRow] at h
  simp at hx
  have := RepRow.at_ h.2 hx
  simpa [Nat.add_assoc, Nat.add_comm 1 j] using this

theorem RepRow.mk {im : Nat -> Nat} {w : World} {b : Nat} : ∀ {xs : List DV} {off : Nat}, (∀ j x, xs[j]? = some x -> ∃ u, w.cell? ⟨b, off + j, none⟩ = some u /\ RepD im w x u) -> RepRow im w b off xs
 | [], _, _ => by simp [RepRow]
 | y :: ys, off, h => by
  simp only [RepRow]
  refine ⟨by simpa using h 0 y rfl, RepRow.mk fun j x hx => ?_⟩
  have := h (j + 1) x (by simpa using hx)
  simpa [Nat.add_assoc, Nat.add_comm 1 j] using this

theorem RepRows.at_ {im : Nat -> Nat} {w : World} {b sz : Nat} : ∀ {rs : List (List DV)} {off : Nat}, RepRows im w b sz off rs -> ∀ {i : Nat} {r : List DV}, rs[i]? = some r -> r.length = sz /\ RepRow im w b (off + i * sz) r
 | [], _, _, i, r, hr => by simp at hr
 | y :: ys, off, h, 0, r, hr => by
  simp only [RepRows] at h
  simp at hr; subst hr
  simpa using ⟨h.1, h.2.1⟩
 | y :: ys, off, h, i + 1, r, hr => by
  simp only [RepRows] at h
  simp at hr
  have := RepRows.at_ h.2.2 hr
  rwa [show off + sz + i * sz = off + (i + 1) * sz by rw [Nat.add_mul]; omega] at this

theorem RepRows.mk {im : Nat -> Nat} {w : World} {b sz : Nat} : ∀ {rs : List (List DV)} {off : Nat}, (∀ i r, rs[i]? = some r -> r.length = sz /\ RepRow im w b (off + i * sz) r) -> RepRows im w b sz off rs
 | [], _, _ => by simp [RepRows]
 | y :: ys, off, h => by
  simp only [RepRows]
  have h0 := h 0 y rfl
  refine ⟨h0.1, by simpa using h0.2, RepRows.mk fun i r hr => ?_⟩
  have := h (i + 1) r (by simpa using hr)
  rwa [show off + (i + 1) * sz = off + sz + i * sz by rw [Nat.add_mul]; omega] at this

theorem RepD.oneCell {im : Nat -> Nat} {w : World} : ∀ {x : DV} {v : Value}, RepD im w x v -> v.oneCell' = true
 | .int _ _, _, h => by simp only [RepD] at h; subst h; rfl
 | .bool _, _, h => by simp only [RepD] at h; subst h; rfl
 | .str _, _, h => by simp only [RepD] at h; subst h; rfl
 | .sl _, _, h => by simp only [RepD] at h; obtain ⟨_, _, rfl, _⟩ := h; rfl
 | .raw _, _, h => by simp only [RepD] at h; obtain ⟨rfl, h⟩ := h; exact h

def CV.isUndef : CV -> Bool
 | .undef => true
 | _ => false

def RepC (g : Gh) (w : World) (A : List Arr) : CV -> Value -> Prop
 | .d x, v => RepD g.im w x v
 | .nil, v => v = .slice none 0 0
 | .own k n, v => ∃ a cap, v = .slice a n cap /\ ∃ r, A[k]? = some r /\ n <= r.rows.length /\ (n = r.rows.length -> g.ar[k]? = some v)
 | .ptr l off, v => ∃ b, g.ob[l]? = some b /\ v = .pointer (some ⟨b, off, none⟩)
 | .np, v => v = .pointer none
 | .ip row off, v => ∃ b o, v = .pointer (some ⟨b, o + off, none⟩) /\ o + row.length <= g.im b /\ RepRow g.im w b o row
 | .op k n i off, v => ∃ b e, v = .pointer (some ⟨b, e, none⟩) /\ ∃ r, A[k]? = some r /\ n <= r.rows.length /\ (n = r.rows.length -> ∃ cap, g.ar[k]? = some (.slice (some ⟨b, 0, none⟩) n cap) /\ e = i * r.sz + off)
 | .fn f cap, v => ∃ bks : List Nat, v = .func (.func f) #[] (bks.map fun b => Value.pointer (some ⟨b, 0, none⟩)).toArray /\ bks.length = cap.length /\ ∀ (i l b : Nat), cap[i]? = some l -> bks[i]? = some b -> g.ob[l]? = some b
 | .undef, v => v = undef

def RepE (g : Gh) (w : World) (A : List Arr) : AV -> Value -> Prop
 | .c x, v => RepC g w A x v
 | .agg xs, v => ∃ vs : List Value, v = .agg vs.toArray /\ vs.length = xs.length /\ ∀ (i : Nat) (x : CV) (u : Value), xs[i]? = some x -> vs[i]? = some u -> RepC g w A x u
 | .tup _, _ => False

def RepV (g : Gh) (w : World) (A : List Arr) : AV -> Value -> Prop
 | .tup xs, v => ∃ vs : List Value, v = .tuple vs.toArray /\ vs.length = xs.length /\ ∀ (i : Nat) (x : AV) (u : Value), xs[i]? = some x -> vs[i]? = some u -> RepE g w A x u
 | x, v => RepE g w A x v

structure Ext (g : Gh) (w : World) (A : List Arr) (g' : Gh) (w' : World) (A' : List Arr) : Prop where
 ob : ∀ (l b : Nat), g.ob[l]? = some b -> g'.ob[l]? = some b
 gr : Grows g.im w g'.im w'
 ar : ∀ (k : Nat) r, A[k]? = some r -> ∃ r', A'[k]? = some r' /\ r'.sz = r.sz /\ r.rows.length <= r'.rows.length /\ (r'.rows.length = r.rows.length -> g'.ar[k]? = g.ar[k]?)

theorem Ext.refl (g : Gh) (w : World) (A : List Arr) : Ext g w A g w A :=
 ⟨fun _ _ h => h, .refl _ _, fun _ r h => ⟨r, h, rfl, Nat.le_refl _, fun _ => rfl⟩⟩

theorem Ext.trans {g g' g'' : Gh} {w w' w'' : World} {A A' A'' : List Arr} (h : Ext g w A g' w' A') (k : Ext g' w' A' g'' w'' A'') : Ext g w A g'' w'' A'' := by
 refine ⟨fun l b hb => k.ob l b (h.ob l b hb), h.gr.trans k.gr, fun i r hr => ?_⟩
 obtain ⟨r', h1, h2, h3, h4⟩ := h.ar i r hr
 obtain ⟨r'', k1, k2, k3, k4⟩ := k.ar i r' h1
 exact ⟨r'', k1, k2.trans h2, Nat.le_trans h3 k3, fun e => (k4 (by omega)).trans (h4 (by omega))⟩

section
variable {g g' : Gh} {w w' : World} {A A' : List Arr}

theorem RepC.ext (h : Ext g w A g' w' A') : ∀ {c : CV} {v : Value}, RepC g w A c v -> RepC g' w' A' c v
 | .d x, v, hx => RepD.grows h.gr x v hx
 | .nil, _, hx => hx
 | .own k n, v, hx => by
  obtain ⟨a, cap, e, r, hr, hn, hv⟩ := hx
  obtain ⟨r', h1, _, h3, h4⟩ := h.ar k r hr
  exact ⟨a, cap, e, r', h1, by omega, fun en => (h4 (by omega)).trans (hv (by omega))⟩
 | .ptr l off, v, hx => by
  obtain ⟨b, hb, e⟩ := hx
  exact ⟨b, h.ob l b hb, e⟩
 | .np, _, hx => hx
 | .ip row off, v, hx => by
  obtain ⟨b, o, e, hi, hr⟩ := hx
  exact ⟨b, o, e, Nat.le_trans hi (h.gr.imle b), RepRow.grows h.gr b o row hi hr⟩
 | .op k n i off, v, hx => by
  obtain ⟨b, e, hv, r, hr, hn, hq⟩ := hx
  obtain ⟨r', h1, h2, h3, h4⟩ := h.ar k r hr
  refine ⟨b, e, hv, r', h1, by omega, fun en => ?_⟩
  obtain ⟨cap, hc, he⟩ := hq (by omega)
  exact ⟨cap, (h4 (by omega)).trans hc, by rw [h2]; exact he⟩
 | .fn f cap, v, hx => by
  obtain ⟨bks, e, hl, hb⟩ := hx
  exact ⟨bks, e, hl, fun i l b h1 h2 => h.ob l b (hb i l b h1 h2)⟩
 | .undef, _, hx => hx

theorem RepE.ext (h : Ext g w A g' w' A') : ∀ {x : AV} {v : Value}, RepE g w A x v -> RepE g' w' A' x v
 | .c _, _, hx => RepC.ext h hx
 | .agg _, _, hx => by
  obtain ⟨vs, e, hl, hc⟩ := hx
  exact ⟨vs, e, hl, fun i x u h1 h2 => RepC.ext h (hc i x u h1 h2)⟩
 | .tup _, _, hx => hx.elim

theorem RepV.ext (h : Ext g w A g' w' A') : ∀ {x : AV} {v : Value}, RepV g w A x v -> RepV g' w' A' x v
 | .c x, _, hx => RepE.ext (x := .c x) h hx
 | .agg xs, _, hx => RepE.ext (x := .agg xs) h hx
 | .tup _, _, hx => by
  obtain ⟨vs, e, hl, hc⟩ := hx
  exact ⟨vs, e, hl, fun i x u h1 h2 => RepE.ext h (hc i x u h1 h2)⟩

theorem RepC.oneCell : ∀ {c : CV} {v : Value}, c.isUndef = false -> RepC g w A c v -> v.oneCell' = true
 | .d _, _, _, h => RepD.oneCell h
 | .nil, _, _, h => by simp only [RepC] at h; subst h; rfl
 | .own _ _, _, _, h => by obtain ⟨_, _, rfl, _⟩ := h; rfl
 | .ptr _ _, _, _, h => by obtain ⟨_, _, rfl⟩ := h; rfl
 | .np, _, _, h => by simp only [RepC] at h; subst h; rfl
 | .ip _ _, _, _, h => by obtain ⟨_, _, rfl, _⟩ := h; rfl
 | .op _ _ _ _, _, _, h => by obtain ⟨_, _, rfl, _⟩ := h; rfl
 | .fn _ _, _, _, h => by obtain ⟨_, rfl, _⟩ := h; rfl
 | .undef, _, hu, _ => by simp [CV.isUndef] at hu
end

def AV.cells : AV -> List CV
 | .c x => [x]
 | .agg xs => xs
 | .tup _ => []

structure Inv (g : Gh) (w : World) (V : List (List CV)) (A : List Arr) : Prop where
 obl : g.ob.length = V.length
 arl : g.ar.length = A.length
 obj : ∀ (l : Nat) row b, V[l]? = some row -> g.ob[l]? = some b -> g.im b = 0 /\ ∃ cs ty, w.heap[b]? = some (.cells cs ty (0, 0)) /\ cs.size = row.length /\ ∀ (j : Nat) c u, row[j]? = some c -> cs[j]? = some u -> RepC g w A c u
 arr : ∀ (k : Nat) r v, A[k]? = some r -> g.ar[k]? = some v -> (∀ row ∈ r.rows, row.length = r.sz) /\ (∀ b, v.ownBlock = some b -> g.im b <= if r.wr then 0 else r.rows.length * r.sz) /\
  ∃ xs, w.ownsRow 0 r.ety r.sz v r.rows.length xs /\ ∀ (j : Nat) x u, r.rows.flatten[j]? = some x -> xs[j]? = some u -> RepD g.im w x u
 obob : ∀ (l l' b : Nat), g.ob[l]? = some b -> g.ob[l']? = some b -> l = l'
 arar : ∀ (k k' : Nat) v v' b, g.ar[k]? = some v -> g.ar[k']? = some v' -> v.ownBlock = some b -> v'.ownBlock = some b -> k = k'
 obar : ∀ (l k : Nat) v b, g.ob[l]? = some b -> g.ar[k]? = some v -> v.ownBlock ≠ some b
 fresh : ∀ b, w.heap.size <= b -> g.im b = 0

def Gh.arb (g : Gh) : List Nat := g.ar.filterMap Value.ownBlock
theorem Gh.arb_mem {g : Gh} {k : Nat} {v : Value} {b : Nat} (h : g.ar[k]? = some v) (hb : v.ownBlock = some b) : b ∈ g.arb := List.mem_filterMap.2 ⟨v, List.mem_of_getElem? h, hb⟩
theorem Gh.mem_arb {g : Gh} {b : Nat} (h : b ∈ g.arb) : ∃ (k : Nat) (v : Value), g.ar[k]? = some v /\ v.ownBlock = some b := by
 obtain ⟨v, h1, h2⟩ := List.mem_filterMap.1 h
 obtain ⟨k, hk⟩ := List.getElem?_of_mem h1
 exact ⟨k, v, hk, h2⟩
def slen : Value -> Nat
 | .slice _ n _ => n
 | _ => 0

def tab0 : Option Nat := (some 3)
def tabE : List Nat := [1, 2]
def tabAt (b : Nat) : Prop := tab0 = some b \/ b ∈ tabE
def tabCells : Array Value := #[.int .u64 1, .int .u64 10, .int .u64 100, .int .u64 1000, .int .u64 10000, .int .u64 100000, .int .u64 1000000, .int .u64 10000000, .int .u64 100000000, .int .u64 1000000000, .int .u64 10000000000, .int .u64 100000000000, .int .u64 1000000000000, .int .u64 10000000000000, .int .u64 100000000000000, .int .u64 1000000000000000, .int .u64 10000000000000000, .int .u64 100000000000000000, .int .u64 1000000000000000000, .int .u64 10000000000000000000]
def TabC (b : Nat) (o : Option Obj) : Prop := (tab0 = some b -> ∃ ty mk, o = some (.cells tabCells ty mk)) /\ (b ∈ tabE -> ∃ cs ty mk te pe, o = some (.cells cs ty mk) /\ cs[0]? = some (.iface te pe))
def Tab (w : World) (g : Gh) : Prop := ∀ b, tabAt b -> b < w.heap.size /\ b ∉ g.ob /\ b ∉ g.arb /\ TabC b w.heap[b]?
theorem Tab.less {w : World} {g g' : Gh} (h : Tab w g) (ho : ∀ b ∈ g'.ob, b ∈ g.ob) (ha : ∀ b ∈ g'.arb, b ∈ g.arb) : Tab w g' := fun b hb => by
 obtain ⟨h1, h2, h3, h4⟩ := h b hb
 exact ⟨h1, fun q => h2 (ho b q), fun q => h3 (ha b q), h4⟩

structure Fr (w0 : World) (g0 : Gh) (w : World) (g : Gh) : Prop where
 os : w.os = w0.os
 tape : w.tape = w0.tape
 output : w.output = w0.output
 size : w0.heap.size <= w.heap.size
 blk : ∀ b, b < w0.heap.size -> b ∉ g0.ob -> b ∉ g0.arb -> w.heap[b]? = w0.heap[b]?
 imeq : ∀ b, b < w0.heap.size -> b ∉ g0.arb -> g.im b = g0.im b
 ob : ∃ new, g.ob = g0.ob ++ new /\ ∀ b ∈ new, w0.heap.size <= b
 ar : ∀ (k : Nat) v b, g.ar[k]? = some v -> v.ownBlock = some b -> w0.heap.size <= b \/ b ∈ g0.arb
 arx : ∀ (k : Nat) v, g0.ar[k]? = some v -> ∃ v', g.ar[k]? = some v' /\ slen v <= slen v' /\ (slen v' = slen v -> v' = v)
 tab : Tab w0 g0

theorem Fr.now {w0 w : World} {g0 g : Gh} (h : Fr w0 g0 w g) : Tab w g := fun b hb => by
 obtain ⟨h1, h2, h3, h4⟩ := h.tab b hb
 refine ⟨Nat.lt_of_lt_of_le h1 h.size, fun hm => ?_, fun hm => ?_, ?_⟩
 ·obtain ⟨new, e, hn⟩ := h.ob
  rw [e] at hm
  rcases List.mem_append.1 hm with q | q
  ·exact h2 q
  ·exact absurd (hn b q) (by omega)
 ·obtain ⟨k, v, q1, q2⟩ := Gh.mem_arb hm
  rcases h.ar k v b q1 q2 with q | q
  ·omega
  ·exact h3 q
 ·rw [h.blk b h1 h2 h3]; exact h4
theorem Fr.refl {w : World} {g : Gh} (ht : Tab w g) : Fr w g w g :=
 ⟨rfl, rfl, rfl, Nat.le_refl _, fun _ _ _ _ => rfl, fun _ _ _ => rfl, ⟨[], by simp, by simp⟩, fun k v b hk hb => .inr (Gh.arb_mem hk hb), fun k v h => ⟨v, h, Nat.le_refl _, fun _ => rfl⟩, ht⟩
theorem Fr.ar0 {w0 w : World} {g0 g : Gh} (h : Fr w0 g0 w g) (h0 : g0.ar = []) : ∀ (k : Nat) v b, g.ar[k]? = some v -> v.ownBlock = some b -> w0.heap.size <= b := fun k v b h1 h2 => by
 rcases h.ar k v b h1 h2 with h3 | h3
 ·exact h3
 ·simp [Gh.arb, h0] at h3

structure St where
 fr : List (Nat × AV)
 V : List (List CV)
 A : List Arr

theorem gen {X : St -> Prop} {d : Nat} {b : Bool} {fr : List (Nat × AV)} {V : List (List CV)} {A : List Arr} (h : ∀ q : Bool, b = q -> X ⟨(d, .c (.d (.bool q))) :: fr, V, A⟩) : X ⟨(d, .c (.d (.bool b))) :: fr, V, A⟩ := h b rfl
section
variable {d : Nat} {b : Bool} {fr : List (Nat × AV)} {V : List (List CV)} {A : List Arr}
theorem gen2 {X : St -> Prop} (h0 : b = false -> X ⟨(d, .c (.d (.bool false))) :: fr, V, A⟩) (h1 : b = true -> X ⟨(d, .c (.d (.bool true))) :: fr, V, A⟩) : X ⟨(d, .c (.d (.bool b))) :: fr, V, A⟩ := by cases b; exact h0 rfl; exact h1 rfl
theorem J2 {Y : Type} {X : St -> Y -> Prop} {L : Y} (h0 : b = false -> X ⟨(d, .c (.d (.bool false))) :: fr, V, A⟩ L) (h1 : b = true -> X ⟨(d, .c (.d (.bool true))) :: fr, V, A⟩ L) : X ⟨(d, .c (.d (.bool b))) :: fr, V, A⟩ L := by cases b; exact h0 rfl; exact h1 rfl
end
def look : List (Nat × AV) -> Nat -> Option AV
 | [], _ => none
 | (t, x) :: r, s => if s = t then some x else look r s

structure Rp (n : Nat) (w0 : World) (g0 : Gh) (s : St) (g : Gh) (a : Act) (w : World) : Prop where
 inv : Inv g w s.V s.A
 fr : Fr w0 g0 w g
 size : a.tmps.size = n
 defers : a.defers = []
 slot : ∀ t x, look s.fr t = some x -> ∃ u, a.tmps[t]? = some u /\ RepV g w s.A x u

end Go.Av

namespace Go.Av
open Go

section
variable {g g' g0 : Gh} {w w' w0 : World} {V V' : List (List CV)} {A A' : List Arr}

theorem Fr.obOK (h : Fr w0 g0 w g) {l b : Nat} (hb : g.ob[l]? = some b) : b ∈ g0.ob \/ w0.heap.size <= b := by
 obtain ⟨new, e, hn⟩ := h.ob
 rw [e] at hb
 have := List.mem_of_getElem? hb
 rcases List.mem_append.1 this with h1 | h1
 ·exact .inl h1
 ·exact .inr (hn b h1)

theorem ownsRow_heap {base : Nat} {e : TypeId} {sz : Nat} {v : Value} {n : Nat} {xs : List Value} (h : w.ownsRow base e sz v n xs) (hb : ∀ b, v.ownBlock = some b -> w'.heap[b]? = w.heap[b]?) : w'.ownsRow base e sz v n xs := by
 refine ⟨h.1, ?_⟩
 rcases h.2 with h2 | ⟨b, cap, cur, hv, h3, hh, r⟩
 ·exact .inl h2
 ·exact .inr ⟨b, cap, cur, hv, h3, by rw [hb b (by rw [hv]; rfl)]; exact hh, r⟩

theorem slen_own {base : Nat} {e : TypeId} {sz : Nat} {v : Value} {n : Nat} {xs : List Value} (h : w.ownsRow base e sz v n xs) : slen v = n := by
 rcases h.2 with ⟨rfl, h3⟩ | ⟨b, cap, cur, hv, _⟩
 ·simp only [slen]; simp_all
 ·rw [hv]; rfl

theorem Inv.obLt (h : Inv g w V A) {l b : Nat} (hb : g.ob[l]? = some b) : b < w.heap.size := by
 have hl : l < V.length := by
  rw [<- h.obl]; exact (List.getElem?_eq_some_iff.1 hb).1
 obtain ⟨_, cs, ty, hh, _⟩ := h.obj l _ b (List.getElem?_eq_getElem hl) hb
 exact (Array.getElem?_eq_some_iff.1 hh).1

theorem Inv.arLt (h : Inv g w V A) {k b : Nat} {v : Value} (hv : g.ar[k]? = some v) (hb : v.ownBlock = some b) : b < w.heap.size := by
 have hl : k < A.length := by
  rw [<- h.arl]; exact (List.getElem?_eq_some_iff.1 hv).1
 obtain ⟨_, _, xs, ho, _⟩ := h.arr k _ v (List.getElem?_eq_getElem hl) hv
 exact (ho.lt b hb).2

theorem Inv.imLt (h : Inv g w V A) {b o : Nat} (ho : o < g.im b) : b < w.heap.size := by
 rcases Nat.lt_or_ge b w.heap.size with h1 | h1
 ·exact h1
 ·have := h.fresh b h1; omega

theorem Inv.objKeep (h : Inv g w V A) (hx : Ext g w A g' w' A') {l b : Nat} {row : List CV} (hl : V[l]? = some row) (hb : g.ob[l]? = some b) (hh : w'.heap[b]? = w.heap[b]?) (hi : g'.im b = 0) :
  g'.im b = 0 /\ ∃ cs ty, w'.heap[b]? = some (.cells cs ty (0, 0)) /\ cs.size = row.length /\ ∀ (j : Nat) c u, row[j]? = some c -> cs[j]? = some u -> RepC g' w' A' c u := by
 obtain ⟨_, cs, ty, hc, hs, hr⟩ := h.obj l row b hl hb
 exact ⟨hi, cs, ty, hh.trans hc, hs, fun j c u h1 h2 => RepC.ext hx (hr j c u h1 h2)⟩

theorem Inv.arrKeep (h : Inv g w V A) (hx : Ext g w A g' w' A') {k : Nat} {r : Arr} {v : Value} (hk : A[k]? = some r) (hv : g.ar[k]? = some v)
  (hh : ∀ b, v.ownBlock = some b -> w'.heap[b]? = w.heap[b]?) (hi : ∀ b, v.ownBlock = some b -> g'.im b = g.im b) :
  (∀ row ∈ r.rows, row.length = r.sz) /\ (∀ b, v.ownBlock = some b -> g'.im b <= if r.wr then 0 else r.rows.length * r.sz) /\
  ∃ xs, w'.ownsRow 0 r.ety r.sz v r.rows.length xs /\ ∀ (j : Nat) x u, r.rows.flatten[j]? = some x -> xs[j]? = some u -> RepD g'.im w' x u := by
 obtain ⟨h1, h2, xs, ho, hr⟩ := h.arr k r v hk hv
 exact ⟨h1, fun b hb => by rw [hi b hb]; exact h2 b hb, xs, ownsRow_heap ho hh, fun j x u hj hu => RepD.grows hx.gr x u (hr j x u hj hu)⟩

theorem Inv.heap (h : Inv g w V A) (hh : w'.heap = w.heap) : Inv g w' V A /\ Ext g w A g w' A := by
 have hx : Ext g w A g w' A := ⟨fun _ _ h => h, ⟨fun _ => Nat.le_refl _, fun b o _ => by simp [World.cell?, hh]⟩, fun _ r h => ⟨r, h, rfl, Nat.le_refl _, fun _ => rfl⟩⟩
 refine ⟨⟨h.obl, h.arl, fun l row b h1 h2 => ?_, fun k r v h1 h2 => ?_, h.obob, h.arar, h.obar, fun b hb => h.fresh b (by rwa [hh] at hb)⟩, hx⟩
 ·exact h.objKeep hx h1 h2 (by rw [hh]) (h.obj l row b h1 h2).1
 ·exact h.arrKeep hx h1 h2 (fun _ _ => by rw [hh]) (fun _ _ => rfl)

theorem Fr.heap (h : Fr w0 g0 w g) (hh : w'.heap = w.heap) (ho : w'.os = w.os) (ht : w'.tape = w.tape) (hp : w'.output = w.output) : Fr w0 g0 w' g :=
 ⟨ho.trans h.os, ht.trans h.tape, hp.trans h.output, by rw [hh]; exact h.size, fun b h1 h2 h3 => by rw [hh]; exact h.blk b h1 h2 h3, h.imeq, h.ob, h.ar, h.arx, h.tab⟩

theorem Inv.newBlock (h : Inv g w V A) (o : Obj) (m : Nat) : ∃ g', g' = { g with im := fun b => if b = w.heap.size then m else g.im b } /\ Inv g' (w.alloc o) V A /\ Ext g w A g' (w.alloc o) A := by
 have hheap : ∀ b, b < w.heap.size -> (w.alloc o).heap[b]? = w.heap[b]? := fun b hb => RowKit.Below.heap_alloc w o b hb
 have him : ∀ b, b < w.heap.size -> (if b = w.heap.size then m else g.im b) = g.im b := fun b hb => by rw [if_neg (by omega)]
 have hx : Ext g w A { g with im := fun b => if b = w.heap.size then m else g.im b } (w.alloc o) A := by
  refine ⟨fun _ _ h => h, ⟨fun b => ?_, fun b o' ho => ?_⟩, fun _ r h => ⟨r, h, rfl, Nat.le_refl _, fun _ => rfl⟩⟩
  ·show g.im b <= if b = w.heap.size then m else g.im b
   split
   ·rename_i e; rw [h.fresh b (by omega)]; exact Nat.zero_le _
   ·exact Nat.le_refl _
  ·exact World.cell?_of_block (a := ⟨b, o', none⟩) (hheap b (h.imLt ho))
 refine ⟨_, rfl, ⟨h.obl, h.arl, fun l row b h1 h2 => ?_, fun k r v h1 h2 => ?_, h.obob, h.arar, h.obar, fun b hb => ?_⟩, hx⟩
 ·exact h.objKeep hx h1 h2 (hheap b (h.obLt h2)) ((him b (h.obLt h2)).trans (h.obj l row b h1 h2).1)
 ·exact h.arrKeep hx h1 h2 (fun b hb => hheap b (h.arLt h2 hb)) (fun b hb => him b (h.arLt h2 hb))
 ·have hs : (w.alloc o).heap.size = w.heap.size + 1 := by simp
  show (if b = w.heap.size then m else g.im b) = 0
  rw [hs] at hb
  rw [if_neg (by omega)]; exact h.fresh b (by omega)

theorem Fr.newBlock (h : Fr w0 g0 w g) (o : Obj) (m : Nat) : Fr w0 g0 (w.alloc o) { g with im := fun b => if b = w.heap.size then m else g.im b } := by
 have hs : (w.alloc o).heap.size = w.heap.size + 1 := by simp
 refine ⟨h.os, h.tape, h.output, by rw [hs]; have := h.size; omega, fun b h1 h2 h3 => ?_, fun b hb hb' => ?_, h.ob, h.ar, h.arx, h.tab⟩
 ·rw [RowKit.Below.heap_alloc w o b (by have := h.size; omega)]; exact h.blk b h1 h2 h3
 ·show (if b = w.heap.size then m else g.im b) = _
  have := h.size
  rw [if_neg (by omega)]; exact h.imeq b hb hb'

theorem Inv.newObj (h : Inv g w V A) (hf : Fr w0 g0 w g) (cs : Array Value) (ty : TypeId) (row : List CV) (hs : cs.size = row.length) (hr : ∀ (j : Nat) c u, row[j]? = some c -> cs[j]? = some u -> RepC g w A c u) :
  ∃ g', Inv g' (w.alloc (.cells cs ty)) (V ++ [row]) A /\ Ext g w A g' (w.alloc (.cells cs ty)) A /\ Fr w0 g0 (w.alloc (.cells cs ty)) g' /\ g'.ob[V.length]? = some w.heap.size := by
 obtain ⟨g1, hg1, hi, hx⟩ := h.newBlock (.cells cs ty) 0
 have hf1 := hf.newBlock (.cells cs ty) 0
 rw [<- hg1] at hf1
 have hx2 : Ext g1 (w.alloc (.cells cs ty)) A { g1 with ob := g1.ob ++ [w.heap.size] } (w.alloc (.cells cs ty)) A :=
  ⟨fun l b hb => by show (g1.ob ++ [w.heap.size])[l]? = some b; rw [List.getElem?_append_left (List.getElem?_eq_some_iff.1 hb).1]; exact hb, .refl _ _, fun _ r h => ⟨r, h, rfl, Nat.le_refl _, fun _ => rfl⟩⟩
 have hlt : ∀ (l b : Nat), g1.ob[l]? = some b -> b < w.heap.size := fun l b hb => by
  subst hg1
  exact h.obLt (g := g) hb
 have hall : ∀ (l b : Nat), (g1.ob ++ [w.heap.size])[l]? = some b -> (g1.ob[l]? = some b /\ b < w.heap.size) \/ (l = V.length /\ b = w.heap.size) := fun l b hb => by
  rcases Nat.lt_or_ge l g1.ob.length with h1 | h1
  ·rw [List.getElem?_append_left h1] at hb; exact .inl ⟨hb, hlt l b hb⟩
  ·rw [List.getElem?_append_right h1] at hb
   have h0 : l - g1.ob.length = 0 := by
    have := (List.getElem?_eq_some_iff.1 hb).1
    simp at this; omega
   rw [h0] at hb; simp at hb
   exact .inr ⟨by rw [<- hi.obl]; omega, hb.symm⟩
 have him : g1.im w.heap.size = 0 := by subst hg1; simp
 have harlt : ∀ (k : Nat) (v : Value) (b : Nat), g1.ar[k]? = some v -> v.ownBlock = some b -> b < w.heap.size := fun k v b hv hb => by
  subst hg1
  exact h.arLt (g := g) hv hb
 refine ⟨{ g1 with ob := g1.ob ++ [w.heap.size] }, ⟨by simp [hi.obl], hi.arl, fun l row' b h1 h2 => ?_, fun k r v h1 h2 => ?_, fun l l' b h1 h2 => ?_, hi.arar, fun l k v b h1 h2 => ?_, hi.fresh⟩, hx.trans hx2, ?_, ?_⟩
 ·rcases hall l b h2 with ⟨h3, h4⟩ | ⟨h3, h4⟩
  ·have h5 : V[l]? = some row' := by
    have : l < V.length := by rw [<- hi.obl]; exact (List.getElem?_eq_some_iff.1 h3).1
    rwa [List.getElem?_append_left this] at h1
   exact hi.objKeep hx2 h5 h3 rfl (hi.obj l row' b h5 h3).1
  ·subst h3; subst h4
   simp at h1; subst h1
   exact ⟨him, cs, ty, heap_alloc_new w _, hs, fun j c u h6 h7 => RepC.ext (hx.trans hx2) (hr j c u h6 h7)⟩
 ·exact hi.arrKeep hx2 h1 h2 (fun _ _ => rfl) (fun _ _ => rfl)
 ·rcases hall l b h1 with ⟨h3, h4⟩ | ⟨h3, h4⟩ <;> rcases hall l' b h2 with ⟨h5, h6⟩ | ⟨h5, h6⟩
  ·exact hi.obob l l' b h3 h5
  ·omega
  ·omega
  ·omega
 ·rcases hall l b h1 with ⟨h3, h4⟩ | ⟨h3, h4⟩
  ·exact hi.obar l k v b h3 h2
  ·intro hb; have := harlt k v b h2 hb; omega
 ·refine ⟨hf1.os, hf1.tape, hf1.output, hf1.size, hf1.blk, hf1.imeq, ?_, hf1.ar, hf1.arx, hf1.tab⟩
  obtain ⟨new, e, hn⟩ := hf1.ob
  exact ⟨new ++ [w.heap.size], by show g1.ob ++ [w.heap.size] = _; rw [e]; simp, fun b hb => by
   rcases List.mem_append.1 hb with h1 | h1
   ·exact hn b h1
   ·simp at h1; rw [h1]; exact hf.size⟩
 ·show (g1.ob ++ [w.heap.size])[V.length]? = some w.heap.size
  rw [List.getElem?_append_right (by rw [hi.obl]; exact Nat.le_refl _), hi.obl]; simp

theorem heap_setRow_other (w : World) (b k : Nat) (cs : Array Value) (h : k ≠ b) : (w.setRow b cs).heap[k]? = w.heap[k]? := by
 simp only [World.setRow, Array.getElem?_modify]
 rw [if_neg (fun e => h e.symm)]

theorem Ext.setRow (g : Gh) (w : World) (A : List Arr) (b : Nat) (cs : Array Value) (h : g.im b = 0) : Ext g w A g (w.setRow b cs) A := by
 refine ⟨fun _ _ h => h, ⟨fun _ => Nat.le_refl _, fun b' o ho => ?_⟩, fun _ r h => ⟨r, h, rfl, Nat.le_refl _, fun _ => rfl⟩⟩
 exact World.cell?_of_block (a := ⟨b', o, none⟩) (heap_setRow_other w b b' cs (fun e => by subst e; omega))

theorem Fr.setRow (hf : Fr w0 g0 w g) (b : Nat) (cs : Array Value) (h : b ∈ g0.ob \/ w0.heap.size <= b \/ b ∈ g0.arb) : Fr w0 g0 (w.setRow b cs) g :=
 ⟨hf.os, hf.tape, hf.output, by simpa using hf.size, fun b' h1 h2 h3 => by
  rw [heap_setRow_other w b b' cs (fun e => by subst e; rcases h with h | h | h <;> first | exact h2 h | exact h3 h | omega)]; exact hf.blk b' h1 h2 h3, hf.imeq, hf.ob, hf.ar, hf.arx, hf.tab⟩

theorem Inv.setObj (h : Inv g w V A) (hf : Fr w0 g0 w g) {l b : Nat} {row row' : List CV} (hl : V[l]? = some row) (hb : g.ob[l]? = some b) (cs : Array Value) (hs : cs.size = row'.length)
  (hr : ∀ (j : Nat) c u, row'[j]? = some c -> cs[j]? = some u -> RepC g w A c u) :
  Inv g (w.setRow b cs) (V.set l row') A /\ Ext g w A g (w.setRow b cs) A /\ Fr w0 g0 (w.setRow b cs) g := by
 obtain ⟨hi, cs0, ty, hh, _⟩ := h.obj l row b hl hb
 have hx := Ext.setRow g w A b cs hi
 refine ⟨⟨by rw [h.obl]; simp, h.arl, fun l' rw' b' h1 h2 => ?_, fun k r v h1 h2 => ?_, h.obob, h.arar, h.obar, fun b' hb' => h.fresh b' (by simpa using hb')⟩, hx, hf.setRow b cs ((hf.obOK hb).imp_right .inl)⟩
 ·by_cases e : l' = l
  ·subst e
   obtain rfl : b = b' := by rw [hb] at h2; exact Option.some.inj h2
   have hlt := (List.getElem?_eq_some_iff.1 hl).1
   simp [hlt] at h1; subst h1
   exact ⟨hi, cs, ty, setRow_heap w b cs0 cs ty (0, 0) hh, hs, fun j c u h3 h4 => RepC.ext hx (hr j c u h3 h4)⟩
  ·rw [List.getElem?_set_ne (by omega)] at h1
   have hne : b' ≠ b := fun e' => e (h.obob l' l b' h2 (e' ▸ hb))
   exact h.objKeep hx h1 h2 (heap_setRow_other w b b' cs hne) (h.obj l' rw' b' h1 h2).1
 ·exact h.arrKeep hx h1 h2 (fun b' hb' => heap_setRow_other w b b' cs (fun e => by subst e; exact h.obar l k v _ hb h2 hb')) (fun _ _ => rfl)

theorem Inv.newArr (h : Inv g w V A) (hf : Fr w0 g0 w g) (r : Arr) (v : Value) (xs : List Value) (h1 : ∀ row ∈ r.rows, row.length = r.sz) (ho : w.ownsRow 0 r.ety r.sz v r.rows.length xs)
  (hr : ∀ (j : Nat) x u, r.rows.flatten[j]? = some x -> xs[j]? = some u -> RepD g.im w x u)
  (hb : ∀ b, v.ownBlock = some b -> g.im b = 0 /\ w0.heap.size <= b /\ (∀ l : Nat, g.ob[l]? ≠ some b) /\ ∀ (k : Nat) v', g.ar[k]? = some v' -> v'.ownBlock ≠ some b) :
  ∃ g', g'.im = g.im /\ g'.ob = g.ob /\ g'.ar = g.ar ++ [v] /\ Inv g' w V (A ++ [r]) /\ Ext g w A g' w (A ++ [r]) /\ Fr w0 g0 w g' := by
 have hx : Ext g w A { g with ar := g.ar ++ [v] } w (A ++ [r]) := by
  refine ⟨fun _ _ h => h, .refl _ _, fun k r' hk => ⟨r', ?_, rfl, Nat.le_refl _, fun _ => ?_⟩⟩
  ·rw [List.getElem?_append_left (List.getElem?_eq_some_iff.1 hk).1]; exact hk
  ·show (g.ar ++ [v])[k]? = _
   rw [List.getElem?_append_left (by rw [h.arl]; exact (List.getElem?_eq_some_iff.1 hk).1)]
 have hall : ∀ (k : Nat) (v' : Value), (g.ar ++ [v])[k]? = some v' -> g.ar[k]? = some v' \/ (k = A.length /\ v' = v) := fun k v' hk => by
  rcases Nat.lt_or_ge k g.ar.length with h1 | h1
  ·rw [List.getElem?_append_left h1] at hk; exact .inl hk
  ·rw [List.getElem?_append_right h1] at hk
   have h0 : k - g.ar.length = 0 := by
    have := (List.getElem?_eq_some_iff.1 hk).1
    simp at this; omega
   rw [h0] at hk; simp at hk
   exact .inr ⟨by rw [<- h.arl]; omega, hk.symm⟩
 refine ⟨{ g with ar := g.ar ++ [v] }, rfl, rfl, rfl, ⟨h.obl, by simp [h.arl], fun l row b h2 h3 => ?_, fun k r' v' h2 h3 => ?_, h.obob, fun k k' v1 v2 b h2 h3 h4 h5 => ?_, fun l k v' b h2 h3 => ?_, h.fresh⟩, hx, ?_⟩
 ·exact h.objKeep hx h2 h3 rfl (h.obj l row b h2 h3).1
 ·rcases hall k v' h3 with h4 | ⟨h4, h5⟩
  ·have h6 : A[k]? = some r' := by
    have : k < A.length := by rw [<- h.arl]; exact (List.getElem?_eq_some_iff.1 h4).1
    rwa [List.getElem?_append_left this] at h2
   exact h.arrKeep hx h6 h4 (fun _ _ => rfl) (fun _ _ => rfl)
  ·subst h4; subst h5
   simp at h2; subst h2
   exact ⟨h1, fun b hv => by show g.im b <= _; rw [(hb b hv).1]; exact Nat.zero_le _, xs, ho, hr⟩
 ·rcases hall k v1 h2 with h6 | ⟨h6, h7⟩ <;> rcases hall k' v2 h3 with h8 | ⟨h8, h9⟩
  ·exact h.arar k k' v1 v2 b h6 h8 h4 h5
  ·subst h9; exact absurd h4 ((hb b h5).2.2.2 k v1 h6)
  ·subst h7; exact absurd h5 ((hb b h4).2.2.2 k' v2 h8)
  ·omega
 ·rcases hall k v' h3 with h4 | ⟨h4, h5⟩
  ·exact h.obar l k v' b h2 h4
  ·subst h5; intro hv; exact (hb b hv).2.2.1 l h2
 ·refine ⟨hf.os, hf.tape, hf.output, hf.size, hf.blk, hf.imeq, hf.ob, fun k v' b h2 h3 => ?_, fun k v' h2 => ?_, hf.tab⟩
  ·rcases hall k v' h2 with h4 | ⟨h4, h5⟩
   ·exact hf.ar k v' b h4 h3
   ·subst h5; exact .inl (hb b h3).2.1
  ·obtain ⟨v2, h3, h4⟩ := hf.arx k v' h2
   exact ⟨v2, by show (g.ar ++ [v])[k]? = some v2; rw [List.getElem?_append_left (List.getElem?_eq_some_iff.1 h3).1]; exact h3, h4⟩
end
end Go.Av

namespace Go.Av
open Go

theorem flatten_at {α : Type} {sz : Nat} : ∀ {rows : List (List α)}, (∀ row ∈ rows, row.length = sz) -> ∀ {i j : Nat} {row : List α} {x : α}, rows[i]? = some row -> row[j]? = some x -> rows.flatten[i * sz + j]? = some x
 | [], _, i, j, row, x, h, _ => by simp at h
 | r :: rs, hl, 0, j, row, x, h, hx => by
  simp at h; subst h
  have hj := (List.getElem?_eq_some_iff.1 hx).1
  simp only [List.flatten_cons, Nat.zero_mul, Nat.zero_add]
  rw [List.getElem?_append_left hj]; exact hx
 | r :: rs, hl, i + 1, j, row, x, h, hx => by
  simp at h
  have hr : r.length = sz := hl r (by simp)
  have ih := flatten_at (fun q hq => hl q (by simp [hq])) h hx
  simp only [List.flatten_cons]
  rw [List.getElem?_append_right (by rw [hr, Nat.add_mul]; omega)]
  rwa [show (i + 1) * sz + j - r.length = i * sz + j by rw [hr, Nat.add_mul]; omega]

theorem flatten_len {α : Type} {sz : Nat} : ∀ {rows : List (List α)}, (∀ row ∈ rows, row.length = sz) -> rows.flatten.length = rows.length * sz
 | [], _ => by simp
 | r :: rs, hl => by
  have hr : r.length = sz := hl r (by simp)
  have ih := flatten_len (rows := rs) (fun q hq => hl q (by simp [hq]))
  simp only [List.flatten_cons, List.length_append, List.length_cons, ih, hr, Nat.add_mul]; omega

def splice {α : Type} (l : List α) (off : Nat) (ds : List α) : List α := l.take off ++ ds ++ l.drop (off + ds.length)

theorem splice_len {α : Type} {l : List α} {off : Nat} {ds : List α} (h : off + ds.length <= l.length) : (splice l off ds).length = l.length := by
 simp [splice]; omega

theorem splice_at {α : Type} {l : List α} {off : Nat} {ds : List α} (h : off + ds.length <= l.length) (j : Nat) : (splice l off ds)[j]? = if off <= j /\ j < off + ds.length then ds[j - off]? else l[j]? := by
 simp only [splice, List.append_assoc]
 by_cases h1 : j < off
 ·rw [if_neg (by omega), List.getElem?_append_left (by simp; omega), List.getElem?_take, if_pos h1]
 ·by_cases h2 : j < off + ds.length
  ·rw [if_pos (by omega), List.getElem?_append_right (by simp; omega), List.getElem?_append_left (by simp; omega)]
   congr 1; simp; omega
  ·rw [if_neg (by omega), List.getElem?_append_right (by simp; omega), List.getElem?_append_right (by simp; omega), List.getElem?_drop]
   congr 1; simp; omega

theorem flatten_splice {α : Type} {sz : Nat} : ∀ {rows : List (List α)}, (∀ row ∈ rows, row.length = sz) -> ∀ {i off : Nat} {row ds : List α}, rows[i]? = some row -> off + ds.length <= sz ->
  (rows.set i (splice row off ds)).flatten = splice rows.flatten (i * sz + off) ds
 | [], _, i, _, row, _, h, _ => by simp at h
 | r :: rs, hl, 0, off, row, ds, h, ho => by
  simp at h; subst h
  have hr : r.length = sz := hl r (by simp)
  simp only [List.set_cons_zero, List.flatten_cons, Nat.zero_mul, Nat.zero_add, splice]
  rw [List.take_append_of_le_length (by omega), List.drop_append_of_le_length (by omega)]
  simp
 | r :: rs, hl, i + 1, off, row, ds, h, ho => by
  simp at h
  have hr : r.length = sz := hl r (by simp)
  have ih := flatten_splice (fun q hq => hl q (by simp [hq])) h ho
  simp only [List.set_cons_succ, List.flatten_cons, ih]
  have e : (i + 1) * sz + off = r.length + (i * sz + off) := by rw [hr, Nat.add_mul]; omega
  rw [e]
  simp only [splice, Nat.add_assoc, List.take_length_add_append, List.drop_length_add_append, List.append_assoc]

section
variable {g g' g0 : Gh} {w w' w0 : World} {V V' : List (List CV)} {A A' : List Arr} {P : Program}

theorem repD_of_own {im : Nat -> Nat} {r : Arr} {v : Value} {xs : List Value} (h1 : ∀ row ∈ r.rows, row.length = r.sz) (ho : w.ownsRow 0 r.ety r.sz v r.rows.length xs)
  (hr : ∀ (j : Nat) x u, r.rows.flatten[j]? = some x -> xs[j]? = some u -> RepD im w x u) (hi : ∀ b, v.ownBlock = some b -> r.rows.length * r.sz <= im b) : RepD im w (.sl r.rows) v := by
 simp only [RepD]
 have ho' := ho
 rcases ho.2 with ⟨hv, hn⟩ | ⟨b, cap, cur, hv, _, hh, hnc, _, hcs, htake⟩
 ·have hn' : r.rows = [] := List.eq_nil_of_length_eq_zero hn
  exact ⟨none, 0, by rw [hv, hn], by omega, .inl hn'⟩
 ·refine ⟨some ⟨b, 0, none⟩, cap, hv, hnc, .inr ⟨b, 0, r.sz, rfl, by have := hi b (by rw [hv]; rfl); omega, ?_⟩⟩
  refine RepRows.mk fun i row hrow => ⟨h1 row (List.mem_of_getElem? hrow), RepRow.mk fun j x hx => ?_⟩
  have hf := flatten_at h1 hrow hx
  have hlt : i * r.sz + j < xs.length := by
   have := (List.getElem?_eq_some_iff.1 hf).1
   rw [flatten_len h1] at this; rw [ho'.1]; exact this
  have hu : xs[i * r.sz + j]? = some xs[i * r.sz + j] := List.getElem?_eq_getElem hlt
  refine ⟨_, ?_, hr _ x _ hf hu⟩
  have hc := ho'.cells (g := b) (by rw [hv]; rfl) _ _ hu
  have hadd : (⟨b, 0, none⟩ : Addr).add (i * r.sz + j) = ⟨b, 0 + i * r.sz + j, none⟩ := by unfold Addr.add; split <;> simp_all
  rwa [hadd] at hc

theorem Inv.seal (h : Inv g w V A) (hf : Fr w0 g0 w g) {k : Nat} {r : Arr} {v : Value} (hk : A[k]? = some r) (hv : g.ar[k]? = some v) :
  ∃ g', Inv g' w V (A.set k { r with wr := false }) /\ Ext g w A g' w (A.set k { r with wr := false }) /\ Fr w0 g0 w g' /\ g'.ar = g.ar /\ g'.ob = g.ob /\ RepD g'.im w (.sl r.rows) v := by
 obtain ⟨h1, h2, xs, ho, hr⟩ := h.arr k r v hk hv
 let im' : Nat -> Nat := fun b => if v.ownBlock = some b then max (g.im b) (r.rows.length * r.sz) else g.im b
 have hgr : Grows g.im w im' w := ⟨fun b => by simp only [im']; split <;> omega, fun _ _ _ => rfl⟩
 have hlt := (List.getElem?_eq_some_iff.1 hk).1
 have hset : ∀ k', (A.set k { r with wr := false })[k']? = if k' = k then some { r with wr := false } else A[k']? := fun k' => by
  by_cases e : k' = k
  ·subst e; simp [hlt]
  ·rw [if_neg e, List.getElem?_set_ne (by omega)]
 have hx : Ext g w A { g with im := im' } w (A.set k { r with wr := false }) := by
  refine ⟨fun _ _ h => h, hgr, fun k' r' hk' => ?_⟩
  rw [hset]
  by_cases e : k' = k
  ·subst e
   obtain rfl : r = r' := by rw [hk] at hk'; exact Option.some.inj hk'
   exact ⟨{ r with wr := false }, by simp, rfl, Nat.le_refl _, fun _ => rfl⟩
  ·exact ⟨r', by simp [e, hk'], rfl, Nat.le_refl _, fun _ => rfl⟩
 have hbk : ∀ b, v.ownBlock = some b -> b < w.heap.size := fun b hb => h.arLt hv hb
 refine ⟨{ g with im := im' }, ⟨h.obl, by rw [h.arl]; simp, fun l row b h3 h4 => ?_, fun k' r' v' h3 h4 => ?_, h.obob, h.arar, h.obar, fun b hb => ?_⟩, hx, ?_, rfl, rfl, ?_⟩
 ·refine h.objKeep hx h3 h4 rfl ?_
  show im' b = 0
  simp only [im']
  rw [if_neg (h.obar l k v b h4 hv)]; exact (h.obj l row b h3 h4).1
 ·rw [hset] at h3
  by_cases e : k' = k
  ·subst e
   simp at h3; subst h3
   obtain rfl : v = v' := by rw [hv] at h4; exact Option.some.inj h4
   refine ⟨h1, fun b hb => ?_, xs, ho, fun j x u h5 h6 => RepD.grows hgr x u (hr j x u h5 h6)⟩
   show im' b <= _
   simp only [im', hb, if_true]
   have := h2 b hb
   simp only [Bool.false_eq_true, if_false]
   split at this <;> omega
  ·simp [e] at h3
   refine h.arrKeep hx h3 h4 (fun _ _ => rfl) (fun b hb => ?_)
   show im' b = g.im b
   simp only [im']
   rw [if_neg (fun e' => e (h.arar k' k v' v b h4 hv hb e'))]
 ·show im' b = 0
  simp only [im']
  rw [if_neg (fun e => by have := hbk b e; omega)]; exact h.fresh b hb
 ·refine ⟨hf.os, hf.tape, hf.output, hf.size, hf.blk, fun b hb hb' => ?_, hf.ob, hf.ar, hf.arx, hf.tab⟩
  show im' b = _
  simp only [im']
  rw [if_neg (fun e => by rcases hf.ar k v b hv e with h7 | h7; omega; exact hb' h7)]; exact hf.imeq b hb hb'
 ·exact repD_of_own h1 ho (fun j x u h5 h6 => RepD.grows hgr x u (hr j x u h5 h6)) (fun b hb => by simp only [im', hb, if_true]; omega)

theorem run_append_av (t ty e : TypeId) (i : TypeInfo) (z : Value) (ht : P.underlying t = some (.slice e)) (hi : P.info? e = some i) (hz : i.zero = some z)
  (hzs : z.cells.size = i.size) (v : Value) (n : Nat) (xs : List Value) (hown : w.ownsRow 0 e i.size v n xs)
  (y : Value) (m : Nat) (news : List Value) (hy : (m = 0 /\ news = [] /\ ∃ a c, y = .slice a 0 c) \/ ∃ a c, y = .slice (some a) m c /\ news.length = m * i.size /\ ∀ j u, news[j]? = some u -> w.cell? (a.add j) = some u)
  (h1 : ∀ u ∈ news, u.oneCell' = true) (h63 : n + m <= maxLen) (hbytes : (n + m) * i.bytes <= 140737488355328) :
  ∃ v' w', (Builtin.append_ #[t, t] ty #[v, y]).run P w = .ok v' w' /\ w'.ownsRow 0 e i.size v' (n + m) (xs ++ news) /\
   ((v' = v /\ w' = w) \/ (∃ b cs, v.ownBlock = some b /\ v'.ownBlock = some b /\ w' = w.setRow b cs) \/ (∃ o, v'.ownBlock = some w.heap.size /\ w' = w.drew.alloc o)) := by
 have hlo : xs.length = n * i.size := hown.1
 by_cases hm : m = 0
 ·subst hm
  have hn0 : news = [] := by
   rcases hy with ⟨_, h, _⟩ | ⟨_, _, _, h, _⟩
   ·exact h
   ·exact List.eq_nil_of_length_eq_zero (by simpa using h)
  obtain ⟨a, c, rfl⟩ : ∃ a c, y = .slice a 0 c := by
   rcases hy with ⟨_, _, h⟩ | ⟨a, c, h, _⟩
   ·exact h
   ·exact ⟨some a, c, h⟩
  subst hn0
  refine ⟨v, w, ?_, by simpa using hown, .inl ⟨rfl, rfl⟩⟩
  have hfc : ∀ w : World, (Builtin.firstCells i.size 0 (.slice a 0 c)).run P w = .ok #[] w := fun w => by
   cases a <;> simp [Builtin.firstCells, loadCells, loadCellsFrom]
  rcases hown.2 with ⟨rfl, rfl⟩ | ⟨g, cap, cur, rfl, _, _, hnc, _⟩
  ·simp [Builtin.append_, run_underlying ht, sizeOf, typeInfo, hi, Builtin.lenOf, hfc]
  ·simp [Builtin.append_, run_underlying ht, sizeOf, typeInfo, hi, Builtin.lenOf, hfc, hnc, storeCells]
 ·rcases hy with ⟨h, _⟩ | ⟨a, c, rfl, hl, hnews⟩
  ·exact absurd h hm
  have hsmall : n + m <= 9223372036854775807 := by simp only [maxLen] at h63; omega
  have hlen : (xs ++ news).length = (n + m) * i.size := by rw [List.length_append, hown.1, hl, Nat.add_mul]
  have grown : ∀ (old : Nat), old < n + m ->
    (w.drew.alloc (.cells (xs.toArray ++ news.toArray ++ Builtin.zeroCells z.cells (grownCap w (n + m) old e - (n + m))) e)).ownsRow 0 e i.size
     (.slice (some ⟨w.heap.size, 0, none⟩) (n + m) (grownCap w (n + m) old e)) (n + m) (xs ++ news) := by
   intro old ho
   have hge := grownCap_ge w (n + m) old e
   have hcm : grownCap w (n + m) old e <= maxLen := grownCap_le_maxLen w (n + m) old e h63
   refine ⟨hlen, .inr ⟨w.heap.size, _, _, rfl, Nat.zero_le _, heap_alloc_new w.drew _, hge, hcm, ?_, ?_⟩⟩
   ·simp only [Array.size_append, List.size_toArray, size_zeroCells, hzs, hlo, hl, <- Nat.add_mul]
    congr 1
    omega
   ·simp only [Array.toList_append, List.append_assoc]
    rw [<- List.append_assoc, <- hlen]
    exact List.take_left
  rcases hown.2 with ⟨rfl, rfl⟩ | ⟨g, cap, cur, rfl, _, hg, hnc, hcm, hcs, htake⟩
  ·have hx : xs = [] := List.eq_nil_of_length_eq_zero (by simpa using hlo)
   subst hx
   have hr := run_append_nil (P := P) w t ty e i z ht hi hz a m c news hl hnews (by omega) (by omega) (by have hb := hbytes; simp only [Nat.zero_add] at hb; omega)
   have hgr := grown 0 (by omega)
   simp only [Nat.zero_add, List.nil_append, Array.empty_append] at hgr ⊢
   exact ⟨_, _, hr, hgr, .inr (.inr ⟨_, rfl, rfl⟩)⟩
  ·by_cases hroom : n + m <= cap
   ·have hfit : n * i.size + news.length <= cur.size := by rw [hl, hcs, <- Nat.add_mul]; exact Nat.mul_le_mul_right _ hroom
    have hr := run_append_room (P := P) w t ty e i ht hi g n cap cur hg a m c news hl hnews h1 hroom hfit
    refine ⟨_, _, hr, ⟨hlen, .inr ⟨g, cap, _, rfl, Nat.zero_le _, setRow_heap w g cur _ e _ hg, hroom, hcm, ?_, ?_⟩⟩, .inr (.inl ⟨g, _, rfl, rfl, rfl⟩)⟩
    ·simp only [List.size_toArray, List.length_append, List.length_take, List.length_drop, Array.length_toList]
     omega
    ·rw [htake, <- hlen]
     exact List.take_left
   ·have holds : ∀ j u, xs[j]? = some u -> w.cell? ((⟨g, 0, none⟩ : Addr).add j) = some u := hown.cells (g := g) rfl
    have hr := run_append_grow (P := P) w t ty e i z ht hi hz ⟨g, 0, none⟩ n cap xs hlo holds a m c news hl hnews (by omega) (by omega) (growslice_fits (by omega) hbytes)
    exact ⟨_, _, hr, grown cap (by omega), .inr (.inr ⟨_, rfl, rfl⟩)⟩

theorem set_get {α : Type} {l : List α} {k : Nat} {x y : α} (h : l[k]? = some x) (k' : Nat) : (l.set k y)[k']? = if k' = k then some y else l[k']? := by
 have hlt := (List.getElem?_eq_some_iff.1 h).1
 by_cases e : k' = k
 ·subst e; simp [hlt]
 ·rw [if_neg e, List.getElem?_set_ne (by omega)]

theorem rows_add {r : Arr} {nr : List (List DV)} {e : TypeId} {v' : Value} {xs news : List Value} {im : Nat -> Nat} (h1 : ∀ row ∈ r.rows, row.length = r.sz) (hn : ∀ row ∈ nr, row.length = r.sz)
  (hxl : xs.length = r.rows.length * r.sz)
  (hr : ∀ (j : Nat) x u, r.rows.flatten[j]? = some x -> xs[j]? = some u -> RepD im w' x u) (hr2 : ∀ (j : Nat) x u, nr.flatten[j]? = some x -> news[j]? = some u -> RepD im w' x u)
  (ho : w'.ownsRow 0 e r.sz v' (r.rows.length + nr.length) (xs ++ news)) :
  (∀ row ∈ r.rows ++ nr, row.length = r.sz) /\ w'.ownsRow 0 e r.sz v' (r.rows ++ nr).length (xs ++ news) /\ ∀ (j : Nat) x u, (r.rows ++ nr).flatten[j]? = some x -> (xs ++ news)[j]? = some u -> RepD im w' x u := by
 refine ⟨fun row hrow => ?_, by simpa using ho, fun j x u hj hu => ?_⟩
 ·rcases List.mem_append.1 hrow with h | h
  ·exact h1 row h
  ·exact hn row h
 ·rw [List.flatten_append] at hj
  have hfl := flatten_len h1
  by_cases hlt : j < xs.length
  ·rw [List.getElem?_append_left (by omega)] at hj
   rw [List.getElem?_append_left hlt] at hu
   exact hr j x u hj hu
  ·rw [List.getElem?_append_right (by omega)] at hj
   rw [List.getElem?_append_right (by omega)] at hu
   rw [hfl, <- hxl] at hj
   exact hr2 _ x u hj hu

theorem Inv.grow (h : Inv g w V A) (hf : Fr w0 g0 w g) {k : Nat} {r : Arr} {v v' : Value} (hk : A[k]? = some r) (hv : g.ar[k]? = some v) (nr : List (List DV)) (hne : nr ≠ []) (news : List Value)
  (hn : ∀ row ∈ nr, row.length = r.sz) (hr2 : ∀ (j : Nat) x u, nr.flatten[j]? = some x -> news[j]? = some u -> RepD g.im w x u)
  (ho' : ∀ xs, w.ownsRow 0 r.ety r.sz v r.rows.length xs -> w'.ownsRow 0 r.ety r.sz v' (r.rows.length + nr.length) (xs ++ news))
  (hc : (v' = v /\ w' = w) \/ (∃ b cs, v.ownBlock = some b /\ v'.ownBlock = some b /\ w' = w.setRow b cs) \/ (∃ o, v'.ownBlock = some w.heap.size /\ w' = w.drew.alloc o)) :
  ∃ g', Inv g' w' V (A.set k { r with rows := r.rows ++ nr }) /\ Ext g w A g' w' (A.set k { r with rows := r.rows ++ nr }) /\ Fr w0 g0 w' g' /\ g'.ar[k]? = some v' /\ g'.ob = g.ob /\ g'.im = g.im := by
 obtain ⟨h1, h2, xs, ho, hr⟩ := h.arr k r v hk hv
 have ho1 := ho' xs ho
 have hslen : slen v + 1 <= slen v' := by
  rw [slen_own ho, slen_own ho1]
  have := List.length_pos_iff.2 hne
  omega
 have hlt := (List.getElem?_eq_some_iff.1 hk).1
 have hnl : 0 < nr.length := List.length_pos_iff.2 hne
 -- the world
 have hsz : w.heap.size <= w'.heap.size := by
  rcases hc with ⟨_, rfl⟩ | ⟨b, cs, _, _, rfl⟩ | ⟨o, _, rfl⟩
  ·exact Nat.le_refl _
  ·simp
  ·simp
 have hoth : ∀ b, b < w.heap.size -> v.ownBlock ≠ some b -> w'.heap[b]? = w.heap[b]? := by
  intro b hb hne
  rcases hc with ⟨_, rfl⟩ | ⟨b', cs, hb', _, rfl⟩ | ⟨o, _, rfl⟩
  ·rfl
  ·exact heap_setRow_other w b' b cs (fun e => hne (by rw [e]; exact hb'))
  ·exact RowKit.Below.heap_alloc w.drew o b hb
 have hcell : ∀ b o, o < g.im b -> w'.cell? ⟨b, o, none⟩ = w.cell? ⟨b, o, none⟩ := by
  intro b o hlo
  have hb := h.imLt hlo
  by_cases e : v.ownBlock = some b
  ·rcases hc with ⟨_, rfl⟩ | ⟨b', cs, hb', hb'', rfl⟩ | ⟨o', _, rfl⟩
   ·rfl
   ·obtain rfl : b = b' := by rw [e] at hb'; exact Option.some.inj hb'
    have hle := h2 b e
    have hlo' : o < xs.length := by rw [ho.1]; split at hle <;> omega
    have hu : xs[o]? = some xs[o] := List.getElem?_eq_getElem hlo'
    have c1 := ho.cells (g := b) e _ _ hu
    have c2 := ho1.cells (g := b) hb'' o xs[o] (by rw [List.getElem?_append_left hlo']; exact hu)
    have hadd : (⟨b, 0, none⟩ : Addr).add o = ⟨b, o, none⟩ := by unfold Addr.add; split <;> simp_all
    rw [hadd] at c1 c2
    rw [c1, c2]
   ·exact World.cell?_of_block (a := ⟨b, o, none⟩) (RowKit.Below.heap_alloc w.drew o' b hb)
  ·exact World.cell?_of_block (a := ⟨b, o, none⟩) (hoth b hb e)
 have hgr : Grows g.im w g.im w' := ⟨fun _ => Nat.le_refl _, hcell⟩
 have hvl : g.ar.length = A.length := h.arl
 have hx : Ext g w A { g with ar := g.ar.set k v' } w' (A.set k { r with rows := r.rows ++ nr }) := by
  refine ⟨fun _ _ h => h, hgr, fun k' r' hk' => ?_⟩
  rw [set_get hk]
  by_cases e : k' = k
  ·subst e
   obtain rfl : r = r' := by rw [hk] at hk'; exact Option.some.inj hk'
   exact ⟨{ r with rows := r.rows ++ nr }, by simp, rfl, by simp, fun he => by simp at he; exact absurd he hne⟩
  ·refine ⟨r', by simp [e, hk'], rfl, Nat.le_refl _, fun _ => ?_⟩
   show (g.ar.set k v')[k']? = g.ar[k']?
   rw [set_get hv, if_neg e]
 have hvb : ∀ b, v'.ownBlock = some b -> (v.ownBlock = some b) \/ b = w.heap.size := by
  intro b hb
  rcases hc with ⟨rfl, _⟩ | ⟨b', cs, h3, h4, _⟩ | ⟨o, h3, _⟩
  ·exact .inl hb
  ·rw [h4] at hb; exact .inl (h3.trans hb)
  ·rw [h3] at hb; exact .inr (Option.some.inj hb).symm
 have hadd := rows_add h1 hn ho.1 (fun j x u hj hu => RepD.grows hgr x u (hr j x u hj hu)) (fun j x u hj hu => RepD.grows hgr x u (hr2 j x u hj hu)) ho1
 refine ⟨{ g with ar := g.ar.set k v' }, ⟨h.obl, by simp [h.arl], fun l row b h3 h4 => ?_, fun k' r' u h3 h4 => ?_, h.obob, fun k1 k2 u1 u2 b h3 h4 h5 h6 => ?_, fun l k' u b h3 h4 => ?_, fun b hb => h.fresh b (by omega)⟩, hx, ?_, ?_, rfl, rfl⟩
 ·exact h.objKeep hx h3 h4 (hoth b (h.obLt h4) (h.obar l k v b h4 hv)) (h.obj l row b h3 h4).1
 ·rw [set_get hk] at h3
  have h4' : (g.ar.set k v')[k']? = some u := h4
  rw [set_get hv] at h4'
  by_cases e : k' = k
  ·subst e
   simp at h3 h4'; subst h3; subst h4'
   refine ⟨hadd.1, fun b hb => ?_, xs ++ news, hadd.2.1, hadd.2.2⟩
   show g.im b <= _
   rcases hvb b hb with h5 | h5
   ·have := h2 b h5
    simp only [List.length_append, Nat.add_mul]
    cases hwr : r.wr <;> simp only [hwr, if_true, Bool.false_eq_true, if_false] at this ⊢ <;> omega
   ·rw [h.fresh b (by omega)]; exact Nat.zero_le _
  ·simp [e] at h3 h4'
   refine h.arrKeep hx h3 h4' (fun b hb => hoth b (h.arLt h4' hb) (fun e' => e (h.arar k' k u v b h4' hv hb e'))) (fun _ _ => rfl)
 ·have h3' : (g.ar.set k v')[k1]? = some u1 := h3
  have h4' : (g.ar.set k v')[k2]? = some u2 := h4
  rw [set_get hv] at h3' h4'
  by_cases e1 : k1 = k <;> by_cases e2 : k2 = k
  ·omega
  ·simp [e1, e2] at h3' h4'; subst h3'
   rcases hvb b h5 with h7 | h7
   ·exact absurd (h.arar k2 k u2 v b h4' hv h6 h7) e2
   ·have := h.arLt h4' h6; omega
  ·simp [e1, e2] at h3' h4'; subst h4'
   rcases hvb b h6 with h7 | h7
   ·exact absurd (h.arar k1 k u1 v b h3' hv h5 h7) e1
   ·have := h.arLt h3' h5; omega
  ·simp [e1, e2] at h3' h4'
   exact h.arar k1 k2 u1 u2 b h3' h4' h5 h6
 ·have h4' : (g.ar.set k v')[k']? = some u := h4
  rw [set_get hv] at h4'
  by_cases e : k' = k
  ·simp [e] at h4'; subst h4'
   intro hb
   rcases hvb b hb with h7 | h7
   ·exact h.obar l k v b h3 hv h7
   ·have := h.obLt h3; omega
  ·simp [e] at h4'
   exact h.obar l k' u b h3 h4'
 ·have hos : w'.os = w.os /\ w'.tape = w.tape /\ w'.output = w.output := by
   rcases hc with ⟨_, rfl⟩ | ⟨b, cs, _, _, rfl⟩ | ⟨o, _, rfl⟩ <;> exact ⟨rfl, rfl, rfl⟩
  refine ⟨hos.1.trans hf.os, hos.2.1.trans hf.tape, hos.2.2.trans hf.output, Nat.le_trans hf.size hsz, fun b h3 h4 h4' => ?_, hf.imeq, hf.ob, fun k' u b h3 h4 => ?_, fun k' u h3 => ?_, hf.tab⟩
  ·rw [hoth b (Nat.lt_of_lt_of_le h3 hf.size) (fun e => by rcases hf.ar k v b hv e with h7 | h7; omega; exact h4' h7)]
   exact hf.blk b h3 h4 h4'
  ·have h3' : (g.ar.set k v')[k']? = some u := h3
   rw [set_get hv] at h3'
   by_cases e : k' = k
   ·simp [e] at h3'; subst h3'
    rcases hvb b h4 with h7 | h7
    ·exact hf.ar k v b hv h7
    ·rw [h7]; exact .inl hf.size
   ·simp [e] at h3'
    exact hf.ar k' u b h3' h4
  ·obtain ⟨u1, h4, h5, h6⟩ := hf.arx k' u h3
   by_cases e : k' = k
   ·subst e
    obtain rfl : v = u1 := by rw [hv] at h4; exact Option.some.inj h4
    refine ⟨v', ?_, ?_⟩
    ·show (g.ar.set k' v')[k']? = some v'
     rw [set_get hv]; simp
    ·have hlen : slen v + 1 <= slen v' := hslen
     exact ⟨by omega, fun h7 => by omega⟩
   ·refine ⟨u1, ?_, h5, h6⟩
    show (g.ar.set k v')[k']? = some u1
    rw [set_get hv]; simp [e, h4]
 ·show (g.ar.set k v')[k]? = some v'
  rw [set_get hv]; simp

theorem Inv.storeArr (h : Inv g w V A) (hf : Fr w0 g0 w g) {k : Nat} {r : Arr} {v : Value} (hk : A[k]? = some r) (hv : g.ar[k]? = some v) (hw : r.wr = true) {i off b : Nat} {row ds : List DV} (hi : r.rows[i]? = some row)
  (ho : off + ds.length <= r.sz) (hb : v.ownBlock = some b) (vs : List Value) (hvl : vs.length = ds.length) (hds : ∀ (j : Nat) x u, ds[j]? = some x -> vs[j]? = some u -> RepD g.im w x u) :
  ∃ cur ty cap, v = .slice (some ⟨b, 0, none⟩) r.rows.length cap /\ w.heap[b]? = some (.cells cur ty (0, 0)) /\ i * r.sz + off + vs.length <= cur.size /\ i * r.sz + off + vs.length <= r.rows.length * r.sz /\
   Inv g (w.setRow b (splice cur.toList (i * r.sz + off) vs).toArray) V (A.set k { r with rows := r.rows.set i (splice row off ds) }) /\
   Ext g w A g (w.setRow b (splice cur.toList (i * r.sz + off) vs).toArray) (A.set k { r with rows := r.rows.set i (splice row off ds) }) /\ Fr w0 g0 (w.setRow b (splice cur.toList (i * r.sz + off) vs).toArray) g := by
 obtain ⟨h1, h2, xs, hown, hr⟩ := h.arr k r v hk hv
 have him : g.im b = 0 := by have := h2 b hb; rw [hw] at this; simpa using this
 rcases hown.2 with ⟨rfl, _⟩ | ⟨b', cap, cur, rfl, _, hh, hnc, hcm, hcs, htake⟩
 ·simp [Value.ownBlock] at hb
 simp [Value.ownBlock] at hb; subst hb
 have hlt := (List.getElem?_eq_some_iff.1 hi).1
 have hmul : (i + 1) * r.sz <= r.rows.length * r.sz := Nat.mul_le_mul_right _ hlt
 have hmul2 : r.rows.length * r.sz <= cap * r.sz := Nat.mul_le_mul_right _ hnc
 rw [Nat.add_mul, Nat.one_mul] at hmul
 have hfit : i * r.sz + off + vs.length <= r.rows.length * r.sz := by omega
 have hfit2 : i * r.sz + off + vs.length <= cur.size := by omega
 have hx1 := Ext.setRow g w A b' (splice cur.toList (i * r.sz + off) vs).toArray him
 have hx : Ext g w A g (w.setRow b' (splice cur.toList (i * r.sz + off) vs).toArray) (A.set k { r with rows := r.rows.set i (splice row off ds) }) := by
  refine ⟨hx1.ob, hx1.gr, fun k' r' hk' => ?_⟩
  rw [set_get hk]
  by_cases e : k' = k
  ·subst e
   obtain rfl : r = r' := by rw [hk] at hk'; exact Option.some.inj hk'
   exact ⟨{ r with rows := r.rows.set i (splice row off ds) }, by simp, rfl, by simp, fun _ => rfl⟩
  ·exact ⟨r', by simp [e, hk'], rfl, Nat.le_refl _, fun _ => rfl⟩
 refine ⟨cur, r.ety, cap, rfl, hh, hfit2, hfit, ⟨h.obl, by simp [h.arl], fun l row' b h3 h4 => ?_, fun k' r' u h3 h4 => ?_, h.obob, h.arar, h.obar, fun b hb => h.fresh b (by simpa using hb)⟩, hx, hf.setRow b' _ (.inr (hf.ar k _ b' hv rfl))⟩
 ·exact h.objKeep hx h3 h4 (heap_setRow_other w b' b _ (fun e => by subst e; exact h.obar l k _ b h4 hv rfl)) (h.obj l row' b h3 h4).1
 ·rw [set_get hk] at h3
  by_cases e : k' = k
  ·subst e
   simp at h3; subst h3
   obtain rfl : Value.slice (some ⟨b', 0, none⟩) r.rows.length cap = u := by rw [hv] at h4; exact Option.some.inj h4
   have hrl : row.length = r.sz := h1 row (List.mem_of_getElem? hi)
   refine ⟨fun q hq => ?_, fun b hb => ?_, splice xs (i * r.sz + off) vs, ?_, fun j x u hj hu => ?_⟩
   ·rcases List.mem_or_eq_of_mem_set hq with h5 | h5
    ·exact h1 q h5
    ·rw [h5, splice_len (by omega)]; exact hrl
   ·simp [Value.ownBlock] at hb; subst hb; rw [him]; exact Nat.zero_le _
   ·refine ⟨?_, .inr ⟨b', cap, (splice cur.toList (i * r.sz + off) vs).toArray, ?_, Nat.zero_le _, setRow_heap w b' cur _ r.ety (0, 0) hh, by simpa using hnc, hcm, ?_, ?_⟩⟩
    ·rw [splice_len (by rw [hown.1]; exact hfit)]; simpa using hown.1
    ·simp
    ·simp only [List.size_toArray]
     rw [splice_len (by simpa using hfit2)]; simpa using hcs
    ·apply List.ext_getElem?
     intro j
     simp only [List.length_set]
     rw [List.getElem?_take, splice_at (by simpa using hfit2), splice_at (by rw [hown.1]; exact hfit), <- htake, List.getElem?_take]
     split <;> split <;> first | rfl | (rename_i h5 h6; omega)
   ·simp only at hj
    rw [flatten_splice h1 hi ho, splice_at (by rw [flatten_len h1]; omega)] at hj
    rw [splice_at (by rw [hown.1]; exact hfit), hvl] at hu
    split at hj
    ·rename_i hc
     rw [if_pos hc] at hu
     exact RepD.grows hx.gr x u (hds _ x u hj hu)
    ·rename_i hc
     rw [if_neg hc] at hu
     exact RepD.grows hx.gr x u (hr j x u hj hu)
  ·simp [e] at h3
   refine h.arrKeep hx h3 h4 (fun b hb => heap_setRow_other w b' b _ (fun e' => by subst e'; exact e (h.arar k' k u _ b h4 hv hb rfl))) (fun _ _ => rfl)
end
end Go.Av

namespace Go.Av
open Go

structure TD where
 ag : Bool
 sz : Nat
 by_ : Nat
 zero : Option (List CV)
 el : Option TypeId
 ar : Option (Nat × TypeId)
 fl : List (Nat × Nat)
 ik : Option IntKind
 isS : Bool
 isB : Bool

def cvOf : Value -> Option CV
 | .int k n => some (.d (.int k n))
 | .bool b => some (.d (.bool b))
 | .string s => some (.d (.str s.data.toList))
 | .slice none 0 0 => some .nil
 | .pointer none => some .np
 | _ => none

def cvsOf : List Value -> Option (List CV)
 | [] => some []
 | v :: r => match cvOf v, cvsOf r with
  | some c, some cs => some (c :: cs)
  | _, _ => none

def flOf (P : Program) : List Field -> Option (List (Nat × Nat))
 | [] => some []
 | f :: r => match P.info? f.type, flOf P r with
  | some i, some l => some ((f.offset, i.size) :: l)
  | _, _ => none

def agD : TypeDesc -> Bool | .struct _ => true | .array _ _ => true | _ => false
def elD : TypeDesc -> Option TypeId | .slice e => some e | _ => none
def arD : TypeDesc -> Option (Nat × TypeId) | .array n e => some (n, e) | _ => none
def flD (P : Program) : TypeDesc -> List (Nat × Nat) | .struct fs => (flOf P fs.toList).getD [] | _ => []
def ikD : TypeDesc -> Option IntKind | .int k => some k | _ => none
def isSD : TypeDesc -> Bool | .string => true | _ => false
def isBD : TypeDesc -> Bool | .bool => true | _ => false
def zeD : Option Value -> Option (List CV) | some z => cvsOf z.cells.toList | none => none

def td (P : Program) (t : TypeId) : Option TD :=
 match P.underlying t, P.info? t with
 | some d, some i => some { ag := agD d, sz := i.size, by_ := i.bytes, zero := zeD i.zero, el := elD d, ar := arD d, fl := flD P d, ik := ikD d, isS := isSD d, isB := isBD d }
 | _, _ => none

def aval (s : St) : Operand -> Option AV
 | .tmp t => look s.fr t
 | .const v => (cvOf v).map AV.c
 | .func f => some (.c (.fn f []))
 | .global _ => none

def onv {α : Type} (o : Option α) (k : α -> Prop) : Prop :=
 match o with
 | some v => k v
 | none => False

def toD (A : List Arr) : CV -> Option DV
 | .d x => some x
 | .nil => some (.sl [])
 | .own k n => match A[k]? with
  | some r => if n = r.rows.length then some (.sl r.rows) else none
  | none => none
 | _ => none

def toDs (A : List Arr) : List CV -> Option (List DV)
 | [] => some []
 | c :: r => match toD A c, toDs A r with
  | some d, some ds => some (d :: ds)
  | _, _ => none

def toRows (A : List Arr) : List (List CV) -> Option (List (List DV))
 | [] => some []
 | c :: r => match toDs A c, toRows A r with
  | some d, some ds => some (d :: ds)
  | _, _ => none

def sealA (A : List Arr) : CV -> List Arr
 | .own k _ => match A[k]? with
  | some r => A.set k { r with wr := false }
  | none => A
 | _ => A

def sealAs (A : List Arr) (cs : List CV) : List Arr := cs.foldl sealA A

def cellsAt (s : St) (p : CV) (n : Nat) : Option (List CV) :=
 match p with
 | .ptr l off => match s.V[l]? with
  | some row => if off + n <= row.length then some ((row.drop off).take n) else none
  | none => none
 | .ip row off => if off + n <= row.length then some (((row.drop off).take n).map CV.d) else none
 | .op k m i off => match s.A[k]? with
  | some r => if m = r.rows.length then
    match r.rows[i]? with
    | some row => if off + n <= row.length then some (((row.drop off).take n).map CV.d) else none
    | none => none
   else none
  | none => none
 | _ => none

def mkV (ag : Bool) (cs : List CV) : Option AV :=
 if ag then some (.agg cs) else
 match cs with
 | [c] => some (.c c)
 | _ => none

def AV.plain : AV -> Bool
 | .tup _ => false
 | .c x => !x.isUndef
 | .agg xs => xs.all fun x => !x.isUndef

def bitI (op : BinOp) (k : IntKind) (x y : Int) : Int :=
 match op with
 | .and => k.wrap (BitVec.ofInt k.bits x &&& BitVec.ofInt k.bits y).toNat
 | .or => k.wrap (BitVec.ofInt k.bits x ||| BitVec.ofInt k.bits y).toNat
 | .xor => k.wrap (BitVec.ofInt k.bits x ^^^ BitVec.ofInt k.bits y).toNat
 | _ => 0

def abin (op : BinOp) (x y : AV) : Option AV :=
 match x, y with
 | .c (.d (.int k a)), .c (.d (.int k' b)) =>
  if k = k' then
   match op with
   | .add => some (.c (.d (.int k (k.wrap (a + b)))))
   | .sub => some (.c (.d (.int k (k.wrap (a - b)))))
   | .mul => some (.c (.d (.int k (k.wrap (a * b)))))
   | .quo => if b = 0 then none else some (.c (.d (.int k (k.wrap (a.tdiv b)))))
   | .rem => if b = 0 then none else some (.c (.d (.int k (a.tmod b))))
   | .eql => some (.c (.d (.bool (a == b))))
   | .neq => some (.c (.d (.bool (a != b))))
   | .lss => some (.c (.d (.bool (a < b))))
   | .leq => some (.c (.d (.bool (a <= b))))
   | .gtr => some (.c (.d (.bool (a > b))))
   | .geq => some (.c (.d (.bool (a >= b))))
   | .and => some (.c (.d (.int k (bitI .and k a b))))
   | .or => some (.c (.d (.int k (bitI .or k a b))))
   | .xor => some (.c (.d (.int k (bitI .xor k a b))))
   | .shl => if b < 0 then none else some (.c (.d (.int k (k.wrap (a * 2 ^ min b.toNat k.bits)))))
   | .shr => if b < 0 then none else some (.c (.d (.int k (a.fdiv (2 ^ min b.toNat k.bits)))))
   | _ => none
  else none
 | .c (.d (.str a)), .c (.d (.str b)) =>
  match op with
  | .add => if a.length + b.length <= 4611686018427387904 then some (.c (.d (.str (a ++ b)))) else none
  | .eql => some (.c (.d (.bool (a == b))))
  | .neq => some (.c (.d (.bool (!(a == b)))))
  | .lss => some (.c (.d (.bool (Op.bytesLess a b))))
  | .leq => some (.c (.d (.bool (Op.bytesLess a b || a == b))))
  | .gtr => some (.c (.d (.bool (!(Op.bytesLess a b || a == b)))))
  | .geq => some (.c (.d (.bool (!(Op.bytesLess a b)))))
  | _ => none
 | _, _ => none

def abinB (op : BinOp) (x y : AV) : Option AV :=
 match x, y with
 | .c (.d (.bool a)), .c (.d (.bool b)) =>
  match op with
  | .eql => some (.c (.d (.bool (a == b))))
  | .neq => some (.c (.d (.bool (!(a == b)))))
  | _ => none
 | _, _ => none

def kindOf : TypeDesc -> Option Nat
 | .int _ => some 0
 | .bool => some 1
 | .string => some 2
 | _ => none

def sqs (P : Program) : Nat -> List Field -> Option (List Nat)
 | _, [] => some []
 | i, f :: r => match P.underlying f.type with
  | some d => match kindOf d, sqs P (i + 1) r with
   | some k, some ks => if f.name ≠ "_" /\ f.offset = i then some (k :: ks) else none
   | _, _ => none
  | none => none

def sq (P : Program) (t : TypeId) : Option (List Nat) :=
 match P.underlying t with
 | some (.struct fs) => if P.stoodInHeld t = false /\ P.eqGuardType P.depth t = false then sqs P 0 fs.toList else none
 | _ => none

def cEq : List Nat -> List CV -> List CV -> Option Bool
 | [], [], [] => some true
 | 0 :: ks, .d (.int k a) :: xs, .d (.int k' b) :: ys => if k = k' then (cEq ks xs ys).map fun r => (a == b) && r else none
 | 1 :: ks, .d (.bool a) :: xs, .d (.bool b) :: ys => (cEq ks xs ys).map fun r => (a == b) && r
 | 2 :: ks, .d (.str a) :: xs, .d (.str b) :: ys => (cEq ks xs ys).map fun r => (a == b) && r
 | _, _, _ => none

def abinS (P : Program) (op : BinOp) (t : TypeId) (x y : AV) : Option AV :=
 match x, y with
 | .agg xs, .agg ys => match sq P t with
  | some ks => match cEq ks xs ys with
   | some r => match op with
    | .eql => some (.c (.d (.bool r)))
    | .neq => some (.c (.d (.bool (!r))))
    | _ => none
   | none => none
  | none => none
 | _, _ => none

def aun (op : UnOp) (x : AV) : Option AV :=
 match op, x with
 | .not, .c (.d (.bool b)) => some (.c (.d (.bool (!b))))
 | .neg, .c (.d (.int k n)) => some (.c (.d (.int k (k.wrap (0 - n)))))
 | _, _ => none

def afill (fl : List (Nat × Nat)) : List CV -> List (Nat × List CV) -> Option (List CV)
 | cells, [] => some cells
 | cells, (i, x) :: r =>
  match fl[i]? with
  | none => none
  | some (off, size) => if x.length = size /\ off + size <= cells.length then afill fl (splice cells off x) r else none

def aparts (s : St) : List (Nat × Operand) -> Option (List (Nat × List CV))
 | [] => some []
 | (i, x) :: r => match aval s x, aparts s r with
  | some v, some l => if v.plain then some ((i, v.cells) :: l) else none
  | _, _ => none

def arows (s : St) (sz : Nat) : Nat -> List (Nat × Operand) -> Option (List (List CV))
 | _, [] => some []
 | k, (i, x) :: r => match aval s x, arows s sz (k + 1) r with
  | some v, some l => if i = k /\ v.plain /\ v.cells.length = sz then some (v.cells :: l) else none
  | _, _ => none

def caps : List AV -> Option (List Nat)
 | [] => some []
 | .c (.ptr l 0) :: r => (caps r).map (l :: ·)
 | _ => none

def avals (s : St) : List Operand -> Option (List AV)
 | [] => some []
 | x :: r => match aval s x, avals s r with
  | some v, some l => some (v :: l)
  | _, _ => none

def alen : AV -> Option Nat
 | .c (.d (.str b)) => some b.length
 | .c (.d (.sl rows)) => some rows.length
 | .c .nil => some 0
 | .c (.own _ n) => some n
 | _ => none

def rowsOf (A : List Arr) : AV -> Option (List (List DV))
 | .c (.d (.sl rows)) => some rows
 | .c .nil => some []
 | .c (.own k n) => match A[k]? with
  | some r => if n = r.rows.length then some r.rows else none
  | none => none
 | _ => none

def byteOfRow : List DV -> Option UInt8
 | [.int .u8 n] => if 0 <= n /\ n < 256 then some (UInt8.ofNat n.toNat) else none
 | _ => none

def bytesOf : List (List DV) -> Option (List UInt8)
 | [] => some []
 | r :: rs => match byteOfRow r, bytesOf rs with
  | some b, some l => some (b :: l)
  | _, _ => none

def slow (lo : Option AV) : Option Int :=
 match lo with
 | none => some 0
 | some (.c (.d (.int _ n))) => some n
 | _ => none

def shigh (hi : Option AV) (n : Nat) : Option Int :=
 match hi with
 | none => some n
 | some (.c (.d (.int _ n))) => some n
 | _ => none

def oval (s : St) : Option Operand -> Option (Option AV)
 | none => some none
 | some x => (aval s x).map some

@[simp] def cvI (dd : TD) (n : Int) : Option DV := match dd.ik with
 | some k => some (.int k (k.wrap n))
 | none => if dd.isS = true /\ 0 <= n /\ n < 128 then some (.str [UInt8.ofNat n.toNat]) else none

def wpo (P : Program) (s : St) (ow : Bool) (op : Op) (K : AV -> List (List CV) -> List Arr -> Prop) : Prop :=
 match op with
 | .move x | .assign x => onv (aval s x) fun v => K v s.V s.A
 | .pick c a b => onv (aval s c) fun v => match v with
  | .c (.d (.bool t)) => if t = true then onv (aval s a) fun v => K v s.V s.A else onv (aval s b) fun v => K v s.V s.A
  | _ => False
 | .alloc e => onv (td P e) fun d => onv d.zero fun z => K (.c (.ptr s.V.length 0)) (s.V ++ [z]) s.A
 | .box _ x => onv (aval s x) fun v => v.plain = true /\ K (.c (.ptr s.V.length 0)) (s.V ++ [v.cells]) s.A
 | .build t parts => onv (td P t) fun d => onv d.zero fun z => onv (aparts s parts.toList) fun ps => onv (afill d.fl z ps) fun cs => d.ar = none /\ d.fl ≠ [] /\ K (.agg cs) s.V s.A
 | .buildSlice t len parts => onv (td P t) fun d => onv d.el fun e => onv (td P e) fun de => onv (arows s de.sz 0 parts.toList) fun rows =>
   onv (toRows s.A rows) fun ds => rows.length = len /\ len * de.sz <= 16777216 /\ 0 < de.sz /\ de.zero.isSome = true /\
    if ow then K (.c (.own s.A.length len)) s.V (sealAs s.A rows.flatten ++ [{ sz := de.sz, ety := e, rows := ds, wr := true }]) else K (.c (.d (.sl ds))) s.V (sealAs s.A rows.flatten)
 | .load t a => onv (td P t) fun d => onv (aval s a) fun p => match p with
  | .c p => onv (cellsAt s p d.sz) fun cs => onv (mkV d.ag cs) fun v => K v s.V s.A
  | _ => False
 | .store t a x => onv (td P t) fun d => onv (aval s a) fun p => onv (aval s x) fun v => v.plain = true /\ v.cells.length = d.sz /\ match p with
  | .c (.ptr l off) => onv s.V[l]? fun row => off + d.sz <= row.length /\ K (.c .undef) (s.V.set l (splice row off v.cells)) s.A
  | .c (.op k n i off) => onv s.A[k]? fun r => n = r.rows.length /\ r.wr = true /\ onv r.rows[i]? fun row => onv (toDs s.A v.cells) fun ds => off + d.sz <= r.sz /\ (v.cells.all fun c => match c with | .own k' _ => k' ≠ k | _ => true) = true /\
    K (.c .undef) s.V ((sealAs s.A v.cells).set k { r with rows := r.rows.set i (splice row off ds) })
  | _ => False
 | .nilCheck x => onv (aval s x) fun v => match v with
  | .c (.ptr l off) => K (.c (.ptr l off)) s.V s.A
  | .c (.ip r off) => K (.c (.ip r off)) s.V s.A
  | .c (.op k n i off) => K (.c (.op k n i off)) s.V s.A
  | .c (.fn f cap) => K (.c (.fn f cap)) s.V s.A
  | _ => False
 | .binOp op t x y _ => onv (aval s x) fun a => onv (aval s y) fun b => match abin op a b with
  | some v => K v s.V s.A
  | none => match abinS P op t a b with
   | some v => K v s.V s.A
   | none => onv (abinB op a b) fun v => onv (td P t) fun d => d.isB = true /\ K v s.V s.A
 | .unOp op _ x => onv (aval s x) fun a => onv (aun op a) fun v => K v s.V s.A
 | .convert src dst x => onv (aval s x) fun a => onv (td P src) fun ds => onv (td P dst) fun dd => match a with
  | .c (.d (.int _ n)) => onv (cvI dd n) fun d => K (.c (.d d)) s.V s.A
  | .c (.d (.str b)) => dd.isS = true /\ ds.isS = true /\ K (.c (.d (.str b))) s.V s.A
  | .c (.d (.sl rows)) => dd.isS = true /\ onv ds.el fun e => onv (td P e) fun de => de.ik = some .u8 /\ onv (bytesOf rows) fun b => K (.c (.d (.str b))) s.V s.A
  | _ => False
 | .makeFunc (.func f) first captured => first.size = 0 /\ onv (avals s captured.toList) fun cs => onv (caps cs) fun ls => K (.c (.fn f ls)) s.V s.A
 | .makeSlice t l c => onv (td P t) fun d => onv d.el fun e => onv (td P e) fun de => onv de.zero fun z => onv (toDs s.A z) fun dz => onv (aval s l) fun vl => onv (aval s c) fun vc => match vl, vc with
  | .c (.d (.int _ n)), .c (.d (.int _ m)) => n = m /\ 0 <= n /\ n.toNat * de.by_ <= 140737488355328 /\ n.toNat <= 9223372036854775807 /\ 0 < de.sz /\ z.length = de.sz /\
    K (.c (.own s.A.length n.toNat)) s.V (s.A ++ [{ sz := de.sz, ety := e, rows := List.replicate n.toNat dz, wr := true }])
  | _, _ => False
 | .slice t x lo hi mx => mx = none /\ onv (td P t) fun d => onv (aval s x) fun v => onv (oval s lo) fun l => onv (oval s hi) fun h => match v with
  | .c (.d (.str b)) => d.isS = true /\ onv (slow l) fun i => onv (shigh h b.length) fun j => 0 <= i /\ i <= j /\ j <= b.length /\ K (.c (.d (.str ((b.take j.toNat).drop i.toNat)))) s.V s.A
  | v => onv (rowsOf s.A v) fun rows => onv d.el fun e => onv (td P e) fun de => onv (slow l) fun i => onv (shigh h rows.length) fun j => 0 <= i /\ i <= j /\ j <= rows.length /\ (∀ r ∈ rows, r.length = de.sz) /\
    K (.c (.d (.sl ((rows.take j.toNat).drop i.toNat)))) s.V (sealAs s.A v.cells)
 | .fieldAddr t x f => onv (td P t) fun d => onv d.fl[f]? fun (off, sz) => sz ≠ 0 /\ onv (aval s x) fun v => match v with
  | .c (.ptr l o) => K (.c (.ptr l (o + off))) s.V s.A
  | .c (.ip r o) => K (.c (.ip r (o + off))) s.V s.A
  | .c (.op k n i o) => K (.c (.op k n i (o + off))) s.V s.A
  | _ => False
 | .indexAddr t x ix => onv (td P t) fun d => onv (aval s x) fun v => onv (aval s ix) fun i => match i with
  | .c (.d (.int _ n)) => 0 <= n /\ (match v with
   | .c (.d (.sl rows)) => onv d.el fun e => onv (td P e) fun de => onv rows[n.toNat]? fun row => row.length = de.sz /\ K (.c (.ip row 0)) s.V s.A
   | .c (.own k m) => onv d.el fun e => onv (td P e) fun de => onv s.A[k]? fun r => m = r.rows.length /\ n.toNat < m /\ r.sz = de.sz /\ K (.c (.op k m n.toNat 0)) s.V s.A
   | .c (.ptr l off) => onv d.ar fun (len, e) => onv (td P e) fun de => n < len /\ K (.c (.ptr l (off + n.toNat * de.sz))) s.V s.A
   | _ => False)
  | _ => False
 | .index t x ix => onv (td P t) fun d => onv (aval s x) fun v => onv (aval s ix) fun i => match v, i with
  | .c (.d (.str b)), .c (.d (.int _ n)) => d.isS = true /\ 0 <= n /\ onv b[n.toNat]? fun c => K (.c (.d (.int .u8 c.toNat))) s.V s.A
  | .agg xs, .c (.d (.int _ n)) => onv d.ar fun (len, e) => onv (td P e) fun de => de.ag = false /\ de.sz = 1 /\ 0 <= n /\ n < len /\ onv xs[n.toNat]? fun c => K (.c c) s.V s.A
  | _, _ => False
 | .extract x i => onv (aval s x) fun v => match v with
  | .tup xs => onv xs[i]? fun u => match u with
   | .tup _ => False
   | u => K u s.V s.A
  | _ => False
 | .call { callee := .builtin .len, args, argTypes } => onv args[0]? fun x => onv (aval s x) fun v => onv argTypes[0]? fun t => onv (td P t) fun d => onv (alen v) fun n => (d.isS = true \/ d.el.isSome = true) /\
   (match v with | .c (.d (.str _)) => d.isS = true | _ => d.el.isSome = true) /\ K (.c (.d (.int .i64 n))) s.V s.A
 | .call { callee := .builtin .append, args, argTypes } => onv args[0]? fun x => onv args[1]? fun y => onv argTypes[0]? fun t => argTypes[1]? = some t /\ onv (td P t) fun d => onv d.el fun e => onv (td P e) fun de =>
   de.zero.isSome = true /\ (onv de.zero fun z => z.length = de.sz) /\ onv (aval s x) fun v => onv (aval s y) fun u => onv (rowsOf s.A u) fun nr => (∀ r ∈ nr, r.length = de.sz) /\ match v with
  | .c (.own k n) => onv s.A[k]? fun r => n = r.rows.length /\ r.ety = e /\ r.sz = de.sz /\ (n + nr.length) * de.by_ <= 140737488355328 /\ n + nr.length <= 9223372036854775807 /\
    if ow then K (.c (.d (.sl (r.rows ++ nr)))) s.V (s.A.set k { r with rows := r.rows ++ nr, wr := false }) else K (.c (.own k (n + nr.length))) s.V (s.A.set k { r with rows := r.rows ++ nr })
  | .c .nil => nr.length * de.by_ <= 140737488355328 /\ nr.length <= 9223372036854775807 /\
    if ow then K (.c (.d (.sl nr))) s.V (s.A ++ [{ sz := de.sz, ety := e, rows := nr, wr := false }]) else K (.c (.own s.A.length nr.length)) s.V (s.A ++ [{ sz := de.sz, ety := e, rows := nr, wr := true }])
  | _ => False
 | .call { callee := .builtin .max, args, .. } => onv args[0]? fun x => onv args[1]? fun y => args.size = 2 /\ onv (aval s x) fun v => onv (aval s y) fun u => match v, u with
  | .c (.d (.int k a)), .c (.d (.int _ b)) => K (.c (.d (.int k (if b > a then b else a)))) s.V s.A
  | _, _ => False
 | .call { callee := .builtin .min, args, .. } => onv args[0]? fun x => onv args[1]? fun y => args.size = 2 /\ onv (aval s x) fun v => onv (aval s y) fun u => match v, u with
  | .c (.d (.int k a)), .c (.d (.int _ b)) => K (.c (.d (.int k (if b < a then b else a)))) s.V s.A
  | _, _ => False
 | _ => False

end Go.Av

namespace Go.Av
open Go

theorem onv_some {α : Type} {o : Option α} {k : α -> Prop} (h : onv o k) : ∃ v, o = some v /\ k v := by
 cases o with
 | none => exact h.elim
 | some v => exact ⟨v, rfl, h⟩

theorem td_inv {P : Program} {t : TypeId} {d : TD} (h : td P t = some d) : ∃ de i, P.underlying t = some de /\ P.info? t = some i /\ d = { ag := agD de, sz := i.size, by_ := i.bytes, zero := zeD i.zero, el := elD de, ar := arD de, fl := flD P de, ik := ikD de, isS := isSD de, isB := isBD de } := by
 unfold td at h
 cases hu : P.underlying t with
 | none => simp [hu] at h
 | some de =>
  cases hi : P.info? t with
  | none => simp [hu, hi] at h
  | some i => simp only [hu, hi] at h; exact ⟨de, i, rfl, rfl, (Option.some.inj h).symm⟩

theorem td_el {P : Program} {t e : TypeId} {d : TD} (h : td P t = some d) (he : d.el = some e) : P.underlying t = some (.slice e) := by
 obtain ⟨de, i, hu, _, rfl⟩ := td_inv h
 cases de <;> simp [elD] at he
 subst he; exact hu
theorem td_ar {P : Program} {t e : TypeId} {n : Nat} {d : TD} (h : td P t = some d) (he : d.ar = some (n, e)) : P.underlying t = some (.array n e) := by
 obtain ⟨de, i, hu, _, rfl⟩ := td_inv h
 cases de <;> simp [arD] at he
 obtain ⟨rfl, rfl⟩ := he; exact hu
theorem td_info {P : Program} {t : TypeId} {d : TD} (h : td P t = some d) : ∃ i, P.info? t = some i /\ i.size = d.sz /\ i.bytes = d.by_ /\ ∀ z, d.zero = some z -> ∃ v, i.zero = some v /\ cvsOf v.cells.toList = some z := by
 obtain ⟨de, i, _, hi, rfl⟩ := td_inv h
 refine ⟨i, hi, rfl, rfl, fun z hz => ?_⟩
 cases hz0 : i.zero with
 | none => simp [zeD, hz0] at hz
 | some v => exact ⟨v, rfl, by simpa [zeD, hz0] using hz⟩
theorem td_isS {P : Program} {t : TypeId} {d : TD} (h : td P t = some d) (he : d.isS = true) : P.underlying t = some .string := by
 obtain ⟨de, i, hu, _, rfl⟩ := td_inv h
 cases de <;> simp [isSD] at he
 exact hu
theorem td_isB {P : Program} {t : TypeId} {d : TD} (h : td P t = some d) (he : d.isB = true) : P.underlying t = some .bool := by
 obtain ⟨de, i, hu, _, rfl⟩ := td_inv h
 cases de <;> simp [isBD] at he
 exact hu
theorem td_ik {P : Program} {t : TypeId} {d : TD} {k : IntKind} (h : td P t = some d) (he : d.ik = some k) : P.underlying t = some (.int k) := by
 obtain ⟨de, i, hu, _, rfl⟩ := td_inv h
 cases de <;> simp [ikD] at he
 subst he; exact hu

theorem bs_data (s : ByteArray) : bs s.data.toList = s := by simp [bs]
theorem bs_toList (l : List UInt8) : (bs l).toList = l := by rw [ByteArray.toList_eq]; simp [bs]
theorem bs_size (l : List UInt8) : (bs l).size = l.length := by simp [bs, ByteArray.size]

section
variable {P : Program} {g g' g0 : Gh} {w w' w0 : World} {V V' : List (List CV)} {A A' : List Arr} {s : St} {a : Act}

theorem cvOf_sound {v : Value} {c : CV} (h : cvOf v = some c) : RepC g w A c v := by
 unfold cvOf at h
 split at h <;> first | (simp at h; done) | (simp at h; subst h; simp only [RepC, RepD]) | skip
 rw [bs_data]

theorem cvsOf_len : ∀ {vs : List Value} {cs : List CV}, cvsOf vs = some cs -> vs.length = cs.length
 | [], cs, h => by simp [cvsOf] at h; subst h; rfl
 | v :: r, cs, h => by
  simp only [cvsOf] at h
  split at h
  ·rename_i c cs' h1 h2
   simp at h; subst h
   simp [cvsOf_len h2]
  ·simp at h

theorem cvsOf_at : ∀ {vs : List Value} {cs : List CV}, cvsOf vs = some cs -> ∀ (j : Nat) c u, cs[j]? = some c -> vs[j]? = some u -> cvOf u = some c
 | [], cs, h, j, c, u, hc, hu => by simp at hu
 | v :: r, cs, h, j, c, u, hc, hu => by
  simp only [cvsOf] at h
  split at h
  ·rename_i c' cs' h1 h2
   simp at h; subst h
   cases j with
   | zero => simp at hc hu; subst hc; subst hu; exact h1
   | succ j => simp at hc hu; exact cvsOf_at h2 j c u hc hu
  ·simp at h

theorem aval_sound (hS : ∀ t x, look s.fr t = some x -> ∃ u, a.tmps[t]? = some u /\ RepV g w s.A x u) {o : Operand} {x : AV} (h : aval s o = some x) : RepV g w s.A x (a.eval o) := by
 cases o with
 | tmp t =>
  obtain ⟨u, hu, hr⟩ := hS t x h
  simpa [Act.eval, hu] using hr
 | const v =>
  simp only [aval, Option.map_eq_some_iff] at h
  obtain ⟨c, hc, rfl⟩ := h
  exact cvOf_sound (g := g) (w := w) (A := s.A) hc
 | func f =>
  simp only [aval, Option.some.injEq] at h; subst h
  exact ⟨[], rfl, rfl, fun i l b h => by simp at h⟩
 | «global» g => simp [aval] at h

def Goes (P : Program) (w0 : World) (g0 g : Gh) (w : World) (A : List Arr) (m : Sem Next) (K : AV -> List (List CV) -> List Arr -> Prop) : Prop :=
 ∃ x V' A' nx v w' g', K x V' A' /\ m.run P w = .ok nx w' /\ (nx = .value v \/ (nx = .skip /\ v = undef)) /\ RepV g' w' A' x v /\ Inv g' w' V' A' /\ Ext g w A g' w' A' /\ Fr w0 g0 w' g'

theorem Goes.value (hI : Inv g w V A) (hF : Fr w0 g0 w g) {m : Sem Next} {K : AV -> List (List CV) -> List Arr -> Prop} {x : AV} {v : Value} (hm : m.run P w = .ok (.value v) w) (hr : RepV g w A x v) (hK : K x V A) : Goes P w0 g0 g w A m K :=
 ⟨x, V, A, _, v, w, g, hK, hm, .inl rfl, hr, hI, .refl _ _ _, hF⟩

theorem cells_list (w : World) (b off n : Nat) (Q : Nat -> Value -> Prop) (h : ∀ j, j < n -> ∃ u, w.cell? ⟨b, off + j, none⟩ = some u /\ Q j u) :
  ∃ vs : List Value, vs.length = n /\ ∀ (j : Nat) u, vs[j]? = some u -> w.cell? ⟨b, off + j, none⟩ = some u /\ Q j u := by
 refine ⟨(List.range n).map fun j => (w.cell? ⟨b, off + j, none⟩).getD undef, by simp, fun j u hu => ?_⟩
 have hj : j < n := by
  have := (List.getElem?_eq_some_iff.1 hu).1
  simpa using this
 simp [hj] at hu
 obtain ⟨u', h1, h2⟩ := h j hj
 rw [h1] at hu
 simp at hu; subst hu
 exact ⟨h1, h2⟩

def RepCs (g : Gh) (w : World) (A : List Arr) (cs : List CV) (vs : List Value) : Prop := vs.length = cs.length /\ ∀ (j : Nat) c u, cs[j]? = some c -> vs[j]? = some u -> RepC g w A c u

theorem cellsAt_sound (hI : Inv g w s.V s.A) {p : CV} {v : Value} {n : Nat} {cs : List CV} (hp : RepC g w s.A p v) (h : cellsAt s p n = some cs) :
  ∃ b off vs, v = .pointer (some ⟨b, off, none⟩) /\ cs.length = n /\ RepCs g w s.A cs vs /\ ∀ (j : Nat) u, vs[j]? = some u -> w.cell? ⟨b, off + j, none⟩ = some u := by
 unfold cellsAt at h
 split at h
 ·-- an object
  rename_i l off
  split at h
  ·rename_i row hrow
   split at h
   ·rename_i hle
    simp at h; subst h
    obtain ⟨b, hb, rfl⟩ := hp
    obtain ⟨_, cells, ty, hh, hs, hr⟩ := hI.obj l row b hrow hb
    obtain ⟨vs, hl, hv⟩ := cells_list w b off n (fun j u => ∀ c, row[off + j]? = some c -> RepC g w s.A c u) (fun j hj => by
     have hj' : off + j < cells.size := by omega
     refine ⟨cells[off + j], by simp [World.cell?, hh, hj'], fun c hc => hr (off + j) c _ hc (by simp [hj'])⟩)
    refine ⟨b, off, vs, rfl, by simp; omega, ⟨by simp; omega, fun j c u h1 h2 => (hv j u h2).2 c ?_⟩, fun j u hu => (hv j u hu).1⟩
    rw [List.getElem?_take] at h1
    split at h1
    ·rwa [List.getElem?_drop] at h1
    ·cases h1
   ·simp at h
  ·simp at h
 ·rename_i row off
  split at h
  ·rename_i hle
   simp at h; subst h
   obtain ⟨b, o, rfl, hi, hr⟩ := hp
   obtain ⟨vs, hl, hv⟩ := cells_list w b (o + off) n (fun j u => ∀ x, row[off + j]? = some x -> RepD g.im w x u) (fun j hj => by
    have hx : row[off + j]? = some row[off + j] := List.getElem?_eq_getElem (by omega)
    obtain ⟨u, h1, h2⟩ := RepRow.at_ hr hx
    refine ⟨u, by rw [Nat.add_assoc]; exact h1, fun x h3 => ?_⟩
    rw [hx] at h3; cases h3; exact h2)
   refine ⟨b, o + off, vs, rfl, by simp; omega, ⟨by simp; omega, fun j c u h1 h2 => ?_⟩, fun j u hu => (hv j u hu).1⟩
   simp only [List.getElem?_take] at h1
   split at h1
   ·rw [List.getElem?_drop, List.getElem?_map, Option.map_eq_some_iff] at h1
    obtain ⟨x, h3, rfl⟩ := h1
    exact (hv j u h2).2 x h3
   ·cases h1
  ·simp at h
 ·rename_i k m i off
  split at h
  ·rename_i r hk
   split at h
   ·rename_i hm
    split at h
    ·rename_i row hrow
     split at h
     ·rename_i hle
      simp at h; subst h
      obtain ⟨b, e, rfl, r', hk', hn, hq⟩ := hp
      obtain rfl : r = r' := by rw [hk] at hk'; exact Option.some.inj hk'
      obtain ⟨cap, hv0, rfl⟩ := hq hm
      obtain ⟨h1, _, xs, hown, hr⟩ := hI.arr k r _ hk hv0
      have hrl : row.length = r.sz := h1 row (List.mem_of_getElem? hrow)
      obtain ⟨vs, hl, hv⟩ := cells_list w b (i * r.sz + off) n (fun j u => ∀ x, row[off + j]? = some x -> RepD g.im w x u) (fun j hj => by
       have hx : row[off + j]? = some row[off + j] := List.getElem?_eq_getElem (by omega)
       have hf := flatten_at h1 hrow hx
       have hlt : i * r.sz + (off + j) < xs.length := by
        have := (List.getElem?_eq_some_iff.1 hf).1
        rw [flatten_len h1] at this; rw [hown.1]; exact this
       have hu : xs[i * r.sz + (off + j)]? = some xs[i * r.sz + (off + j)] := List.getElem?_eq_getElem hlt
       have hc := hown.cells (g := b) rfl _ _ hu
       have hadd : (⟨b, 0, none⟩ : Addr).add (i * r.sz + (off + j)) = ⟨b, i * r.sz + off + j, none⟩ := by unfold Addr.add; split <;> simp_all [Nat.add_assoc]
       rw [hadd] at hc
       refine ⟨_, hc, fun x h3 => ?_⟩
       rw [hx] at h3; cases h3; exact hr _ _ _ hf hu)
      refine ⟨b, i * r.sz + off, vs, rfl, by simp; omega, ⟨by simp; omega, fun j c u h1 h2 => ?_⟩, fun j u hu => (hv j u hu).1⟩
      simp only [List.getElem?_take] at h1
      split at h1
      ·rw [List.getElem?_drop, List.getElem?_map, Option.map_eq_some_iff] at h1
       obtain ⟨x, h3, rfl⟩ := h1
       exact (hv j u h2).2 x h3
      ·cases h1
     ·simp at h
    ·simp at h
   ·simp at h
  ·simp at h
 ·simp at h

theorem addr_add (b off j : Nat) : (⟨b, off, none⟩ : Addr).add j = ⟨b, off + j, none⟩ := by unfold Addr.add; split <;> simp_all

theorem run_loadAt_av {t : TypeId} {d : TD} (ht : td P t = some d) {b off : Nat} {vs : List Value} (hv : ∀ (j : Nat) u, vs[j]? = some u -> w.cell? ⟨b, off + j, none⟩ = some u) (hl : vs.length = d.sz) :
  (d.ag = true -> (Instr.loadAt t (.pointer (some ⟨b, off, none⟩))).run P w = .ok (.agg vs.toArray) w) /\
  (d.ag = false -> ∀ u, vs = [u] -> (Instr.loadAt t (.pointer (some ⟨b, off, none⟩))).run P w = .ok u w) := by
 obtain ⟨de, i, hu, hi, rfl⟩ := td_inv ht
 have hld := run_loadCells_list (P := P) w ⟨b, off, none⟩ vs (fun j u h => by rw [addr_add]; exact hv j u h)
 simp only at hl ⊢
 rw [hl] at hld
 have hagg : (isAgg t).run P w = .ok (agD de) w := by
  simp only [isAgg, Sem.run_bind, run_underlying hu, Result.andThen_ok]
  cases de <;> rfl
 have hsz : (sizeOf t).run P w = .ok i.size w := by simp [sizeOf, typeInfo, hi]
 constructor
 ·intro ha
  show (loadVar t ⟨b, off, none⟩).run P w = _
  unfold loadVar
  rw [Sem.run_bind, hagg, ha]
  simp only [Result.andThen_ok, if_true, Sem.run_bind, hsz, hld, Sem.run_pure]
 ·intro ha u hvu
  have hc := hv 0 u (by rw [hvu]; rfl)
  simp only [Nat.add_zero] at hc
  show (loadVar t ⟨b, off, none⟩).run P w = _
  unfold loadVar
  rw [Sem.run_bind, hagg, ha]
  simp only [Result.andThen_ok, Bool.false_eq_true, if_false, run_load, hc]

theorem AV.plain_cells {x : AV} {v : Value} (h : RepV g w A x v) (hp : x.plain = true) : RepCs g w A x.cells v.cells.toList /\ ∀ u ∈ v.cells.toList, u.oneCell' = true := by
 cases x with
 | tup xs => simp [AV.plain] at hp
 | c x =>
  simp [AV.plain] at hp
  have hc : RepC g w A x v := h
  have h1 := RepC.oneCell hp hc
  have hcs : v.cells = #[v] := by cases v <;> first | rfl | simp [Value.oneCell'] at h1
  rw [hcs]
  refine ⟨⟨rfl, fun j c u h2 h3 => ?_⟩, fun u hu => ?_⟩
  ·cases j with
   | zero => simp [AV.cells] at h2 h3; subst h2; subst h3; exact hc
   | succ j => simp at h3
  ·simp at hu; subst hu; exact h1
 | agg xs =>
  simp only [AV.plain, List.all_eq_true, Bool.not_eq_true'] at hp
  obtain ⟨vs, rfl, hl, hc⟩ := h
  refine ⟨⟨by simpa [Value.cells, AV.cells] using hl, fun j c u h2 h3 => hc j c u h2 (by simpa [Value.cells] using h3)⟩, fun u hu => ?_⟩
  simp [Value.cells] at hu
  obtain ⟨j, hj⟩ := List.getElem?_of_mem hu
  have hjl := (List.getElem?_eq_some_iff.1 hj).1
  have hx : xs[j]? = some (xs[j]'(by omega)) := List.getElem?_eq_getElem (by omega)
  exact RepC.oneCell (hp _ (List.mem_of_getElem? hx)) (hc j _ u hx hj)

theorem toD_sealA (A : List Arr) (c' c : CV) : toD (sealA A c') c = toD A c := by
 cases c' <;> try rfl
 rename_i k' n'
 simp only [sealA]
 cases hk : A[k']? with
 | none => rfl
 | some r =>
  cases c <;> try rfl
  rename_i k n
  simp only [toD, set_get hk]
  by_cases e : k = k'
  ·subst e; simp [hk]
  ·simp [e]

theorem toDs_sealA (A : List Arr) (c' : CV) : ∀ cs, toDs (sealA A c') cs = toDs A cs
 | [] => rfl
 | c :: r => by simp only [toDs, toD_sealA, toDs_sealA A c' r]

theorem toDs_len : ∀ {cs : List CV} {ds : List DV}, toDs A cs = some ds -> ds.length = cs.length
 | [], ds, h => by simp [toDs] at h; subst h; rfl
 | c :: r, ds, h => by
  simp only [toDs] at h
  split at h
  ·rename_i d ds' h1 h2
   simp at h; subst h
   simp [toDs_len h2]
  ·simp at h

theorem seal_one (hI : Inv g w V A) (hF : Fr w0 g0 w g) {c : CV} {u : Value} {d : DV} (hc : RepC g w A c u) (hd : toD A c = some d) :
  ∃ g', Inv g' w V (sealA A c) /\ Ext g w A g' w (sealA A c) /\ Fr w0 g0 w g' /\ g'.ar = g.ar /\ g'.ob = g.ob /\ RepD g'.im w d u := by
 cases c with
 | d x => simp [toD] at hd; subst hd; exact ⟨g, hI, .refl _ _ _, hF, rfl, rfl, hc⟩
 | nil =>
  simp [toD] at hd; subst hd
  simp only [RepC] at hc; subst hc
  exact ⟨g, hI, .refl _ _ _, hF, rfl, rfl, by simp only [RepD]; exact ⟨none, 0, rfl, Nat.le_refl _, .inl trivial⟩⟩
 | own k n =>
  obtain ⟨ad, cap, e, r, hk, hn, hv⟩ := hc
  simp only [toD, hk] at hd
  split at hd
  ·rename_i hne
   simp at hd; subst hd
   obtain ⟨g', h1, h2, h3, h4, h5, h6⟩ := hI.seal hF hk (hv hne)
   refine ⟨g', ?_, ?_, h3, h4, h5, h6⟩
   ·simpa only [sealA, hk] using h1
   ·simpa only [sealA, hk] using h2
  ·simp at hd
 | _ => simp [toD] at hd

theorem seal_many : ∀ {cs : List CV} {vs : List Value} {ds : List DV} {g : Gh} {A : List Arr}, Inv g w V A -> Fr w0 g0 w g -> RepCs g w A cs vs -> toDs A cs = some ds ->
  ∃ g', Inv g' w V (sealAs A cs) /\ Ext g w A g' w (sealAs A cs) /\ Fr w0 g0 w g' /\ g'.ar = g.ar /\ g'.ob = g.ob /\ ∀ (j : Nat) x u, ds[j]? = some x -> vs[j]? = some u -> RepD g'.im w x u
 | [], vs, ds, g, A, hI, hF, hr, hd => by
  simp [toDs] at hd; subst hd
  exact ⟨g, hI, .refl _ _ _, hF, rfl, rfl, fun j x u h => by simp at h⟩
 | c :: r, vs, ds, g, A, hI, hF, hr, hd => by
  cases vs with
  | nil => exact absurd hr.1 (by simp)
  | cons v vs =>
   simp only [toDs] at hd
   split at hd
   ·rename_i d ds' h1 h2
    simp at hd; subst hd
    obtain ⟨g1, hI1, hx1, hF1, ha1, ho1, hd1⟩ := seal_one hI hF (hr.2 0 c v rfl rfl) h1
    have hr' : RepCs g1 w (sealA A c) r vs := ⟨by simpa using hr.1, fun j c' u h3 h4 => RepC.ext hx1 (hr.2 (j + 1) c' u (by simpa using h3) (by simpa using h4))⟩
    obtain ⟨g2, hI2, hx2, hF2, ha2, ho2, hd2⟩ := seal_many hI1 hF1 hr' (by rw [toDs_sealA]; exact h2)
    refine ⟨g2, hI2, hx1.trans hx2, hF2, ha2.trans ha1, ho2.trans ho1, fun j x u h3 h4 => ?_⟩
    cases j with
    | zero => simp at h3 h4; subst h3; subst h4; exact RepD.grows hx2.gr _ _ hd1
    | succ j => simp at h3 h4; exact hd2 j x u h3 h4
   ·simp at hd

theorem toRows_spec : ∀ {rows : List (List CV)} {ds : List (List DV)}, toRows A rows = some ds -> toDs A rows.flatten = some ds.flatten /\ ds.length = rows.length /\ ∀ (i : Nat) r d, rows[i]? = some r -> ds[i]? = some d -> d.length = r.length
 | [], ds, h => by simp [toRows] at h; subst h; exact ⟨rfl, rfl, fun i r d h => by simp at h⟩
 | c :: r, ds, h => by
  simp only [toRows] at h
  split at h
  ·rename_i d ds' h1 h2
   simp at h; subst h
   obtain ⟨h3, h4, h5⟩ := toRows_spec h2
   refine ⟨?_, by simp [h4], fun i r' d' h6 h7 => ?_⟩
   ·simp only [List.flatten_cons]
    have : ∀ (xs ys : List CV) (dx dy : List DV), toDs A xs = some dx -> toDs A ys = some dy -> toDs A (xs ++ ys) = some (dx ++ dy) := by
     intro xs
     induction xs with
     | nil => intro ys dx dy hx hy; simp [toDs] at hx; subst hx; simpa using hy
     | cons x xs ih =>
      intro ys dx dy hx hy
      simp only [toDs] at hx
      split at hx
      ·rename_i d1 d2 h8 h9
       simp at hx; subst hx
       simp only [List.cons_append, toDs, h8, ih ys d2 dy h9 hy]
      ·simp at hx
    exact this _ _ _ _ h1 h3
   ·cases i with
    | zero => simp at h6 h7; subst h6; subst h7; exact toDs_len h1
    | succ i => simp at h6 h7; exact h5 i r' d' h6 h7
  ·simp at h
end
end Go.Av

namespace Go.Av
open Go

section
variable {P : Program} {g g' g0 : Gh} {w w' w0 : World} {V V' : List (List CV)} {A A' : List Arr} {s : St} {a : Act} {K : AV -> List (List CV) -> List Arr -> Prop}

abbrev Slots (g : Gh) (w : World) (s : St) (a : Act) : Prop := ∀ t x, look s.fr t = some x -> ∃ u, a.tmps[t]? = some u /\ RepV g w s.A x u

theorem run_value {m : Sem Value} {w w' : World} {v : Value} (h : m.run P w = .ok v w') : (do pure (Next.value (<- m)) : Sem Next).run P w = .ok (.value v) w' := by
 rw [Sem.run_bind, h]; rfl

theorem run_skip {m : Sem Unit} {w w' : World} (h : m.run P w = .ok () w') : (do m; pure Next.skip : Sem Next).run P w = .ok .skip w' := by
 rw [Sem.run_bind, h]; rfl

theorem newRow_run (w : World) (e : TypeId) (cs : Array Value) : (newRow e cs).run P w = .ok ⟨w.heap.size, 0, none⟩ (w.alloc (.cells cs e)) := by
 simp [newRow]

theorem goes_obj (hI : Inv g w s.V s.A) (hF : Fr w0 g0 w g) {m : Sem Next} {cs : Array Value} {e : TypeId} {row : List CV} (hr : RepCs g w s.A row cs.toList)
  (hm : m.run P w = .ok (.value (.pointer (some ⟨w.heap.size, 0, none⟩))) (w.alloc (.cells cs e))) (hK : K (.c (.ptr s.V.length 0)) (s.V ++ [row]) s.A) : Goes P w0 g0 g w s.A m K := by
 obtain ⟨g', h1, h2, h3, h4⟩ := hI.newObj hF cs e row (by simpa using hr.1) (fun j c u hc hu => hr.2 j c u hc (by simpa using hu))
 exact ⟨_, _, _, _, _, _, g', hK, hm, .inl rfl, ⟨w.heap.size, h4, rfl⟩, h1, h2, h3⟩

theorem sound_alloc (hI : Inv g w s.V s.A) (hF : Fr w0 g0 w g) {e : TypeId} {d : TD} {z : List CV} (ht : td P e = some d) (hz : d.zero = some z) (hK : K (.c (.ptr s.V.length 0)) (s.V ++ [z]) s.A) :
  Goes P w0 g0 g w s.A (do pure (.value (<- Instr.alloc e true (.tuple #[])))) K := by
 obtain ⟨i, hi, _, _, h0⟩ := td_info ht
 obtain ⟨v, hv, hc⟩ := h0 z hz
 refine goes_obj hI hF (cs := v.cells) (e := e) ⟨cvsOf_len hc, fun j c u h1 h2 => cvOf_sound (cvsOf_at hc j c u h1 h2)⟩ (run_value ?_) hK
 simp [Instr.alloc, zeroValue, typeInfo, hi, hv, newVar, newRow_run]

theorem sound_box (hI : Inv g w s.V s.A) (hF : Fr w0 g0 w g) {e : TypeId} {x : AV} {u : Value} (hx : RepV g w s.A x u) (hp : x.plain = true) (hK : K (.c (.ptr s.V.length 0)) (s.V ++ [x.cells]) s.A) :
  Goes P w0 g0 g w s.A (do pure (.value (<- Instr.box e u))) K := by
 refine goes_obj hI hF (cs := u.cells) (e := e) (AV.plain_cells hx hp).1 (run_value ?_) hK
 simp [Instr.box, newVar, newRow_run]

theorem sound_load (hI : Inv g w s.V s.A) (hF : Fr w0 g0 w g) {t : TypeId} {d : TD} (ht : td P t = some d) {p : CV} {v : Value} (hp : RepC g w s.A p v) {cs : List CV} (hcs : cellsAt s p d.sz = some cs) {x : AV} (hx : mkV d.ag cs = some x) (hK : K x s.V s.A) :
  Goes P w0 g0 g w s.A (do pure (.value (<- Instr.loadAt t v))) K := by
 obtain ⟨b, off, vs, rfl, hl, hr, hc⟩ := cellsAt_sound hI hp hcs
 obtain ⟨h1, h2⟩ := run_loadAt_av (P := P) ht hc (hr.1.trans hl)
 cases hag : d.ag with
 | true =>
  simp [mkV, hag] at hx; subst hx
  exact Goes.value hI hF (run_value (h1 hag)) (x := .agg cs) ⟨vs, rfl, hr.1, fun i c u h3 h4 => hr.2 i c u h3 h4⟩ hK
 | false =>
  simp only [mkV, hag, Bool.false_eq_true, if_false] at hx
  split at hx
  ·rename_i c
   simp at hx; subst hx
   obtain ⟨u, rfl⟩ : ∃ u, vs = [u] := by
    have := hr.1
    simp at this
    exact List.length_eq_one_iff.1 this
   exact Goes.value hI hF (run_value (h2 hag u rfl)) (x := .c c) (hr.2 0 c u rfl rfl) hK
  ·simp at hx

theorem run_storeAt_av {t : TypeId} {d : TD} (ht : td P t = some d) {b off : Nat} {v : Value} (hl : v.cells.size = d.sz) {cur : Array Value} {ty : TypeId} (hh : w.heap[b]? = some (.cells cur ty (0, 0))) (hfit : off + d.sz <= cur.size)
  (h1 : ∀ u ∈ v.cells.toList, u.oneCell' = true) :
  (Instr.storeAt t (.pointer (some ⟨b, off, none⟩)) v).run P w = .ok () (w.setRow b (splice cur.toList off v.cells.toList).toArray) := by
 obtain ⟨i, hi, hsz, _, _⟩ := td_info ht
 have hs : (sizeOf t).run P w = .ok i.size w := by simp [sizeOf, typeInfo, hi]
 have hst := run_storeCells_at P b off ty v.cells.toList 0 cur w hh (by simp; omega) h1
 simp only [Nat.add_zero] at hst
 show (storeVar t ⟨b, off, none⟩ v).run P w = _
 unfold storeVar
 rw [Sem.run_bind, hs]
 simp only [Result.andThen_ok]
 rw [if_neg (by omega)]
 simpa [splice] using hst

theorem splice_rep {cs : List CV} {vs : List Value} {row : List CV} {cur : List Value} {off : Nat} (hl : cur.length = row.length) (hr : ∀ (j : Nat) c u, row[j]? = some c -> cur[j]? = some u -> RepC g w A c u) (h : RepCs g w A cs vs) (hfit : off + cs.length <= row.length) :
  ∀ (j : Nat) c u, (splice row off cs)[j]? = some c -> (splice cur off vs)[j]? = some u -> RepC g w A c u := by
 intro j c u hc hu
 rw [splice_at (by omega)] at hc
 rw [splice_at (by rw [h.1]; omega), h.1] at hu
 split at hc
 ·rename_i hj
  rw [if_pos hj] at hu
  exact h.2 _ c u hc hu
 ·rename_i hj
  rw [if_neg hj] at hu
  exact hr j c u hc hu

theorem sound_store_obj (hI : Inv g w s.V s.A) (hF : Fr w0 g0 w g) {t : TypeId} {d : TD} (ht : td P t = some d) {l off : Nat} {p v : Value} (hp : RepC g w s.A (.ptr l off) p) {x : AV} (hx : RepV g w s.A x v) (hpl : x.plain = true) (hlen : x.cells.length = d.sz)
  {row : List CV} (hrow : s.V[l]? = some row) (hfit : off + d.sz <= row.length) (hK : K (.c .undef) (s.V.set l (splice row off x.cells)) s.A) :
  Goes P w0 g0 g w s.A (do Instr.storeAt t p v; pure .skip) K := by
 obtain ⟨b, hb, rfl⟩ := hp
 obtain ⟨hcs, h1⟩ := AV.plain_cells hx hpl
 obtain ⟨_, cur, ty, hh, hs, hr⟩ := hI.obj l row b hrow hb
 have hvl : v.cells.size = d.sz := by have := hcs.1; simp at this; omega
 have hrun := run_storeAt_av (P := P) ht hvl hh (off := off) (by omega) h1
 obtain ⟨k1, k2, k3⟩ := hI.setObj hF hrow hb (splice cur.toList off v.cells.toList).toArray (row' := splice row off x.cells)
  (by simp only [List.size_toArray]; rw [splice_len (by simp; omega), splice_len (by omega)]; simpa using hs)
  (fun j c u h3 h4 => splice_rep (cur := cur.toList) (by rw [Array.length_toList]; exact hs) (fun j c u h5 h6 => hr j c u h5 (by simpa using h6)) hcs (by omega) j c u h3 (by simpa using h4))
 exact ⟨_, _, _, _, undef, _, g, hK, run_skip hrun, .inr ⟨rfl, rfl⟩, rfl, k1, k2, k3⟩

theorem sealAs_get {cs : List CV} {k : Nat} (h : ∀ c ∈ cs, ∀ k' n, c = .own k' n -> k' ≠ k) : ∀ {A : List Arr}, (sealAs A cs)[k]? = A[k]? := by
 induction cs with
 | nil => intro A; rfl
 | cons c cs ih =>
  intro A
  simp only [sealAs, List.foldl_cons]
  have := ih (fun c' hc' => h c' (by simp [hc'])) (A := sealA A c)
  simp only [sealAs] at this
  rw [this]
  cases c <;> try rfl
  rename_i k' n
  have hne := h (.own k' n) (by simp) k' n rfl
  simp only [sealA]
  cases hk : A[k']? with
  | none => rfl
  | some r => rw [List.getElem?_set_ne hne]

theorem sound_store_arr (hI : Inv g w s.V s.A) (hF : Fr w0 g0 w g) {t : TypeId} {d : TD} (ht : td P t = some d) {k n i off : Nat} {p v : Value} (hp : RepC g w s.A (.op k n i off) p) {x : AV} (hx : RepV g w s.A x v) (hpl : x.plain = true) (hlen : x.cells.length = d.sz)
  {r : Arr} (hk : s.A[k]? = some r) (hn : n = r.rows.length) (hw : r.wr = true) {row : List DV} (hrow : r.rows[i]? = some row) {ds : List DV} (hds : toDs s.A x.cells = some ds) (hfit : off + d.sz <= r.sz)
  (hall : (x.cells.all fun c => match c with | .own k' _ => k' ≠ k | _ => true) = true)
  (hK : K (.c .undef) s.V ((sealAs s.A x.cells).set k { r with rows := r.rows.set i (splice row off ds) })) :
  Goes P w0 g0 g w s.A (do Instr.storeAt t p v; pure .skip) K := by
 obtain ⟨hcs, h1⟩ := AV.plain_cells hx hpl
 obtain ⟨g1, hI1, hx1, hF1, ha1, ho1, hd1⟩ := seal_many hI hF hcs hds
 obtain ⟨b, e, rfl, r', hk', hn', hq⟩ := hp
 obtain rfl : r = r' := by rw [hk] at hk'; exact Option.some.inj hk'
 obtain ⟨cap, hv0, rfl⟩ := hq hn
 have hk1 : (sealAs s.A x.cells)[k]? = some r := by
  rw [sealAs_get fun c hc k' n' e => ?_]
  ·exact hk
  ·subst e
   have := List.all_eq_true.1 hall _ hc
   simpa using this
 have hdl := toDs_len hds
 have hvl : v.cells.size = d.sz := by have := hcs.1; simp at this; omega
 obtain ⟨cur, ty, cap', hv1, hh, hf1, hf2, hI2, hx2, hF2⟩ := hI1.storeArr hF1 hk1 (by rw [ha1]; exact hv0) hw hrow (ds := ds) (off := off) (by omega) (b := b) rfl v.cells.toList (by simp; omega) hd1
 have hrun := run_storeAt_av (P := P) ht hvl hh (off := i * r.sz + off) (by simp at hf1; omega) h1
 exact ⟨_, _, _, _, undef, _, g1, hK, run_skip hrun, .inr ⟨rfl, rfl⟩, rfl, hI2, hx1.trans hx2, hF2⟩

theorem run_binOp_av {op : BinOp} {t : TypeId} {ox oy : Operand} {x y r : AV} {u v : Value} (hx : RepV g w A x u) (hy : RepV g w A y v) (h : abin op x y = some r) :
  ∃ z, (do eqGuard op t ox oy u v; binOp op t u v : Sem Value).run P w = .ok z w /\ RepV g w A r z := by
 unfold abin at h
 split at h
 ·rename_i k a k' b
  simp only [RepV, RepE, RepC, RepD] at hx hy
  subst hx; subst hy
  split at h
  ·rename_i hk
   subst hk
   have hg : ∀ op, (eqGuard op t ox oy (.int k a) (.int k b)).run P w = .ok () w := by
    intro op; cases op <;> simp [eqGuard]
   rw [Sem.run_bind, hg]
   simp only [Result.andThen_ok]
   split at h <;> first | (simp at h; done) | skip
   all_goals (try (split at h <;> first | (simp at h; done) | skip))
   all_goals (simp only [Option.some.injEq] at h; subst h; refine ⟨_, ?_, rfl⟩)
   all_goals first
    | (simp [binOp, Op.intArith]; done)
    | (simp [binOp, Op.intBits, bitI]; done)
    | (rename_i hb; simp [binOp, Op.shift, hb]; done)
    | (rename_i hb; simp [binOp, Op.intDiv, hb]; done)
    | (simp [binOp, Op.intCmp]; done)
  ·simp at h
 ·rename_i a b
  simp only [RepV, RepE, RepC, RepD] at hx hy
  subst hx; subst hy
  have hg : ∀ op, (eqGuard op t ox oy (.string (bs a)) (.string (bs b))).run P w = .ok () w := by
   intro op; cases op <;> simp [eqGuard]
  rw [Sem.run_bind, hg]
  simp only [Result.andThen_ok]
  split at h <;> first | (simp at h; done) | skip
  ·split at h
   ·rename_i hle
    simp only [Option.some.injEq] at h; subst h
    refine ⟨.string (bs (a ++ b)), ?_, rfl⟩
    have hn : ¬ (((bs a).size + (bs b).size : Nat) : Int) > IntKind.i64.max := by rw [bs_size, bs_size]; simp [IntKind.max, IntKind.signed, IntKind.bits]; omega
    have happ : bs a ++ bs b = bs (a ++ b) := by
     simp only [bs]
     apply ByteArray.ext
     simp
    simp only [binOp, Op.stringOp, if_neg hn, happ, Sem.run_pure]
   ·simp at h
  all_goals (simp only [Option.some.injEq] at h; subst h; refine ⟨_, ?_, rfl⟩; simp [binOp, Op.stringOp, bs_toList])
 ·simp at h

theorem run_binOpB_av {op : BinOp} {t : TypeId} {d : TD} {ox oy : Operand} {x y r : AV} {u v : Value} (ht : td P t = some d) (hd : d.isB = true) (hx : RepV g w A x u) (hy : RepV g w A y v) (h : abinB op x y = some r) :
  ∃ z, (do eqGuard op t ox oy u v; binOp op t u v : Sem Value).run P w = .ok z w /\ RepV g w A r z := by
 have hb := td_isB ht hd
 unfold abinB at h
 split at h
 ·rename_i a b
  simp only [RepV, RepE, RepC, RepD] at hx hy
  subst hx; subst hy
  split at h <;> first | (simp at h; done) | skip
  all_goals (simp only [Option.some.injEq] at h; subst h; refine ⟨_, ?_, rfl⟩; rw [Sem.run_bind])
  ·rw [show (eqGuard .eql t ox oy (.bool a) (.bool b)).run P w = .ok () w by simp [eqGuard]]
   simp only [Result.andThen_ok, run_eql_bool w t a b hb]
  ·rw [show (eqGuard .neq t ox oy (.bool a) (.bool b)).run P w = .ok () w by simp [eqGuard]]
   simp only [Result.andThen_ok, run_neq_bool w t a b hb]
 ·simp at h

theorem sqs_spec {d : Nat} {xs ys : Array Value} : ∀ {fs : List Field} {i : Nat} {ks : List Nat} {cs ds : List CV} {r : Bool}, sqs P i fs = some ks -> cEq ks cs ds = some r ->
  (∀ (j : Nat) c, cs[j]? = some c -> ∃ u, xs[i + j]? = some u /\ RepC g w A c u) -> (∀ (j : Nat) c, ds[j]? = some c -> ∃ u, ys[i + j]? = some u /\ RepC g w A c u) -> (Op.eqFields (d + 1) xs ys fs).run P w = .ok r w
 | [], i, ks, cs, ds, r, h1, h2, _, _ => by
  simp [sqs] at h1; subst h1
  cases cs <;> cases ds <;> simp [cEq] at h2
  subst h2
  simp [Op.eqFields]
 | f :: fs, i, ks, cs, ds, r, h1, h2, hx, hy => by
  simp only [sqs] at h1
  split at h1 <;> first | (simp at h1; done) | skip
  rename_i dd hu
  split at h1 <;> first | (simp at h1; done) | skip
  rename_i k ks' hk hks
  split at h1 <;> first | (simp at h1; done) | skip
  rename_i hn
  simp at h1; subst h1
  have key : ∀ (c c' : CV) cs' ds' (b r' : Bool), cs = c :: cs' -> ds = c' :: ds' -> (∀ u u', RepC g w A c u -> RepC g w A c' u' -> (part f.type xs f.offset).run P w = .ok u w -> (part f.type ys f.offset).run P w = .ok u' w -> (Op.equalIn (d + 1) f.type u u').run P w = .ok b w) -> P.plainKey f.type = true -> cEq ks' cs' ds' = some r' -> (b && r') = r -> (Op.eqFields (d + 1) xs ys (f :: fs)).run P w = .ok r w := by
   intro c c' cs' ds' b r' e1 e2 h3 hp h4 h5
   subst e1; subst e2
   obtain ⟨u, hu1, hu2⟩ := hx 0 c rfl
   obtain ⟨u', hu1', hu2'⟩ := hy 0 c' rfl
   have p1 := run_part_plain w hp (xs := xs) (off := f.offset) (v := u) (by rw [hn.2]; simpa using hu1)
   have p2 := run_part_plain w hp (xs := ys) (off := f.offset) (v := u') (by rw [hn.2]; simpa using hu1')
   have h6 := sqs_spec (d := d) (xs := xs) (ys := ys) hks h4 (fun j c hc => by
    obtain ⟨u, h7, h8⟩ := hx (j + 1) c (by simpa using hc)
    exact ⟨u, by rw [<- h7]; congr 1; omega, h8⟩) (fun j c hc => by
    obtain ⟨u, h7, h8⟩ := hy (j + 1) c (by simpa using hc)
    exact ⟨u, by rw [<- h7]; congr 1; omega, h8⟩)
   simp only [Op.eqFields, hn.1, ne_eq, not_false_eq_true, if_true, Sem.run_bind, p1, p2, h3 u u' hu2 hu2' p1 p2, Result.andThen_ok]
   subst h5
   cases b
   ·simp
   ·simpa using h6
  unfold cEq at h2
  split at h2 <;> first | (simp at h2; done) | skip
  ·rename_i heq; simp at heq
  ·rename_i q a cs' q' b ds' heq
   simp only [List.cons.injEq] at heq
   obtain ⟨rfl, rfl⟩ := heq
   split at h2 <;> first | (simp at h2; done) | skip
   rename_i e; subst e
   simp only [Option.map_eq_some_iff] at h2
   obtain ⟨r', h3, h4⟩ := h2
   cases dd <;> simp [kindOf] at hk
   exact key _ _ _ _ (a == b) r' rfl rfl (fun u u' h5 h6 _ _ => by simp only [RepC, RepD] at h5 h6; subst h5; subst h6; exact run_equalIn_int w d _ _ _ _ _ hu) (by simp [Program.plainKey, hu]) h3 h4
  ·rename_i a cs' b ds' heq
   simp only [List.cons.injEq] at heq
   obtain ⟨rfl, rfl⟩ := heq
   simp only [Option.map_eq_some_iff] at h2
   obtain ⟨r', h3, h4⟩ := h2
   cases dd <;> simp [kindOf] at hk
   exact key _ _ _ _ (a == b) r' rfl rfl (fun u u' h5 h6 _ _ => by simp only [RepC, RepD] at h5 h6; subst h5; subst h6; exact run_equalIn_bool' w d _ _ _ hu) (by simp [Program.plainKey, hu]) h3 h4
  ·rename_i a cs' b ds' heq
   simp only [List.cons.injEq] at heq
   obtain ⟨rfl, rfl⟩ := heq
   simp only [Option.map_eq_some_iff] at h2
   obtain ⟨r', h3, h4⟩ := h2
   cases dd <;> simp [kindOf] at hk
   exact key _ _ _ _ (a == b) r' rfl rfl (fun u u' h5 h6 _ _ => by simp only [RepC, RepD] at h5 h6; subst h5; subst h6; rw [run_equalIn_string w d _ _ _ hu, bs_toList, bs_toList]) (by simp [Program.plainKey, hu]) h3 h4

theorem run_binOpS_av {op : BinOp} {t : TypeId} {ox oy : Operand} {x y r : AV} {u v : Value} (hx : RepV g w A x u) (hy : RepV g w A y v) (h : abinS P op t x y = some r) :
  ∃ z, (do eqGuard op t ox oy u v; binOp op t u v : Sem Value).run P w = .ok z w /\ RepV g w A r z := by
 unfold abinS at h
 split at h <;> first | (simp at h; done) | skip
 rename_i xs ys
 split at h <;> first | (simp at h; done) | skip
 rename_i ks hks
 split at h <;> first | (simp at h; done) | skip
 rename_i b hb
 obtain ⟨us, rfl, hul, hur⟩ := hx
 obtain ⟨vs, rfl, hvl, hvr⟩ := hy
 unfold sq at hks
 split at hks <;> first | (simp at hks; done) | skip
 rename_i fs hu
 split at hks <;> first | (simp at hks; done) | skip
 rename_i hst
 have hfs : P.fieldsOf t = fs := by simp [Program.fieldsOf, hu]
 have heq : (Op.equal t (.agg us.toArray) (.agg vs.toArray)).run P w = .ok b w := by
  show (Op.equalIn (9999 + 1) t (.agg us.toArray) (.agg vs.toArray)).run P w = .ok b w
  rw [run_equalIn_struct w 9999 t _ _ (by rw [hfs]; exact hu) hst.1, hfs]
  refine sqs_spec (d := 9998) (g := g) (A := A) hks hb (fun j c hc => ?_) (fun j c hc => ?_)
  ·have hj : j < us.length := by have := (List.getElem?_eq_some_iff.1 hc).1; omega
   exact ⟨us[j], by simp [hj], hur j c _ hc (List.getElem?_eq_getElem hj)⟩
  ·have hj : j < vs.length := by have := (List.getElem?_eq_some_iff.1 hc).1; omega
   exact ⟨vs[j], by simp [hj], hvr j c _ hc (List.getElem?_eq_getElem hj)⟩
 have hg : ∀ op, (eqGuard op t ox oy (.agg us.toArray) (.agg vs.toArray)).run P w = .ok () w := by
  intro op; cases op <;> simp [eqGuard, hst.2]
 rw [Sem.run_bind, hg]
 simp only [Result.andThen_ok]
 split at h <;> first | (simp at h; done) | skip
 all_goals (simp only [Option.some.injEq] at h; subst h; refine ⟨_, ?_, rfl⟩)
 ·simp [binOp, heq]
 ·simp [binOp, heq]

theorem run_un_av {op : UnOp} {x r : AV} {u : Value} (hx : RepV g w A x u) (h : aun op x = some r) : ∃ z, (Op.unary op u).run P w = .ok z w /\ RepV g w A r z := by
 unfold aun at h
 split at h <;> first | (simp at h; done) | skip
 all_goals (simp only [Option.some.injEq] at h; subst h; simp only [RepV, RepE, RepC, RepD] at hx; subst hx; refine ⟨_, ?_, rfl⟩)
 ·simp [Op.unary]
 ·simp [Op.unary, Op.intArith]

theorem bytesOf_spec : ∀ {rows : List (List DV)} {b : List UInt8}, bytesOf rows = some b -> rows.length = b.length /\ ∀ (i : Nat) row, rows[i]? = some row -> ∃ n : Int, row = [.int .u8 n] /\ b[i]? = some (UInt8.ofNat n.toNat)
 | [], b, h => by simp [bytesOf] at h; subst h; exact ⟨rfl, fun i row h => by simp at h⟩
 | r :: rs, b, h => by
  simp only [bytesOf] at h
  split at h
  ·rename_i c l h1 h2
   simp at h; subst h
   obtain ⟨h3, h4⟩ := bytesOf_spec h2
   refine ⟨by simp [h3], fun i row hrow => ?_⟩
   cases i with
   | zero =>
    simp at hrow; subst hrow
    unfold byteOfRow at h1
    split at h1
    ·rename_i n
     split at h1
     ·simp at h1; subst h1; exact ⟨n, rfl, rfl⟩
     ·simp at h1
    ·simp at h1
   | succ i => simp at hrow; simpa using h4 i row hrow
  ·simp at h

theorem sound_bytes {src dst e : TypeId} {ds dd de : TD} (hs : td P src = some ds) (hd : td P dst = some dd) (hdd : dd.isS = true) (hse : ds.el = some e) (he : td P e = some de) (hk : de.ik = some .u8) {rows : List (List DV)} {v : Value} (hv : RepD g.im w (.sl rows) v)
  {b : List UInt8} (hb : bytesOf rows = some b) : (convert src dst v).run P w = .ok (.string (bs b)) w := by
 have h1 := td_el hs hse
 have h2 := td_ik he hk
 have h3 := td_isS hd hdd
 obtain ⟨hl, hat⟩ := bytesOf_spec hb
 simp only [RepD] at hv
 obtain ⟨ad, cap, rfl, _, hr⟩ := hv
 rcases hr with rfl | ⟨bl, off, sz, rfl, _, hrr⟩
 ·have hb0 : b = [] := List.eq_nil_of_length_eq_zero (by simpa using hl.symm)
  subst hb0
  cases ad with
  | none => exact run_convert_bytes_nil (P := P) w src e h1 h2 0 cap dst h3
  | some ad =>
   refine (run_convert_bytes_string w src dst e _ 0 cap h1 h2 h3).trans ?_
   simp [Conv.bytesToString, loadCells, loadCellsFrom]
   rfl
 ·have hsz : ∀ i, i < rows.length -> ∃ n : Int, rows[i]? = some [.int .u8 n] /\ b[i]? = some (UInt8.ofNat n.toNat) := fun i hi => by
   obtain ⟨n, h4, h5⟩ := hat i _ (List.getElem?_eq_getElem hi)
   exact ⟨n, by rw [List.getElem?_eq_getElem hi, h4], h5⟩
  let xs : List Int := rows.map fun r => match r with | [.int .u8 n] => n | _ => 0
  have hx : strOfNums xs = bs b := by
   simp only [strOfNums, bs]
   congr 2
   apply List.ext_getElem?
   intro i
   by_cases hi : i < rows.length
   ·obtain ⟨n, h4, h5⟩ := hsz i hi
    simp [xs, h4, h5]
   ·simp [xs, List.getElem?_eq_none (show rows.length <= i by omega), List.getElem?_eq_none (show b.length <= i by omega)]
  rw [<- hx]
  refine run_convert_bytes_arg w src e h1 h2 bl off rows.length cap xs (by simp [xs]) (fun i hi => ?_) dst h3
  obtain ⟨n, h4, _⟩ := hsz i hi
  obtain ⟨h6, h7⟩ := RepRows.at_ hrr h4
  have hsz1 : sz = 1 := by simpa using h6.symm
  subst hsz1
  simp only [RepRow, and_true] at h7
  obtain ⟨u, h8, h9⟩ := h7
  simp only [RepD] at h9; subst h9
  simpa [xs, h4] using h8
end
end Go.Av

namespace Go.Av
open Go

section
variable {P : Program} {g g' g0 : Gh} {w w' w0 : World} {V V' : List (List CV)} {A A' : List Arr} {s : St} {a : Act} {K : AV -> List (List CV) -> List Arr -> Prop}

theorem fold_splice : ∀ (l : List Value) (k off : Nat) (arr : Array Value), off + k + l.length <= arr.size -> (l.zipIdx k).foldl (fun cs (c : Value × Nat) => cs.setIfInBounds (off + c.2) c.1) arr = (splice arr.toList (off + k) l).toArray
 | [], k, off, arr, _ => by simp [splice]
 | v :: rest, k, off, arr, h => by
  simp only [List.zipIdx_cons, List.foldl_cons]
  rw [fold_splice rest (k + 1) off _ (by simp at h ⊢; omega)]
  have e := list_seg_step arr.toList (off + k) v rest (by simp at h ⊢; omega)
  simp only [splice, Array.toList_setIfInBounds, List.length_cons]
  congr 1

theorem fill_step (place : Nat -> Option (Nat × Nat)) (cells : Array Value) (i : Nat) (v : Value) (rest : List (Nat × Value)) {off size : Nat} (hp : place i = some (off, size)) (hs : v.cells.size = size) (hf : off + size <= cells.size) :
  Instr.fill place cells ((i, v) :: rest) = Instr.fill place (splice cells.toList off v.cells.toList).toArray rest := by
 simp only [Instr.fill, hp]
 rw [if_neg (by simp; omega)]
 congr 1
 have h := fold_splice v.cells.toList 0 off cells (by simp; omega)
 rw [<- Array.foldl_toList]
 simpa using h

theorem fill_sound (hS : Slots g w s a) {fl : List (Nat × Nat)} : ∀ {parts : List (Nat × Operand)} {ps : List (Nat × List CV)} {cs cs' : List CV} {vs : List Value}, aparts s parts = some ps -> afill fl cs ps = some cs' -> RepCs g w s.A cs vs ->
  ∃ vs', Instr.fill (fl[·]?) vs.toArray (parts.map fun (i, x) => (i, a.eval x)) = some vs'.toArray /\ RepCs g w s.A cs' vs'
 | [], ps, cs, cs', vs, hp, hf, hr => by
  simp [aparts] at hp; subst hp
  simp [afill] at hf; subst hf
  exact ⟨vs, rfl, hr⟩
 | (i, o) :: r, ps, cs, cs', vs, hp, hf, hr => by
  have hp0 := hp
  simp only [aparts] at hp
  split at hp
  ·rename_i v l h1 h2
   split at hp
   ·rename_i hpl
    simp at hp; subst hp
    simp only [afill] at hf
    split at hf
    ·simp at hf
    ·rename_i off size hfl
     split at hf
     ·rename_i hc
      obtain ⟨hc1, _⟩ := AV.plain_cells (aval_sound hS h1) hpl
      have hsz : (a.eval o).cells.size = size := by have := hc1.1; simp at this; omega
      have hvl := hr.1
      simp only [List.map_cons]
      rw [fill_step _ _ _ _ _ hfl hsz (by simp; omega)]
      refine fill_sound hS h2 hf ⟨?_, ?_⟩
      ·rw [splice_len (by simp; omega), splice_len (by omega)]; simpa using hvl
      ·exact splice_rep (by simpa using hvl) (fun j c u h3 h4 => hr.2 j c u h3 (by simpa using h4)) hc1 (by omega)
     ·simp at hf
   ·simp at hp
  ·simp at hp

theorem flOf_spec : ∀ {fs : List Field} {l : List (Nat × Nat)}, flOf P fs = some l -> fs.mapM (fun f => (P.info? f.type).map fun i => (f.offset, i.size)) = some l
 | [], l, h => by simp [flOf] at h; subst h; rfl
 | f :: r, l, h => by
  simp only [flOf] at h
  split at h
  ·rename_i i l' h1 h2
   simp at h; subst h
   simp [List.mapM_cons, h1, flOf_spec h2]
  ·simp at h

theorem sound_build (hI : Inv g w s.V s.A) (hF : Fr w0 g0 w g) (hS : Slots g w s a) {t : TypeId} {d : TD} (ht : td P t = some d) {z : List CV} (hz : d.zero = some z) (hfl : d.fl ≠ []) {parts : Array (Nat × Operand)} {ps : List (Nat × List CV)} (hp : aparts s parts.toList = some ps)
  {cs : List CV} (hf : afill d.fl z ps = some cs) (hK : K (.agg cs) s.V s.A) : Goes P w0 g0 g w s.A (do pure (.value (<- Instr.build t (parts.map fun (i, x) => (i, a.eval x))))) K := by
 obtain ⟨de, i, hu, hi, rfl⟩ := td_inv ht
 obtain ⟨i', hi', _, _, h0⟩ := td_info ht
 obtain rfl : i = i' := by rw [hi] at hi'; exact Option.some.inj hi'
 obtain ⟨zv, hzv, hzc⟩ := h0 z hz
 cases de with
 | struct fs =>
  simp only [flD] at hfl hf
  cases hfo : flOf P fs.toList with
  | none => simp [hfo] at hfl
  | some l =>
   simp only [hfo, Option.getD_some] at hf
   obtain ⟨vs', h1, h2⟩ := fill_sound (g := g) (w := w) (s := s) (a := a) hS hp hf (vs := zv.cells.toList) ⟨cvsOf_len hzc, fun j c u h3 h4 => cvOf_sound (cvsOf_at hzc j c u h3 h4)⟩
   have hb : P.built t (parts.map fun (i, x) => (i, a.eval x)).toList = some vs'.toArray := by
    simp only [Program.built, hi, hu, hzv, flOf_spec hfo]
    simpa using h1
   exact Goes.value hI hF (run_value (run_build w t _ _ hb)) (x := .agg cs) ⟨vs', rfl, h2.1, fun j c u h3 h4 => h2.2 j c u h3 h4⟩ hK
 | _ => simp [flD] at hfl

theorem fill_rows (size : Nat) : ∀ (vals : List Value) (k : Nat) (cells : Array Value), (∀ v ∈ vals, v.cells.size = size) -> (k + vals.length) * size <= cells.size ->
  Instr.fill (fun i => some (i * size, size)) cells (vals.zipIdx k |>.map fun (v, i) => (i, v)) = some (splice cells.toList (k * size) (vals.flatMap fun v => v.cells.toList)).toArray
 | [], k, cells, _, _ => by simp [Instr.fill, splice]
 | v :: r, k, cells, hs, hl => by
  have hv : v.cells.size = size := hs v (by simp)
  have hl' : k * size + size + r.length * size <= cells.size := by simp [Nat.add_mul] at hl; omega
  simp only [List.zipIdx_cons, List.map_cons]
  rw [fill_step _ cells k v _ rfl hv (by omega), fill_rows size r (k + 1) _ (fun x hx => hs x (by simp [hx]))
   (by simp only [List.size_toArray]; rw [splice_len (by simp; omega)]; simp [Nat.add_mul]; omega)]
  have hfl : (r.flatMap fun v => v.cells.toList).length = r.length * size := by
   have : ∀ (l : List Value), (∀ v ∈ l, v.cells.size = size) -> (l.flatMap fun v => v.cells.toList).length = l.length * size := by
    intro l
    induction l with
    | nil => simp
    | cons x l ih => intro h; simp [ih (fun y hy => h y (by simp [hy])), h x (by simp), Nat.add_mul]; omega
   exact this r (fun x hx => hs x (by simp [hx]))
  congr 2
  apply List.ext_getElem?
  intro j
  rw [splice_at (by simp only []; rw [splice_len (by simp; omega), hfl]; simp [Nat.add_mul]; omega), splice_at (by simp; omega), splice_at (by simp [hfl]; omega), hfl]
  simp only [List.flatMap_cons, List.length_append, hfl, Array.length_toList, hv, Nat.add_mul, Nat.one_mul]
  by_cases h1 : k * size + size <= j /\ j < k * size + size + r.length * size
  ·rw [if_pos h1, if_pos (by omega), List.getElem?_append_right (by simp; omega)]
   congr 1; simp; omega
  ·rw [if_neg h1]
   by_cases h2 : k * size <= j /\ j < k * size + size
   ·rw [if_pos h2, if_pos (by omega), List.getElem?_append_left (by simp; omega)]
   ·rw [if_neg h2, if_neg (by omega)]

theorem arows_sound (hS : Slots g w s a) {sz : Nat} : ∀ {parts : List (Nat × Operand)} {k : Nat} {rows : List (List CV)}, arows s sz k parts = some rows ->
  parts.map (fun (i, x) => (i, a.eval x)) = ((parts.map fun (_, x) => a.eval x).zipIdx k |>.map fun (v, i) => (i, v)) /\ rows.length = parts.length /\ (∀ row ∈ rows, row.length = sz) /\
  (∀ v ∈ parts.map (fun (_, x) => a.eval x), v.cells.size = sz /\ ∀ u ∈ v.cells.toList, u.oneCell' = true) /\ RepCs g w s.A rows.flatten ((parts.map fun (_, x) => a.eval x).flatMap fun v => v.cells.toList)
 | [], k, rows, h => by simp [arows] at h; subst h; exact ⟨rfl, rfl, by simp, by simp, rfl, fun j c u h => by simp at h⟩
 | (i, o) :: r, k, rows, h => by
  simp only [arows] at h
  split at h
  ·rename_i v l h1 h2
   split at h
   ·rename_i hc
    simp at h; subst h
    obtain ⟨rfl, hp, hl⟩ := hc
    obtain ⟨h3, h4, h5, h6, h7⟩ := arows_sound hS h2
    obtain ⟨hc1, hc2⟩ := AV.plain_cells (aval_sound hS h1) hp
    have hsz : (a.eval o).cells.size = sz := by have := hc1.1; simp at this; omega
    refine ⟨by simp only [List.map_cons, List.zipIdx_cons, h3], by simp [h4], fun row hrow => ?_, fun v' hv' => ?_, ?_, fun j c u h8 h9 => ?_⟩
    ·simp at hrow
     rcases hrow with rfl | hrow
     ·exact hl
     ·exact h5 row hrow
    ·simp only [List.map_cons, List.mem_cons] at hv'
     rcases hv' with rfl | hv'
     ·exact ⟨hsz, hc2⟩
     ·exact h6 v' hv'
    ·simp only [List.map_cons, List.flatMap_cons, List.flatten_cons, List.length_append, h7.1, hc1.1]
    ·simp only [List.map_cons, List.flatMap_cons, List.flatten_cons] at h8 h9
     by_cases hj : j < v.cells.length
     ·rw [List.getElem?_append_left hj] at h8
      rw [List.getElem?_append_left (by rw [hc1.1]; exact hj)] at h9
      exact hc1.2 j c u h8 h9
     ·rw [List.getElem?_append_right (by omega)] at h8
      rw [List.getElem?_append_right (by rw [hc1.1]; omega), hc1.1] at h9
      exact h7.2 _ c u h8 h9
   ·simp at h
  ·simp at h

theorem sound_buildSlice (hI : Inv g w s.V s.A) (hF : Fr w0 g0 w g) (hS : Slots g w s a) {t e : TypeId} {d de : TD} (ht : td P t = some d) (hel : d.el = some e) (he : td P e = some de) {parts : Array (Nat × Operand)} {rows : List (List CV)} (hr : arows s de.sz 0 parts.toList = some rows)
  {ds : List (List DV)} (hds : toRows s.A rows = some ds) {len : Nat} (hlen : rows.length = len) (hle : len * de.sz <= 16777216) (hpos : 0 < de.sz) (hz : de.zero.isSome = true) {ow : Bool}
  (hK : if ow then K (.c (.own s.A.length len)) s.V (sealAs s.A rows.flatten ++ [{ sz := de.sz, ety := e, rows := ds, wr := true }]) else K (.c (.d (.sl ds))) s.V (sealAs s.A rows.flatten)) :
  Goes P w0 g0 g w s.A (do pure (.value (<- Instr.buildSlice t len (parts.map fun (i, x) => (i, a.eval x))))) K := by
 obtain ⟨i, hi, hisz, _, h0⟩ := td_info he
 obtain ⟨z, hz⟩ := Option.isSome_iff_exists.1 hz
 obtain ⟨zv, hzv, hzc⟩ := h0 z hz
 have hsl := td_el ht hel
 obtain ⟨h1, h2, h3, h4, h5⟩ := arows_sound hS hr
 have hfd := toRows_spec hds
 let vals := parts.toList.map fun (_, x) => a.eval x
 let cells := vals.flatMap fun v => v.cells.toList
 have hvl : vals.length = len := by simp only [vals, List.length_map]; omega
 have hcl : cells.length = len * de.sz := by rw [show cells.length = rows.flatten.length from h5.1, flatten_len h3, hlen]
 have hone : ∀ u ∈ cells, u.oneCell' = true := fun u hu => by
  obtain ⟨v, hv, hu'⟩ := List.mem_flatMap.1 hu
  exact (h4 v hv).2 u hu'
 have hfill : ∀ z : Array Value, z.size = len * de.sz -> Instr.fill (fun i => some (i * de.sz, de.sz)) z (parts.map fun (i, x) => (i, a.eval x)).toList = some cells.toArray := fun z hzl => by
  have := fill_rows de.sz vals 0 z (fun v hv => (h4 v hv).1) (by rw [Nat.zero_add, hvl]; omega)
  rw [<- h1] at this
  simp only [Array.toList_map, this, Option.some.injEq, Nat.zero_mul]
  congr 1
  show splice z.toList 0 cells = cells
  simp [splice, hcl, hzl]
 have hrun : ∀ w : World, (Instr.buildSlice t len (parts.map fun (i, x) => (i, a.eval x))).run P w = .ok (.slice (some ⟨w.heap.size, 0, none⟩) len len) (w.alloc (.cells cells.toArray e)) := fun w => by
  have hsz : (sizeOf e).run P w = .ok de.sz w := by simp [sizeOf, typeInfo, hi, hisz]
  have hze : ∀ w : World, (zeroValue e).run P w = .ok zv w := fun w => by simp [zeroValue, typeInfo, hi, hzv]
  unfold Instr.buildSlice
  simp only [Sem.run_bind, run_underlying hsl, Result.andThen_ok, hsz]
  rw [if_neg (by omega)]
  by_cases hl0 : len * de.sz = 0
  ·have := hfill #[] (by simp [hl0])
   simp only [hl0, if_true, Sem.run_pure, Sem.run_bind, Result.andThen_ok, Array.range_zero', Array.map_empty, this, newRow_run]
  ·have := hfill ((Array.range (len * de.sz)).map (zv.cells[· % zv.cells.size]!)) (by simp)
   simp only [hl0, if_false, Sem.run_pure, Sem.run_bind, Result.andThen_ok, hze, this, newRow_run]
 obtain ⟨g1, hI1, hx1, hF1, ha1, ho1, hd1⟩ := seal_many hI hF h5 hfd.1
 have hrl : ∀ r ∈ ds, r.length = de.sz := fun r hr => by
  obtain ⟨j, hj⟩ := List.getElem?_of_mem hr
  have hjl : j < rows.length := by have := (List.getElem?_eq_some_iff.1 hj).1; omega
  have hrow : rows[j]? = some rows[j] := List.getElem?_eq_getElem hjl
  rw [hfd.2.2 j _ r hrow hj]; exact h3 _ (List.getElem_mem hjl)
 by_cases how : ow = true
 ·rw [if_pos how] at hK
  obtain ⟨g2, hg2, hI2, hx2⟩ := hI1.newBlock (.cells cells.toArray e) 0
  have hF2 := hF1.newBlock (.cells cells.toArray e) 0
  rw [<- hg2] at hF2
  have hmax : len <= maxLen := by
   have : len <= len * de.sz := Nat.le_mul_of_pos_right _ hpos
   simp only [maxLen]; omega
  have hown := World.ownsRow_lit (base := 0) (e := e) (size := de.sz) w cells.toArray len (Nat.zero_le _) hmax (by simpa using hcl)
  obtain ⟨g3, hm3, ho3, ha3, hI3, hx3, hF3⟩ := hI2.newArr hF2 { sz := de.sz, ety := e, rows := ds, wr := true } (.slice (some ⟨w.heap.size, 0, none⟩) len len) cells hrl (by simp only [show ds.length = len by omega]; simpa using hown)
   (fun j x u h6 h7 => RepD.grows hx2.gr x u (hd1 j x u h6 h7))
   (fun b hb => by
    simp [Value.ownBlock] at hb; subst hb
    subst hg2
    refine ⟨by simp, hF.size, fun l hl => ?_, fun k v hv hb => ?_⟩
    ·have := hI1.obLt (g := g1) hl; omega
    ·have := hI1.arLt (g := g1) hv hb; omega)
  refine ⟨_, _, _, _, _, _, g3, hK, run_value (hrun w), .inl rfl, ?_, hI3, (hx1.trans hx2).trans hx3, hF3⟩
  have hlA : (sealAs s.A rows.flatten).length = s.A.length := by
   have : ∀ (cs : List CV) (A : List Arr), (sealAs A cs).length = A.length := by
    intro cs
    induction cs with
    | nil => intro A; rfl
    | cons c cs ih => intro A; simp only [sealAs, List.foldl_cons]; have := ih (sealA A c); simp only [sealAs] at this; rw [this]; cases c <;> try rfl
                      simp only [sealA]; split <;> simp
   exact this _ _
  refine ⟨some ⟨w.heap.size, 0, none⟩, len, rfl, { sz := de.sz, ety := e, rows := ds, wr := true }, ?_, by simp only []; omega, fun _ => ?_⟩
  ·rw [List.getElem?_append_right (by rw [hlA]; exact Nat.le_refl _), hlA]; simp
  ·rw [ha3, List.getElem?_append_right (by rw [hI2.arl, hlA]; exact Nat.le_refl _), hI2.arl, hlA]; simp
 ·rw [if_neg how] at hK
  obtain ⟨g2, hg2, hI2, hx2⟩ := hI1.newBlock (.cells cells.toArray e) cells.length
  have hF2 := hF1.newBlock (.cells cells.toArray e) cells.length
  rw [<- hg2] at hF2
  refine ⟨_, _, _, _, _, _, g2, hK, run_value (hrun w), .inl rfl, ?_, hI2, hx1.trans hx2, hF2⟩
  simp only [RepV, RepE, RepC, RepD]
  refine ⟨some ⟨w.heap.size, 0, none⟩, len, by rw [show ds.length = len by omega], by omega, .inr ⟨w.heap.size, 0, de.sz, rfl, ?_, ?_⟩⟩
  ·have hdl : ds.length = len := by omega
   subst hg2; simp [hdl, hcl]
  ·refine RepRows.mk fun i r hir => ⟨hrl r (List.mem_of_getElem? hir), RepRow.mk fun j x hx => ?_⟩
   have hf := flatten_at hrl hir hx
   have hlt : i * de.sz + j < cells.length := by
    have := (List.getElem?_eq_some_iff.1 hf).1
    rw [flatten_len hrl] at this; rw [hcl, <- hlen, <- hfd.2.1]; exact this
   have hu : cells[i * de.sz + j]? = some cells[i * de.sz + j] := List.getElem?_eq_getElem hlt
   refine ⟨_, ?_, RepD.grows hx2.gr _ _ (hd1 _ x _ hf hu)⟩
   rw [cell_of_row _ w.heap.size _ cells.toArray e (0, 0) (heap_alloc_new w _), Nat.zero_add]
   simp [hu]

theorem toD_zero {im : Nat -> Nat} {v : Value} {c : CV} {x : DV} (h : cvOf v = some c) (hd : toD A c = some x) : RepD im w x v := by
 unfold cvOf at h
 split at h <;> first | (simp at h; done) | skip
 all_goals (simp only [Option.some.injEq] at h; subst h; simp only [toD, Option.some.injEq] at hd)
 all_goals first
  | (subst hd; simp only [RepD]; done)
  | (subst hd; simp only [RepD]; rw [bs_data])
  | (subst hd; simp only [RepD]; exact ⟨none, 0, rfl, Nat.le_refl _, .inl trivial⟩)
  | (cases hd)

theorem sound_makeSlice (hI : Inv g w s.V s.A) (hF : Fr w0 g0 w g) {t e : TypeId} {d de : TD} (ht : td P t = some d) (hel : d.el = some e) (he : td P e = some de) {z : List CV} (hz : de.zero = some z) {dz : List DV} (hdz : toDs s.A z = some dz) {kl kc : IntKind} {n : Int} (h0 : 0 <= n)
  (hb : n.toNat * de.by_ <= 140737488355328) (hm : n.toNat <= 9223372036854775807) (hpos : 0 < de.sz) (hzl : z.length = de.sz) (hK : K (.c (.own s.A.length n.toNat)) s.V (s.A ++ [{ sz := de.sz, ety := e, rows := List.replicate n.toNat dz, wr := true }])) :
  Goes P w0 g0 g w s.A (do pure (.value (<- Instr.makeSlice t (.int kl n) (.int kc n)))) K := by
 obtain ⟨i, hi, hisz, hiby, hz0⟩ := td_info he
 obtain ⟨zv, hzv, hzc⟩ := hz0 z hz
 have hsl := td_el ht hel
 obtain ⟨m, rfl⟩ := Int.eq_ofNat_of_zero_le h0
 simp only [Int.toNat_natCast] at hb hm hK
 have hmul : (i.bytes : Int) * (m : Int) <= 281474976710656 := by
  have h : ((i.bytes * m : Nat) : Int) <= 281474976710656 := by rw [hiby, Nat.mul_comm]; omega
  rwa [Int.natCast_mul] at h
 have hrun := run_make (P := P) w t e i zv hsl hi hzv kl kc m m (by omega) (Int.le_refl _) hmul (by omega)
 simp only [Int.toNat_natCast, hisz] at hrun
 have hzs : zv.cells.size = de.sz := by have := cvsOf_len hzc; simp at this; omega
 have hdl := toDs_len hdz
 obtain ⟨g2, hg2, hI2, hx2⟩ := hI.newBlock (.cells (madeCells zv.cells (m * de.sz)) e) 0
 have hF2 := hF.newBlock (.cells (madeCells zv.cells (m * de.sz)) e) 0
 rw [<- hg2] at hF2
 have hown := World.ownsRow_lit (base := 0) (e := e) (size := de.sz) w (madeCells zv.cells (m * de.sz)) m (Nat.zero_le _) (by simp only [maxLen]; omega) (size_madeCells _ _)
 have hfl : ∀ (m j : Nat) (x : DV), (List.replicate m dz).flatten[j]? = some x -> dz[j % de.sz]? = some x := by
  intro m
  induction m with
  | zero => intro j x h; simp at h
  | succ m ih =>
   intro j x h
   simp only [List.replicate_succ, List.flatten_cons] at h
   by_cases hj : j < dz.length
   ·rw [List.getElem?_append_left hj] at h
    rwa [Nat.mod_eq_of_lt (by omega)]
   ·rw [List.getElem?_append_right (by omega)] at h
    have := ih _ _ h
    rwa [show dz.length = de.sz by omega, <- Nat.mod_eq_sub_mod (by omega)] at this
 obtain ⟨g3, hm3, ho3, ha3, hI3, hx3, hF3⟩ := hI2.newArr hF2 { sz := de.sz, ety := e, rows := List.replicate m dz, wr := true } (.slice (some ⟨w.heap.size, 0, none⟩) m m) (madeCells zv.cells (m * de.sz)).toList
  (fun r hr => by simp at hr; rw [hr.2]; show dz.length = de.sz; omega) (by simpa using hown)
  (fun j x u h6 h7 => by
   have h8 := hfl m j x h6
   have hjm : j < m * de.sz := by
    have := (List.getElem?_eq_some_iff.1 h7).1
    simpa [size_madeCells] using this
   have h9 : u = zv.cells[j % zv.cells.size]! := by
    simp [madeCells, hjm] at h7; exact h7.symm
   have hlt : j % de.sz < zv.cells.size := by rw [hzs]; exact Nat.mod_lt _ hpos
   have h10 : zv.cells.toList[j % de.sz]? = some u := by
    rw [h9, hzs]; simp [hlt]
   have hzl' : j % de.sz < z.length := by omega
   have hzj : z[j % de.sz]? = some z[j % de.sz] := List.getElem?_eq_getElem hzl'
   have h11 := cvsOf_at hzc _ _ _ hzj h10
   have hat : ∀ {cs : List CV} {ds : List DV}, toDs s.A cs = some ds -> ∀ (j : Nat) c x, cs[j]? = some c -> ds[j]? = some x -> toD s.A c = some x := by
    intro cs
    induction cs with
    | nil => intro ds h j c x h1; simp at h1
    | cons c cs ih =>
     intro ds h j c' x h1 h2
     simp only [toDs] at h
     split at h
     ·rename_i d1 d2 h3 h4
      simp at h; subst h
      cases j with
      | zero => simp at h1 h2; subst h1; subst h2; exact h3
      | succ j => simp at h1 h2; exact ih h4 j c' x h1 h2
     ·simp at h
   exact toD_zero h11 (hat hdz _ _ _ hzj h8))
  (fun b hb => by
   simp [Value.ownBlock] at hb; subst hb
   subst hg2
   refine ⟨by simp, hF.size, fun l hl => ?_, fun k v hv hb => ?_⟩
   ·have := hI.obLt (g := g) hl; omega
   ·have := hI.arLt (g := g) hv hb; omega)
 refine ⟨_, _, _, _, _, _, g3, hK, run_value hrun, .inl rfl, ?_, hI3, hx2.trans hx3, hF3⟩
 refine ⟨some ⟨w.heap.size, 0, none⟩, m, rfl, { sz := de.sz, ety := e, rows := List.replicate m dz, wr := true }, ?_, by simp, fun _ => ?_⟩
 ·rw [List.getElem?_append_right (Nat.le_refl _)]; simp
 ·rw [ha3, List.getElem?_append_right (by rw [hI2.arl]; exact Nat.le_refl _), hI2.arl]; simp
end
end Go.Av

namespace Go.Av
open Go

section
variable {P : Program} {g g' g0 : Gh} {w w' w0 : World} {V V' : List (List CV)} {A A' : List Arr} {s : St} {a : Act} {K : AV -> List (List CV) -> List Arr -> Prop}

theorem flOf_at : ∀ {fs : List Field} {l : List (Nat × Nat)}, flOf P fs = some l -> ∀ {i off sz : Nat}, l[i]? = some (off, sz) -> ∃ f inf, fs[i]? = some f /\ f.offset = off /\ P.info? f.type = some inf /\ inf.size = sz
 | [], l, h, i, off, sz, hi => by simp [flOf] at h; subst h; simp at hi
 | f :: r, l, h, i, off, sz, hi => by
  simp only [flOf] at h
  split at h
  ·rename_i inf l' h1 h2
   simp at h; subst h
   cases i with
   | zero => simp at hi; exact ⟨f, inf, rfl, hi.1, h1, hi.2⟩
   | succ i => simp at hi; simpa using flOf_at h2 hi
  ·simp at h

theorem run_fieldAt_av {t : TypeId} {d : TD} (ht : td P t = some d) {f off sz : Nat} (hf : d.fl[f]? = some (off, sz)) (hsz : sz ≠ 0) (b o : Nat) : (Instr.fieldAt t (.pointer (some ⟨b, o, none⟩)) f).run P w = .ok (.pointer (some ⟨b, o + off, none⟩)) w := by
 obtain ⟨de, i, hu, hi, rfl⟩ := td_inv ht
 cases de with
 | struct fs =>
  simp only [flD] at hf
  cases hfo : flOf P fs.toList with
  | none => simp [hfo] at hf
  | some l =>
   simp only [hfo, Option.getD_some] at hf
   obtain ⟨fld, inf, h1, h2, h3, h4⟩ := flOf_at hfo hf
   have h1' : fs[f]? = some fld := by simpa using h1
   subst h2; subst h4
   simp [Instr.fieldAt, run_underlying hu, h1', Instr.sureAddr, fieldPlace, sizeOf, typeInfo, h3, hsz, addr_add]
 | _ => simp [flD] at hf

theorem run_indexAt_sl {t e : TypeId} {d de : TD} (ht : td P t = some d) (hel : d.el = some e) (he : td P e = some de) {b off n cap : Nat} {k : IntKind} {i : Int} (h0 : 0 <= i) (h1 : i.toNat < n) :
  (Instr.indexAt t (.slice (some ⟨b, off, none⟩) n cap) (.int k i)).run P w = .ok (.pointer (some ⟨b, off + i.toNat * de.sz, none⟩)) w := by
 have hu := td_el ht hel
 obtain ⟨inf, hi, hsz, _, _⟩ := td_info he
 have hc : 0 <= i /\ i < n := by omega
 simp [Instr.indexAt, asIntOf, run_underlying hu, hc, sizeOf, typeInfo, hi, hsz, addr_add]

theorem run_indexAt_ar {t e : TypeId} {d de : TD} {len : Nat} (ht : td P t = some d) (hel : d.ar = some (len, e)) (he : td P e = some de) {b off : Nat} {k : IntKind} {i : Int} (h0 : 0 <= i) (h1 : i < len) :
  (Instr.indexAt t (.pointer (some ⟨b, off, none⟩)) (.int k i)).run P w = .ok (.pointer (some ⟨b, off + i.toNat * de.sz, none⟩)) w := by
 have hu := td_ar ht hel
 obtain ⟨inf, hi, hsz, _, _⟩ := td_info he
 have hc : 0 <= i /\ i < len := by omega
 simp [Instr.indexAt, asIntOf, run_underlying hu, Instr.sureAddr, hc, sizeOf, typeInfo, hi, hsz, addr_add]

theorem src_sound (hI : Inv g w V A) {v : AV} {u : Value} (hv : RepV g w A v u) {nr : List (List DV)} (h : rowsOf A v = some nr) {sz : Nat} (hl : ∀ r ∈ nr, r.length = sz) :
  ∃ news : List Value, ((nr.length = 0 /\ news = [] /\ ∃ a c, u = .slice a 0 c) \/ ∃ a c, u = .slice (some a) nr.length c /\ news.length = nr.length * sz /\ ∀ (j : Nat) x, news[j]? = some x -> w.cell? (a.add j) = some x) /\
   (∀ u ∈ news, u.oneCell' = true) /\ ∀ (j : Nat) x y, nr.flatten[j]? = some x -> news[j]? = some y -> RepD g.im w x y := by
 have key : ∀ (b off sz' : Nat) (rows : List (List DV)), (∀ r ∈ rows, r.length = sz) -> RepRows g.im w b sz' off rows -> rows ≠ [] -> sz' = sz /\
   ∃ news : List Value, news.length = rows.length * sz /\ (∀ (j : Nat) x, news[j]? = some x -> w.cell? ⟨b, off + j, none⟩ = some x) /\ ∀ (j : Nat) x y, rows.flatten[j]? = some x -> news[j]? = some y -> RepD g.im w x y := by
  intro b off sz' rows hl hrr hne
  have hsz : sz' = sz := by
   cases rows with
   | nil => exact absurd rfl hne
   | cons r rs => simp only [RepRows] at hrr; have := hl r (by simp); omega
  subst hsz
  have hflat := flatten_len hl
  obtain ⟨vs, h1, h2⟩ := cells_list w b off (rows.length * sz') (fun j u => ∀ x, rows.flatten[j]? = some x -> RepD g.im w x u) (fun j hj => by
   have hpos : 0 < sz' := by rcases Nat.eq_zero_or_pos sz' with h | h; · subst h; simp at hj
                             ·exact h
   have hdiv : j / sz' < rows.length := Nat.div_lt_of_lt_mul (by rw [Nat.mul_comm]; exact hj)
   have hrow : rows[j / sz']? = some rows[j / sz'] := List.getElem?_eq_getElem hdiv
   obtain ⟨h3, h4⟩ := RepRows.at_ hrr hrow
   have hmod := Nat.mod_lt j hpos
   have hx : (rows[j / sz'])[j % sz']? = some (rows[j / sz'])[j % sz'] := List.getElem?_eq_getElem (by omega)
   obtain ⟨u, h5, h6⟩ := RepRow.at_ h4 hx
   have hj' : j / sz' * sz' + j % sz' = j := by rw [Nat.mul_comm]; exact Nat.div_add_mod j sz'
   refine ⟨u, by rw [<- hj', <- Nat.add_assoc]; exact h5, fun x h7 => ?_⟩
   have h8 := flatten_at hl hrow hx
   rw [hj', h7] at h8
   cases h8; exact h6)
  exact ⟨rfl, vs, h1, fun j x hx => (h2 j x hx).1, fun j x y hx hy => (h2 j y hy).2 x hx⟩
 cases v with
 | agg xs => simp [rowsOf] at h
 | tup xs => simp [rowsOf] at h
 | c c =>
  cases c with
  | d x =>
   cases x with
   | sl rows =>
    simp [rowsOf] at h; subst h
    simp only [RepV, RepE, RepC, RepD] at hv
    obtain ⟨ad, cap, rfl, _, hr⟩ := hv
    rcases hr with rfl | ⟨b, off, sz', rfl, _, hrr⟩
    ·exact ⟨[], .inl ⟨rfl, rfl, ad, cap, rfl⟩, by simp, fun j x y hx => by simp at hx⟩
    ·by_cases hne : rows = []
     ·subst hne
      exact ⟨[], .inl ⟨rfl, rfl, _, cap, rfl⟩, by simp, fun j x y hx => by simp at hx⟩
     ·obtain ⟨rfl, news, h1, h2, h3⟩ := key b off sz' rows hl hrr hne
      refine ⟨news, .inr ⟨_, cap, rfl, h1, fun j x hx => by rw [addr_add]; exact h2 j x hx⟩, fun u hu => ?_, h3⟩
      obtain ⟨j, hj⟩ := List.getElem?_of_mem hu
      have hjl : j < rows.flatten.length := by rw [flatten_len hl, <- h1]; exact (List.getElem?_eq_some_iff.1 hj).1
      exact RepD.oneCell (h3 j _ u (List.getElem?_eq_getElem hjl) hj)
   | _ => simp [rowsOf] at h
  | nil =>
   simp [rowsOf] at h; subst h
   simp only [RepV, RepE, RepC] at hv; subst hv
   exact ⟨[], .inl ⟨rfl, rfl, none, 0, rfl⟩, by simp, fun j x y hx => by simp at hx⟩
  | own k n =>
   obtain ⟨ad, cap, rfl, r, hk, hn, hq⟩ := hv
   simp only [rowsOf, hk] at h
   split at h
   ·rename_i hne
    simp at h; subst h
    have hv0 := hq hne
    obtain ⟨h1, _, xs, hown, hr⟩ := hI.arr k r _ hk hv0
    rcases hown.2 with ⟨h2, h3⟩ | ⟨b, cap', cur, h2, _, hh, _, _, _, _⟩
    ·have h4 : r.rows = [] := List.eq_nil_of_length_eq_zero h3
     refine ⟨[], .inl ⟨h3, rfl, ad, cap, by rw [hne, h3]⟩, by simp, fun j x y hx => by rw [h4] at hx; simp at hx⟩
    ·have hb : (Value.slice ad n cap).ownBlock = some b := by rw [h2]; rfl
     by_cases hne0 : r.rows = []
     ·refine ⟨[], .inl ⟨by rw [hne0]; rfl, rfl, ad, cap, by rw [hne, hne0]; rfl⟩, by simp, fun j x y hx => by rw [hne0] at hx; simp at hx⟩
     ·have hsz : r.sz = sz := by
       cases hrr : r.rows with
       | nil => exact absurd hrr hne0
       | cons q qs => have e1 := h1 q (by rw [hrr]; simp); have e2 := hl q (by rw [hrr]; simp); omega
      refine ⟨xs, .inr ⟨⟨b, 0, none⟩, cap', by rw [h2], by rw [hown.1, hsz], hown.cells hb⟩, fun u hu => ?_, hr⟩
      obtain ⟨j, hj⟩ := List.getElem?_of_mem hu
      have hjl : j < r.rows.flatten.length := by rw [flatten_len h1, <- hown.1]; exact (List.getElem?_eq_some_iff.1 hj).1
      exact RepD.oneCell (hr j _ u (List.getElem?_eq_getElem hjl) hj)
   ·simp at h
  | _ => simp [rowsOf] at h

theorem sound_append_own (hI : Inv g w s.V s.A) (hF : Fr w0 g0 w g) {t e : TypeId} {d de : TD} (ht : td P t = some d) (hel : d.el = some e) (he : td P e = some de) {z : List CV} (hz : de.zero = some z) (hzl : z.length = de.sz) {k n : Nat} {v u : Value} (hv : RepC g w s.A (.own k n) v)
  {y : AV} (hy : RepV g w s.A y u) {nr : List (List DV)} (hnr : rowsOf s.A y = some nr) (hl : ∀ r ∈ nr, r.length = de.sz) {r : Arr} (hk : s.A[k]? = some r) (hn : n = r.rows.length) (hety : r.ety = e) (hrsz : r.sz = de.sz) (hb : (n + nr.length) * de.by_ <= 140737488355328) (hm : n + nr.length <= 9223372036854775807) {ty : TypeId}
  (hK : K (.c (.own k (n + nr.length))) s.V (s.A.set k { r with rows := r.rows ++ nr })) : Goes P w0 g0 g w s.A (do pure (.value (<- Builtin.append_ #[t, t] ty #[v, u]))) K := by
 obtain ⟨i, hi, hisz, hiby, h0⟩ := td_info he
 obtain ⟨zv, hzv, hzc⟩ := h0 z hz
 have hzs : zv.cells.size = i.size := by have := cvsOf_len hzc; simp at this; omega
 obtain ⟨ad, cap, hve, r', hk', _, hq⟩ := hv
 obtain rfl : r = r' := by rw [hk] at hk'; exact Option.some.inj hk'
 have hv0 := hq hn
 subst hn; subst hety
 obtain ⟨h1, _, xs, hown, _⟩ := hI.arr k r v hk hv0
 obtain ⟨news, hsrc, hone, hrep⟩ := src_sound hI hy hnr hl
 have hown' : w.ownsRow 0 r.ety i.size v r.rows.length xs := by rw [hisz, <- hrsz]; exact hown
 obtain ⟨v', w', hrun, ho', hc⟩ := run_append_av (P := P) t ty r.ety i zv (td_el ht hel) hi hzv hzs v r.rows.length xs hown' u nr.length news (by rw [hisz]; exact hsrc) hone (by simp only [maxLen]; omega) (by rw [hiby]; exact hb)
 have hlenv : (Goes P w0 g0 g w s.A (do pure (.value (<- Builtin.append_ #[t, t] ty #[v, u]))) K) := by
  by_cases hne : nr = []
  ·subst hne
   have hnews : news = [] := by
    rcases hsrc with ⟨_, h, _⟩ | ⟨_, _, _, h, _⟩
    ·exact h
    ·exact List.eq_nil_of_length_eq_zero (by simpa using h)
   subst hnews
   obtain ⟨a0, c0, rfl⟩ : ∃ a0 c0, u = .slice a0 0 c0 := by
    rcases hsrc with ⟨_, _, h⟩ | ⟨a0, c0, h, _⟩
    ·exact h
    ·exact ⟨some a0, c0, h⟩
   have hrun' : (Builtin.append_ #[t, t] ty #[v, .slice a0 0 c0]).run P w = .ok v w := by
    have hfc : ∀ (ad : Option Addr) (c : Nat) (w : World), (Builtin.firstCells i.size 0 (.slice ad 0 c)).run P w = .ok #[] w := fun ad c w => by
     cases ad <;> simp [Builtin.firstCells, loadCells, loadCellsFrom]
    rcases hown'.2 with ⟨h6, h7⟩ | ⟨gb, cp, cur, h6, _, _, hnc, _⟩
    ·rw [h6]; simp [Builtin.append_, run_underlying (td_el ht hel), sizeOf, typeInfo, hi, Builtin.lenOf, hfc]
    ·rw [h6]; simp [Builtin.append_, run_underlying (td_el ht hel), sizeOf, typeInfo, hi, Builtin.lenOf, hfc, hnc, storeCells]
   have hset : s.A.set k { r with rows := r.rows ++ [] } = s.A := by
    apply List.ext_getElem?
    intro j
    rw [set_get hk]
    by_cases e : j = k
    ·subst e; simp [hk]
    ·simp [e]
   rw [hset] at hK
   exact Goes.value hI hF (run_value hrun') (x := .c (.own k (r.rows.length + 0))) ⟨ad, cap, hve, r, hk, Nat.le_refl _, fun _ => hv0⟩ hK
  ·obtain ⟨g', hI', hx', hF', hg', _, _⟩ := hI.grow hF hk hv0 nr hne news (fun row hrow => by rw [hl row hrow, hrsz]) hrep
    (fun xs' hx' => by
     obtain rfl : xs' = xs := by
      rcases hx'.2 with ⟨e1, e2⟩ | ⟨b1, c1, cu1, e1, _, e3, _, _, _, e4⟩ <;> rcases hown.2 with ⟨f1, f2⟩ | ⟨b2, c2, cu2, f1, _, f3, _, _, _, f4⟩
      ·have := hx'.1; have := hown.1; rw [e2] at *; simp at *; simp [*]
      ·rw [e1] at f1; simp at f1
      ·rw [e1] at f1; simp at f1
      ·rw [e1] at f1; simp at f1
       obtain ⟨rfl, rfl⟩ := f1
       rw [e3] at f3; simp at f3; subst f3
       rw [<- e4, <- f4]
     rw [show r.sz = i.size by omega]; exact ho') hc
   refine ⟨_, _, _, _, _, _, g', hK, run_value hrun, .inl rfl, ?_, hI', hx', hF'⟩
   have hv' : ∃ ad' cap', v' = .slice ad' (r.rows.length + nr.length) cap' := by
    rcases ho'.2 with ⟨e1, e2⟩ | ⟨b1, c1, cu1, e1, _⟩
    ·exact ⟨none, 0, by rw [e1, e2]⟩
    ·exact ⟨_, _, e1⟩
   obtain ⟨ad', cap', rfl⟩ := hv'
   refine ⟨ad', cap', rfl, { r with rows := r.rows ++ nr }, ?_, by simp, fun _ => hg'⟩
   rw [set_get hk]; simp
 exact hlenv
end
end Go.Av

namespace Go.Av
open Go

section
variable {P : Program} {g g' g0 : Gh} {w w' w0 : World} {V V' : List (List CV)} {A A' : List Arr} {s : St} {a : Act} {K : AV -> List (List CV) -> List Arr -> Prop}

theorem sound_append_nil (hI : Inv g w s.V s.A) (hF : Fr w0 g0 w g) {t e : TypeId} {d de : TD} (ht : td P t = some d) (hel : d.el = some e) (he : td P e = some de) {z : List CV} (hz : de.zero = some z) (hzl : z.length = de.sz) {u : Value}
  {y : AV} (hy : RepV g w s.A y u) {nr : List (List DV)} (hnr : rowsOf s.A y = some nr) (hl : ∀ r ∈ nr, r.length = de.sz) (hb : nr.length * de.by_ <= 140737488355328) (hm : nr.length <= 9223372036854775807) {ty : TypeId}
  (hK : K (.c (.own s.A.length nr.length)) s.V (s.A ++ [{ sz := de.sz, ety := e, rows := nr, wr := true }])) : Goes P w0 g0 g w s.A (do pure (.value (<- Builtin.append_ #[t, t] ty #[.slice none 0 0, u]))) K := by
 obtain ⟨g1, hm1, ho1, ha1, hI1, hx1, hF1⟩ := hI.newArr hF { sz := de.sz, ety := e, rows := [], wr := true } (.slice none 0 0) [] (by simp) (World.ownsRow_nil w 0 e de.sz) (fun j x u h => by simp at h) (fun b h => by simp [Value.ownBlock] at h)
 have hk : (s.A ++ [({ sz := de.sz, ety := e, rows := [], wr := true } : Arr)])[s.A.length]? = some { sz := de.sz, ety := e, rows := [], wr := true } := by simp
 have hrows : rowsOf (s.A ++ [({ sz := de.sz, ety := e, rows := [], wr := true } : Arr)]) y = some nr := by
  cases y with
  | c c =>
   cases c with
   | own k n =>
    simp only [rowsOf] at hnr ⊢
    cases hk' : s.A[k]? with
    | none => simp [hk'] at hnr
    | some r => rw [List.getElem?_append_left (List.getElem?_eq_some_iff.1 hk').1, hk']; simpa only [hk'] using hnr
   | d x => cases x <;> exact hnr
   | _ => exact hnr
  | _ => exact hnr
 have := sound_append_own (P := P) (g := g1) (w := w) (w0 := w0) (g0 := g0) (s := { s with A := s.A ++ [{ sz := de.sz, ety := e, rows := [], wr := true }] }) (K := K) hI1 hF1 ht hel he hz hzl (k := s.A.length) (n := 0) (v := .slice none 0 0) (u := u)
  ⟨none, 0, rfl, _, hk, Nat.zero_le _, fun _ => by rw [ha1, List.getElem?_append_right (by rw [hI.arl]; exact Nat.le_refl _), hI.arl]; simp⟩ (RepV.ext hx1 hy) hrows hl hk rfl rfl rfl (by simpa using hb) (by simpa using hm) (ty := ty) (by
   simp only [Nat.zero_add, List.nil_append]
   have : (s.A ++ [({ sz := de.sz, ety := e, rows := [], wr := true } : Arr)]).set s.A.length { sz := de.sz, ety := e, rows := nr, wr := true } = s.A ++ [{ sz := de.sz, ety := e, rows := nr, wr := true }] := by simp
   rw [this]; exact hK)
 obtain ⟨x, V', A', nx, v, w', g', h1, h2, h3, h4, h5, h6, h7⟩ := this
 exact ⟨x, V', A', nx, v, w', g', h1, h2, h3, h4, h5, hx1.trans h6, h7⟩

theorem extract_bs (b : List UInt8) (i j : Nat) : (bs b).extract i j = bs ((b.take j).drop i) := by
 apply ByteArray.ext
 simp [bs, ByteArray.data_extract, List.extract_toArray, List.drop_take]

theorem oval_sound (hS : Slots g w s a) {o : Option Operand} {x : Option AV} (h : oval s o = some x) : (x = none /\ o.map a.eval = none) \/ ∃ v u, x = some v /\ o.map a.eval = some u /\ RepV g w s.A v u := by
 cases o with
 | none => simp [oval] at h; exact .inl ⟨h.symm, rfl⟩
 | some o =>
  simp only [oval, Option.map_eq_some_iff] at h
  obtain ⟨v, hv, rfl⟩ := h
  exact .inr ⟨v, _, rfl, rfl, aval_sound hS hv⟩

theorem run_bounds (isSl : Bool) (len cap : Nat) (hlc : len <= cap) {lo hi : Option AV} {vl vh : Option Value} (hlo : (lo = none /\ vl = none) \/ ∃ v u, lo = some v /\ vl = some u /\ RepV g w A v u) (hhi : (hi = none /\ vh = none) \/ ∃ v u, hi = some v /\ vh = some u /\ RepV g w A v u)
  {i j : Int} (hi0 : slow lo = some i) (hj0 : shigh hi len = some j) (h0 : 0 <= i) (h1 : i <= j) (h2 : j <= len) : (Instr.sliceBounds isSl len cap vl vh none).run P w = .ok (i.toNat, j.toNat, cap) w := by
 have hj1 : j <= (cap : Int) := by omega
 have hj2 : 0 <= j := by omega
 have hb : ∀ {lo : Option AV} {vl : Option Value} {i : Int}, ((lo = none /\ vl = none) \/ ∃ v u, lo = some v /\ vl = some u /\ RepV g w A v u) -> slow lo = some i -> (vl = none /\ i = 0) \/ ∃ k, vl = some (.int k i) := by
  intro lo vl i h hs
  rcases h with ⟨rfl, rfl⟩ | ⟨v, u, rfl, rfl, hr⟩
  ·simp [slow] at hs; exact .inl ⟨rfl, hs.symm⟩
  ·unfold slow at hs
   split at hs
   ·rename_i heq; simp at heq
   ·rename_i k n heq
    simp at heq hs; subst heq; subst hs
    simp only [RepV, RepE, RepC, RepD] at hr
    exact .inr ⟨k, by rw [hr]⟩
   ·simp at hs
 have hh : (vh = none /\ j = len) \/ ∃ k, vh = some (.int k j) := by
  rcases hhi with ⟨rfl, rfl⟩ | ⟨v, u, rfl, rfl, hr⟩
  ·simp [shigh] at hj0; exact .inl ⟨rfl, hj0.symm⟩
  ·unfold shigh at hj0
   split at hj0
   ·rename_i heq; simp at heq
   ·rename_i k n heq
    simp at heq hj0; subst heq; subst hj0
    simp only [RepV, RepE, RepC, RepD] at hr
    exact .inr ⟨k, by rw [hr]⟩
   ·simp at hj0
 have hjn : (j.toNat : Int) = j := Int.toNat_of_nonneg hj2
 rcases hb hlo hi0 with ⟨rfl, rfl⟩ | ⟨k, rfl⟩ <;> rcases hh with ⟨rfl, rfl⟩ | ⟨k', rfl⟩
 ·simp [Instr.sliceBounds]
 ·simp [Instr.sliceBounds, run_sliceBound w k' j cap _ hj2 hj1]
 ·simp [Instr.sliceBounds, run_sliceBound w k i len _ h0 (by omega)]
 ·simp [Instr.sliceBounds, run_sliceBound w k' j cap _ hj2 hj1, run_sliceBound w k i j.toNat _ h0 (by omega)]

theorem sound_slice_str (hI : Inv g w s.V s.A) (hF : Fr w0 g0 w g) (hS : Slots g w s a) {t : TypeId} {d : TD} (ht : td P t = some d) (hd : d.isS = true) {b : List UInt8} {v : Value} (hv : RepV g w s.A (.c (.d (.str b))) v) {lo hi : Option Operand} {l h : Option AV} (hl : oval s lo = some l) (hh : oval s hi = some h)
  {i j : Int} (hi0 : slow l = some i) (hj0 : shigh h b.length = some j) (h0 : 0 <= i) (h1 : i <= j) (h2 : j <= b.length) (hK : K (.c (.d (.str ((b.take j.toNat).drop i.toNat)))) s.V s.A) :
  Goes P w0 g0 g w s.A (do pure (.value (<- Instr.sliceAt t v (lo.map a.eval) (hi.map a.eval) none))) K := by
 simp only [RepV, RepE, RepC, RepD] at hv
 subst hv
 have hu := td_isS ht hd
 have hb := run_bounds (P := P) (g := g) (w := w) (A := s.A) false (bs b).size (bs b).size (Nat.le_refl _) (oval_sound hS hl) (oval_sound hS hh) hi0 (by rw [bs_size]; exact hj0) h0 h1 (by rw [bs_size]; exact h2)
 refine Goes.value hI hF (run_value ?_) (x := .c (.d (.str ((b.take j.toNat).drop i.toNat)))) (v := .string (bs ((b.take j.toNat).drop i.toNat))) rfl hK
 rw [run_sliceAt_string w t _ _ _ _ hu]
 simp [Instr.slice, run_underlying hu, hb, extract_bs]

theorem rowsOf_repD (hI : Inv g w V A) (hF : Fr w0 g0 w g) {v : AV} {u : Value} (hv : RepV g w A v u) {rows : List (List DV)} (h : rowsOf A v = some rows) :
  ∃ g', Inv g' w V (sealAs A v.cells) /\ Ext g w A g' w (sealAs A v.cells) /\ Fr w0 g0 w g' /\ RepD g'.im w (.sl rows) u := by
 cases v with
 | c c =>
  have hd : toD A c = some (.sl rows) := by
   cases c with
   | d x => cases x <;> simp [rowsOf] at h; subst h; rfl
   | nil => simp [rowsOf] at h; subst h; rfl
   | own k n =>
    simp only [rowsOf] at h
    simp only [toD]
    split at h
    ·split at h
     ·simp at h; subst h; simp [*]
     ·simp at h
    ·simp at h
   | _ => simp [rowsOf] at h
  obtain ⟨g', h1, h2, h3, _, _, h6⟩ := seal_one hI hF hv hd
  exact ⟨g', h1, h2, h3, h6⟩
 | _ => simp [rowsOf] at h

theorem sound_slice_rows (hI : Inv g w s.V s.A) (hF : Fr w0 g0 w g) (hS : Slots g w s a) {t e : TypeId} {d de : TD} (ht : td P t = some d) (hel : d.el = some e) (he : td P e = some de) {x : AV} {v : Value} (hv : RepV g w s.A x v) {rows : List (List DV)} (hr : rowsOf s.A x = some rows) {lo hi : Option Operand} {l h : Option AV} (hl : oval s lo = some l) (hh : oval s hi = some h)
  {i j : Int} (hi0 : slow l = some i) (hj0 : shigh h rows.length = some j) (h0 : 0 <= i) (h1 : i <= j) (h2 : j <= rows.length) (hsz : ∀ r ∈ rows, r.length = de.sz) (hK : K (.c (.d (.sl ((rows.take j.toNat).drop i.toNat)))) s.V (sealAs s.A x.cells)) :
  Goes P w0 g0 g w s.A (do pure (.value (<- Instr.sliceAt t v (lo.map a.eval) (hi.map a.eval) none))) K := by
 obtain ⟨g', hI', hx', hF', hd⟩ := rowsOf_repD hI hF hv hr
 have hu := td_el ht hel
 obtain ⟨inf, hi1, hsz1, _, _⟩ := td_info he
 simp only [RepD] at hd
 obtain ⟨ad, cap, rfl, hlc, hrr⟩ := hd
 have hb := run_bounds (P := P) (g := g) (w := w) (A := s.A) true rows.length cap hlc (oval_sound hS hl) (oval_sound hS hh) hi0 hj0 h0 h1 h2
 have hrun : (Instr.sliceAt t (.slice ad rows.length cap) (lo.map a.eval) (hi.map a.eval) none).run P w = .ok (.slice (if cap = i.toNat then ad else ad.map (·.add (i.toNat * de.sz))) (j.toNat - i.toNat) (cap - i.toNat)) w := by
  simp [Instr.sliceAt, Instr.slice, run_underlying hu, hb, sizeOf, typeInfo, hi1, hsz1]
 refine ⟨_, _, _, _, _, _, g', hK, run_value hrun, .inl rfl, ?_, hI', hx', hF'⟩
 simp only [RepV, RepE, RepC, RepD]
 have hlen : ((rows.take j.toNat).drop i.toNat).length = j.toNat - i.toNat := by simp; omega
 refine ⟨_, _, by rw [hlen], by rw [hlen]; omega, ?_⟩
 by_cases hne : (rows.take j.toNat).drop i.toNat = []
 ·exact .inl hne
 ·have hpos : 0 < j.toNat - i.toNat := by rw [<- hlen]; exact List.length_pos_iff.2 hne
  rcases hrr with rfl | ⟨b, off, sz, rfl, him, hrr⟩
  ·simp at hne
  ·have hsz' : sz = de.sz := by
    cases rows with
    | nil => simp at hne
    | cons r rs => simp only [RepRows] at hrr; have := hsz r (by simp); omega
   subst hsz'
   have hmul : (i.toNat + (j.toNat - i.toNat)) * de.sz <= rows.length * de.sz := Nat.mul_le_mul_right _ (by omega)
   rw [Nat.add_mul] at hmul
   refine .inr ⟨b, off + i.toNat * de.sz, de.sz, by rw [if_neg (by omega)]; simp [addr_add], by rw [hlen]; omega, RepRows.mk fun q r hq => ?_⟩
   have hq' : rows[i.toNat + q]? = some r := by
    rw [List.getElem?_drop, List.getElem?_take] at hq
    split at hq
    ·exact hq
    ·cases hq
   have := RepRows.at_ hrr hq'
   rwa [Nat.add_mul, <- Nat.add_assoc] at this

theorem onv_elim {α : Type} {o : Option α} {k : α -> Prop} {Q : Prop} (h : onv o k) (f : ∀ v, o = some v -> k v -> Q) : Q := by
 obtain ⟨v, h1, h2⟩ := onv_some h
 exact f v h1 h2

theorem caps_sound (hI : Inv g w V A) : ∀ {cs : List AV} {ls : List Nat} {vs : List Value}, caps cs = some ls -> vs.length = cs.length -> (∀ (j : Nat) c u, cs[j]? = some c -> vs[j]? = some u -> RepV g w A c u) ->
  ∃ bks : List Nat, vs = bks.map (fun b => Value.pointer (some ⟨b, 0, none⟩)) /\ bks.length = ls.length /\ ∀ (i l b : Nat), ls[i]? = some l -> bks[i]? = some b -> g.ob[l]? = some b
 | [], ls, vs, h, hl, _ => by
  simp [caps] at h; subst h
  have : vs = [] := List.eq_nil_of_length_eq_zero (by simpa using hl)
  subst this
  exact ⟨[], rfl, rfl, fun i l b h => by simp at h⟩
 | c :: r, ls, vs, h, hl, hr => by
  cases vs with
  | nil => simp at hl
  | cons v vs =>
   unfold caps at h
   split at h
   ·rename_i heq; simp at heq
   ·rename_i l r' heq
    simp at heq
    obtain ⟨rfl, rfl⟩ := heq
    simp only [Option.map_eq_some_iff] at h
    obtain ⟨ls', h1, rfl⟩ := h
    obtain ⟨b, hb, hv⟩ : ∃ b, g.ob[l]? = some b /\ v = .pointer (some ⟨b, 0, none⟩) := hr 0 _ v rfl rfl
    obtain ⟨bks, h2, h3, h4⟩ := caps_sound hI h1 (vs := vs) (by simpa using hl) (fun j c u h5 h6 => hr (j + 1) c u (by simpa using h5) (by simpa using h6))
    refine ⟨b :: bks, by simp [hv, h2], by simp [h3], fun i l' b' h5 h6 => ?_⟩
    cases i with
    | zero => simp at h5 h6; subst h5; subst h6; exact hb
    | succ i => simp at h5 h6; exact h4 i l' b' h5 h6
   ·simp at h

theorem avals_sound (hS : Slots g w s a) : ∀ {os : List Operand} {xs : List AV}, avals s os = some xs -> xs.length = os.length /\ ∀ (j : Nat) x u, xs[j]? = some x -> (os.map a.eval)[j]? = some u -> RepV g w s.A x u
 | [], xs, h => by simp [avals] at h; subst h; exact ⟨rfl, fun j x u h => by simp at h⟩
 | o :: r, xs, h => by
  simp only [avals] at h
  split at h
  ·rename_i v l h1 h2
   simp at h; subst h
   obtain ⟨h3, h4⟩ := avals_sound hS h2
   refine ⟨by simp [h3], fun j x u h5 h6 => ?_⟩
   cases j with
   | zero => simp at h5 h6; subst h5; subst h6; exact aval_sound hS h1
   | succ j => simp at h5 h6; exact h4 j x u h5 (by simpa using h6)
  ·simp at h

theorem alen_sound {v : AV} {u : Value} {n : Nat} (hv : RepV g w A v u) (h : alen v = some n) : (∃ b, v = .c (.d (.str b)) /\ u = .string (bs b) /\ n = b.length) \/ ((∀ b, v ≠ .c (.d (.str b))) /\ ∃ a c, u = .slice a n c) := by
 unfold alen at h
 split at h
 ·rename_i b
  simp at h; subst h
  exact .inl ⟨b, rfl, hv, rfl⟩
 ·simp at h; subst h
  simp only [RepV, RepE, RepC, RepD] at hv
  obtain ⟨a, c, rfl, _⟩ := hv
  exact .inr ⟨by simp, a, c, rfl⟩
 ·simp at h; subst h
  simp only [RepV, RepE, RepC] at hv
  exact .inr ⟨by simp, none, 0, hv⟩
 ·simp at h; subst h
  obtain ⟨a, c, rfl, _⟩ := hv
  exact .inr ⟨by simp, a, c, rfl⟩
 ·simp at h

theorem Goes.sealed {A : List Arr} {m : Sem Next} (h : Goes P w0 g0 g w A m fun x V A => ∃ (k : Nat) (r : Arr), x = .c (.own k r.rows.length) /\ A[k]? = some r /\ K (.c (.d (.sl r.rows))) V (A.set k { r with wr := false })) : Goes P w0 g0 g w A m K := by
 obtain ⟨x, V', A', nx, v, w', g', ⟨k, r, rfl, hk, hK⟩, hm, hn, hr, hI, hx, hF⟩ := h
 obtain ⟨_, _, e, r', hk', _, hv⟩ := hr
 obtain rfl : r = r' := Option.some.inj (hk.symm.trans hk')
 obtain ⟨g2, hI2, hx2, hF2, _, _, hd⟩ := hI.seal hF hk (hv rfl)
 exact ⟨_, _, _, nx, v, w', g2, hK, hm, hn, hd, hI2, hx.trans hx2, hF2⟩

set_option maxHeartbeats 1000000 in
theorem wpo_sound (hI : Inv g w s.V s.A) (hF : Fr w0 g0 w g) (hS : Slots g w s a) {ow : Bool} {o : Oper} (h : wpo P s ow o.op K) : Goes P w0 g0 g w s.A (execOp a.eval o) K := by
 obtain ⟨dst, op, type, pos, after, guard⟩ := o
 simp only at h
 cases op with
 | move x =>
  refine onv_elim h fun v h1 h2 => ?_
  exact Goes.value hI hF (m := execOp a.eval ⟨dst, .move x, type, pos, after, guard⟩) rfl (aval_sound hS h1) h2
 | assign x =>
  refine onv_elim h fun v h1 h2 => ?_
  exact Goes.value hI hF (m := execOp a.eval ⟨dst, .assign x, type, pos, after, guard⟩) rfl (aval_sound hS h1) h2
 | pick c x y =>
  refine onv_elim h fun v h1 h2 => ?_
  have hc := aval_sound hS h1
  split at h2
  ·rename_i t
   simp only [RepV, RepE, RepC, RepD] at hc
   have hrun : ∀ u, (if t then a.eval x else a.eval y) = u -> (execOp a.eval ⟨dst, .pick c x y, type, pos, after, guard⟩).run P w = .ok (.value u) w := fun u hu => by
    simp [execOp, hc, asBool, hu]
   cases t with
   | true => simp only [if_true] at h2; exact onv_elim h2 fun v h3 h4 => Goes.value hI hF (hrun _ rfl) (aval_sound hS h3) h4
   | false => simp only [Bool.false_eq_true, if_false] at h2; exact onv_elim h2 fun v h3 h4 => Goes.value hI hF (hrun _ rfl) (aval_sound hS h3) h4
  ·exact h2.elim
 | alloc e => exact onv_elim h fun d h1 h2 => onv_elim h2 fun z h3 h4 => sound_alloc hI hF h1 h3 h4
 | box e x => exact onv_elim h fun v h1 h2 => sound_box hI hF (aval_sound hS h1) h2.1 h2.2
 | build t parts => exact onv_elim h fun d h1 h2 => onv_elim h2 fun z h3 h4 => onv_elim h4 fun ps h5 h6 => onv_elim h6 fun cs h7 h8 => sound_build hI hF hS h1 h3 h8.2.1 h5 h7 h8.2.2
 | buildSlice t len parts =>
  exact onv_elim h fun d h1 h2 => onv_elim h2 fun e h3 h4 => onv_elim h4 fun de h5 h6 => onv_elim h6 fun rows h7 h8 => onv_elim h8 fun ds h9 h10 => sound_buildSlice hI hF hS h1 h3 h5 h7 h9 h10.1 h10.2.1 h10.2.2.1 h10.2.2.2.1 h10.2.2.2.2
 | load t x =>
  refine onv_elim h fun d h1 h2 => onv_elim h2 fun p h3 h4 => ?_
  split at h4
  ·exact onv_elim h4 fun cs h5 h6 => onv_elim h6 fun v h7 h8 => sound_load hI hF h1 (aval_sound hS h3) h5 h7 h8
  ·exact h4.elim
 | store t x y =>
  refine onv_elim h fun d h1 h2 => onv_elim h2 fun p h3 h4 => onv_elim h4 fun v h5 h6 => ?_
  obtain ⟨h7, h8, h9⟩ := h6
  split at h9
  ·exact onv_elim h9 fun row h10 h11 => sound_store_obj hI hF h1 (aval_sound hS h3) (aval_sound hS h5) h7 h8 h10 h11.1 h11.2
  ·refine onv_elim h9 fun r h10 h11 => ?_
   obtain ⟨h12, h13, h14⟩ := h11
   exact onv_elim h14 fun row h15 h16 => onv_elim h16 fun ds h17 h18 => sound_store_arr hI hF h1 (aval_sound hS h3) (aval_sound hS h5) h7 h8 h10 h12 h13 h15 h17 h18.1 h18.2.1 h18.2.2
  ·exact h9.elim
 | nilCheck x =>
  refine onv_elim h fun v h1 h2 => ?_
  have hv := aval_sound hS h1
  split at h2
  ·obtain ⟨b, hb, e⟩ := hv
   exact Goes.value hI hF (v := a.eval x) (by simp only [execOp, e]; rfl) (aval_sound hS h1) h2
  ·obtain ⟨b, o, e, _⟩ := hv
   exact Goes.value hI hF (v := a.eval x) (by simp only [execOp, e]; rfl) (aval_sound hS h1) h2
  ·obtain ⟨b, o, e, _⟩ := hv
   exact Goes.value hI hF (v := a.eval x) (by simp only [execOp, e]; rfl) (aval_sound hS h1) h2
  ·obtain ⟨b, e, _⟩ := hv
   exact Goes.value hI hF (v := a.eval x) (by simp only [execOp, e]; rfl) (aval_sound hS h1) h2
  ·exact h2.elim
 | binOp op t x y t' =>
  refine onv_elim h fun u h1 h2 => onv_elim h2 fun v h3 h4 => ?_
  split at h4
  ·rename_i r hr
   obtain ⟨z, h5, h6⟩ := run_binOp_av (P := P) (t := t) (ox := x) (oy := y) (aval_sound hS h1) (aval_sound hS h3) hr
   exact Goes.value hI hF (run_value h5) h6 h4
  ·split at h4
   ·rename_i r hr
    obtain ⟨z, h5, h6⟩ := run_binOpS_av (P := P) (t := t) (ox := x) (oy := y) (aval_sound hS h1) (aval_sound hS h3) hr
    exact Goes.value hI hF (run_value h5) h6 h4
   refine onv_elim h4 fun r h5 h6 => onv_elim h6 fun d h7 h8 => ?_
   obtain ⟨z, h9, h10⟩ := run_binOpB_av (P := P) (ox := x) (oy := y) h7 h8.1 (aval_sound hS h1) (aval_sound hS h3) h5
   exact Goes.value hI hF (run_value h9) h10 h8.2
 | unOp op t x =>
  refine onv_elim h fun u h1 h2 => onv_elim h2 fun r h3 h4 => ?_
  obtain ⟨z, h5, h6⟩ := run_un_av (P := P) (aval_sound hS h1) h3
  exact Goes.value hI hF (run_value h5) h6 h4
 | convert src dst x =>
  refine onv_elim h fun u h1 h2 => onv_elim h2 fun ds h3 h4 => onv_elim h4 fun dd h5 h6 => ?_
  have hv := aval_sound hS h1
  split at h6
  ·rename_i k n
   refine onv_elim h6 fun d h7 h8 => ?_
   simp only [RepV, RepE, RepC, RepD] at hv
   obtain ⟨de, i, hu, _⟩ := td_inv h3
   unfold cvI at h7
   split at h7
   ·rename_i k' h9
    simp only [Option.some.injEq] at h7
    subst h7
    refine Goes.value hI hF (v := .int k' (k'.wrap n)) (run_value ?_) (x := .c (.d (.int k' (k'.wrap n)))) rfl h8
    rw [hv]
    simp [convert, run_underlying hu, run_underlying (td_ik h5 h9), Conv.intToInt]
   ·split at h7
    ·rename_i h10
     simp only [Option.some.injEq] at h7
     subst h7
     refine Goes.value hI hF (v := .string (bs [UInt8.ofNat n.toNat])) (run_value ?_) (x := .c (.d (.str [UInt8.ofNat n.toNat]))) rfl h8
     rw [hv]
     have he : Utf8.encode n = bs [UInt8.ofNat n.toNat] := by
      have hval : Utf8.valid n = true := by simp [Utf8.valid]; omega
      simp only [Utf8.encode, hval, if_true]
      rw [if_pos (by omega)]
      rfl
     simp [convert, run_underlying hu, run_underlying (td_isS h5 h10.1), Conv.intToString, he]
    ·cases h7
  ·rename_i b
   simp only [RepV, RepE, RepC, RepD] at hv
   refine Goes.value hI hF (v := .string (bs b)) (run_value ?_) (x := .c (.d (.str b))) rfl h6.2.2
   rw [hv]
   simp [convert, run_underlying (td_isS h3 h6.2.1), run_underlying (td_isS h5 h6.1)]
  ·rename_i rows
   obtain ⟨h7, h8⟩ := h6
   exact onv_elim h8 fun e h9 h10 => onv_elim h10 fun de h11 h12 => onv_elim h12.2 fun b h13 h14 => Goes.value hI hF (v := .string (bs b)) (run_value (sound_bytes (g := g) h3 h5 h7 h9 h11 h12.1 hv h13)) (x := .c (.d (.str b))) rfl h14
  ·exact h6.elim
 | makeFunc fn first captured =>
  cases fn with
  | func f =>
   obtain ⟨h1, h2⟩ := h
   refine onv_elim h2 fun cs h3 h4 => onv_elim h4 fun ls h5 h6 => ?_
   obtain ⟨h7, h8⟩ := avals_sound hS h3
   obtain ⟨bks, h9, h10, h11⟩ := caps_sound hI h5 (vs := captured.toList.map a.eval) (by simp [h7]) h8
   have hf : first.map a.eval = #[] := by
    have : first = #[] := Array.eq_empty_of_size_eq_zero h1
    simp [this]
   have hc : captured.map a.eval = (bks.map fun b => Value.pointer (some ⟨b, 0, none⟩)).toArray := by
    rw [<- h9, <- Array.toList_map, Array.toArray_toList]
   exact Goes.value hI hF (v := .func (.func f) #[] (bks.map fun b => Value.pointer (some ⟨b, 0, none⟩)).toArray) (by simp [execOp, Instr.makeFunc, hf, hc]) (x := .c (.fn f ls)) ⟨bks, rfl, h10, h11⟩ h6
  | _ => exact h.elim
 | makeSlice t l c =>
  refine onv_elim h fun d h1 h2 => onv_elim h2 fun e h3 h4 => onv_elim h4 fun de h5 h6 => onv_elim h6 fun z h7 h8 => onv_elim h8 fun dz h9 h10 => onv_elim h10 fun vl h11 h12 => onv_elim h12 fun vc h13 h14 => ?_
  have e1 := aval_sound hS h11
  have e2 := aval_sound hS h13
  split at h14
  ·rename_i kl n kc m
   simp only [RepV, RepE, RepC, RepD] at e1 e2
   obtain ⟨rfl, h15, h16, h17, h18, h19, h20⟩ := h14
   have := sound_makeSlice (P := P) (K := K) hI hF h1 h3 h5 h7 h9 (kl := kl) (kc := kc) h15 h16 h17 h18 h19 h20
   simpa only [execOp, e1, e2] using this
  ·exact h14.elim
 | slice t x lo hi mx =>
  obtain ⟨rfl, h⟩ := h
  refine onv_elim h fun d h1 h2 => onv_elim h2 fun v h3 h4 => onv_elim h4 fun l h5 h6 => onv_elim h6 fun hh h7 h8 => ?_
  have hv := aval_sound hS h3
  split at h8
  ·obtain ⟨h9, h10⟩ := h8
   exact onv_elim h10 fun i h11 h12 => onv_elim h12 fun j h13 h14 => sound_slice_str hI hF hS h1 h9 hv h5 h7 h11 h13 h14.1 h14.2.1 h14.2.2.1 h14.2.2.2
  ·exact onv_elim h8 fun rows h9 h10 => onv_elim h10 fun e h11 h12 => onv_elim h12 fun de h13 h14 => onv_elim h14 fun i h15 h16 => onv_elim h16 fun j h17 h18 =>
    sound_slice_rows hI hF hS h1 h11 h13 hv h9 h5 h7 h15 h17 h18.1 h18.2.1 h18.2.2.1 h18.2.2.2.1 h18.2.2.2.2
 | fieldAddr t x f =>
  refine onv_elim h fun d h1 h2 => onv_elim h2 fun fo h3 h4 => ?_
  obtain ⟨off, sz⟩ := fo
  obtain ⟨h5, h6⟩ := h4
  refine onv_elim h6 fun v h7 h8 => ?_
  have hv := aval_sound hS h7
  have hrun := fun b o => run_fieldAt_av (P := P) (w := w) h1 h3 h5 b o
  split at h8
  ·rename_i l o
   obtain ⟨b, hb, e⟩ := hv
   exact Goes.value hI hF (v := .pointer (some ⟨b, o + off, none⟩)) (run_value (by rw [e]; exact hrun b o)) (x := .c (.ptr l (o + off))) ⟨b, hb, rfl⟩ h8
  ·rename_i r o
   obtain ⟨b, o', e, h9, h10⟩ := hv
   exact Goes.value hI hF (v := .pointer (some ⟨b, o' + o + off, none⟩)) (run_value (by rw [e]; exact hrun b _)) (x := .c (.ip r (o + off))) ⟨b, o', by rw [Nat.add_assoc], h9, h10⟩ h8
  ·rename_i k n i o
   obtain ⟨b, e', e, r, h9, h10, h11⟩ := hv
   refine Goes.value hI hF (v := .pointer (some ⟨b, e' + off, none⟩)) (run_value (by rw [e]; exact hrun b _)) (x := .c (.op k n i (o + off))) ⟨b, e' + off, rfl, r, h9, h10, fun h12 => ?_⟩ h8
   obtain ⟨cap, h13, h14⟩ := h11 h12
   exact ⟨cap, h13, by omega⟩
  ·exact h8.elim
 | indexAddr t x ix =>
  refine onv_elim h fun d h1 h2 => onv_elim h2 fun v h3 h4 => onv_elim h4 fun i h5 h6 => ?_
  have hv := aval_sound hS h3
  have hix := aval_sound hS h5
  split at h6
  ·rename_i k n
   simp only [RepV, RepE, RepC, RepD] at hix
   obtain ⟨h0, h6⟩ := h6
   split at h6
   ·rename_i rows
    refine onv_elim h6 fun e h7 h8 => onv_elim h8 fun de h9 h10 => onv_elim h10 fun row h11 h12 => ?_
    simp only [RepV, RepE, RepC, RepD] at hv
    obtain ⟨ad, cap, e1, hlc, hr⟩ := hv
    have hlt := (List.getElem?_eq_some_iff.1 h11).1
    rcases hr with rfl | ⟨b, off, sz, rfl, him, hrr⟩
    ·simp at h11
    ·obtain ⟨h13, h14⟩ := RepRows.at_ hrr h11
     have hsz : sz = de.sz := by omega
     subst hsz
     have hmul : (n.toNat + 1) * de.sz <= rows.length * de.sz := Nat.mul_le_mul_right _ hlt
     rw [Nat.add_mul, Nat.one_mul] at hmul
     exact Goes.value hI hF (v := .pointer (some ⟨b, off + n.toNat * de.sz, none⟩)) (run_value (by rw [e1, hix]; exact run_indexAt_sl h1 h7 h9 h0 hlt)) (x := .c (.ip row 0)) ⟨b, off + n.toNat * de.sz, rfl, by omega, h14⟩ h12.2
   ·rename_i k' m
    refine onv_elim h6 fun e h7 h8 => onv_elim h8 fun de h9 h10 => onv_elim h10 fun r h11 h12 => ?_
    obtain ⟨h13, h14, h15, h16⟩ := h12
    obtain ⟨ad, cap, e1, r', hk', hn, hq⟩ := hv
    obtain rfl : r = r' := by rw [h11] at hk'; exact Option.some.inj hk'
    have hv0 := hq h13
    obtain ⟨_, _, xs, hown, _⟩ := hI.arr k' r _ h11 hv0
    rcases hown.2 with ⟨e2, e3⟩ | ⟨b, cap', cur, e2, _⟩
    ·omega
    ·have e4 : a.eval x = .slice (some ⟨b, 0, none⟩) m cap' := by rw [e2, h13]
     refine Goes.value hI hF (v := .pointer (some ⟨b, 0 + n.toNat * de.sz, none⟩)) (run_value (by rw [e4, hix]; exact run_indexAt_sl h1 h7 h9 h0 h14)) (x := .c (.op k' m n.toNat 0)) ⟨b, _, rfl, r, h11, hn, fun _ => ⟨cap', by rw [<- e4]; exact hv0, by rw [h15]; omega⟩⟩ h16
   ·rename_i l off
    refine onv_elim h6 fun le h7 h8 => ?_
    obtain ⟨len, e⟩ := le
    refine onv_elim h8 fun de h9 h10 => ?_
    obtain ⟨b, hb, e1⟩ := hv
    exact Goes.value hI hF (v := .pointer (some ⟨b, off + n.toNat * de.sz, none⟩)) (run_value (by rw [e1, hix]; exact run_indexAt_ar h1 h7 h9 h0 h10.1)) (x := .c (.ptr l (off + n.toNat * de.sz))) ⟨b, hb, rfl⟩ h10.2
   ·exact h6.elim
  ·exact h6.elim
 | index t x ix =>
  refine onv_elim h fun d h1 h2 => onv_elim h2 fun v h3 h4 => onv_elim h4 fun i h5 h6 => ?_
  have hv := aval_sound hS h3
  have hix := aval_sound hS h5
  split at h6
  ·rename_i b k n
   simp only [RepV, RepE, RepC, RepD] at hv hix
   obtain ⟨h7, h0, h8⟩ := h6
   refine onv_elim h8 fun c h9 h10 => ?_
   refine Goes.value hI hF (v := .int .u8 c.toNat) (run_value ?_) (x := .c (.d (.int .u8 c.toNat))) rfl h10
   have hlt := (List.getElem?_eq_some_iff.1 h9).1
   have hc : (bs b)[n.toNat]? = some c := by
    have : n.toNat < (bs b).size := by rw [bs_size]; exact hlt
    rw [getElem?_pos (bs b) n.toNat this]
    exact congrArg some (List.getElem?_eq_some_iff.1 h9).2
   rw [hv, hix]
   simp [Instr.index, asIntOf, run_underlying (td_isS h1 h7), h0, hc]
  ·rename_i xs k n
   simp only [RepV, RepE, RepC, RepD] at hix
   obtain ⟨us, e1, hl, hc⟩ := hv
   refine onv_elim h6 fun le h7 h8 => ?_
   obtain ⟨len, e⟩ := le
   refine onv_elim h8 fun de h9 h10 => ?_
   obtain ⟨h11, h12, h0, h13, h14⟩ := h10
   refine onv_elim h14 fun c h15 h16 => ?_
   have hlt := (List.getElem?_eq_some_iff.1 h15).1
   have hu : us[n.toNat]? = some (us[n.toNat]'(by omega)) := List.getElem?_eq_getElem (by omega)
   refine Goes.value hI hF (v := us[n.toNat]'(by omega)) (run_value ?_) (x := .c c) (hc n.toNat c _ h15 hu) h16
   obtain ⟨inf, hi, hsz, _, _⟩ := td_info h9
   obtain ⟨dd, i2, hu2, hi2, e2⟩ := td_inv h9
   have hagg : (isAgg e).run P w = .ok false w := by
    rw [e2] at h11
    have h11 : agD dd = false := h11
    simp only [isAgg, Sem.run_bind, run_underlying hu2, Result.andThen_ok]
    cases dd <;> first | rfl | simp [agD] at h11
   rw [e1, hix]
   have hcond : 0 <= n /\ n < len := ⟨h0, h13⟩
   simp [Instr.index, asIntOf, run_underlying (td_ar h1 h7), hcond, sizeOf, typeInfo, hi, hsz, h12, part, hagg, hu]
  ·exact h6.elim
 | extract x i =>
  refine onv_elim h fun v h1 h2 => ?_
  have hv := aval_sound hS h1
  split at h2
  ·rename_i xs
   refine onv_elim h2 fun u h3 h4 => ?_
   obtain ⟨vs, e, hl, hr⟩ := hv
   have hlt := (List.getElem?_eq_some_iff.1 h3).1
   have hvi : vs[i]? = some (vs[i]'(by omega)) := List.getElem?_eq_getElem (by omega)
   have hru := hr i u _ h3 hvi
   have hrun : (execOp a.eval ⟨dst, .extract x i, type, pos, after, guard⟩).run P w = .ok (.value (vs[i]'(by omega))) w := run_value (by
    rw [e]
    simp [Instr.extract, hvi])
   split at h4
   ·exact h4.elim
   ·rename_i hnt
    refine Goes.value hI hF hrun (x := u) ?_ h4
    cases u with
    | tup ys => exact absurd rfl (hnt ys)
    | _ => exact hru
  ·exact h2.elim
 | call c =>
  obtain ⟨callee, args, argTypes⟩ := c
  cases callee with
  | builtin b =>
   obtain ⟨consts, hres⟩ : ∃ consts, ∀ w, (execOp a.eval ⟨dst, .call ⟨.builtin b, args, argTypes⟩, type, pos, after, guard⟩).run P w = (builtin b argTypes type consts (args.map a.eval)).run P w :=
    ⟨_, fun w => by simp only [execOp, resolve, Sem.run_bind, Sem.run_pure, Result.andThen_ok, invoke]; rfl⟩
   cases b with
   | len =>
    refine onv_elim h fun x h1 h2 => onv_elim h2 fun v h3 h4 => onv_elim h4 fun t h5 h6 => onv_elim h6 fun d h7 h8 => onv_elim h8 fun n h9 h10 => ?_
    obtain ⟨_, h12, h13⟩ := h10
    have hv := aval_sound hS h3
    refine Goes.value hI hF (v := .int .i64 n) ((hres w).trans (run_value ?_)) (x := .c (.d (.int .i64 n))) rfl h13
    have ha : (args.map a.eval)[0]? = some (a.eval x) := by simp [h1]
    rcases alen_sound hv h9 with ⟨b, rfl, h14, h15⟩ | ⟨h14, ad, cp, h15⟩
    ·simp only at h12
     simp [Builtin.len_, h5, ha, h14, run_underlying (td_isS h7 h12), goInt, bs_size, h15]
    ·have hel : d.el.isSome = true := by
      split at h12
      ·rename_i b; exact absurd rfl (h14 b)
      ·exact h12
     obtain ⟨e, he⟩ := Option.isSome_iff_exists.1 hel
     simp [Builtin.len_, h5, ha, h15, run_underlying (td_el h7 he), goInt]
   | append =>
    refine onv_elim h fun x h1 h2 => onv_elim h2 fun y h3 h4 => onv_elim h4 fun t h5 h6 => ?_
    obtain ⟨h7, h8⟩ := h6
    refine onv_elim h8 fun d h9 h10 => onv_elim h10 fun e h11 h12 => onv_elim h12 fun de h13 h14 => ?_
    obtain ⟨_, h16, h17⟩ := h14
    refine onv_elim h16 fun z hz hzl => onv_elim h17 fun v h18 h19 => onv_elim h19 fun u h20 h21 => onv_elim h21 fun nr h22 h23 => ?_
    obtain ⟨h24, h25⟩ := h23
    have hv := aval_sound hS h18
    have hu := aval_sound hS h20
    have hargs : ∀ w, (builtin .append argTypes type consts (args.map a.eval)).run P w = (do pure (.value (<- Builtin.append_ #[t, t] type #[a.eval x, a.eval y])) : Sem Next).run P w := fun w => by
     have ha : (args.map a.eval)[0]? = some (a.eval x) := by simp [h1]
     have hb : (args.map a.eval)[1]? = some (a.eval y) := by simp [h3]
     simp only [builtin, Builtin.append_, h5, h7, ha, hb]
     rfl
    have back : Goes P w0 g0 g w s.A (do pure (.value (<- Builtin.append_ #[t, t] type #[a.eval x, a.eval y]))) K -> Goes P w0 g0 g w s.A (execOp a.eval ⟨dst, .call ⟨.builtin .append, args, argTypes⟩, type, pos, after, guard⟩) K := by
     rintro ⟨x', V', A', nx, v', w', g', k1, k2, k3⟩
     exact ⟨x', V', A', nx, v', w', g', k1, (hres w).trans ((hargs w).trans k2), k3⟩
    split at h25
    ·rename_i k n
     refine onv_elim h25 fun r h26 h27 => ?_
     obtain ⟨h28, h29, h30, h31, h32, h33⟩ := h27
     cases ow with
     | false => exact back (sound_append_own hI hF h9 h11 h13 hz hzl hv hu h22 h24 h26 h28 h29 h30 h31 h32 (by simpa using h33))
     | true =>
      have hlt := (List.getElem?_eq_some_iff.1 h26).1
      exact back (Goes.sealed (sound_append_own hI hF h9 h11 h13 hz hzl hv hu h22 h24 h26 h28 h29 h30 h31 h32 ⟨k, { r with rows := r.rows ++ nr }, by simp [h28], by simp [hlt], by simpa using h33⟩))
    ·simp only [RepV, RepE, RepC] at hv
     refine back ?_
     rw [hv]
     obtain ⟨h26, h27, h28⟩ := h25
     cases ow with
     | false => exact sound_append_nil hI hF h9 h11 h13 hz hzl hu h22 h24 h26 h27 (by simpa using h28)
     | true => exact Goes.sealed (sound_append_nil hI hF h9 h11 h13 hz hzl hu h22 h24 h26 h27 ⟨s.A.length, { sz := de.sz, ety := e, rows := nr, wr := true }, by simp, by simp, by simpa using h28⟩)
    ·exact h25.elim
   | max =>
    refine onv_elim h fun x h1 h2 => onv_elim h2 fun y h3 h4 => ?_
    obtain ⟨h5, h6⟩ := h4
    refine onv_elim h6 fun v h7 h8 => onv_elim h8 fun u h9 h10 => ?_
    have hv := aval_sound hS h7
    have hu := aval_sound hS h9
    split at h10
    ·rename_i k p k' q
     simp only [RepV, RepE, RepC, RepD] at hv hu
     have hargs : args.map a.eval = #[.int k p, .int k' q] := by
      apply Array.ext
      ·simp [h5]
      ·intro i hi1 hi2
       simp at hi1 hi2
       match i, hi2 with
       | 0, _ => simp [Array.getElem?_eq_some_iff] at h1; obtain ⟨_, e⟩ := h1; simp [e, hv]
       | 1, _ => simp [Array.getElem?_eq_some_iff] at h3; obtain ⟨_, e⟩ := h3; simp [e, hu]
     refine Goes.value hI hF (v := .int k (if q > p then q else p)) ((hres w).trans (run_value ?_)) (x := .c (.d (.int k (if q > p then q else p)))) rfl h10
     rw [hargs]; exact run_max_int2 w _ _ k k' p q
    ·exact h10.elim
   | min =>
    refine onv_elim h fun x h1 h2 => onv_elim h2 fun y h3 h4 => ?_
    obtain ⟨h5, h6⟩ := h4
    refine onv_elim h6 fun v h7 h8 => onv_elim h8 fun u h9 h10 => ?_
    have hv := aval_sound hS h7
    have hu := aval_sound hS h9
    split at h10
    ·rename_i k p k' q
     simp only [RepV, RepE, RepC, RepD] at hv hu
     have hargs : args.map a.eval = #[.int k p, .int k' q] := by
      apply Array.ext
      ·simp [h5]
      ·intro i hi1 hi2
       simp at hi1 hi2
       match i, hi2 with
       | 0, _ => simp [Array.getElem?_eq_some_iff] at h1; obtain ⟨_, e⟩ := h1; simp [e, hv]
       | 1, _ => simp [Array.getElem?_eq_some_iff] at h3; obtain ⟨_, e⟩ := h3; simp [e, hu]
     refine Goes.value hI hF (v := .int k (if q < p then q else p)) ((hres w).trans (run_value ?_)) (x := .c (.d (.int k (if q < p then q else p)))) rfl h10
     rw [hargs]; exact run_min_int2 w _ _ k k' p q
    ·exact h10.elim
   | _ => exact h.elim
  | _ => exact h.elim
 | _ => exact h.elim
end
end Go.Av
