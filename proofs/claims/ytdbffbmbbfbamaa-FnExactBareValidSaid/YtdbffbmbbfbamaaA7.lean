/- The operations' preconditions hold, continued: literals, make, slicing, addresses, append. -/
import Derived.Test.YtdbffbmbbfbamaaA6
namespace Go.Av
open Go

section
variable {P : Program} {g g' g0 : Gh} {w w' w0 : World} {V V' : List (List CV)} {A A' : List Arr} {s : St} {a : Act} {K : AV → List (List CV) → List Arr → Prop}

theorem fold_splice : ∀ (l : List Value) (k off : Nat) (arr : Array Value), off + k + l.length ≤ arr.size → (l.zipIdx k).foldl (fun cs (c : Value × Nat) => cs.setIfInBounds (off + c.2) c.1) arr = (splice arr.toList (off + k) l).toArray
  | [], k, off, arr, _ => by simp [splice]
  | v :: rest, k, off, arr, h => by
    simp only [List.zipIdx_cons, List.foldl_cons]
    rw [fold_splice rest (k + 1) off _ (by simp at h ⊢; omega)]
    have e := list_seg_step arr.toList (off + k) v rest (by simp at h ⊢; omega)
    simp only [splice, Array.toList_setIfInBounds, List.length_cons]
    congr 1

theorem fill_step (place : Nat → Option (Nat × Nat)) (cells : Array Value) (i : Nat) (v : Value) (rest : List (Nat × Value)) {off size : Nat} (hp : place i = some (off, size)) (hs : v.cells.size = size) (hf : off + size ≤ cells.size) :
    Instr.fill place cells ((i, v) :: rest) = Instr.fill place (splice cells.toList off v.cells.toList).toArray rest := by
  simp only [Instr.fill, hp]
  rw [if_neg (by simp; omega)]
  congr 1
  have h := fold_splice v.cells.toList 0 off cells (by simp; omega)
  rw [← Array.foldl_toList]
  simpa using h

theorem aparts_sound (hS : Slots g w s a) : ∀ {parts : List (Nat × Operand)} {ps : List (Nat × List CV)}, aparts s parts = some ps →
    ps.length = parts.length ∧ ∀ (j i : Nat) o i' cs, parts[j]? = some (i, o) → ps[j]? = some (i', cs) → i' = i ∧ RepCs g w s.A cs (a.eval o).cells.toList ∧ ∀ u ∈ (a.eval o).cells.toList, u.oneCell' = true
  | [], ps, h => by simp [aparts] at h; subst h; exact ⟨rfl, fun j i o i' cs h => by simp at h⟩
  | (i0, o0) :: r, ps, h => by
    simp only [aparts] at h
    split at h
    · rename_i v l h1 h2
      split at h
      · rename_i hp
        simp at h; subst h
        obtain ⟨h3, h4⟩ := aparts_sound hS h2
        refine ⟨by simp [h3], fun j i o i' cs h5 h6 => ?_⟩
        cases j with
        | zero =>
          simp at h5 h6
          obtain ⟨rfl, rfl⟩ := h5
          obtain ⟨rfl, rfl⟩ := h6
          exact ⟨rfl, AV.plain_cells (aval_sound hS h1) hp⟩
        | succ j => simp at h5 h6; exact h4 j i o i' cs h5 h6
      · simp at h
    · simp at h

theorem fill_sound (hS : Slots g w s a) {fl : List (Nat × Nat)} : ∀ {parts : List (Nat × Operand)} {ps : List (Nat × List CV)} {cs cs' : List CV} {vs : List Value}, aparts s parts = some ps → afill fl cs ps = some cs' → RepCs g w s.A cs vs →
    ∃ vs', Instr.fill (fl[·]?) vs.toArray (parts.map fun (i, x) => (i, a.eval x)) = some vs'.toArray ∧ RepCs g w s.A cs' vs'
  | [], ps, cs, cs', vs, hp, hf, hr => by
    simp [aparts] at hp; subst hp
    simp [afill] at hf; subst hf
    exact ⟨vs, rfl, hr⟩
  | (i, o) :: r, ps, cs, cs', vs, hp, hf, hr => by
    have hp0 := hp
    simp only [aparts] at hp
    split at hp
    · rename_i v l h1 h2
      split at hp
      · rename_i hpl
        simp at hp; subst hp
        simp only [afill] at hf
        split at hf
        · simp at hf
        · rename_i off size hfl
          split at hf
          · rename_i hc
            obtain ⟨hc1, _⟩ := AV.plain_cells (aval_sound hS h1) hpl
            have hsz : (a.eval o).cells.size = size := by have := hc1.1; simp at this; omega
            have hvl := hr.1
            simp only [List.map_cons]
            rw [fill_step _ _ _ _ _ hfl hsz (by simp; omega)]
            refine fill_sound hS h2 hf ⟨?_, ?_⟩
            · rw [splice_len (by simp; omega), splice_len (by omega)]; simpa using hvl
            · exact splice_rep (by simpa using hvl) (fun j c u h3 h4 => hr.2 j c u h3 (by simpa using h4)) hc1 (by omega)
          · simp at hf
      · simp at hp
    · simp at hp

theorem flOf_spec : ∀ {fs : List Field} {l : List (Nat × Nat)}, flOf P fs = some l → fs.mapM (fun f => (P.info? f.type).map fun i => (f.offset, i.size)) = some l
  | [], l, h => by simp [flOf] at h; subst h; rfl
  | f :: r, l, h => by
    simp only [flOf] at h
    split at h
    · rename_i i l' h1 h2
      simp at h; subst h
      simp [List.mapM_cons, h1, flOf_spec h2]
    · simp at h

theorem sound_build (hI : Inv g w s.V s.A) (hF : Fr w0 g0 w g) (hS : Slots g w s a) {t : TypeId} {d : TD} (ht : td P t = some d) {z : List CV} (hz : d.zero = some z) (hfl : d.fl ≠ []) {parts : Array (Nat × Operand)} {ps : List (Nat × List CV)} (hp : aparts s parts.toList = some ps)
    {cs : List CV} (hf : afill d.fl z ps = some cs) (hK : K (.agg cs) s.V s.A) : Goes P w0 g0 g w s.A (do pure (.value (← Instr.build t (parts.map fun (i, x) => (i, a.eval x))))) K := by
  obtain ⟨de, i, hu, hi, rfl⟩ := td_inv ht
  obtain ⟨i', hi', _, _, h0⟩ := td_info ht
  obtain rfl : i = i' := by rw [hi] at hi'; exact Option.some.inj hi'
  obtain ⟨zv, hzv, hzc⟩ := h0 z hz
  cases de with
  | struct fs =>
    simp only [flD] at hfl hf
    cases hfo : flOf P fs.toList with
    | none => simp [hfo] at hfl
    | some l =>
      simp only [hfo, Option.getD_some] at hf
      obtain ⟨vs', h1, h2⟩ := fill_sound (g := g) (w := w) (s := s) (a := a) hS hp hf (vs := zv.cells.toList) ⟨cvsOf_len hzc, fun j c u h3 h4 => cvOf_sound (cvsOf_at hzc j c u h3 h4)⟩
      have hb : P.built t (parts.map fun (i, x) => (i, a.eval x)).toList = some vs'.toArray := by
        simp only [Program.built, hi, hu, hzv, flOf_spec hfo]
        simpa using h1
      exact Goes.value hI hF (run_value (run_build w t _ _ hb)) (x := .agg cs) ⟨vs', rfl, h2.1, fun j c u h3 h4 => h2.2 j c u h3 h4⟩ hK
  | _ => simp [flD] at hfl

/-- A whole literal, part by part. -/
theorem fill_rows (size : Nat) : ∀ (vals : List Value) (k : Nat) (cells : Array Value), (∀ v ∈ vals, v.cells.size = size) → (k + vals.length) * size ≤ cells.size →
    Instr.fill (fun i => some (i * size, size)) cells (vals.zipIdx k |>.map fun (v, i) => (i, v)) = some (splice cells.toList (k * size) (vals.flatMap fun v => v.cells.toList)).toArray
  | [], k, cells, _, _ => by simp [Instr.fill, splice]
  | v :: r, k, cells, hs, hl => by
    have hv : v.cells.size = size := hs v (by simp)
    have hl' : k * size + size + r.length * size ≤ cells.size := by simp [Nat.add_mul] at hl; omega
    simp only [List.zipIdx_cons, List.map_cons]
    rw [fill_step _ cells k v _ rfl hv (by omega), fill_rows size r (k + 1) _ (fun x hx => hs x (by simp [hx]))
      (by simp only [List.size_toArray]; rw [splice_len (by simp; omega)]; simp [Nat.add_mul]; omega)]
    have hfl : (r.flatMap fun v => v.cells.toList).length = r.length * size := by
      have : ∀ (l : List Value), (∀ v ∈ l, v.cells.size = size) → (l.flatMap fun v => v.cells.toList).length = l.length * size := by
        intro l
        induction l with
        | nil => simp
        | cons x l ih => intro h; simp [ih (fun y hy => h y (by simp [hy])), h x (by simp), Nat.add_mul]; omega
      exact this r (fun x hx => hs x (by simp [hx]))
    congr 2
    apply List.ext_getElem?
    intro j
    rw [splice_at (by simp only []; rw [splice_len (by simp; omega), hfl]; simp [Nat.add_mul]; omega), splice_at (by simp; omega), splice_at (by simp [hfl]; omega), hfl]
    simp only [List.flatMap_cons, List.length_append, hfl, Array.length_toList, hv, Nat.add_mul, Nat.one_mul]
    by_cases h1 : k * size + size ≤ j ∧ j < k * size + size + r.length * size
    · rw [if_pos h1, if_pos (by omega), List.getElem?_append_right (by simp; omega)]
      congr 1; simp; omega
    · rw [if_neg h1]
      by_cases h2 : k * size ≤ j ∧ j < k * size + size
      · rw [if_pos h2, if_pos (by omega), List.getElem?_append_left (by simp; omega)]
      · rw [if_neg h2, if_neg (by omega)]

theorem arows_sound (hS : Slots g w s a) {sz : Nat} : ∀ {parts : List (Nat × Operand)} {k : Nat} {rows : List (List CV)}, arows s sz k parts = some rows →
    parts.map (fun (i, x) => (i, a.eval x)) = ((parts.map fun (_, x) => a.eval x).zipIdx k |>.map fun (v, i) => (i, v)) ∧ rows.length = parts.length ∧ (∀ row ∈ rows, row.length = sz) ∧
    (∀ v ∈ parts.map (fun (_, x) => a.eval x), v.cells.size = sz ∧ ∀ u ∈ v.cells.toList, u.oneCell' = true) ∧ RepCs g w s.A rows.flatten ((parts.map fun (_, x) => a.eval x).flatMap fun v => v.cells.toList)
  | [], k, rows, h => by simp [arows] at h; subst h; exact ⟨rfl, rfl, by simp, by simp, rfl, fun j c u h => by simp at h⟩
  | (i, o) :: r, k, rows, h => by
    simp only [arows] at h
    split at h
    · rename_i v l h1 h2
      split at h
      · rename_i hc
        simp at h; subst h
        obtain ⟨rfl, hp, hl⟩ := hc
        obtain ⟨h3, h4, h5, h6, h7⟩ := arows_sound hS h2
        obtain ⟨hc1, hc2⟩ := AV.plain_cells (aval_sound hS h1) hp
        have hsz : (a.eval o).cells.size = sz := by have := hc1.1; simp at this; omega
        refine ⟨by simp only [List.map_cons, List.zipIdx_cons, h3], by simp [h4], fun row hrow => ?_, fun v' hv' => ?_, ?_, fun j c u h8 h9 => ?_⟩
        · simp at hrow
          rcases hrow with rfl | hrow
          · exact hl
          · exact h5 row hrow
        · simp only [List.map_cons, List.mem_cons] at hv'
          rcases hv' with rfl | hv'
          · exact ⟨hsz, hc2⟩
          · exact h6 v' hv'
        · simp only [List.map_cons, List.flatMap_cons, List.flatten_cons, List.length_append, h7.1, hc1.1]
        · simp only [List.map_cons, List.flatMap_cons, List.flatten_cons] at h8 h9
          by_cases hj : j < v.cells.length
          · rw [List.getElem?_append_left hj] at h8
            rw [List.getElem?_append_left (by rw [hc1.1]; exact hj)] at h9
            exact hc1.2 j c u h8 h9
          · rw [List.getElem?_append_right (by omega)] at h8
            rw [List.getElem?_append_right (by rw [hc1.1]; omega), hc1.1] at h9
            exact h7.2 _ c u h8 h9
      · simp at h
    · simp at h

theorem sound_buildSlice (hI : Inv g w s.V s.A) (hF : Fr w0 g0 w g) (hS : Slots g w s a) {t e : TypeId} {d de : TD} (ht : td P t = some d) (hel : d.el = some e) (he : td P e = some de) {parts : Array (Nat × Operand)} {rows : List (List CV)} (hr : arows s de.sz 0 parts.toList = some rows)
    {ds : List (List DV)} (hds : toRows s.A rows = some ds) {len : Nat} (hlen : rows.length = len) (hle : len * de.sz ≤ 16777216) (hpos : 0 < de.sz) (hz : de.zero.isSome = true) {ow : Bool}
    (hK : if ow then K (.c (.own s.A.length len)) s.V (sealAs s.A rows.flatten ++ [{ sz := de.sz, ety := e, rows := ds, wr := true }]) else K (.c (.d (.sl ds))) s.V (sealAs s.A rows.flatten)) :
    Goes P w0 g0 g w s.A (do pure (.value (← Instr.buildSlice t len (parts.map fun (i, x) => (i, a.eval x))))) K := by
  obtain ⟨i, hi, hisz, _, h0⟩ := td_info he
  obtain ⟨z, hz⟩ := Option.isSome_iff_exists.1 hz
  obtain ⟨zv, hzv, hzc⟩ := h0 z hz
  have hsl := td_el ht hel
  obtain ⟨h1, h2, h3, h4, h5⟩ := arows_sound hS hr
  have hfd := toRows_spec hds
  let vals := parts.toList.map fun (_, x) => a.eval x
  let cells := vals.flatMap fun v => v.cells.toList
  have hvl : vals.length = len := by simp only [vals, List.length_map]; omega
  have hcl : cells.length = len * de.sz := by rw [show cells.length = rows.flatten.length from h5.1, flatten_len h3, hlen]
  have hone : ∀ u ∈ cells, u.oneCell' = true := fun u hu => by
    obtain ⟨v, hv, hu'⟩ := List.mem_flatMap.1 hu
    exact (h4 v hv).2 u hu'
  have hfill : ∀ z : Array Value, z.size = len * de.sz → Instr.fill (fun i => some (i * de.sz, de.sz)) z (parts.map fun (i, x) => (i, a.eval x)).toList = some cells.toArray := fun z hzl => by
    have := fill_rows de.sz vals 0 z (fun v hv => (h4 v hv).1) (by rw [Nat.zero_add, hvl]; omega)
    rw [← h1] at this
    simp only [Array.toList_map, this, Option.some.injEq, Nat.zero_mul]
    congr 1
    show splice z.toList 0 cells = cells
    simp [splice, hcl, hzl]
  have hrun : ∀ w : World, (Instr.buildSlice t len (parts.map fun (i, x) => (i, a.eval x))).run P w = .ok (.slice (some ⟨w.heap.size, 0, none⟩) len len) (w.alloc (.cells cells.toArray e)) := fun w => by
    have hsz : (sizeOf e).run P w = .ok de.sz w := by simp [sizeOf, typeInfo, hi, hisz]
    have hze : ∀ w : World, (zeroValue e).run P w = .ok zv w := fun w => by simp [zeroValue, typeInfo, hi, hzv]
    unfold Instr.buildSlice
    simp only [Sem.run_bind, run_underlying hsl, Result.andThen_ok, hsz]
    rw [if_neg (by omega)]
    by_cases hl0 : len * de.sz = 0
    · have := hfill #[] (by simp [hl0])
      simp only [hl0, if_true, Sem.run_pure, Sem.run_bind, Result.andThen_ok, Array.range_zero', Array.map_empty, this, newRow_run]
    · have := hfill ((Array.range (len * de.sz)).map (zv.cells[· % zv.cells.size]!)) (by simp)
      simp only [hl0, if_false, Sem.run_pure, Sem.run_bind, Result.andThen_ok, hze, this, newRow_run]
  obtain ⟨g1, hI1, hx1, hF1, ha1, ho1, hd1⟩ := seal_many hI hF h5 hfd.1
  have hrl : ∀ r ∈ ds, r.length = de.sz := fun r hr => by
    obtain ⟨j, hj⟩ := List.getElem?_of_mem hr
    have hjl : j < rows.length := by have := (List.getElem?_eq_some_iff.1 hj).1; omega
    have hrow : rows[j]? = some rows[j] := List.getElem?_eq_getElem hjl
    rw [hfd.2.2 j _ r hrow hj]; exact h3 _ (List.getElem_mem hjl)
  by_cases how : ow = true
  · rw [if_pos how] at hK
    obtain ⟨g2, hg2, hI2, hx2⟩ := hI1.newBlock (.cells cells.toArray e) 0
    have hF2 := hF1.newBlock (.cells cells.toArray e) 0
    rw [← hg2] at hF2
    have hmax : len ≤ maxLen := by
      have : len ≤ len * de.sz := Nat.le_mul_of_pos_right _ hpos
      simp only [maxLen]; omega
    have hown := World.ownsRow_lit (base := 0) (e := e) (size := de.sz) w cells.toArray len (Nat.zero_le _) hmax (by simpa using hcl)
    obtain ⟨g3, hm3, ho3, ha3, hI3, hx3, hF3⟩ := hI2.newArr hF2 { sz := de.sz, ety := e, rows := ds, wr := true } (.slice (some ⟨w.heap.size, 0, none⟩) len len) cells hrl (by simp only [show ds.length = len by omega]; simpa using hown)
      (fun j x u h6 h7 => RepD.grows hx2.gr x u (hd1 j x u h6 h7))
      (fun b hb => by
        simp [Value.ownBlock] at hb; subst hb
        subst hg2
        refine ⟨by simp, hF.size, fun l hl => ?_, fun k v hv hb => ?_⟩
        · have := hI1.obLt (g := g1) hl; omega
        · have := hI1.arLt (g := g1) hv hb; omega)
    refine ⟨_, _, _, _, _, _, g3, hK, run_value (hrun w), .inl rfl, ?_, hI3, (hx1.trans hx2).trans hx3, hF3⟩
    have hlA : (sealAs s.A rows.flatten).length = s.A.length := by
      have : ∀ (cs : List CV) (A : List Arr), (sealAs A cs).length = A.length := by
        intro cs
        induction cs with
        | nil => intro A; rfl
        | cons c cs ih => intro A; simp only [sealAs, List.foldl_cons]; have := ih (sealA A c); simp only [sealAs] at this; rw [this]; cases c <;> try rfl
                          simp only [sealA]; split <;> simp
      exact this _ _
    refine ⟨some ⟨w.heap.size, 0, none⟩, len, rfl, { sz := de.sz, ety := e, rows := ds, wr := true }, ?_, by simp only []; omega, fun _ => ?_⟩
    · rw [List.getElem?_append_right (by rw [hlA]; exact Nat.le_refl _), hlA]; simp
    · rw [ha3, List.getElem?_append_right (by rw [hI2.arl, hlA]; exact Nat.le_refl _), hI2.arl, hlA]; simp
  · rw [if_neg how] at hK
    obtain ⟨g2, hg2, hI2, hx2⟩ := hI1.newBlock (.cells cells.toArray e) cells.length
    have hF2 := hF1.newBlock (.cells cells.toArray e) cells.length
    rw [← hg2] at hF2
    refine ⟨_, _, _, _, _, _, g2, hK, run_value (hrun w), .inl rfl, ?_, hI2, hx1.trans hx2, hF2⟩
    simp only [RepV, RepE, RepC, RepD]
    refine ⟨some ⟨w.heap.size, 0, none⟩, len, by rw [show ds.length = len by omega], by omega, .inr ⟨w.heap.size, 0, de.sz, rfl, ?_, ?_⟩⟩
    · have hdl : ds.length = len := by omega
      subst hg2; simp [hdl, hcl]
    · refine RepRows.mk fun i r hir => ⟨hrl r (List.mem_of_getElem? hir), RepRow.mk fun j x hx => ?_⟩
      have hf := flatten_at hrl hir hx
      have hlt : i * de.sz + j < cells.length := by
        have := (List.getElem?_eq_some_iff.1 hf).1
        rw [flatten_len hrl] at this; rw [hcl, ← hlen, ← hfd.2.1]; exact this
      have hu : cells[i * de.sz + j]? = some cells[i * de.sz + j] := List.getElem?_eq_getElem hlt
      refine ⟨_, ?_, RepD.grows hx2.gr _ _ (hd1 _ x _ hf hu)⟩
      rw [cell_of_row _ w.heap.size _ cells.toArray e (0, 0) (heap_alloc_new w _), Nat.zero_add]
      simp [hu]

theorem toD_zero {im : Nat → Nat} {v : Value} {c : CV} {x : DV} (h : cvOf v = some c) (hd : toD A c = some x) : RepD im w x v := by
  unfold cvOf at h
  split at h <;> first | (simp at h; done) | skip
  all_goals (simp only [Option.some.injEq] at h; subst h; simp only [toD, Option.some.injEq] at hd)
  all_goals first
    | (subst hd; simp only [RepD]; done)
    | (subst hd; simp only [RepD]; rw [bs_data])
    | (subst hd; simp only [RepD]; exact ⟨none, 0, rfl, Nat.le_refl _, .inl trivial⟩)
    | (cases hd)

theorem sound_makeSlice (hI : Inv g w s.V s.A) (hF : Fr w0 g0 w g) {t e : TypeId} {d de : TD} (ht : td P t = some d) (hel : d.el = some e) (he : td P e = some de) {z : List CV} (hz : de.zero = some z) {dz : List DV} (hdz : toDs s.A z = some dz) {kl kc : IntKind} {n : Int} (h0 : 0 ≤ n)
    (hb : n.toNat * de.by_ ≤ 140737488355328) (hm : n.toNat ≤ 9223372036854775807) (hpos : 0 < de.sz) (hzl : z.length = de.sz) (hK : K (.c (.own s.A.length n.toNat)) s.V (s.A ++ [{ sz := de.sz, ety := e, rows := List.replicate n.toNat dz, wr := true }])) :
    Goes P w0 g0 g w s.A (do pure (.value (← Instr.makeSlice t (.int kl n) (.int kc n)))) K := by
  obtain ⟨i, hi, hisz, hiby, hz0⟩ := td_info he
  obtain ⟨zv, hzv, hzc⟩ := hz0 z hz
  have hsl := td_el ht hel
  obtain ⟨m, rfl⟩ := Int.eq_ofNat_of_zero_le h0
  simp only [Int.toNat_natCast] at hb hm hK
  have hmul : (i.bytes : Int) * (m : Int) ≤ 281474976710656 := by
    have h : ((i.bytes * m : Nat) : Int) ≤ 281474976710656 := by rw [hiby, Nat.mul_comm]; omega
    rwa [Int.natCast_mul] at h
  have hrun := run_make (P := P) w t e i zv hsl hi hzv kl kc m m (by omega) (Int.le_refl _) hmul (by omega)
  simp only [Int.toNat_natCast, hisz] at hrun
  have hzs : zv.cells.size = de.sz := by have := cvsOf_len hzc; simp at this; omega
  have hdl := toDs_len hdz
  obtain ⟨g2, hg2, hI2, hx2⟩ := hI.newBlock (.cells (madeCells zv.cells (m * de.sz)) e) 0
  have hF2 := hF.newBlock (.cells (madeCells zv.cells (m * de.sz)) e) 0
  rw [← hg2] at hF2
  have hown := World.ownsRow_lit (base := 0) (e := e) (size := de.sz) w (madeCells zv.cells (m * de.sz)) m (Nat.zero_le _) (by simp only [maxLen]; omega) (size_madeCells _ _)
  have hfl : ∀ (m j : Nat) (x : DV), (List.replicate m dz).flatten[j]? = some x → dz[j % de.sz]? = some x := by
    intro m
    induction m with
    | zero => intro j x h; simp at h
    | succ m ih =>
      intro j x h
      simp only [List.replicate_succ, List.flatten_cons] at h
      by_cases hj : j < dz.length
      · rw [List.getElem?_append_left hj] at h
        rwa [Nat.mod_eq_of_lt (by omega)]
      · rw [List.getElem?_append_right (by omega)] at h
        have := ih _ _ h
        rwa [show dz.length = de.sz by omega, ← Nat.mod_eq_sub_mod (by omega)] at this
  obtain ⟨g3, hm3, ho3, ha3, hI3, hx3, hF3⟩ := hI2.newArr hF2 { sz := de.sz, ety := e, rows := List.replicate m dz, wr := true } (.slice (some ⟨w.heap.size, 0, none⟩) m m) (madeCells zv.cells (m * de.sz)).toList
    (fun r hr => by simp at hr; rw [hr.2]; show dz.length = de.sz; omega) (by simpa using hown)
    (fun j x u h6 h7 => by
      have h8 := hfl m j x h6
      have hjm : j < m * de.sz := by
        have := (List.getElem?_eq_some_iff.1 h7).1
        simpa [size_madeCells] using this
      have h9 : u = zv.cells[j % zv.cells.size]! := by
        simp [madeCells, hjm] at h7; exact h7.symm
      have hlt : j % de.sz < zv.cells.size := by rw [hzs]; exact Nat.mod_lt _ hpos
      have h10 : zv.cells.toList[j % de.sz]? = some u := by
        rw [h9, hzs]; simp [hlt]
      have hzl' : j % de.sz < z.length := by omega
      have hzj : z[j % de.sz]? = some z[j % de.sz] := List.getElem?_eq_getElem hzl'
      have h11 := cvsOf_at hzc _ _ _ hzj h10
      have hat : ∀ {cs : List CV} {ds : List DV}, toDs s.A cs = some ds → ∀ (j : Nat) c x, cs[j]? = some c → ds[j]? = some x → toD s.A c = some x := by
        intro cs
        induction cs with
        | nil => intro ds h j c x h1; simp at h1
        | cons c cs ih =>
          intro ds h j c' x h1 h2
          simp only [toDs] at h
          split at h
          · rename_i d1 d2 h3 h4
            simp at h; subst h
            cases j with
            | zero => simp at h1 h2; subst h1; subst h2; exact h3
            | succ j => simp at h1 h2; exact ih h4 j c' x h1 h2
          · simp at h
      exact toD_zero h11 (hat hdz _ _ _ hzj h8))
    (fun b hb => by
      simp [Value.ownBlock] at hb; subst hb
      subst hg2
      refine ⟨by simp, hF.size, fun l hl => ?_, fun k v hv hb => ?_⟩
      · have := hI.obLt (g := g) hl; omega
      · have := hI.arLt (g := g) hv hb; omega)
  refine ⟨_, _, _, _, _, _, g3, hK, run_value hrun, .inl rfl, ?_, hI3, hx2.trans hx3, hF3⟩
  refine ⟨some ⟨w.heap.size, 0, none⟩, m, rfl, { sz := de.sz, ety := e, rows := List.replicate m dz, wr := true }, ?_, by simp, fun _ => ?_⟩
  · rw [List.getElem?_append_right (Nat.le_refl _)]; simp
  · rw [ha3, List.getElem?_append_right (by rw [hI2.arl]; exact Nat.le_refl _), hI2.arl]; simp
end
end Go.Av
