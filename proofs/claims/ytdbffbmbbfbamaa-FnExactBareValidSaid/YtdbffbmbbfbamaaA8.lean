/- The operations' preconditions hold: addresses, slicing, append; and the one theorem for all of them. -/
import Derived.Test.YtdbffbmbbfbamaaA7
namespace Go.Av
open Go

section
variable {P : Program} {g g' g0 : Gh} {w w' w0 : World} {V V' : List (List CV)} {A A' : List Arr} {s : St} {a : Act} {K : AV → List (List CV) → List Arr → Prop}

theorem flOf_at : ∀ {fs : List Field} {l : List (Nat × Nat)}, flOf P fs = some l → ∀ {i off sz : Nat}, l[i]? = some (off, sz) → ∃ f inf, fs[i]? = some f ∧ f.offset = off ∧ P.info? f.type = some inf ∧ inf.size = sz
  | [], l, h, i, off, sz, hi => by simp [flOf] at h; subst h; simp at hi
  | f :: r, l, h, i, off, sz, hi => by
    simp only [flOf] at h
    split at h
    · rename_i inf l' h1 h2
      simp at h; subst h
      cases i with
      | zero => simp at hi; exact ⟨f, inf, rfl, hi.1, h1, hi.2⟩
      | succ i => simp at hi; simpa using flOf_at h2 hi
    · simp at h

theorem run_fieldAt_av {t : TypeId} {d : TD} (ht : td P t = some d) {f off sz : Nat} (hf : d.fl[f]? = some (off, sz)) (hsz : sz ≠ 0) (b o : Nat) : (Instr.fieldAt t (.pointer (some ⟨b, o, none⟩)) f).run P w = .ok (.pointer (some ⟨b, o + off, none⟩)) w := by
  obtain ⟨de, i, hu, hi, rfl⟩ := td_inv ht
  cases de with
  | struct fs =>
    simp only [flD] at hf
    cases hfo : flOf P fs.toList with
    | none => simp [hfo] at hf
    | some l =>
      simp only [hfo, Option.getD_some] at hf
      obtain ⟨fld, inf, h1, h2, h3, h4⟩ := flOf_at hfo hf
      have h1' : fs[f]? = some fld := by simpa using h1
      subst h2; subst h4
      simp [Instr.fieldAt, run_underlying hu, h1', Instr.sureAddr, fieldPlace, sizeOf, typeInfo, h3, hsz, addr_add]
  | _ => simp [flD] at hf

theorem run_indexAt_sl {t e : TypeId} {d de : TD} (ht : td P t = some d) (hel : d.el = some e) (he : td P e = some de) {b off n cap : Nat} {k : IntKind} {i : Int} (h0 : 0 ≤ i) (h1 : i.toNat < n) :
    (Instr.indexAt t (.slice (some ⟨b, off, none⟩) n cap) (.int k i)).run P w = .ok (.pointer (some ⟨b, off + i.toNat * de.sz, none⟩)) w := by
  have hu := td_el ht hel
  obtain ⟨inf, hi, hsz, _, _⟩ := td_info he
  have hc : 0 ≤ i ∧ i < n := by omega
  simp [Instr.indexAt, asIntOf, run_underlying hu, hc, sizeOf, typeInfo, hi, hsz, addr_add]

theorem run_indexAt_ar {t e : TypeId} {d de : TD} {len : Nat} (ht : td P t = some d) (hel : d.ar = some (len, e)) (he : td P e = some de) {b off : Nat} {k : IntKind} {i : Int} (h0 : 0 ≤ i) (h1 : i < len) :
    (Instr.indexAt t (.pointer (some ⟨b, off, none⟩)) (.int k i)).run P w = .ok (.pointer (some ⟨b, off + i.toNat * de.sz, none⟩)) w := by
  have hu := td_ar ht hel
  obtain ⟨inf, hi, hsz, _, _⟩ := td_info he
  have hc : 0 ≤ i ∧ i < len := by omega
  simp [Instr.indexAt, asIntOf, run_underlying hu, Instr.sureAddr, hc, sizeOf, typeInfo, hi, hsz, addr_add]

/-- What is read of a slice. -/
theorem src_sound (hI : Inv g w V A) {v : AV} {u : Value} (hv : RepV g w A v u) {nr : List (List DV)} (h : rowsOf A v = some nr) {sz : Nat} (hl : ∀ r ∈ nr, r.length = sz) :
    ∃ news : List Value, ((nr.length = 0 ∧ news = [] ∧ ∃ a c, u = .slice a 0 c) ∨ ∃ a c, u = .slice (some a) nr.length c ∧ news.length = nr.length * sz ∧ ∀ (j : Nat) x, news[j]? = some x → w.cell? (a.add j) = some x) ∧
      (∀ u ∈ news, u.oneCell' = true) ∧ ∀ (j : Nat) x y, nr.flatten[j]? = some x → news[j]? = some y → RepD g.im w x y := by
  have key : ∀ (b off sz' : Nat) (rows : List (List DV)), (∀ r ∈ rows, r.length = sz) → RepRows g.im w b sz' off rows → rows ≠ [] → sz' = sz ∧
      ∃ news : List Value, news.length = rows.length * sz ∧ (∀ (j : Nat) x, news[j]? = some x → w.cell? ⟨b, off + j, none⟩ = some x) ∧ ∀ (j : Nat) x y, rows.flatten[j]? = some x → news[j]? = some y → RepD g.im w x y := by
    intro b off sz' rows hl hrr hne
    have hsz : sz' = sz := by
      cases rows with
      | nil => exact absurd rfl hne
      | cons r rs => simp only [RepRows] at hrr; have := hl r (by simp); omega
    subst hsz
    have hflat := flatten_len hl
    obtain ⟨vs, h1, h2⟩ := cells_list w b off (rows.length * sz') (fun j u => ∀ x, rows.flatten[j]? = some x → RepD g.im w x u) (fun j hj => by
      have hpos : 0 < sz' := by rcases Nat.eq_zero_or_pos sz' with h | h; · subst h; simp at hj
                                · exact h
      have hdiv : j / sz' < rows.length := Nat.div_lt_of_lt_mul (by rw [Nat.mul_comm]; exact hj)
      have hrow : rows[j / sz']? = some rows[j / sz'] := List.getElem?_eq_getElem hdiv
      obtain ⟨h3, h4⟩ := RepRows.at_ hrr hrow
      have hmod := Nat.mod_lt j hpos
      have hx : (rows[j / sz'])[j % sz']? = some (rows[j / sz'])[j % sz'] := List.getElem?_eq_getElem (by omega)
      obtain ⟨u, h5, h6⟩ := RepRow.at_ h4 hx
      have hj' : j / sz' * sz' + j % sz' = j := by rw [Nat.mul_comm]; exact Nat.div_add_mod j sz'
      refine ⟨u, by rw [← hj', ← Nat.add_assoc]; exact h5, fun x h7 => ?_⟩
      have h8 := flatten_at hl hrow hx
      rw [hj', h7] at h8
      cases h8; exact h6)
    exact ⟨rfl, vs, h1, fun j x hx => (h2 j x hx).1, fun j x y hx hy => (h2 j y hy).2 x hx⟩
  cases v with
  | agg xs => simp [rowsOf] at h
  | tup xs => simp [rowsOf] at h
  | c c =>
    cases c with
    | d x =>
      cases x with
      | sl rows =>
        simp [rowsOf] at h; subst h
        simp only [RepV, RepE, RepC, RepD] at hv
        obtain ⟨ad, cap, rfl, _, hr⟩ := hv
        rcases hr with rfl | ⟨b, off, sz', rfl, _, hrr⟩
        · exact ⟨[], .inl ⟨rfl, rfl, ad, cap, rfl⟩, by simp, fun j x y hx => by simp at hx⟩
        · by_cases hne : rows = []
          · subst hne
            exact ⟨[], .inl ⟨rfl, rfl, _, cap, rfl⟩, by simp, fun j x y hx => by simp at hx⟩
          · obtain ⟨rfl, news, h1, h2, h3⟩ := key b off sz' rows hl hrr hne
            refine ⟨news, .inr ⟨_, cap, rfl, h1, fun j x hx => by rw [addr_add]; exact h2 j x hx⟩, fun u hu => ?_, h3⟩
            obtain ⟨j, hj⟩ := List.getElem?_of_mem hu
            have hjl : j < rows.flatten.length := by rw [flatten_len hl, ← h1]; exact (List.getElem?_eq_some_iff.1 hj).1
            exact RepD.oneCell (h3 j _ u (List.getElem?_eq_getElem hjl) hj)
      | _ => simp [rowsOf] at h
    | nil =>
      simp [rowsOf] at h; subst h
      simp only [RepV, RepE, RepC] at hv; subst hv
      exact ⟨[], .inl ⟨rfl, rfl, none, 0, rfl⟩, by simp, fun j x y hx => by simp at hx⟩
    | own k n =>
      obtain ⟨ad, cap, rfl, r, hk, hn, hq⟩ := hv
      simp only [rowsOf, hk] at h
      split at h
      · rename_i hne
        simp at h; subst h
        have hv0 := hq hne
        obtain ⟨h1, _, xs, hown, hr⟩ := hI.arr k r _ hk hv0
        rcases hown.2 with ⟨h2, h3⟩ | ⟨b, cap', cur, h2, _, hh, _, _, _, _⟩
        · have h4 : r.rows = [] := List.eq_nil_of_length_eq_zero h3
          refine ⟨[], .inl ⟨h3, rfl, ad, cap, by rw [hne, h3]⟩, by simp, fun j x y hx => by rw [h4] at hx; simp at hx⟩
        · have hb : (Value.slice ad n cap).ownBlock = some b := by rw [h2]; rfl
          by_cases hne0 : r.rows = []
          · refine ⟨[], .inl ⟨by rw [hne0]; rfl, rfl, ad, cap, by rw [hne, hne0]; rfl⟩, by simp, fun j x y hx => by rw [hne0] at hx; simp at hx⟩
          · have hsz : r.sz = sz := by
              cases hrr : r.rows with
              | nil => exact absurd hrr hne0
              | cons q qs => have e1 := h1 q (by rw [hrr]; simp); have e2 := hl q (by rw [hrr]; simp); omega
            refine ⟨xs, .inr ⟨⟨b, 0, none⟩, cap', by rw [h2], by rw [hown.1, hsz], hown.cells hb⟩, fun u hu => ?_, hr⟩
            obtain ⟨j, hj⟩ := List.getElem?_of_mem hu
            have hjl : j < r.rows.flatten.length := by rw [flatten_len h1, ← hown.1]; exact (List.getElem?_eq_some_iff.1 hj).1
            exact RepD.oneCell (hr j _ u (List.getElem?_eq_getElem hjl) hj)
      · simp at h
    | _ => simp [rowsOf] at h

theorem run_append_call {t ty : TypeId} {v u : Value} {v' : Value} {w' : World} (h : (Builtin.append_ #[t, t] ty #[v, u]).run P w = .ok v' w') : (builtin .append #[t, t] ty #[] #[v, u]).run P w = .ok (.value v') w' := run_value h

theorem sound_append_own (hI : Inv g w s.V s.A) (hF : Fr w0 g0 w g) {t e : TypeId} {d de : TD} (ht : td P t = some d) (hel : d.el = some e) (he : td P e = some de) {z : List CV} (hz : de.zero = some z) (hzl : z.length = de.sz) {k n : Nat} {v u : Value} (hv : RepC g w s.A (.own k n) v)
    {y : AV} (hy : RepV g w s.A y u) {nr : List (List DV)} (hnr : rowsOf s.A y = some nr) (hl : ∀ r ∈ nr, r.length = de.sz) {r : Arr} (hk : s.A[k]? = some r) (hn : n = r.rows.length) (hety : r.ety = e) (hrsz : r.sz = de.sz) (hb : (n + nr.length) * de.by_ ≤ 140737488355328) (hm : n + nr.length ≤ 9223372036854775807) {ty : TypeId}
    (hK : K (.c (.own k (n + nr.length))) s.V (s.A.set k { r with rows := r.rows ++ nr })) : Goes P w0 g0 g w s.A (do pure (.value (← Builtin.append_ #[t, t] ty #[v, u]))) K := by
  obtain ⟨i, hi, hisz, hiby, h0⟩ := td_info he
  obtain ⟨zv, hzv, hzc⟩ := h0 z hz
  have hzs : zv.cells.size = i.size := by have := cvsOf_len hzc; simp at this; omega
  obtain ⟨ad, cap, hve, r', hk', _, hq⟩ := hv
  obtain rfl : r = r' := by rw [hk] at hk'; exact Option.some.inj hk'
  have hv0 := hq hn
  subst hn; subst hety
  obtain ⟨h1, _, xs, hown, _⟩ := hI.arr k r v hk hv0
  obtain ⟨news, hsrc, hone, hrep⟩ := src_sound hI hy hnr hl
  have hown' : w.ownsRow 0 r.ety i.size v r.rows.length xs := by rw [hisz, ← hrsz]; exact hown
  obtain ⟨v', w', hrun, ho', hc⟩ := run_append_av (P := P) t ty r.ety i zv (td_el ht hel) hi hzv hzs v r.rows.length xs hown' u nr.length news (by rw [hisz]; exact hsrc) hone (by simp only [maxLen]; omega) (by rw [hiby]; exact hb)
  have hlenv : (Goes P w0 g0 g w s.A (do pure (.value (← Builtin.append_ #[t, t] ty #[v, u]))) K) := by
    by_cases hne : nr = []
    · subst hne
      have hnews : news = [] := by
        rcases hsrc with ⟨_, h, _⟩ | ⟨_, _, _, h, _⟩
        · exact h
        · exact List.eq_nil_of_length_eq_zero (by simpa using h)
      subst hnews
      obtain ⟨a0, c0, rfl⟩ : ∃ a0 c0, u = .slice a0 0 c0 := by
        rcases hsrc with ⟨_, _, h⟩ | ⟨a0, c0, h, _⟩
        · exact h
        · exact ⟨some a0, c0, h⟩
      have hrun' : (Builtin.append_ #[t, t] ty #[v, .slice a0 0 c0]).run P w = .ok v w := by
        have hfc : ∀ (ad : Option Addr) (c : Nat) (w : World), (Builtin.firstCells i.size 0 (.slice ad 0 c)).run P w = .ok #[] w := fun ad c w => by
          cases ad <;> simp [Builtin.firstCells, loadCells, loadCellsFrom]
        rcases hown'.2 with ⟨h6, h7⟩ | ⟨gb, cp, cur, h6, _, _, hnc, _⟩
        · rw [h6]; simp [Builtin.append_, run_underlying (td_el ht hel), sizeOf, typeInfo, hi, Builtin.lenOf, hfc]
        · rw [h6]; simp [Builtin.append_, run_underlying (td_el ht hel), sizeOf, typeInfo, hi, Builtin.lenOf, hfc, hnc, storeCells]
      have hset : s.A.set k { r with rows := r.rows ++ [] } = s.A := by
        apply List.ext_getElem?
        intro j
        rw [set_get hk]
        by_cases e : j = k
        · subst e; simp [hk]
        · simp [e]
      rw [hset] at hK
      exact Goes.value hI hF (run_value hrun') (x := .c (.own k (r.rows.length + 0))) ⟨ad, cap, hve, r, hk, Nat.le_refl _, fun _ => hv0⟩ hK
    · obtain ⟨g', hI', hx', hF', hg', _, _⟩ := hI.grow hF hk hv0 nr hne news (fun row hrow => by rw [hl row hrow, hrsz]) hrep
        (fun xs' hx' => by
          obtain rfl : xs' = xs := by
            rcases hx'.2 with ⟨e1, e2⟩ | ⟨b1, c1, cu1, e1, _, e3, _, _, _, e4⟩ <;> rcases hown.2 with ⟨f1, f2⟩ | ⟨b2, c2, cu2, f1, _, f3, _, _, _, f4⟩
            · have := hx'.1; have := hown.1; rw [e2] at *; simp at *; simp [*]
            · rw [e1] at f1; simp at f1
            · rw [e1] at f1; simp at f1
            · rw [e1] at f1; simp at f1
              obtain ⟨rfl, rfl⟩ := f1
              rw [e3] at f3; simp at f3; subst f3
              rw [← e4, ← f4]
          rw [show r.sz = i.size by omega]; exact ho') hc
      refine ⟨_, _, _, _, _, _, g', hK, run_value hrun, .inl rfl, ?_, hI', hx', hF'⟩
      have hv' : ∃ ad' cap', v' = .slice ad' (r.rows.length + nr.length) cap' := by
        rcases ho'.2 with ⟨e1, e2⟩ | ⟨b1, c1, cu1, e1, _⟩
        · exact ⟨none, 0, by rw [e1, e2]⟩
        · exact ⟨_, _, e1⟩
      obtain ⟨ad', cap', rfl⟩ := hv'
      refine ⟨ad', cap', rfl, { r with rows := r.rows ++ nr }, ?_, by simp, fun _ => hg'⟩
      rw [set_get hk]; simp
  exact hlenv
end
end Go.Av
