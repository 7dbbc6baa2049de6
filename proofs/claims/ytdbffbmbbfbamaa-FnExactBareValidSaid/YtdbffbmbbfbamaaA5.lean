/- The operations' preconditions hold: helpers, and the operations that leave memory alone, load, allocate or store. -/
import Derived.Test.YtdbffbmbbfbamaaA4
namespace Go.Av
open Go

theorem onv_some {α : Type} {o : Option α} {k : α → Prop} (h : onv o k) : ∃ v, o = some v ∧ k v := by
  cases o with
  | none => exact h.elim
  | some v => exact ⟨v, rfl, h⟩

theorem td_inv {P : Program} {t : TypeId} {d : TD} (h : td P t = some d) : ∃ de i, P.underlying t = some de ∧ P.info? t = some i ∧ d = { ag := agD de, sz := i.size, by_ := i.bytes, zero := zeD i.zero, el := elD de, ar := arD de, fl := flD P de, ik := ikD de, isS := isSD de, isB := isBD de } := by
  unfold td at h
  cases hu : P.underlying t with
  | none => simp [hu] at h
  | some de =>
    cases hi : P.info? t with
    | none => simp [hu, hi] at h
    | some i => simp only [hu, hi] at h; exact ⟨de, i, rfl, rfl, (Option.some.inj h).symm⟩

theorem td_el {P : Program} {t e : TypeId} {d : TD} (h : td P t = some d) (he : d.el = some e) : P.underlying t = some (.slice e) := by
  obtain ⟨de, i, hu, _, rfl⟩ := td_inv h
  cases de <;> simp [elD] at he
  subst he; exact hu
theorem td_ar {P : Program} {t e : TypeId} {n : Nat} {d : TD} (h : td P t = some d) (he : d.ar = some (n, e)) : P.underlying t = some (.array n e) := by
  obtain ⟨de, i, hu, _, rfl⟩ := td_inv h
  cases de <;> simp [arD] at he
  obtain ⟨rfl, rfl⟩ := he; exact hu
theorem td_info {P : Program} {t : TypeId} {d : TD} (h : td P t = some d) : ∃ i, P.info? t = some i ∧ i.size = d.sz ∧ i.bytes = d.by_ ∧ ∀ z, d.zero = some z → ∃ v, i.zero = some v ∧ cvsOf v.cells.toList = some z := by
  obtain ⟨de, i, _, hi, rfl⟩ := td_inv h
  refine ⟨i, hi, rfl, rfl, fun z hz => ?_⟩
  cases hz0 : i.zero with
  | none => simp [zeD, hz0] at hz
  | some v => exact ⟨v, rfl, by simpa [zeD, hz0] using hz⟩
theorem td_isS {P : Program} {t : TypeId} {d : TD} (h : td P t = some d) (he : d.isS = true) : P.underlying t = some .string := by
  obtain ⟨de, i, hu, _, rfl⟩ := td_inv h
  cases de <;> simp [isSD] at he
  exact hu
theorem td_isB {P : Program} {t : TypeId} {d : TD} (h : td P t = some d) (he : d.isB = true) : P.underlying t = some .bool := by
  obtain ⟨de, i, hu, _, rfl⟩ := td_inv h
  cases de <;> simp [isBD] at he
  exact hu
theorem td_ik {P : Program} {t : TypeId} {d : TD} {k : IntKind} (h : td P t = some d) (he : d.ik = some k) : P.underlying t = some (.int k) := by
  obtain ⟨de, i, hu, _, rfl⟩ := td_inv h
  cases de <;> simp [ikD] at he
  subst he; exact hu

theorem bs_data (s : ByteArray) : bs s.data.toList = s := by simp [bs]
theorem bs_toList (l : List UInt8) : (bs l).toList = l := by rw [ByteArray.toList_eq]; simp [bs]
theorem bs_size (l : List UInt8) : (bs l).size = l.length := by simp [bs, ByteArray.size]

section
variable {P : Program} {g g' g0 : Gh} {w w' w0 : World} {V V' : List (List CV)} {A A' : List Arr} {s : St} {a : Act}

theorem cvOf_sound {v : Value} {c : CV} (h : cvOf v = some c) : RepC g w A c v := by
  unfold cvOf at h
  split at h <;> first | (simp at h; done) | (simp at h; subst h; simp only [RepC, RepD]) | skip
  rw [bs_data]

theorem cvOf_undef {v : Value} {c : CV} (h : cvOf v = some c) : c.isUndef = false := by
  unfold cvOf at h
  split at h <;> first | (simp at h; done) | (simp at h; subst h; rfl)

theorem cvsOf_len : ∀ {vs : List Value} {cs : List CV}, cvsOf vs = some cs → vs.length = cs.length
  | [], cs, h => by simp [cvsOf] at h; subst h; rfl
  | v :: r, cs, h => by
    simp only [cvsOf] at h
    split at h
    · rename_i c cs' h1 h2
      simp at h; subst h
      simp [cvsOf_len h2]
    · simp at h

theorem cvsOf_at : ∀ {vs : List Value} {cs : List CV}, cvsOf vs = some cs → ∀ (j : Nat) c u, cs[j]? = some c → vs[j]? = some u → cvOf u = some c
  | [], cs, h, j, c, u, hc, hu => by simp at hu
  | v :: r, cs, h, j, c, u, hc, hu => by
    simp only [cvsOf] at h
    split at h
    · rename_i c' cs' h1 h2
      simp at h; subst h
      cases j with
      | zero => simp at hc hu; subst hc; subst hu; exact h1
      | succ j => simp at hc hu; exact cvsOf_at h2 j c u hc hu
    · simp at h

theorem aval_sound (hS : ∀ t x, look s.fr t = some x → ∃ u, a.tmps[t]? = some u ∧ RepV g w s.A x u) {o : Operand} {x : AV} (h : aval s o = some x) : RepV g w s.A x (a.eval o) := by
  cases o with
  | tmp t =>
    obtain ⟨u, hu, hr⟩ := hS t x h
    simpa [Act.eval, hu] using hr
  | const v =>
    simp only [aval, Option.map_eq_some_iff] at h
    obtain ⟨c, hc, rfl⟩ := h
    exact cvOf_sound (g := g) (w := w) (A := s.A) hc
  | func f =>
    simp only [aval, Option.some.injEq] at h; subst h
    exact ⟨[], rfl, rfl, fun i l b h => by simp at h⟩
  | «global» g => simp [aval] at h

/-- A run that comes to what K asks. -/
def Goes (P : Program) (w0 : World) (g0 g : Gh) (w : World) (A : List Arr) (m : Sem Next) (K : AV → List (List CV) → List Arr → Prop) : Prop :=
  ∃ x V' A' nx v w' g', K x V' A' ∧ m.run P w = .ok nx w' ∧ (nx = .value v ∨ (nx = .skip ∧ v = undef)) ∧ RepV g' w' A' x v ∧ Inv g' w' V' A' ∧ Ext g w A g' w' A' ∧ Fr w0 g0 w' g'

theorem Goes.value (hI : Inv g w V A) (hF : Fr w0 g0 w g) {m : Sem Next} {K : AV → List (List CV) → List Arr → Prop} {x : AV} {v : Value} (hm : m.run P w = .ok (.value v) w) (hr : RepV g w A x v) (hK : K x V A) : Goes P w0 g0 g w A m K :=
  ⟨x, V, A, _, v, w, g, hK, hm, .inl rfl, hr, hI, .refl _ _ _, hF⟩

/-- Cells read one by one, as a list. -/
theorem cells_list (w : World) (b off n : Nat) (Q : Nat → Value → Prop) (h : ∀ j, j < n → ∃ u, w.cell? ⟨b, off + j, none⟩ = some u ∧ Q j u) :
    ∃ vs : List Value, vs.length = n ∧ ∀ (j : Nat) u, vs[j]? = some u → w.cell? ⟨b, off + j, none⟩ = some u ∧ Q j u := by
  refine ⟨(List.range n).map fun j => (w.cell? ⟨b, off + j, none⟩).getD undef, by simp, fun j u hu => ?_⟩
  have hj : j < n := by
    have := (List.getElem?_eq_some_iff.1 hu).1
    simpa using this
  simp [hj] at hu
  obtain ⟨u', h1, h2⟩ := h j hj
  rw [h1] at hu
  simp at hu; subst hu
  exact ⟨h1, h2⟩

def RepCs (g : Gh) (w : World) (A : List Arr) (cs : List CV) (vs : List Value) : Prop := vs.length = cs.length ∧ ∀ (j : Nat) c u, cs[j]? = some c → vs[j]? = some u → RepC g w A c u

theorem RepCs.ext (hx : Ext g w A g' w' A') {cs : List CV} {vs : List Value} (h : RepCs g w A cs vs) : RepCs g' w' A' cs vs :=
  ⟨h.1, fun j c u h1 h2 => RepC.ext hx (h.2 j c u h1 h2)⟩

theorem cellsAt_sound (hI : Inv g w s.V s.A) {p : CV} {v : Value} {n : Nat} {cs : List CV} (hp : RepC g w s.A p v) (h : cellsAt s p n = some cs) :
    ∃ b off vs, v = .pointer (some ⟨b, off, none⟩) ∧ cs.length = n ∧ RepCs g w s.A cs vs ∧ ∀ (j : Nat) u, vs[j]? = some u → w.cell? ⟨b, off + j, none⟩ = some u := by
  unfold cellsAt at h
  split at h
  · -- an object
    rename_i l off
    split at h
    · rename_i row hrow
      split at h
      · rename_i hle
        simp at h; subst h
        obtain ⟨b, hb, rfl⟩ := hp
        obtain ⟨_, cells, ty, hh, hs, hr⟩ := hI.obj l row b hrow hb
        obtain ⟨vs, hl, hv⟩ := cells_list w b off n (fun j u => ∀ c, row[off + j]? = some c → RepC g w s.A c u) (fun j hj => by
          have hj' : off + j < cells.size := by omega
          refine ⟨cells[off + j], by simp [World.cell?, hh, hj'], fun c hc => hr (off + j) c _ hc (by simp [hj'])⟩)
        refine ⟨b, off, vs, rfl, by simp; omega, ⟨by simp; omega, fun j c u h1 h2 => (hv j u h2).2 c ?_⟩, fun j u hu => (hv j u hu).1⟩
        rw [List.getElem?_take] at h1
        split at h1
        · rwa [List.getElem?_drop] at h1
        · cases h1
      · simp at h
    · simp at h
  · rename_i row off
    split at h
    · rename_i hle
      simp at h; subst h
      obtain ⟨b, o, rfl, hi, hr⟩ := hp
      obtain ⟨vs, hl, hv⟩ := cells_list w b (o + off) n (fun j u => ∀ x, row[off + j]? = some x → RepD g.im w x u) (fun j hj => by
        have hx : row[off + j]? = some row[off + j] := List.getElem?_eq_getElem (by omega)
        obtain ⟨u, h1, h2⟩ := RepRow.at_ hr hx
        refine ⟨u, by rw [Nat.add_assoc]; exact h1, fun x h3 => ?_⟩
        rw [hx] at h3; cases h3; exact h2)
      refine ⟨b, o + off, vs, rfl, by simp; omega, ⟨by simp; omega, fun j c u h1 h2 => ?_⟩, fun j u hu => (hv j u hu).1⟩
      simp only [List.getElem?_take] at h1
      split at h1
      · rw [List.getElem?_drop, List.getElem?_map, Option.map_eq_some_iff] at h1
        obtain ⟨x, h3, rfl⟩ := h1
        exact (hv j u h2).2 x h3
      · cases h1
    · simp at h
  · rename_i k m i off
    split at h
    · rename_i r hk
      split at h
      · rename_i hm
        split at h
        · rename_i row hrow
          split at h
          · rename_i hle
            simp at h; subst h
            obtain ⟨b, e, rfl, r', hk', hn, hq⟩ := hp
            obtain rfl : r = r' := by rw [hk] at hk'; exact Option.some.inj hk'
            obtain ⟨cap, hv0, rfl⟩ := hq hm
            obtain ⟨h1, _, xs, hown, hr⟩ := hI.arr k r _ hk hv0
            have hrl : row.length = r.sz := h1 row (List.mem_of_getElem? hrow)
            obtain ⟨vs, hl, hv⟩ := cells_list w b (i * r.sz + off) n (fun j u => ∀ x, row[off + j]? = some x → RepD g.im w x u) (fun j hj => by
              have hx : row[off + j]? = some row[off + j] := List.getElem?_eq_getElem (by omega)
              have hf := flatten_at h1 hrow hx
              have hlt : i * r.sz + (off + j) < xs.length := by
                have := (List.getElem?_eq_some_iff.1 hf).1
                rw [flatten_len h1] at this; rw [hown.1]; exact this
              have hu : xs[i * r.sz + (off + j)]? = some xs[i * r.sz + (off + j)] := List.getElem?_eq_getElem hlt
              have hc := hown.cells (g := b) rfl _ _ hu
              have hadd : (⟨b, 0, none⟩ : Addr).add (i * r.sz + (off + j)) = ⟨b, i * r.sz + off + j, none⟩ := by unfold Addr.add; split <;> simp_all [Nat.add_assoc]
              rw [hadd] at hc
              refine ⟨_, hc, fun x h3 => ?_⟩
              rw [hx] at h3; cases h3; exact hr _ _ _ hf hu)
            refine ⟨b, i * r.sz + off, vs, rfl, by simp; omega, ⟨by simp; omega, fun j c u h1 h2 => ?_⟩, fun j u hu => (hv j u hu).1⟩
            simp only [List.getElem?_take] at h1
            split at h1
            · rw [List.getElem?_drop, List.getElem?_map, Option.map_eq_some_iff] at h1
              obtain ⟨x, h3, rfl⟩ := h1
              exact (hv j u h2).2 x h3
            · cases h1
          · simp at h
        · simp at h
      · simp at h
    · simp at h
  · simp at h

theorem addr_add (b off j : Nat) : (⟨b, off, none⟩ : Addr).add j = ⟨b, off + j, none⟩ := by unfold Addr.add; split <;> simp_all

theorem run_loadAt_av {t : TypeId} {d : TD} (ht : td P t = some d) {b off : Nat} {vs : List Value} (hv : ∀ (j : Nat) u, vs[j]? = some u → w.cell? ⟨b, off + j, none⟩ = some u) (hl : vs.length = d.sz) :
    (d.ag = true → (Instr.loadAt t (.pointer (some ⟨b, off, none⟩))).run P w = .ok (.agg vs.toArray) w) ∧
    (d.ag = false → ∀ u, vs = [u] → (Instr.loadAt t (.pointer (some ⟨b, off, none⟩))).run P w = .ok u w) := by
  obtain ⟨de, i, hu, hi, rfl⟩ := td_inv ht
  have hld := run_loadCells_list (P := P) w ⟨b, off, none⟩ vs (fun j u h => by rw [addr_add]; exact hv j u h)
  simp only at hl ⊢
  rw [hl] at hld
  have hagg : (isAgg t).run P w = .ok (agD de) w := by
    simp only [isAgg, Sem.run_bind, run_underlying hu, Result.andThen_ok]
    cases de <;> rfl
  have hsz : (sizeOf t).run P w = .ok i.size w := by simp [sizeOf, typeInfo, hi]
  constructor
  · intro ha
    show (loadVar t ⟨b, off, none⟩).run P w = _
    unfold loadVar
    rw [Sem.run_bind, hagg, ha]
    simp only [Result.andThen_ok, if_true, Sem.run_bind, hsz, hld, Sem.run_pure]
  · intro ha u hvu
    have hc := hv 0 u (by rw [hvu]; rfl)
    simp only [Nat.add_zero] at hc
    show (loadVar t ⟨b, off, none⟩).run P w = _
    unfold loadVar
    rw [Sem.run_bind, hagg, ha]
    simp only [Result.andThen_ok, Bool.false_eq_true, if_false, run_load, hc]

theorem AV.plain_cells {x : AV} {v : Value} (h : RepV g w A x v) (hp : x.plain = true) : RepCs g w A x.cells v.cells.toList ∧ ∀ u ∈ v.cells.toList, u.oneCell' = true := by
  cases x with
  | tup xs => simp [AV.plain] at hp
  | c x =>
    simp [AV.plain] at hp
    have hc : RepC g w A x v := h
    have h1 := RepC.oneCell hp hc
    have hcs : v.cells = #[v] := by cases v <;> first | rfl | simp [Value.oneCell'] at h1
    rw [hcs]
    refine ⟨⟨rfl, fun j c u h2 h3 => ?_⟩, fun u hu => ?_⟩
    · cases j with
      | zero => simp [AV.cells] at h2 h3; subst h2; subst h3; exact hc
      | succ j => simp at h3
    · simp at hu; subst hu; exact h1
  | agg xs =>
    simp only [AV.plain, List.all_eq_true, Bool.not_eq_true'] at hp
    obtain ⟨vs, rfl, hl, hc⟩ := h
    refine ⟨⟨by simpa [Value.cells, AV.cells] using hl, fun j c u h2 h3 => hc j c u h2 (by simpa [Value.cells] using h3)⟩, fun u hu => ?_⟩
    simp [Value.cells] at hu
    obtain ⟨j, hj⟩ := List.getElem?_of_mem hu
    have hjl := (List.getElem?_eq_some_iff.1 hj).1
    have hx : xs[j]? = some (xs[j]'(by omega)) := List.getElem?_eq_getElem (by omega)
    exact RepC.oneCell (hp _ (List.mem_of_getElem? hx)) (hc j _ u hx hj)

/-- Sealing does not change what a cell says as data. -/
theorem toD_sealA (A : List Arr) (c' c : CV) : toD (sealA A c') c = toD A c := by
  cases c' <;> try rfl
  rename_i k' n'
  simp only [sealA]
  cases hk : A[k']? with
  | none => rfl
  | some r =>
    cases c <;> try rfl
    rename_i k n
    simp only [toD, set_get hk]
    by_cases e : k = k'
    · subst e; simp [hk]
    · simp [e]

theorem toDs_sealA (A : List Arr) (c' : CV) : ∀ cs, toDs (sealA A c') cs = toDs A cs
  | [] => rfl
  | c :: r => by simp only [toDs, toD_sealA, toDs_sealA A c' r]

theorem toDs_len : ∀ {cs : List CV} {ds : List DV}, toDs A cs = some ds → ds.length = cs.length
  | [], ds, h => by simp [toDs] at h; subst h; rfl
  | c :: r, ds, h => by
    simp only [toDs] at h
    split at h
    · rename_i d ds' h1 h2
      simp at h; subst h
      simp [toDs_len h2]
    · simp at h

/-- One cell sealed. -/
theorem seal_one (hI : Inv g w V A) (hF : Fr w0 g0 w g) {c : CV} {u : Value} {d : DV} (hc : RepC g w A c u) (hd : toD A c = some d) :
    ∃ g', Inv g' w V (sealA A c) ∧ Ext g w A g' w (sealA A c) ∧ Fr w0 g0 w g' ∧ g'.ar = g.ar ∧ g'.ob = g.ob ∧ RepD g'.im w d u := by
  cases c with
  | d x => simp [toD] at hd; subst hd; exact ⟨g, hI, .refl _ _ _, hF, rfl, rfl, hc⟩
  | nil =>
    simp [toD] at hd; subst hd
    simp only [RepC] at hc; subst hc
    exact ⟨g, hI, .refl _ _ _, hF, rfl, rfl, by simp only [RepD]; exact ⟨none, 0, rfl, Nat.le_refl _, .inl trivial⟩⟩
  | own k n =>
    obtain ⟨ad, cap, e, r, hk, hn, hv⟩ := hc
    simp only [toD, hk] at hd
    split at hd
    · rename_i hne
      simp at hd; subst hd
      obtain ⟨g', h1, h2, h3, h4, h5, h6⟩ := hI.seal hF hk (hv hne)
      refine ⟨g', ?_, ?_, h3, h4, h5, h6⟩
      · simpa only [sealA, hk] using h1
      · simpa only [sealA, hk] using h2
    · simp at hd
  | _ => simp [toD] at hd

theorem seal_many : ∀ {cs : List CV} {vs : List Value} {ds : List DV} {g : Gh} {A : List Arr}, Inv g w V A → Fr w0 g0 w g → RepCs g w A cs vs → toDs A cs = some ds →
    ∃ g', Inv g' w V (sealAs A cs) ∧ Ext g w A g' w (sealAs A cs) ∧ Fr w0 g0 w g' ∧ g'.ar = g.ar ∧ g'.ob = g.ob ∧ ∀ (j : Nat) x u, ds[j]? = some x → vs[j]? = some u → RepD g'.im w x u
  | [], vs, ds, g, A, hI, hF, hr, hd => by
    simp [toDs] at hd; subst hd
    exact ⟨g, hI, .refl _ _ _, hF, rfl, rfl, fun j x u h => by simp at h⟩
  | c :: r, vs, ds, g, A, hI, hF, hr, hd => by
    cases vs with
    | nil => exact absurd hr.1 (by simp)
    | cons v vs =>
      simp only [toDs] at hd
      split at hd
      · rename_i d ds' h1 h2
        simp at hd; subst hd
        obtain ⟨g1, hI1, hx1, hF1, ha1, ho1, hd1⟩ := seal_one hI hF (hr.2 0 c v rfl rfl) h1
        have hr' : RepCs g1 w (sealA A c) r vs := ⟨by simpa using hr.1, fun j c' u h3 h4 => RepC.ext hx1 (hr.2 (j + 1) c' u (by simpa using h3) (by simpa using h4))⟩
        obtain ⟨g2, hI2, hx2, hF2, ha2, ho2, hd2⟩ := seal_many hI1 hF1 hr' (by rw [toDs_sealA]; exact h2)
        refine ⟨g2, hI2, hx1.trans hx2, hF2, ha2.trans ha1, ho2.trans ho1, fun j x u h3 h4 => ?_⟩
        cases j with
        | zero => simp at h3 h4; subst h3; subst h4; exact RepD.grows hx2.gr _ _ hd1
        | succ j => simp at h3 h4; exact hd2 j x u h3 h4
      · simp at hd

theorem toRows_spec : ∀ {rows : List (List CV)} {ds : List (List DV)}, toRows A rows = some ds → toDs A rows.flatten = some ds.flatten ∧ ds.length = rows.length ∧ ∀ (i : Nat) r d, rows[i]? = some r → ds[i]? = some d → d.length = r.length
  | [], ds, h => by simp [toRows] at h; subst h; exact ⟨rfl, rfl, fun i r d h => by simp at h⟩
  | c :: r, ds, h => by
    simp only [toRows] at h
    split at h
    · rename_i d ds' h1 h2
      simp at h; subst h
      obtain ⟨h3, h4, h5⟩ := toRows_spec h2
      refine ⟨?_, by simp [h4], fun i r' d' h6 h7 => ?_⟩
      · simp only [List.flatten_cons]
        have : ∀ (xs ys : List CV) (dx dy : List DV), toDs A xs = some dx → toDs A ys = some dy → toDs A (xs ++ ys) = some (dx ++ dy) := by
          intro xs
          induction xs with
          | nil => intro ys dx dy hx hy; simp [toDs] at hx; subst hx; simpa using hy
          | cons x xs ih =>
            intro ys dx dy hx hy
            simp only [toDs] at hx
            split at hx
            · rename_i d1 d2 h8 h9
              simp at hx; subst hx
              simp only [List.cons_append, toDs, h8, ih ys d2 dy h9 hy]
            · simp at hx
        exact this _ _ _ _ h1 h3
      · cases i with
        | zero => simp at h6 h7; subst h6; subst h7; exact toDs_len h1
        | succ i => simp at h6 h7; exact h5 i r' d' h6 h7
    · simp at h
end
end Go.Av
