/- One theorem for all operations but calls of Go functions: what 'wpo' asks, the run does. -/
import Derived.Test.YtdbffbmbbfbamaaA8
namespace Go.Av
open Go

section
variable {P : Program} {g g' g0 : Gh} {w w' w0 : World} {V V' : List (List CV)} {A A' : List Arr} {s : St} {a : Act} {K : AV → List (List CV) → List Arr → Prop}

theorem sound_append_nil (hI : Inv g w s.V s.A) (hF : Fr w0 g0 w g) {t e : TypeId} {d de : TD} (ht : td P t = some d) (hel : d.el = some e) (he : td P e = some de) {z : List CV} (hz : de.zero = some z) (hzl : z.length = de.sz) {u : Value}
    {y : AV} (hy : RepV g w s.A y u) {nr : List (List DV)} (hnr : rowsOf s.A y = some nr) (hl : ∀ r ∈ nr, r.length = de.sz) (hb : nr.length * de.by_ ≤ 140737488355328) (hm : nr.length ≤ 9223372036854775807) {ty : TypeId}
    (hK : K (.c (.own s.A.length nr.length)) s.V (s.A ++ [{ sz := de.sz, ety := e, rows := nr, wr := true }])) : Goes P w0 g0 g w s.A (do pure (.value (← Builtin.append_ #[t, t] ty #[.slice none 0 0, u]))) K := by
  obtain ⟨g1, hm1, ho1, ha1, hI1, hx1, hF1⟩ := hI.newArr hF { sz := de.sz, ety := e, rows := [], wr := true } (.slice none 0 0) [] (by simp) (World.ownsRow_nil w 0 e de.sz) (fun j x u h => by simp at h) (fun b h => by simp [Value.ownBlock] at h)
  have hk : (s.A ++ [({ sz := de.sz, ety := e, rows := [], wr := true } : Arr)])[s.A.length]? = some { sz := de.sz, ety := e, rows := [], wr := true } := by simp
  have hrows : rowsOf (s.A ++ [({ sz := de.sz, ety := e, rows := [], wr := true } : Arr)]) y = some nr := by
    cases y with
    | c c =>
      cases c with
      | own k n =>
        simp only [rowsOf] at hnr ⊢
        cases hk' : s.A[k]? with
        | none => simp [hk'] at hnr
        | some r => rw [List.getElem?_append_left (List.getElem?_eq_some_iff.1 hk').1, hk']; simpa only [hk'] using hnr
      | d x => cases x <;> exact hnr
      | _ => exact hnr
    | _ => exact hnr
  have := sound_append_own (P := P) (g := g1) (w := w) (w0 := w0) (g0 := g0) (s := { s with A := s.A ++ [{ sz := de.sz, ety := e, rows := [], wr := true }] }) (K := K) hI1 hF1 ht hel he hz hzl (k := s.A.length) (n := 0) (v := .slice none 0 0) (u := u)
    ⟨none, 0, rfl, _, hk, Nat.zero_le _, fun _ => by rw [ha1, List.getElem?_append_right (by rw [hI.arl]; exact Nat.le_refl _), hI.arl]; simp⟩ (RepV.ext hx1 hy) hrows hl hk rfl rfl rfl (by simpa using hb) (by simpa using hm) (ty := ty) (by
      simp only [Nat.zero_add, List.nil_append]
      have : (s.A ++ [({ sz := de.sz, ety := e, rows := [], wr := true } : Arr)]).set s.A.length { sz := de.sz, ety := e, rows := nr, wr := true } = s.A ++ [{ sz := de.sz, ety := e, rows := nr, wr := true }] := by simp
      rw [this]; exact hK)
  obtain ⟨x, V', A', nx, v, w', g', h1, h2, h3, h4, h5, h6, h7⟩ := this
  exact ⟨x, V', A', nx, v, w', g', h1, h2, h3, h4, h5, hx1.trans h6, h7⟩

theorem extract_bs (b : List UInt8) (i j : Nat) : (bs b).extract i j = bs ((b.take j).drop i) := by
  apply ByteArray.ext
  simp [bs, ByteArray.data_extract, List.extract_toArray, List.drop_take]

theorem oval_sound (hS : Slots g w s a) {o : Option Operand} {x : Option AV} (h : oval s o = some x) : (x = none ∧ o.map a.eval = none) ∨ ∃ v u, x = some v ∧ o.map a.eval = some u ∧ RepV g w s.A v u := by
  cases o with
  | none => simp [oval] at h; exact .inl ⟨h.symm, rfl⟩
  | some o =>
    simp only [oval, Option.map_eq_some_iff] at h
    obtain ⟨v, hv, rfl⟩ := h
    exact .inr ⟨v, _, rfl, rfl, aval_sound hS hv⟩

theorem run_bounds (isSl : Bool) (len cap : Nat) (hlc : len ≤ cap) {lo hi : Option AV} {vl vh : Option Value} (hlo : (lo = none ∧ vl = none) ∨ ∃ v u, lo = some v ∧ vl = some u ∧ RepV g w A v u) (hhi : (hi = none ∧ vh = none) ∨ ∃ v u, hi = some v ∧ vh = some u ∧ RepV g w A v u)
    {i j : Int} (hi0 : slow lo = some i) (hj0 : shigh hi len = some j) (h0 : 0 ≤ i) (h1 : i ≤ j) (h2 : j ≤ len) : (Instr.sliceBounds isSl len cap vl vh none).run P w = .ok (i.toNat, j.toNat, cap) w := by
  have hj1 : j ≤ (cap : Int) := by omega
  have hj2 : 0 ≤ j := by omega
  have hb : ∀ {lo : Option AV} {vl : Option Value} {i : Int}, ((lo = none ∧ vl = none) ∨ ∃ v u, lo = some v ∧ vl = some u ∧ RepV g w A v u) → slow lo = some i → (vl = none ∧ i = 0) ∨ ∃ k, vl = some (.int k i) := by
    intro lo vl i h hs
    rcases h with ⟨rfl, rfl⟩ | ⟨v, u, rfl, rfl, hr⟩
    · simp [slow] at hs; exact .inl ⟨rfl, hs.symm⟩
    · unfold slow at hs
      split at hs
      · rename_i heq; simp at heq
      · rename_i k n heq
        simp at heq hs; subst heq; subst hs
        simp only [RepV, RepE, RepC, RepD] at hr
        exact .inr ⟨k, by rw [hr]⟩
      · simp at hs
  have hh : (vh = none ∧ j = len) ∨ ∃ k, vh = some (.int k j) := by
    rcases hhi with ⟨rfl, rfl⟩ | ⟨v, u, rfl, rfl, hr⟩
    · simp [shigh] at hj0; exact .inl ⟨rfl, hj0.symm⟩
    · unfold shigh at hj0
      split at hj0
      · rename_i heq; simp at heq
      · rename_i k n heq
        simp at heq hj0; subst heq; subst hj0
        simp only [RepV, RepE, RepC, RepD] at hr
        exact .inr ⟨k, by rw [hr]⟩
      · simp at hj0
  have hjn : (j.toNat : Int) = j := Int.toNat_of_nonneg hj2
  rcases hb hlo hi0 with ⟨rfl, rfl⟩ | ⟨k, rfl⟩ <;> rcases hh with ⟨rfl, rfl⟩ | ⟨k', rfl⟩
  · simp [Instr.sliceBounds]
  · simp [Instr.sliceBounds, run_sliceBound w k' j cap _ hj2 hj1]
  · simp [Instr.sliceBounds, run_sliceBound w k i len _ h0 (by omega)]
  · simp [Instr.sliceBounds, run_sliceBound w k' j cap _ hj2 hj1, run_sliceBound w k i j.toNat _ h0 (by omega)]

theorem sound_slice_str (hI : Inv g w s.V s.A) (hF : Fr w0 g0 w g) (hS : Slots g w s a) {t : TypeId} {d : TD} (ht : td P t = some d) (hd : d.isS = true) {b : List UInt8} {v : Value} (hv : RepV g w s.A (.c (.d (.str b))) v) {lo hi : Option Operand} {l h : Option AV} (hl : oval s lo = some l) (hh : oval s hi = some h)
    {i j : Int} (hi0 : slow l = some i) (hj0 : shigh h b.length = some j) (h0 : 0 ≤ i) (h1 : i ≤ j) (h2 : j ≤ b.length) (hK : K (.c (.d (.str ((b.take j.toNat).drop i.toNat)))) s.V s.A) :
    Goes P w0 g0 g w s.A (do pure (.value (← Instr.sliceAt t v (lo.map a.eval) (hi.map a.eval) none))) K := by
  simp only [RepV, RepE, RepC, RepD] at hv
  subst hv
  have hu := td_isS ht hd
  have hb := run_bounds (P := P) (g := g) (w := w) (A := s.A) false (bs b).size (bs b).size (Nat.le_refl _) (oval_sound hS hl) (oval_sound hS hh) hi0 (by rw [bs_size]; exact hj0) h0 h1 (by rw [bs_size]; exact h2)
  refine Goes.value hI hF (run_value ?_) (x := .c (.d (.str ((b.take j.toNat).drop i.toNat)))) (v := .string (bs ((b.take j.toNat).drop i.toNat))) rfl hK
  rw [run_sliceAt_string w t _ _ _ _ hu]
  simp [Instr.slice, run_underlying hu, hb, extract_bs]

theorem rowsOf_repD (hI : Inv g w V A) (hF : Fr w0 g0 w g) {v : AV} {u : Value} (hv : RepV g w A v u) {rows : List (List DV)} (h : rowsOf A v = some rows) :
    ∃ g', Inv g' w V (sealAs A v.cells) ∧ Ext g w A g' w (sealAs A v.cells) ∧ Fr w0 g0 w g' ∧ RepD g'.im w (.sl rows) u := by
  cases v with
  | c c =>
    have hd : toD A c = some (.sl rows) := by
      cases c with
      | d x => cases x <;> simp [rowsOf] at h; subst h; rfl
      | nil => simp [rowsOf] at h; subst h; rfl
      | own k n =>
        simp only [rowsOf] at h
        simp only [toD]
        split at h
        · split at h
          · simp at h; subst h; simp [*]
          · simp at h
        · simp at h
      | _ => simp [rowsOf] at h
    obtain ⟨g', h1, h2, h3, _, _, h6⟩ := seal_one hI hF hv hd
    exact ⟨g', h1, h2, h3, h6⟩
  | _ => simp [rowsOf] at h

theorem sound_slice_rows (hI : Inv g w s.V s.A) (hF : Fr w0 g0 w g) (hS : Slots g w s a) {t e : TypeId} {d de : TD} (ht : td P t = some d) (hel : d.el = some e) (he : td P e = some de) {x : AV} {v : Value} (hv : RepV g w s.A x v) {rows : List (List DV)} (hr : rowsOf s.A x = some rows) {lo hi : Option Operand} {l h : Option AV} (hl : oval s lo = some l) (hh : oval s hi = some h)
    {i j : Int} (hi0 : slow l = some i) (hj0 : shigh h rows.length = some j) (h0 : 0 ≤ i) (h1 : i ≤ j) (h2 : j ≤ rows.length) (hsz : ∀ r ∈ rows, r.length = de.sz) (hK : K (.c (.d (.sl ((rows.take j.toNat).drop i.toNat)))) s.V (sealAs s.A x.cells)) :
    Goes P w0 g0 g w s.A (do pure (.value (← Instr.sliceAt t v (lo.map a.eval) (hi.map a.eval) none))) K := by
  obtain ⟨g', hI', hx', hF', hd⟩ := rowsOf_repD hI hF hv hr
  have hu := td_el ht hel
  obtain ⟨inf, hi1, hsz1, _, _⟩ := td_info he
  simp only [RepD] at hd
  obtain ⟨ad, cap, rfl, hlc, hrr⟩ := hd
  have hb := run_bounds (P := P) (g := g) (w := w) (A := s.A) true rows.length cap hlc (oval_sound hS hl) (oval_sound hS hh) hi0 hj0 h0 h1 h2
  have hrun : (Instr.sliceAt t (.slice ad rows.length cap) (lo.map a.eval) (hi.map a.eval) none).run P w = .ok (.slice (if cap = i.toNat then ad else ad.map (·.add (i.toNat * de.sz))) (j.toNat - i.toNat) (cap - i.toNat)) w := by
    simp [Instr.sliceAt, Instr.slice, run_underlying hu, hb, sizeOf, typeInfo, hi1, hsz1]
  refine ⟨_, _, _, _, _, _, g', hK, run_value hrun, .inl rfl, ?_, hI', hx', hF'⟩
  simp only [RepV, RepE, RepC, RepD]
  have hlen : ((rows.take j.toNat).drop i.toNat).length = j.toNat - i.toNat := by simp; omega
  refine ⟨_, _, by rw [hlen], by rw [hlen]; omega, ?_⟩
  by_cases hne : (rows.take j.toNat).drop i.toNat = []
  · exact .inl hne
  · have hpos : 0 < j.toNat - i.toNat := by rw [← hlen]; exact List.length_pos_iff.2 hne
    rcases hrr with rfl | ⟨b, off, sz, rfl, him, hrr⟩
    · simp at hne
    · have hsz' : sz = de.sz := by
        cases rows with
        | nil => simp at hne
        | cons r rs => simp only [RepRows] at hrr; have := hsz r (by simp); omega
      subst hsz'
      have hmul : (i.toNat + (j.toNat - i.toNat)) * de.sz ≤ rows.length * de.sz := Nat.mul_le_mul_right _ (by omega)
      rw [Nat.add_mul] at hmul
      refine .inr ⟨b, off + i.toNat * de.sz, de.sz, by rw [if_neg (by omega)]; simp [addr_add], by rw [hlen]; omega, RepRows.mk fun q r hq => ?_⟩
      have hq' : rows[i.toNat + q]? = some r := by
        rw [List.getElem?_drop, List.getElem?_take] at hq
        split at hq
        · exact hq
        · cases hq
      have := RepRows.at_ hrr hq'
      rwa [Nat.add_mul, ← Nat.add_assoc] at this

theorem onv_elim {α : Type} {o : Option α} {k : α → Prop} {Q : Prop} (h : onv o k) (f : ∀ v, o = some v → k v → Q) : Q := by
  obtain ⟨v, h1, h2⟩ := onv_some h
  exact f v h1 h2

theorem caps_sound (hI : Inv g w V A) : ∀ {cs : List AV} {ls : List Nat} {vs : List Value}, caps cs = some ls → vs.length = cs.length → (∀ (j : Nat) c u, cs[j]? = some c → vs[j]? = some u → RepV g w A c u) →
    ∃ bks : List Nat, vs = bks.map (fun b => Value.pointer (some ⟨b, 0, none⟩)) ∧ bks.length = ls.length ∧ ∀ (i l b : Nat), ls[i]? = some l → bks[i]? = some b → g.ob[l]? = some b
  | [], ls, vs, h, hl, _ => by
    simp [caps] at h; subst h
    have : vs = [] := List.eq_nil_of_length_eq_zero (by simpa using hl)
    subst this
    exact ⟨[], rfl, rfl, fun i l b h => by simp at h⟩
  | c :: r, ls, vs, h, hl, hr => by
    cases vs with
    | nil => simp at hl
    | cons v vs =>
      unfold caps at h
      split at h
      · rename_i heq; simp at heq
      · rename_i l r' heq
        simp at heq
        obtain ⟨rfl, rfl⟩ := heq
        simp only [Option.map_eq_some_iff] at h
        obtain ⟨ls', h1, rfl⟩ := h
        obtain ⟨b, hb, hv⟩ : ∃ b, g.ob[l]? = some b ∧ v = .pointer (some ⟨b, 0, none⟩) := hr 0 _ v rfl rfl
        obtain ⟨bks, h2, h3, h4⟩ := caps_sound hI h1 (vs := vs) (by simpa using hl) (fun j c u h5 h6 => hr (j + 1) c u (by simpa using h5) (by simpa using h6))
        refine ⟨b :: bks, by simp [hv, h2], by simp [h3], fun i l' b' h5 h6 => ?_⟩
        cases i with
        | zero => simp at h5 h6; subst h5; subst h6; exact hb
        | succ i => simp at h5 h6; exact h4 i l' b' h5 h6
      · simp at h

theorem avals_sound (hS : Slots g w s a) : ∀ {os : List Operand} {xs : List AV}, avals s os = some xs → xs.length = os.length ∧ ∀ (j : Nat) x u, xs[j]? = some x → (os.map a.eval)[j]? = some u → RepV g w s.A x u
  | [], xs, h => by simp [avals] at h; subst h; exact ⟨rfl, fun j x u h => by simp at h⟩
  | o :: r, xs, h => by
    simp only [avals] at h
    split at h
    · rename_i v l h1 h2
      simp at h; subst h
      obtain ⟨h3, h4⟩ := avals_sound hS h2
      refine ⟨by simp [h3], fun j x u h5 h6 => ?_⟩
      cases j with
      | zero => simp at h5 h6; subst h5; subst h6; exact aval_sound hS h1
      | succ j => simp at h5 h6; exact h4 j x u h5 (by simpa using h6)
    · simp at h

theorem alen_sound {v : AV} {u : Value} {n : Nat} (hv : RepV g w A v u) (h : alen v = some n) : (∃ b, v = .c (.d (.str b)) ∧ u = .string (bs b) ∧ n = b.length) ∨ ((∀ b, v ≠ .c (.d (.str b))) ∧ ∃ a c, u = .slice a n c) := by
  unfold alen at h
  split at h
  · rename_i b
    simp at h; subst h
    exact .inl ⟨b, rfl, hv, rfl⟩
  · simp at h; subst h
    simp only [RepV, RepE, RepC, RepD] at hv
    obtain ⟨a, c, rfl, _⟩ := hv
    exact .inr ⟨by simp, a, c, rfl⟩
  · simp at h; subst h
    simp only [RepV, RepE, RepC] at hv
    exact .inr ⟨by simp, none, 0, hv⟩
  · simp at h; subst h
    obtain ⟨a, c, rfl, _⟩ := hv
    exact .inr ⟨by simp, a, c, rfl⟩
  · simp at h

set_option maxHeartbeats 1000000 in
/-- WHAT 'wpo' ASKS, THE RUN DOES. -/
theorem wpo_sound (hI : Inv g w s.V s.A) (hF : Fr w0 g0 w g) (hS : Slots g w s a) {ow : Bool} {o : Oper} (h : wpo P s ow o.op K) : Goes P w0 g0 g w s.A (execOp a.eval o) K := by
  obtain ⟨dst, op, type, pos, after, guard⟩ := o
  simp only at h
  cases op with
  | move x =>
    refine onv_elim h fun v h1 h2 => ?_
    exact Goes.value hI hF (m := execOp a.eval ⟨dst, .move x, type, pos, after, guard⟩) rfl (aval_sound hS h1) h2
  | assign x =>
    refine onv_elim h fun v h1 h2 => ?_
    exact Goes.value hI hF (m := execOp a.eval ⟨dst, .assign x, type, pos, after, guard⟩) rfl (aval_sound hS h1) h2
  | pick c x y =>
    refine onv_elim h fun v h1 h2 => ?_
    have hc := aval_sound hS h1
    split at h2
    · rename_i t
      simp only [RepV, RepE, RepC, RepD] at hc
      have hrun : ∀ u, (if t then a.eval x else a.eval y) = u → (execOp a.eval ⟨dst, .pick c x y, type, pos, after, guard⟩).run P w = .ok (.value u) w := fun u hu => by
        simp [execOp, hc, asBool, hu]
      cases t with
      | true => simp only [if_true] at h2; exact onv_elim h2 fun v h3 h4 => Goes.value hI hF (hrun _ rfl) (aval_sound hS h3) h4
      | false => simp only [Bool.false_eq_true, if_false] at h2; exact onv_elim h2 fun v h3 h4 => Goes.value hI hF (hrun _ rfl) (aval_sound hS h3) h4
    · exact h2.elim
  | alloc e => exact onv_elim h fun d h1 h2 => onv_elim h2 fun z h3 h4 => sound_alloc hI hF h1 h3 h4
  | box e x => exact onv_elim h fun v h1 h2 => sound_box hI hF (aval_sound hS h1) h2.1 h2.2
  | build t parts => exact onv_elim h fun d h1 h2 => onv_elim h2 fun z h3 h4 => onv_elim h4 fun ps h5 h6 => onv_elim h6 fun cs h7 h8 => sound_build hI hF hS h1 h3 h8.2.1 h5 h7 h8.2.2
  | buildSlice t len parts =>
    exact onv_elim h fun d h1 h2 => onv_elim h2 fun e h3 h4 => onv_elim h4 fun de h5 h6 => onv_elim h6 fun rows h7 h8 => onv_elim h8 fun ds h9 h10 => sound_buildSlice hI hF hS h1 h3 h5 h7 h9 h10.1 h10.2.1 h10.2.2.1 h10.2.2.2.1 h10.2.2.2.2
  | load t x =>
    refine onv_elim h fun d h1 h2 => onv_elim h2 fun p h3 h4 => ?_
    split at h4
    · exact onv_elim h4 fun cs h5 h6 => onv_elim h6 fun v h7 h8 => sound_load hI hF h1 (aval_sound hS h3) h5 h7 h8
    · exact h4.elim
  | store t x y =>
    refine onv_elim h fun d h1 h2 => onv_elim h2 fun p h3 h4 => onv_elim h4 fun v h5 h6 => ?_
    obtain ⟨h7, h8, h9⟩ := h6
    split at h9
    · exact onv_elim h9 fun row h10 h11 => sound_store_obj hI hF h1 (aval_sound hS h3) (aval_sound hS h5) h7 h8 h10 h11.1 h11.2
    · refine onv_elim h9 fun r h10 h11 => ?_
      obtain ⟨h12, h13, h14⟩ := h11
      exact onv_elim h14 fun row h15 h16 => onv_elim h16 fun ds h17 h18 => sound_store_arr hI hF h1 (aval_sound hS h3) (aval_sound hS h5) h7 h8 h10 h12 h13 h15 h17 h18.1 h18.2.1 h18.2.2
    · exact h9.elim
  | nilCheck x =>
    refine onv_elim h fun v h1 h2 => ?_
    have hv := aval_sound hS h1
    split at h2
    · obtain ⟨b, hb, e⟩ := hv
      exact Goes.value hI hF (v := a.eval x) (by simp only [execOp, e]; rfl) (aval_sound hS h1) h2
    · obtain ⟨b, o, e, _⟩ := hv
      exact Goes.value hI hF (v := a.eval x) (by simp only [execOp, e]; rfl) (aval_sound hS h1) h2
    · obtain ⟨b, o, e, _⟩ := hv
      exact Goes.value hI hF (v := a.eval x) (by simp only [execOp, e]; rfl) (aval_sound hS h1) h2
    · obtain ⟨b, e, _⟩ := hv
      exact Goes.value hI hF (v := a.eval x) (by simp only [execOp, e]; rfl) (aval_sound hS h1) h2
    · exact h2.elim
  | binOp op t x y t' =>
    refine onv_elim h fun u h1 h2 => onv_elim h2 fun v h3 h4 => ?_
    split at h4
    · rename_i r hr
      obtain ⟨z, h5, h6⟩ := run_binOp_av (P := P) (t := t) (ox := x) (oy := y) (aval_sound hS h1) (aval_sound hS h3) hr
      exact Goes.value hI hF (run_value h5) h6 h4
    · split at h4
      · rename_i r hr
        obtain ⟨z, h5, h6⟩ := run_binOpS_av (P := P) (t := t) (ox := x) (oy := y) (aval_sound hS h1) (aval_sound hS h3) hr
        exact Goes.value hI hF (run_value h5) h6 h4
      refine onv_elim h4 fun r h5 h6 => onv_elim h6 fun d h7 h8 => ?_
      obtain ⟨z, h9, h10⟩ := run_binOpB_av (P := P) (ox := x) (oy := y) h7 h8.1 (aval_sound hS h1) (aval_sound hS h3) h5
      exact Goes.value hI hF (run_value h9) h10 h8.2
  | unOp op t x =>
    refine onv_elim h fun u h1 h2 => onv_elim h2 fun r h3 h4 => ?_
    obtain ⟨z, h5, h6⟩ := run_un_av (P := P) (aval_sound hS h1) h3
    exact Goes.value hI hF (run_value h5) h6 h4
  | convert src dst x =>
    refine onv_elim h fun u h1 h2 => onv_elim h2 fun ds h3 h4 => onv_elim h4 fun dd h5 h6 => ?_
    have hv := aval_sound hS h1
    split at h6
    · rename_i k n
      refine onv_elim h6 fun k' h7 h8 => ?_
      simp only [RepV, RepE, RepC, RepD] at hv
      obtain ⟨de, i, hu, _⟩ := td_inv h3
      refine Goes.value hI hF (v := .int k' (k'.wrap n)) (run_value ?_) (x := .c (.d (.int k' (k'.wrap n)))) rfl h8
      rw [hv]
      simp [convert, run_underlying hu, run_underlying (td_ik h5 h7), Conv.intToInt]
    · rename_i b
      simp only [RepV, RepE, RepC, RepD] at hv
      refine Goes.value hI hF (v := .string (bs b)) (run_value ?_) (x := .c (.d (.str b))) rfl h6.2.2
      rw [hv]
      simp [convert, run_underlying (td_isS h3 h6.2.1), run_underlying (td_isS h5 h6.1)]
    · rename_i rows
      obtain ⟨h7, h8⟩ := h6
      exact onv_elim h8 fun e h9 h10 => onv_elim h10 fun de h11 h12 => onv_elim h12.2 fun b h13 h14 => Goes.value hI hF (v := .string (bs b)) (run_value (sound_bytes (g := g) h3 h5 h7 h9 h11 h12.1 hv h13)) (x := .c (.d (.str b))) rfl h14
    · exact h6.elim
  | makeFunc fn first captured =>
    cases fn with
    | func f =>
      obtain ⟨h1, h2⟩ := h
      refine onv_elim h2 fun cs h3 h4 => onv_elim h4 fun ls h5 h6 => ?_
      obtain ⟨h7, h8⟩ := avals_sound hS h3
      obtain ⟨bks, h9, h10, h11⟩ := caps_sound hI h5 (vs := captured.toList.map a.eval) (by simp [h7]) h8
      have hf : first.map a.eval = #[] := by
        have : first = #[] := Array.eq_empty_of_size_eq_zero h1
        simp [this]
      have hc : captured.map a.eval = (bks.map fun b => Value.pointer (some ⟨b, 0, none⟩)).toArray := by
        rw [← h9, ← Array.toList_map, Array.toArray_toList]
      exact Goes.value hI hF (v := .func (.func f) #[] (bks.map fun b => Value.pointer (some ⟨b, 0, none⟩)).toArray) (by simp [execOp, Instr.makeFunc, hf, hc]) (x := .c (.fn f ls)) ⟨bks, rfl, h10, h11⟩ h6
    | _ => exact h.elim
  | makeSlice t l c =>
    refine onv_elim h fun d h1 h2 => onv_elim h2 fun e h3 h4 => onv_elim h4 fun de h5 h6 => onv_elim h6 fun z h7 h8 => onv_elim h8 fun dz h9 h10 => onv_elim h10 fun vl h11 h12 => onv_elim h12 fun vc h13 h14 => ?_
    have e1 := aval_sound hS h11
    have e2 := aval_sound hS h13
    split at h14
    · rename_i kl n kc m
      simp only [RepV, RepE, RepC, RepD] at e1 e2
      obtain ⟨rfl, h15, h16, h17, h18, h19, h20⟩ := h14
      have := sound_makeSlice (P := P) (K := K) hI hF h1 h3 h5 h7 h9 (kl := kl) (kc := kc) h15 h16 h17 h18 h19 h20
      simpa only [execOp, e1, e2] using this
    · exact h14.elim
  | slice t x lo hi mx =>
    obtain ⟨rfl, h⟩ := h
    refine onv_elim h fun d h1 h2 => onv_elim h2 fun v h3 h4 => onv_elim h4 fun l h5 h6 => onv_elim h6 fun hh h7 h8 => ?_
    have hv := aval_sound hS h3
    split at h8
    · obtain ⟨h9, h10⟩ := h8
      exact onv_elim h10 fun i h11 h12 => onv_elim h12 fun j h13 h14 => sound_slice_str hI hF hS h1 h9 hv h5 h7 h11 h13 h14.1 h14.2.1 h14.2.2.1 h14.2.2.2
    · exact onv_elim h8 fun rows h9 h10 => onv_elim h10 fun e h11 h12 => onv_elim h12 fun de h13 h14 => onv_elim h14 fun i h15 h16 => onv_elim h16 fun j h17 h18 =>
        sound_slice_rows hI hF hS h1 h11 h13 hv h9 h5 h7 h15 h17 h18.1 h18.2.1 h18.2.2.1 h18.2.2.2.1 h18.2.2.2.2
  | fieldAddr t x f =>
    refine onv_elim h fun d h1 h2 => onv_elim h2 fun fo h3 h4 => ?_
    obtain ⟨off, sz⟩ := fo
    obtain ⟨h5, h6⟩ := h4
    refine onv_elim h6 fun v h7 h8 => ?_
    have hv := aval_sound hS h7
    have hrun := fun b o => run_fieldAt_av (P := P) (w := w) h1 h3 h5 b o
    split at h8
    · rename_i l o
      obtain ⟨b, hb, e⟩ := hv
      exact Goes.value hI hF (v := .pointer (some ⟨b, o + off, none⟩)) (run_value (by rw [e]; exact hrun b o)) (x := .c (.ptr l (o + off))) ⟨b, hb, rfl⟩ h8
    · rename_i r o
      obtain ⟨b, o', e, h9, h10⟩ := hv
      exact Goes.value hI hF (v := .pointer (some ⟨b, o' + o + off, none⟩)) (run_value (by rw [e]; exact hrun b _)) (x := .c (.ip r (o + off))) ⟨b, o', by rw [Nat.add_assoc], h9, h10⟩ h8
    · rename_i k n i o
      obtain ⟨b, e', e, r, h9, h10, h11⟩ := hv
      refine Goes.value hI hF (v := .pointer (some ⟨b, e' + off, none⟩)) (run_value (by rw [e]; exact hrun b _)) (x := .c (.op k n i (o + off))) ⟨b, e' + off, rfl, r, h9, h10, fun h12 => ?_⟩ h8
      obtain ⟨cap, h13, h14⟩ := h11 h12
      exact ⟨cap, h13, by omega⟩
    · exact h8.elim
  | indexAddr t x ix =>
    refine onv_elim h fun d h1 h2 => onv_elim h2 fun v h3 h4 => onv_elim h4 fun i h5 h6 => ?_
    have hv := aval_sound hS h3
    have hix := aval_sound hS h5
    split at h6
    · rename_i k n
      simp only [RepV, RepE, RepC, RepD] at hix
      obtain ⟨h0, h6⟩ := h6
      split at h6
      · rename_i rows
        refine onv_elim h6 fun e h7 h8 => onv_elim h8 fun de h9 h10 => onv_elim h10 fun row h11 h12 => ?_
        simp only [RepV, RepE, RepC, RepD] at hv
        obtain ⟨ad, cap, e1, hlc, hr⟩ := hv
        have hlt := (List.getElem?_eq_some_iff.1 h11).1
        rcases hr with rfl | ⟨b, off, sz, rfl, him, hrr⟩
        · simp at h11
        · obtain ⟨h13, h14⟩ := RepRows.at_ hrr h11
          have hsz : sz = de.sz := by omega
          subst hsz
          have hmul : (n.toNat + 1) * de.sz ≤ rows.length * de.sz := Nat.mul_le_mul_right _ hlt
          rw [Nat.add_mul, Nat.one_mul] at hmul
          exact Goes.value hI hF (v := .pointer (some ⟨b, off + n.toNat * de.sz, none⟩)) (run_value (by rw [e1, hix]; exact run_indexAt_sl h1 h7 h9 h0 hlt)) (x := .c (.ip row 0)) ⟨b, off + n.toNat * de.sz, rfl, by omega, h14⟩ h12.2
      · rename_i k' m
        refine onv_elim h6 fun e h7 h8 => onv_elim h8 fun de h9 h10 => onv_elim h10 fun r h11 h12 => ?_
        obtain ⟨h13, h14, h15, h16⟩ := h12
        obtain ⟨ad, cap, e1, r', hk', hn, hq⟩ := hv
        obtain rfl : r = r' := by rw [h11] at hk'; exact Option.some.inj hk'
        have hv0 := hq h13
        obtain ⟨_, _, xs, hown, _⟩ := hI.arr k' r _ h11 hv0
        rcases hown.2 with ⟨e2, e3⟩ | ⟨b, cap', cur, e2, _⟩
        · omega
        · have e4 : a.eval x = .slice (some ⟨b, 0, none⟩) m cap' := by rw [e2, h13]
          refine Goes.value hI hF (v := .pointer (some ⟨b, 0 + n.toNat * de.sz, none⟩)) (run_value (by rw [e4, hix]; exact run_indexAt_sl h1 h7 h9 h0 h14)) (x := .c (.op k' m n.toNat 0)) ⟨b, _, rfl, r, h11, hn, fun _ => ⟨cap', by rw [← e4]; exact hv0, by rw [h15]; omega⟩⟩ h16
      · rename_i l off
        refine onv_elim h6 fun le h7 h8 => ?_
        obtain ⟨len, e⟩ := le
        refine onv_elim h8 fun de h9 h10 => ?_
        obtain ⟨b, hb, e1⟩ := hv
        exact Goes.value hI hF (v := .pointer (some ⟨b, off + n.toNat * de.sz, none⟩)) (run_value (by rw [e1, hix]; exact run_indexAt_ar h1 h7 h9 h0 h10.1)) (x := .c (.ptr l (off + n.toNat * de.sz))) ⟨b, hb, rfl⟩ h10.2
      · exact h6.elim
    · exact h6.elim
  | index t x ix =>
    refine onv_elim h fun d h1 h2 => onv_elim h2 fun v h3 h4 => onv_elim h4 fun i h5 h6 => ?_
    have hv := aval_sound hS h3
    have hix := aval_sound hS h5
    split at h6
    · rename_i b k n
      simp only [RepV, RepE, RepC, RepD] at hv hix
      obtain ⟨h7, h0, h8⟩ := h6
      refine onv_elim h8 fun c h9 h10 => ?_
      refine Goes.value hI hF (v := .int .u8 c.toNat) (run_value ?_) (x := .c (.d (.int .u8 c.toNat))) rfl h10
      have hlt := (List.getElem?_eq_some_iff.1 h9).1
      have hc : (bs b)[n.toNat]? = some c := by
        have : n.toNat < (bs b).size := by rw [bs_size]; exact hlt
        rw [getElem?_pos (bs b) n.toNat this]
        exact congrArg some (List.getElem?_eq_some_iff.1 h9).2
      rw [hv, hix]
      simp [Instr.index, asIntOf, run_underlying (td_isS h1 h7), h0, hc]
    · exact h6.elim
  | extract x i =>
    refine onv_elim h fun v h1 h2 => ?_
    have hv := aval_sound hS h1
    split at h2
    · rename_i xs
      refine onv_elim h2 fun u h3 h4 => ?_
      obtain ⟨vs, e, hl, hr⟩ := hv
      have hlt := (List.getElem?_eq_some_iff.1 h3).1
      have hvi : vs[i]? = some (vs[i]'(by omega)) := List.getElem?_eq_getElem (by omega)
      have hru := hr i u _ h3 hvi
      have hrun : (execOp a.eval ⟨dst, .extract x i, type, pos, after, guard⟩).run P w = .ok (.value (vs[i]'(by omega))) w := run_value (by
        rw [e]
        simp [Instr.extract, hvi])
      split at h4
      · exact h4.elim
      · rename_i hnt
        refine Goes.value hI hF hrun (x := u) ?_ h4
        cases u with
        | tup ys => exact absurd rfl (hnt ys)
        | _ => exact hru
    · exact h2.elim
  | call c =>
    obtain ⟨callee, args, argTypes⟩ := c
    cases callee with
    | builtin b =>
      obtain ⟨consts, hres⟩ : ∃ consts, ∀ w, (execOp a.eval ⟨dst, .call ⟨.builtin b, args, argTypes⟩, type, pos, after, guard⟩).run P w = (builtin b argTypes type consts (args.map a.eval)).run P w :=
        ⟨_, fun w => by simp only [execOp, resolve, Sem.run_bind, Sem.run_pure, Result.andThen_ok, invoke]; rfl⟩
      cases b with
      | len =>
        refine onv_elim h fun x h1 h2 => onv_elim h2 fun v h3 h4 => onv_elim h4 fun t h5 h6 => onv_elim h6 fun d h7 h8 => onv_elim h8 fun n h9 h10 => ?_
        obtain ⟨_, h12, h13⟩ := h10
        have hv := aval_sound hS h3
        refine Goes.value hI hF (v := .int .i64 n) ((hres w).trans (run_value ?_)) (x := .c (.d (.int .i64 n))) rfl h13
        have ha : (args.map a.eval)[0]? = some (a.eval x) := by simp [h1]
        rcases alen_sound hv h9 with ⟨b, rfl, h14, h15⟩ | ⟨h14, ad, cp, h15⟩
        · simp only at h12
          simp [Builtin.len_, h5, ha, h14, run_underlying (td_isS h7 h12), goInt, bs_size, h15]
        · have hel : d.el.isSome = true := by
            split at h12
            · rename_i b; exact absurd rfl (h14 b)
            · exact h12
          obtain ⟨e, he⟩ := Option.isSome_iff_exists.1 hel
          simp [Builtin.len_, h5, ha, h15, run_underlying (td_el h7 he), goInt]
      | append =>
        refine onv_elim h fun x h1 h2 => onv_elim h2 fun y h3 h4 => onv_elim h4 fun t h5 h6 => ?_
        obtain ⟨h7, h8⟩ := h6
        refine onv_elim h8 fun d h9 h10 => onv_elim h10 fun e h11 h12 => onv_elim h12 fun de h13 h14 => ?_
        obtain ⟨_, h16, h17⟩ := h14
        refine onv_elim h16 fun z hz hzl => onv_elim h17 fun v h18 h19 => onv_elim h19 fun u h20 h21 => onv_elim h21 fun nr h22 h23 => ?_
        obtain ⟨h24, h25⟩ := h23
        have hv := aval_sound hS h18
        have hu := aval_sound hS h20
        have hargs : ∀ w, (builtin .append argTypes type consts (args.map a.eval)).run P w = (do pure (.value (← Builtin.append_ #[t, t] type #[a.eval x, a.eval y])) : Sem Next).run P w := fun w => by
          have ha : (args.map a.eval)[0]? = some (a.eval x) := by simp [h1]
          have hb : (args.map a.eval)[1]? = some (a.eval y) := by simp [h3]
          simp only [builtin, Builtin.append_, h5, h7, ha, hb]
          rfl
        have back : Goes P w0 g0 g w s.A (do pure (.value (← Builtin.append_ #[t, t] type #[a.eval x, a.eval y]))) K → Goes P w0 g0 g w s.A (execOp a.eval ⟨dst, .call ⟨.builtin .append, args, argTypes⟩, type, pos, after, guard⟩) K := by
          rintro ⟨x', V', A', nx, v', w', g', k1, k2, k3⟩
          exact ⟨x', V', A', nx, v', w', g', k1, (hres w).trans ((hargs w).trans k2), k3⟩
        split at h25
        · rename_i k n
          refine onv_elim h25 fun r h26 h27 => ?_
          exact back (sound_append_own hI hF h9 h11 h13 hz hzl hv hu h22 h24 h26 h27.1 h27.2.1 h27.2.2.1 h27.2.2.2.1 h27.2.2.2.2.1 h27.2.2.2.2.2)
        · simp only [RepV, RepE, RepC] at hv
          refine back ?_
          rw [hv]
          exact sound_append_nil hI hF h9 h11 h13 hz hzl hu h22 h24 h25.1 h25.2.1 h25.2.2
        · exact h25.elim
      | max =>
        refine onv_elim h fun x h1 h2 => onv_elim h2 fun y h3 h4 => ?_
        obtain ⟨h5, h6⟩ := h4
        refine onv_elim h6 fun v h7 h8 => onv_elim h8 fun u h9 h10 => ?_
        have hv := aval_sound hS h7
        have hu := aval_sound hS h9
        split at h10
        · rename_i k p k' q
          simp only [RepV, RepE, RepC, RepD] at hv hu
          have hargs : args.map a.eval = #[.int k p, .int k' q] := by
            apply Array.ext
            · simp [h5]
            · intro i hi1 hi2
              simp at hi1 hi2
              match i, hi2 with
              | 0, _ => simp [Array.getElem?_eq_some_iff] at h1; obtain ⟨_, e⟩ := h1; simp [e, hv]
              | 1, _ => simp [Array.getElem?_eq_some_iff] at h3; obtain ⟨_, e⟩ := h3; simp [e, hu]
          refine Goes.value hI hF (v := .int k (if q > p then q else p)) ((hres w).trans (run_value ?_)) (x := .c (.d (.int k (if q > p then q else p)))) rfl h10
          rw [hargs]; exact run_max_int2 w _ _ k k' p q
        · exact h10.elim
      | min =>
        refine onv_elim h fun x h1 h2 => onv_elim h2 fun y h3 h4 => ?_
        obtain ⟨h5, h6⟩ := h4
        refine onv_elim h6 fun v h7 h8 => onv_elim h8 fun u h9 h10 => ?_
        have hv := aval_sound hS h7
        have hu := aval_sound hS h9
        split at h10
        · rename_i k p k' q
          simp only [RepV, RepE, RepC, RepD] at hv hu
          have hargs : args.map a.eval = #[.int k p, .int k' q] := by
            apply Array.ext
            · simp [h5]
            · intro i hi1 hi2
              simp at hi1 hi2
              match i, hi2 with
              | 0, _ => simp [Array.getElem?_eq_some_iff] at h1; obtain ⟨_, e⟩ := h1; simp [e, hv]
              | 1, _ => simp [Array.getElem?_eq_some_iff] at h3; obtain ⟨_, e⟩ := h3; simp [e, hu]
          refine Goes.value hI hF (v := .int k (if q < p then q else p)) ((hres w).trans (run_value ?_)) (x := .c (.d (.int k (if q < p then q else p)))) rfl h10
          rw [hargs]; exact run_min_int2 w _ _ k k' p q
        · exact h10.elim
      | _ => exact h.elim
    | _ => exact h.elim
  | _ => exact h.elim
end
end Go.Av
