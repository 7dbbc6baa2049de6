/- A body's triple gives the function's contract. -/
import Derived.Test.YtdbffbmbbfbamaaA11
namespace Go.Av
open Go

def sealL (A : List Arr) (L : List Nat) : List Arr := L.foldl (fun A k => match A[k]? with | some r => A.set k { r with wr := false } | none => A) A

section
variable {P : Program} {n : Nat} {Q Q' : Exit → St → Prop} {s s' : St} {w0 : World} {g0 g g' : Gh} {a : Act} {w w' : World} {V : List (List CV)} {A A' : List Arr}

theorem seal_list : ∀ (L : List Nat) (g : Gh) (A : List Arr), Inv g w V A → Fr w0 g0 w g →
    ∃ g', Inv g' w V (sealL A L) ∧ Ext g w A g' w (sealL A L) ∧ Fr w0 g0 w g' ∧ g'.ar = g.ar ∧ g'.ob = g.ob ∧ (∀ k, k ∉ L → (sealL A L)[k]? = A[k]?) ∧ ∀ k ∈ L, ∀ r v, A[k]? = some r → g.ar[k]? = some v → RepD g'.im w (.sl r.rows) v
  | [], g, A, hI, hF => ⟨g, hI, .refl _ _ _, hF, rfl, rfl, fun _ _ => rfl, fun k h => by simp at h⟩
  | k0 :: L, g, A, hI, hF => by
    cases hk : A[k0]? with
    | none =>
      obtain ⟨g', h1, h2, h3, h4, h5, h6, h7⟩ := seal_list L g A hI hF
      have he : sealL A (k0 :: L) = sealL A L := by simp only [sealL, List.foldl_cons, hk]
      rw [he]
      exact ⟨g', h1, h2, h3, h4, h5, fun k h => h6 k (fun h' => h (by simp [h'])), fun k h r v h8 h9 => by
        simp only [List.mem_cons] at h
        rcases h with rfl | h
        · rw [hk] at h8; cases h8
        · exact h7 k h r v h8 h9⟩
    | some r0 =>
      have hkl : k0 < g.ar.length := by rw [hI.arl]; exact (List.getElem?_eq_some_iff.1 hk).1
      have hv0 : g.ar[k0]? = some g.ar[k0] := List.getElem?_eq_getElem hkl
      obtain ⟨g1, i1, i2, i3, i4, i5, i6⟩ := hI.seal hF hk hv0
      obtain ⟨g', h1, h2, h3, h4, h5, h6, h7⟩ := seal_list L g1 _ i1 i3
      have he : sealL A (k0 :: L) = sealL (A.set k0 { r0 with wr := false }) L := by simp only [sealL, List.foldl_cons, hk]
      rw [he]
      refine ⟨g', h1, i2.trans h2, h3, h4.trans i4, h5.trans i5, fun k h => ?_, fun k h r v h8 h9 => ?_⟩
      · simp only [List.mem_cons, not_or] at h
        rw [h6 k h.2, set_get hk, if_neg h.1]
      · by_cases e : k = k0
        · subst e
          rw [hk] at h8; cases h8
          rw [hv0] at h9; cases h9
          exact RepD.grows h2.gr _ _ i6
        · simp only [List.mem_cons, e, false_or] at h
          exact h7 k h r v (by rw [set_get hk, if_neg e]; exact h8) (by rw [i4]; exact h9)

theorem RepC.nilA {c : CV} {u : Value} (h : RepC g w [] c u) : RepC { g with ar := g'.ar } w A' c u := by
  cases c with
  | own k n => obtain ⟨_, _, _, r, h1, _⟩ := h; simp at h1
  | op k n i off => obtain ⟨_, _, _, r, h1, _⟩ := h; simp at h1
  | _ => exact h

theorem getAs_at : ∀ {ks : List Nat} {xs : List Arr}, getAs A ks = some xs → xs.length = ks.length ∧ ∀ (i k : Nat) x, ks[i]? = some k → xs[i]? = some x → A[k]? = some x
  | [], xs, h => by simp [getAs] at h; subst h; exact ⟨rfl, fun i k x h => by simp at h⟩
  | k :: r, xs, h => by
    simp only [getAs] at h
    split at h
    · rename_i x xs' h1 h2
      simp at h; subst h
      obtain ⟨h3, h4⟩ := getAs_at h2
      refine ⟨by simp [h3], fun i k' x' h5 h6 => ?_⟩
      cases i with
      | zero => simp at h5 h6; subst h5; subst h6; exact h1
      | succ i => simp at h5 h6; exact h4 i k' x' h5 h6
    · simp at h

theorem ress_at {os ks : List Nat} : ∀ {cs ds : List CV}, ress A os ks cs = some ds → ds.length = cs.length ∧ ∀ (j : Nat) c d, cs[j]? = some c → ds[j]? = some d → c.res A os ks = some d
  | [], ds, h => by simp [ress] at h; subst h; exact ⟨rfl, fun j c d h => by simp at h⟩
  | c :: r, ds, h => by
    simp only [ress] at h
    split at h
    · rename_i d ds' h1 h2
      simp at h; subst h
      obtain ⟨h3, h4⟩ := ress_at h2
      refine ⟨by simp [h3], fun j c' d' h5 h6 => ?_⟩
      cases j with
      | zero => simp at h5 h6; subst h5; subst h6; exact h1
      | succ j => simp at h5 h6; exact h4 j c' d' h5 h6
    · simp at h

theorem resAs_at {os ks : List Nat} : ∀ {cs ds : List AV}, resAs A os ks cs = some ds → ds.length = cs.length ∧ ∀ (j : Nat) c d, cs[j]? = some c → ds[j]? = some d → c.res1 A os ks = some d
  | [], ds, h => by simp [resAs] at h; subst h; exact ⟨rfl, fun j c d h => by simp at h⟩
  | c :: r, ds, h => by
    simp only [resAs] at h
    split at h
    · rename_i d ds' h1 h2
      simp at h; subst h
      obtain ⟨h3, h4⟩ := resAs_at h2
      refine ⟨by simp [h3], fun j c' d' h5 h6 => ?_⟩
      cases j with
      | zero => simp at h5 h6; subst h5; subst h6; exact h1
      | succ j => simp at h5 h6; exact h4 j c' d' h5 h6
    · simp at h

theorem resVs_at {os ks : List Nat} : ∀ {ls : List Nat} {Vc : List (List CV)}, resVs A V os ks ls = some Vc → Vc.length = ls.length ∧ ∀ (i l : Nat) row', ls[i]? = some l → Vc[i]? = some row' → ∃ row, V[l]? = some row ∧ ress A os ks row = some row'
  | [], Vc, h => by simp [resVs] at h; subst h; exact ⟨rfl, fun i l row' h => by simp at h⟩
  | l :: r, Vc, h => by
    simp only [resVs] at h
    split at h
    · rename_i row rs h1 h2
      split at h
      · rename_i row' h3
        simp at h; subst h
        obtain ⟨h4, h5⟩ := resVs_at h2
        refine ⟨by simp [h4], fun i l' rw' h6 h7 => ?_⟩
        cases i with
        | zero => simp at h6 h7; subst h6; subst h7; exact ⟨row, h1, h3⟩
        | succ i => simp at h6 h7; exact h5 i l' rw' h6 h7
      · simp at h
    · simp at h

def resRun (tmps : Array Value) : ResultVar → Sem Value
  | .tmp t => pure (tmps.getD t undef)
  | .cell p t => do loadVar t (← asAddr (tmps.getD p undef))

theorem results_eq (fn : Func) (tmps : Array Value) : results fn tmps = (do let vs ← fn.results.mapM (resRun tmps); pure (if h : vs.size = 1 then vs[0] else .tuple vs)) := by
  unfold results
  congr 1

theorem ares_sound (hI : Inv g w s.V s.A) (hS : Slots g w s a) : ∀ {rs : List ResultVar} {xs : List AV}, ares P s rs = some xs →
    ∃ us : List Value, us.length = xs.length ∧ (∀ (i : Nat) x u, xs[i]? = some x → us[i]? = some u → RepV g w s.A x u) ∧
      (rs.mapM (resRun a.tmps)).run P w = .ok us w
  | [], xs, h => by simp [ares] at h; subst h; exact ⟨[], rfl, fun i x u h => by simp at h, rfl⟩
  | r :: rs, xs, h => by
    simp only [ares] at h
    split at h
    · rename_i x xs' h1 h2
      simp at h; subst h
      obtain ⟨us, h3, h4, h5⟩ := ares_sound hI hS h2
      have hone : ∃ u, RepV g w s.A x u ∧ (resRun a.tmps r).run P w = .ok u w := by
        cases r with
        | tmp t =>
          obtain ⟨u, h6, h7⟩ := hS t x h1
          exact ⟨u, h7, by simp [resRun, h6]⟩
        | cell p ty =>
          simp only [ares1] at h1
          split at h1
          · rename_i d c hd hp
            split at h1
            · rename_i cs hcs
              obtain ⟨u, h6, h7⟩ := hS p _ hp
              obtain ⟨b, off, vs, rfl, hl, hr, hc⟩ := cellsAt_sound hI h7 hcs
              obtain ⟨k1, k2⟩ := run_loadAt_av (P := P) hd hc (hr.1.trans hl)
              have hget : a.tmps.getD p undef = .pointer (some ⟨b, off, none⟩) := by simp [h6]
              cases hag : d.ag with
              | true =>
                simp [mkV, hag] at h1; subst h1
                exact ⟨.agg vs.toArray, ⟨vs, rfl, hr.1, fun i c u h8 h9 => hr.2 i c u h8 h9⟩, by simp only [resRun, hget]; exact k1 hag⟩
              | false =>
                simp only [mkV, hag, Bool.false_eq_true, if_false] at h1
                split at h1
                · rename_i c'
                  simp at h1; subst h1
                  obtain ⟨u, rfl⟩ : ∃ u, vs = [u] := by
                    have := hr.1
                    simp at this
                    exact List.length_eq_one_iff.1 this
                  exact ⟨u, hr.2 0 c' u rfl rfl, by simp only [resRun, hget]; exact k2 hag u rfl⟩
                · simp at h1
            · simp at h1
          · simp at h1
      obtain ⟨u, h6, h7⟩ := hone
      refine ⟨u :: us, by simp [h3], fun i x' u' h8 h9 => ?_, ?_⟩
      · cases i with
        | zero => simp at h8 h9; subst h8; subst h9; exact h6
        | succ i => simp at h8 h9; exact h4 i x' u' h8 h9
      · simp only [List.mapM_cons, Sem.run_bind, h7, Result.andThen_ok, h5, Sem.run_pure]
    · simp at h

theorem enters {f : FuncId} {fn : Func} {c : Code} (hf : P.funcs[f]? = some fn) (hname : (fn.name == "runtime.NumGoroutine") = false) (hb : fn.body = some c) (args : Array Value) (w : World) : (callFunc f args).run P w = .ok (.enter f args) w := by
  have h : ¬ fn.name = "runtime.NumGoroutine" := by simpa using hname
  simp [callFunc, hf, h, hb]

/-- The arguments, in their slots. -/
def argFr (as : List AV) : List (Nat × AV) := (as.zipIdx 0).map fun (x, i) => (i, x)

theorem look_argFr : ∀ (as : List AV) (k t : Nat) (x : AV), look ((as.zipIdx k).map fun (x, i) => (i, x)) t = some x → k ≤ t ∧ as[t - k]? = some x
  | [], k, t, x, h => by simp [look] at h
  | y :: as, k, t, x, h => by
    simp only [List.zipIdx_cons, List.map_cons, look] at h
    split at h
    · rename_i e; subst e; simp at h; subst h; simp
    · rename_i e
      obtain ⟨h1, h2⟩ := look_argFr as (k + 1) t x h
      refine ⟨by omega, ?_⟩
      rw [show t - k = (t - (k + 1)) + 1 by omega, List.getElem?_cons_succ]; exact h2

set_option maxHeartbeats 1000000 in
theorem ACalls.of_body {f : FuncId} {fn : Func} {c : Code} {as : List AV} {V V' : List (List CV)} {r : AV} {A' : List Arr} (hf : P.funcs[f]? = some fn) (hname : (fn.name == "runtime.NumGoroutine") = false) (hb : fn.body = some c) (hok : codeOk fn.ntmps c = true) (hn : as.length ≤ fn.ntmps)
    (hVl : V.length ≤ V'.length) (h : T P fn.ntmps c (Done P fn V.length r V' A') ⟨argFr as, V, []⟩) : ACalls P f as V r V' A' := by
  refine ⟨enters hf hname hb, hVl, fun g w vs har hI hvl hvr => ?_⟩
  refine calls_of_wp hf hb ?_
  have hR : Rp fn.ntmps w g ⟨argFr as, V, []⟩ g { tmps := vs ++ Array.replicate (fn.ntmps - vs.size) undef, defers := [] } w := by
    refine ⟨hI, Fr.refl har, by simp; omega, rfl, fun t x hx => ?_⟩
    obtain ⟨_, hx⟩ := look_argFr as 0 t x hx
    rw [Nat.sub_zero] at hx
    have ht : t < vs.size := by have := (List.getElem?_eq_some_iff.1 hx).1; omega
    exact ⟨vs[t], by rw [Array.getElem?_append_left ht]; simp [ht], hvr t x _ hx (by simp [ht])⟩
  refine Go.wp_mono (h hok w g g _ w hR) ?_
  rintro e a' w' ⟨s', g', ⟨hex, ext, ks, xs, ys, hxs, hknd, hend, hext, hys, rfl, hV', hA'⟩, hR'⟩
  obtain ⟨us, hul, hur, hrun⟩ := ares_sound hR'.inv hR'.slot hxs
  let v : Value := if h : us.toArray.size = 1 then us.toArray[0] else .tuple us.toArray
  have hresults : (results fn a'.tmps).run P w' = .ok v w' := by
    rw [results_eq, Sem.run_bind, Array.mapM_eq_mapM_toList]
    have hm : (List.toArray <$> fn.results.toList.mapM (resRun a'.tmps)).run P w' = .ok us.toArray w' := by
      simp [hrun]
    rw [hm]
    rfl
  let os := List.range V.length ++ ext
  -- seal what is not handed over
  obtain ⟨g1, hI1, hx1, hF1, ha1, ho1, hkeep, hseal⟩ := seal_list ((List.range s'.A.length).filter fun k => (pos? ks k).isNone) g' s'.A hR'.inv hR'.fr
  obtain ⟨hAl, hAx⟩ := getAs_at hA'
  obtain ⟨hVl', hVx⟩ := resVs_at hV'
  have hksA : ∀ (i k : Nat), ks[i]? = some k → k < s'.A.length := fun i k hi => by
    have hil := (List.getElem?_eq_some_iff.1 hi).1
    have := hAx i k _ hi (List.getElem?_eq_getElem (show i < A'.length by omega))
    exact (List.getElem?_eq_some_iff.1 this).1
  have hosV : ∀ l ∈ os, l < s'.V.length := fun l hl => by
    obtain ⟨i, hi⟩ := List.getElem?_of_mem hl
    have hil := (List.getElem?_eq_some_iff.1 hi).1
    have hil' : i < (List.range V.length ++ ext).length := hil
    obtain ⟨row, h1, _⟩ := hVx i l _ hi (List.getElem?_eq_getElem (show i < V'.length by omega))
    exact (List.getElem?_eq_some_iff.1 h1).1
  have hosnd : os.Nodup := by
    simp only [os]
    refine List.nodup_append.2 ⟨List.nodup_range, hend, fun a ha b hb' => ?_⟩
    have h1 := hext b hb'
    simp at ha
    omega
  let gf : Gh := { ob := os.map fun l => g1.ob.getD l 0, ar := ks.map fun k => g1.ar.getD k undef, im := g1.im }
  have hgob : ∀ (i l b : Nat), os[i]? = some l → g1.ob[l]? = some b → gf.ob[i]? = some b := fun i l b h1 h2 => by simp [gf, h1, h2]
  have hgob' : ∀ (i b : Nat), gf.ob[i]? = some b → ∃ l, os[i]? = some l ∧ g1.ob[l]? = some b := fun i b h1 => by
    simp only [gf, List.getElem?_map, Option.map_eq_some_iff] at h1
    obtain ⟨l, h2, h3⟩ := h1
    have hll : l < g1.ob.length := by rw [hI1.obl]; exact hosV l (List.mem_of_getElem? h2)
    exact ⟨l, h2, by rw [← h3]; simp [List.getD, hll]⟩
  have hgar : ∀ (i k : Nat) v, ks[i]? = some k → g1.ar[k]? = some v → gf.ar[i]? = some v := fun i k v h1 h2 => by simp [gf, h1, h2]
  have hgar' : ∀ (i : Nat) v, gf.ar[i]? = some v → ∃ k, ks[i]? = some k ∧ g1.ar[k]? = some v := fun i v h1 => by
    simp only [gf, List.getElem?_map, Option.map_eq_some_iff] at h1
    obtain ⟨k, h2, h3⟩ := h1
    have hkl : k < g1.ar.length := by rw [ha1, hR'.inv.arl]; exact hksA i k h2
    exact ⟨k, h2, by rw [← h3]; simp [List.getD, hkl]⟩
  have hposmem : ∀ {l : List Nat} {k : Nat}, (pos? l k).isNone = true ↔ k ∉ l := by
    intro l
    induction l with
    | nil => intro k; simp [pos?]
    | cons x l ih =>
      intro k
      simp only [pos?]
      by_cases e : k = x
      · subst e; simp
      · simp only [e, if_false, Option.isNone_map, ih, List.mem_cons, false_or]
  have hAk : ∀ (i k : Nat) x, ks[i]? = some k → A'[i]? = some x → (sealL s'.A ((List.range s'.A.length).filter fun k => (pos? ks k).isNone))[k]? = some x := fun i k x h1 h2 => by
    rw [hkeep k (by simp only [List.mem_filter, not_and, hposmem]; intro _ h; exact h (List.mem_of_getElem? h1))]
    exact hAx i k x h1 h2
  -- a cell, as it is handed back
  have hcell : ∀ (c d : CV) (u : Value), c.res s'.A os ks = some d → RepC g' w' s'.A c u → RepC gf w' A' d u := by
    intro c d u h1 h2
    have plain : c.inn s'.A os = some d → (∀ k n, c ≠ .own k n) → RepC gf w' A' d u := by
      intro h3 h4
      have h5 := inn_sound (A := s'.A) (A' := sealL s'.A ((List.range s'.A.length).filter fun k => (pos? ks k).isNone)) (ids := os) (g1 := g1) (gc := { gf with ar := [] }) (w := w') h3 (RepC.ext hx1 h2) (fun x hx => by
        cases c with
        | d y => simp [toD] at hx; subst hx; exact RepD.grows hx1.gr _ _ h2
        | nil => simp [toD] at hx; subst hx; simp only [RepC] at h2; subst h2; simp only [RepD]; exact ⟨none, 0, rfl, Nat.le_refl _, .inl trivial⟩
        | own k n => exact absurd rfl (h4 k n)
        | _ => simp [toD] at hx) hgob rfl
      exact RepC.nilA (g := { gf with ar := [] }) (g' := gf) h5
    cases c with
    | own k n =>
      simp only [CV.res] at h1
      obtain ⟨ad, cap, e, r, hk, hnl, hv⟩ := h2
      split at h1
      · rename_i i hi
        simp only [Option.map_eq_some_iff] at h1
        obtain ⟨x, hx, rfl⟩ := h1
        simp only [toD, hk] at hx
        split at hx
        · rename_i hne
          have hki := pos?_spec hi
          have hil := (List.getElem?_eq_some_iff.1 hki).1
          have hA'i : A'[i]? = some (A'[i]'(by omega)) := List.getElem?_eq_getElem (by omega)
          have h3 := hAx i k _ hki hA'i
          rw [hk] at h3
          have h4 : r = A'[i]'(by omega) := Option.some.inj h3
          refine ⟨ad, cap, e, r, by rw [hA'i, h4], hnl, fun _ => hgar i k u hki (by rw [ha1]; exact hv hne)⟩
        · simp at hx
      · rename_i hi
        simp only [Option.map_eq_some_iff] at h1
        obtain ⟨x, hx, rfl⟩ := h1
        simp only [toD, hk] at hx
        split at hx
        · rename_i hne
          simp at hx; subst hx
          exact hseal k (by simp [hi]; exact (List.getElem?_eq_some_iff.1 hk).1) r u hk (hv hne)
        · simp at hx
    | d y => exact plain h1 (by intro k n h; cases h)
    | nil => exact plain h1 (by intro k n h; cases h)
    | ptr l off => exact plain h1 (by intro k n h; cases h)
    | np => exact plain h1 (by intro k n h; cases h)
    | ip row off => exact plain h1 (by intro k n h; cases h)
    | op k n i off => exact plain h1 (by intro k n h; cases h)
    | fn f cap => exact plain h1 (by intro k n h; cases h)
    | undef => exact plain h1 (by intro k n h; cases h)
  have hval : ∀ (x y : AV) (u : Value), x.res1 s'.A os ks = some y → RepV g' w' s'.A x u → RepE gf w' A' y u := by
    intro x y u h1 h2
    cases x with
    | c c =>
      simp only [AV.res1, Option.map_eq_some_iff] at h1
      obtain ⟨d, hd, rfl⟩ := h1
      exact hcell c d u hd h2
    | agg cs =>
      simp only [AV.res1, Option.map_eq_some_iff] at h1
      obtain ⟨ds, hd, rfl⟩ := h1
      obtain ⟨us', rfl, h3, h4⟩ := h2
      obtain ⟨h5, h6⟩ := ress_at hd
      refine ⟨us', rfl, by omega, fun j d u h7 h8 => ?_⟩
      have hj : j < cs.length := by have := (List.getElem?_eq_some_iff.1 h7).1; omega
      have hc : cs[j]? = some cs[j] := List.getElem?_eq_getElem hj
      exact hcell _ d u (h6 j _ d hc h7) (h4 j _ u hc h8)
    | tup zs => simp [AV.res1] at h1
  obtain ⟨hyl, hyx⟩ := resAs_at hys
  have hrepr : RepV gf w' A' (one ys) v := by
    have hall : ∀ (i : Nat) y u, ys[i]? = some y → us[i]? = some u → RepE gf w' A' y u := fun i y u h1 h2 => by
      have hi : i < xs.length := by have := (List.getElem?_eq_some_iff.1 h1).1; omega
      have hx : xs[i]? = some xs[i] := List.getElem?_eq_getElem hi
      exact hval _ y u (hyx i _ y hx h1) (hur i _ u hx h2)
    by_cases h1 : us.length = 1
    · obtain ⟨u, rfl⟩ := List.length_eq_one_iff.1 h1
      obtain ⟨y, rfl⟩ := List.length_eq_one_iff.1 (show ys.length = 1 by omega)
      have h2 := hall 0 y u rfl rfl
      have hv : v = u := by simp [v]
      rw [hv]
      cases y with
      | tup zs => exact h2.elim
      | c c => exact h2
      | agg cs => exact h2
    · have hv : v = .tuple us.toArray := by simp [v, h1]
      have ho : one ys = .tup ys := by
        match ys, (show ys.length ≠ 1 by omega) with
        | [], _ => rfl
        | _ :: _ :: _, _ => rfl
      rw [hv, ho]
      exact ⟨us, rfl, by omega, hall⟩
  have hgobl : g.ob.length = V.length := hI.obl
  have hgfob : ∃ new, gf.ob = g.ob ++ new ∧ ∀ b ∈ new, w.heap.size ≤ b := by
    obtain ⟨new, e, hnew⟩ := hF1.ob
    refine ⟨ext.map fun l => g1.ob.getD l 0, ?_, fun b hb' => ?_⟩
    · simp only [gf, os, List.map_append]
      congr 1
      apply List.ext_getElem?
      intro i
      by_cases hi : i < V.length
      · simp [hi, e, List.getD, List.getElem?_append_left (show i < g.ob.length by omega), List.getElem?_eq_getElem (show i < g.ob.length by omega)]
      · simp [List.getElem?_eq_none (show g.ob.length ≤ i by omega), List.getElem?_eq_none (show (List.range V.length).length ≤ i by simp; omega)]
    · simp only [List.mem_map] at hb'
      obtain ⟨l, hl, rfl⟩ := hb'
      have hll : l < g1.ob.length := by rw [hI1.obl]; exact hosV l (by simp [os, hl])
      have hml := hext l hl
      have hmem : g1.ob.getD l 0 ∈ new := by
        have h1 : g1.ob[l]? = some (g1.ob.getD l 0) := by simp [List.getD, hll]
        generalize g1.ob.getD l 0 = q at h1 ⊢
        rw [e, List.getElem?_append_right (by omega)] at h1
        exact List.mem_of_getElem? h1
      exact hnew _ hmem
  have hInvf : Inv gf w' V' A' := by
    refine ⟨by simp [gf, hVl', os], by simp [gf, hAl], fun i row' b h1 h2 => ?_, fun i x v' h1 h2 => ?_, fun i i' b h1 h2 => ?_, fun i i' v1 v2 b h1 h2 h3 h4 => ?_, fun i j v' b h1 h2 => ?_, hI1.fresh⟩
    · obtain ⟨l, h3, h4⟩ := hgob' i b h2
      obtain ⟨row, h5, h6⟩ := hVx i l row' h3 h1
      obtain ⟨h7, h8⟩ := ress_at h6
      have hb' : g'.ob[l]? = some b := by rw [← ho1]; exact h4
      obtain ⟨_, cs, ty, h10, h11, h12⟩ := hR'.inv.obj l row b h5 hb'
      refine ⟨(hI1.obj l row b h5 h4).1, cs, ty, h10, by omega, fun j d u h13 h14 => ?_⟩
      have hj : j < row.length := by have := (List.getElem?_eq_some_iff.1 h13).1; omega
      have hc : row[j]? = some row[j] := List.getElem?_eq_getElem hj
      exact hcell _ d u (h8 j _ d hc h13) (h12 j _ u hc h14)
    · obtain ⟨k, h3, h4⟩ := hgar' i v' h2
      exact hI1.arr k x v' (hAk i k x h3 h1) h4
    · obtain ⟨l, h3, h4⟩ := hgob' i b h1
      obtain ⟨l', h5, h6⟩ := hgob' i' b h2
      obtain rfl := hI1.obob l l' b h4 h6
      exact (List.getElem?_inj (List.getElem?_eq_some_iff.1 h3).1 hosnd).1 (h3.trans h5.symm)
    · obtain ⟨k, h5, h6⟩ := hgar' i v1 h1
      obtain ⟨k', h7, h8⟩ := hgar' i' v2 h2
      obtain rfl := hI1.arar k k' v1 v2 b h6 h8 h3 h4
      exact (List.getElem?_inj (List.getElem?_eq_some_iff.1 h5).1 hknd).1 (h5.trans h7.symm)
    · obtain ⟨l, h3, h4⟩ := hgob' i b h1
      obtain ⟨k, h5, h6⟩ := hgar' j v' h2
      exact hI1.obar l k v' b h4 h6
  have hpost : a'.defers = [] ∧ ∃ v, (results fn a'.tmps).run P w' = .ok v w' ∧ ∃ v1 g', Ending.returned v = .returned v1 ∧ RepV g' w' A' (one ys) v1 ∧ Inv g' w' V' A' ∧ Fr w g w' g' :=
    ⟨hR'.defers, v, hresults, v, gf, rfl, hrepr, hInvf, ⟨hF1.os, hF1.tape, hF1.output, hF1.size, hF1.blk, hF1.imeq, hgfob, fun i v' b h1 h2 => by
      obtain ⟨k, h3, h4⟩ := hgar' i v' h1
      exact hF1.ar k v' b h4 h2⟩⟩
  rcases hex with rfl | rfl <;> exact hpost
end
end Go.Av
