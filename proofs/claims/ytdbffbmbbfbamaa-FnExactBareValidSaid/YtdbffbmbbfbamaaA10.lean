/- Calls of Go functions: contracts in functional form, and how a caller uses one. -/
import Derived.Test.YtdbffbmbbfbamaaA9
namespace Go.Av
open Go

def pos? : List Nat → Nat → Option Nat
  | [], _ => none
  | x :: r, l => if l = x then some 0 else (pos? r l).map (· + 1)

def poss (ids : List Nat) : List Nat → Option (List Nat)
  | [] => some []
  | l :: r => match pos? ids l, poss ids r with
    | some i, some is => some (i :: is)
    | _, _ => none

/-- A cell as the callee sees it: own arrays are sealed, objects are those of the list 'ids', numbered from 0. -/
def CV.inn (A : List Arr) (ids : List Nat) : CV → Option CV
  | .d x => some (.d x)
  | .nil => some (.d (.sl []))
  | .own k n => (toD A (.own k n)).map CV.d
  | .ptr l off => (pos? ids l).map fun i => .ptr i off
  | .np => some .np
  | .ip row off => some (.ip row off)
  | .op _ _ _ _ => none
  | .fn f cap => (poss ids cap).map fun is => .fn f is
  | .undef => none

def inns (A : List Arr) (ids : List Nat) : List CV → Option (List CV)
  | [] => some []
  | c :: r => match c.inn A ids, inns A ids r with
    | some d, some ds => some (d :: ds)
    | _, _ => none

def AV.inn (A : List Arr) (ids : List Nat) : AV → Option AV
  | .c x => (x.inn A ids).map AV.c
  | .agg xs => (inns A ids xs).map AV.agg
  | .tup _ => none

def innAs (A : List Arr) (ids : List Nat) : List AV → Option (List AV)
  | [] => some []
  | c :: r => match c.inn A ids, innAs A ids r with
    | some d, some ds => some (d :: ds)
    | _, _ => none

def innVs (A : List Arr) (V : List (List CV)) (ids : List Nat) : List Nat → Option (List (List CV))
  | [] => some []
  | l :: r => match V[l]?, innVs A V ids r with
    | some row, some rs => match inns A ids row with
      | some row' => some (row' :: rs)
      | none => none
    | _, _ => none

/-- And back. -/
def back (ids : List Nat) (nV : Nat) (i : Nat) : Nat := match ids[i]? with
  | some l => l
  | none => nV + (i - ids.length)

def CV.outn (ids : List Nat) (nV nA : Nat) : CV → CV
  | .ptr i off => .ptr (back ids nV i) off
  | .own k n => .own (nA + k) n
  | .op k n i off => .op (nA + k) n i off
  | .fn f cap => .fn f (cap.map (back ids nV))
  | c => c

def AV.outn (ids : List Nat) (nV nA : Nat) : AV → AV
  | .c x => .c (x.outn ids nV nA)
  | .agg xs => .agg (xs.map (CV.outn ids nV nA))
  | .tup xs => .tup (xs.map fun x => match x with
    | .c x => .c (x.outn ids nV nA)
    | .agg xs => .agg (xs.map (CV.outn ids nV nA))
    | x => x)

def putBack (nA nV : Nat) (ids : List Nat) : List (List CV) → List Nat → List (List CV) → List (List CV)
  | V, l :: ls, row :: rows => putBack nA nV ids (V.set l (row.map (CV.outn ids nV nA))) ls rows
  | V, [], rows => V ++ rows.map fun row => row.map (CV.outn ids nV nA)
  | V, _ :: _, [] => V

def argCells (xs : List AV) : List CV := xs.flatMap AV.cells
def objCells (V : List (List CV)) (ids : List Nat) : List CV := ids.flatMap fun l => V.getD l []

/-- THE CONTRACT of a Go function, in functional form: called with 'as' over the objects V it returns r; the objects are then V'; A' are own arrays that it hands over. -/
def ACalls (P : Program) (f : FuncId) (as : List AV) (V : List (List CV)) (r : AV) (V' : List (List CV)) (A' : List Arr) : Prop :=
  (∀ args w, (callFunc f args).run P w = .ok (.enter f args) w) ∧ V.length ≤ V'.length ∧
  ∀ (g : Gh) (w : World) (vs : Array Value), g.ar = [] → Inv g w V [] → vs.size = as.length → (∀ (i : Nat) x u, as[i]? = some x → vs[i]? = some u → RepV g w [] x u) →
    Calls P f vs w fun e w' => ∃ v g', e = .returned v ∧ RepV g' w' A' r v ∧ Inv g' w' V' A' ∧ Fr w g w' g'

/-- A call, as the caller's precondition. -/
def wpcall (P : Program) (s : St) (f : FuncId) (xs : List AV) (K : AV → List (List CV) → List Arr → Prop) : Prop :=
  ∃ (ids : List Nat) (as : List AV) (Vc : List (List CV)) (r : AV) (Vc' : List (List CV)) (Ac' : List Arr), ids.Nodup ∧ innAs s.A ids xs = some as ∧ innVs s.A s.V ids ids = some Vc ∧ ACalls P f as Vc r Vc' Ac' ∧
    K (r.outn ids s.V.length s.A.length) (putBack s.A.length s.V.length ids s.V ids Vc') (sealAs s.A (argCells xs ++ objCells s.V ids) ++ Ac')

section
variable {P : Program} {g g' g0 : Gh} {w w' w0 : World} {V V' : List (List CV)} {A A' : List Arr} {s : St} {a : Act} {K : AV → List (List CV) → List Arr → Prop}

theorem pos?_spec : ∀ {ids : List Nat} {l i : Nat}, pos? ids l = some i → ids[i]? = some l
  | [], l, i, h => by simp [pos?] at h
  | x :: r, l, i, h => by
    simp only [pos?] at h
    split at h
    · rename_i e; simp at h; subst h; simp [e]
    · simp only [Option.map_eq_some_iff] at h
      obtain ⟨j, h1, rfl⟩ := h
      simpa using pos?_spec h1

theorem poss_spec : ∀ {ids cap is : List Nat}, poss ids cap = some is → is.length = cap.length ∧ ∀ (j l i : Nat), cap[j]? = some l → is[j]? = some i → ids[i]? = some l
  | ids, [], is, h => by simp [poss] at h; subst h; exact ⟨rfl, fun j l i h => by simp at h⟩
  | ids, c :: r, is, h => by
    simp only [poss] at h
    split at h
    · rename_i i is' h1 h2
      simp at h; subst h
      obtain ⟨h3, h4⟩ := poss_spec h2
      refine ⟨by simp [h3], fun j l i h5 h6 => ?_⟩
      cases j with
      | zero => simp at h5 h6; subst h5; subst h6; exact pos?_spec h1
      | succ j => simp at h5 h6; exact h4 j l i h5 h6
    · simp at h

/-- Every own array among the cells is sealed. -/
theorem seal_some : ∀ {cs : List CV} {vs : List Value} {g : Gh} {A : List Arr}, Inv g w V A → Fr w0 g0 w g → RepCs g w A cs vs → (∀ k n, CV.own k n ∈ cs → (toD A (.own k n)).isSome = true) →
    ∃ g', Inv g' w V (sealAs A cs) ∧ Ext g w A g' w (sealAs A cs) ∧ Fr w0 g0 w g' ∧ g'.ar = g.ar ∧ g'.ob = g.ob ∧ ∀ (j : Nat) c x u, cs[j]? = some c → vs[j]? = some u → toD A c = some x → RepD g'.im w x u
  | [], vs, g, A, hI, hF, hr, hd => ⟨g, hI, .refl _ _ _, hF, rfl, rfl, fun j c x u h => by simp at h⟩
  | c :: r, vs, g, A, hI, hF, hr, hd => by
    cases vs with
    | nil => exact absurd hr.1 (by simp)
    | cons v vs =>
      have hone : ∃ g1, Inv g1 w V (sealA A c) ∧ Ext g w A g1 w (sealA A c) ∧ Fr w0 g0 w g1 ∧ g1.ar = g.ar ∧ g1.ob = g.ob ∧ ∀ x, toD A c = some x → RepD g1.im w x v := by
        have hrc := hr.2 0 c v rfl rfl
        cases ht : toD A c with
        | some x =>
          obtain ⟨g1, h1, h2, h3, h4, h5, h6⟩ := seal_one hI hF hrc ht
          exact ⟨g1, h1, h2, h3, h4, h5, fun y hy => by simp at hy; subst hy; exact h6⟩
        | none =>
          have hne : sealA A c = A := by
            cases c <;> try rfl
            rename_i k n
            have := hd k n (by simp)
            rw [ht] at this; simp at this
          rw [hne]
          exact ⟨g, hI, .refl _ _ _, hF, rfl, rfl, fun y hy => by simp at hy⟩
      obtain ⟨g1, hI1, hx1, hF1, ha1, ho1, hd1⟩ := hone
      have hr' : RepCs g1 w (sealA A c) r vs := ⟨by simpa using hr.1, fun j c' u h3 h4 => RepC.ext hx1 (hr.2 (j + 1) c' u (by simpa using h3) (by simpa using h4))⟩
      obtain ⟨g2, hI2, hx2, hF2, ha2, ho2, hd2⟩ := seal_some hI1 hF1 hr' (fun k n h => by rw [toD_sealA]; exact hd k n (by simp [h]))
      refine ⟨g2, hI2, hx1.trans hx2, hF2, ha2.trans ha1, ho2.trans ho1, fun j c' x u h3 h4 h5 => ?_⟩
      cases j with
      | zero => simp at h3 h4; subst h3; subst h4; exact RepD.grows hx2.gr _ _ (hd1 x h5)
      | succ j => simp at h3 h4; exact hd2 j c' x u h3 h4 (by rw [toD_sealA]; exact h5)

theorem CV.inn_own {ids : List Nat} {k n : Nat} {d : CV} (h : CV.inn A ids (.own k n) = some d) : (toD A (.own k n)).isSome = true := by
  simp only [CV.inn, Option.map_eq_some_iff] at h
  obtain ⟨x, hx, _⟩ := h
  simp [hx]

theorem inns_own {ids : List Nat} : ∀ {cs ds : List CV}, inns A ids cs = some ds → ∀ k n, CV.own k n ∈ cs → (toD A (.own k n)).isSome = true
  | [], ds, h, k, n, hm => by simp at hm
  | c :: r, ds, h, k, n, hm => by
    simp only [inns] at h
    split at h
    · rename_i d ds' h1 h2
      simp only [List.mem_cons] at hm
      rcases hm with rfl | hm
      · exact CV.inn_own h1
      · exact inns_own h2 k n hm
    · simp at h

theorem inns_at {ids : List Nat} : ∀ {cs ds : List CV}, inns A ids cs = some ds → ds.length = cs.length ∧ ∀ (j : Nat) c d, cs[j]? = some c → ds[j]? = some d → c.inn A ids = some d
  | [], ds, h => by simp [inns] at h; subst h; exact ⟨rfl, fun j c d h => by simp at h⟩
  | c :: r, ds, h => by
    simp only [inns] at h
    split at h
    · rename_i d ds' h1 h2
      simp at h; subst h
      obtain ⟨h3, h4⟩ := inns_at h2
      refine ⟨by simp [h3], fun j c' d' h5 h6 => ?_⟩
      cases j with
      | zero => simp at h5 h6; subst h5; subst h6; exact h1
      | succ j => simp at h5 h6; exact h4 j c' d' h5 h6
    · simp at h

theorem innAs_at {ids : List Nat} : ∀ {xs as : List AV}, innAs A ids xs = some as → as.length = xs.length ∧ ∀ (j : Nat) x y, xs[j]? = some x → as[j]? = some y → x.inn A ids = some y
  | [], as, h => by simp [innAs] at h; subst h; exact ⟨rfl, fun j x y h => by simp at h⟩
  | c :: r, as, h => by
    simp only [innAs] at h
    split at h
    · rename_i d ds' h1 h2
      simp at h; subst h
      obtain ⟨h3, h4⟩ := innAs_at h2
      refine ⟨by simp [h3], fun j c' d' h5 h6 => ?_⟩
      cases j with
      | zero => simp at h5 h6; subst h5; subst h6; exact h1
      | succ j => simp at h5 h6; exact h4 j c' d' h5 h6
    · simp at h

theorem innVs_at {ids : List Nat} : ∀ {ls : List Nat} {Vc : List (List CV)}, innVs A V ids ls = some Vc → Vc.length = ls.length ∧ ∀ (i l : Nat) row', ls[i]? = some l → Vc[i]? = some row' → ∃ row, V[l]? = some row ∧ inns A ids row = some row'
  | [], Vc, h => by simp [innVs] at h; subst h; exact ⟨rfl, fun i l row' h => by simp at h⟩
  | l :: r, Vc, h => by
    simp only [innVs] at h
    split at h
    · rename_i row rs h1 h2
      split at h
      · rename_i row' h3
        simp at h; subst h
        obtain ⟨h4, h5⟩ := innVs_at h2
        refine ⟨by simp [h4], fun i l' rw' h6 h7 => ?_⟩
        cases i with
        | zero => simp at h6 h7; subst h6; subst h7; exact ⟨row, h1, h3⟩
        | succ i => simp at h6 h7; exact h5 i l' rw' h6 h7
      · simp at h
    · simp at h

/-- A cell of the caller's is, to the callee, what 'inn' says. -/
theorem inn_sound {ids : List Nat} {g1 gc : Gh} {c d : CV} {u : Value} (h : c.inn A ids = some d) (hr : RepC g1 w A' c u) (hd : ∀ x, toD A c = some x → RepD g1.im w x u) (hob : ∀ (i l b : Nat), ids[i]? = some l → g1.ob[l]? = some b → gc.ob[i]? = some b) (him : gc.im = g1.im) : RepC gc w [] d u := by
  cases c with
  | d x => simp [CV.inn] at h; subst h; simp only [RepC] at hr ⊢; rw [him]; exact hr
  | nil => simp [CV.inn] at h; subst h; simp only [RepC]; rw [him]; exact hd _ rfl
  | own k n =>
    simp only [CV.inn, Option.map_eq_some_iff] at h
    obtain ⟨x, hx, rfl⟩ := h
    simp only [RepC]; rw [him]; exact hd x hx
  | ptr l off =>
    simp only [CV.inn, Option.map_eq_some_iff] at h
    obtain ⟨i, hi, rfl⟩ := h
    obtain ⟨b, hb, e⟩ := hr
    exact ⟨b, hob i l b (pos?_spec hi) hb, e⟩
  | np => simp [CV.inn] at h; subst h; exact hr
  | ip row off =>
    simp [CV.inn] at h; subst h
    obtain ⟨b, o, e, h1, h2⟩ := hr
    exact ⟨b, o, e, by rw [him]; exact h1, by rw [him]; exact h2⟩
  | op k n i off => simp [CV.inn] at h
  | fn f cap =>
    simp only [CV.inn, Option.map_eq_some_iff] at h
    obtain ⟨is, hi, rfl⟩ := h
    obtain ⟨bks, e, hl, hb⟩ := hr
    obtain ⟨h1, h2⟩ := poss_spec hi
    refine ⟨bks, e, by omega, fun j i b h3 h4 => ?_⟩
    have hj : j < cap.length := by have := (List.getElem?_eq_some_iff.1 h3).1; omega
    have hc : cap[j]? = some cap[j] := List.getElem?_eq_getElem hj
    exact hob i _ b (h2 j _ i hc h3) (hb j _ b hc h4)
  | undef => simp [CV.inn] at h

theorem outn_sound {ids : List Nat} {nV nA : Nat} {Ac' A2 : List Arr} {g2 : Gh} {c : CV} {u : Value} (hr : RepC g' w Ac' c u) (hob : ∀ (i b : Nat), g'.ob[i]? = some b → g2.ob[back ids nV i]? = some b) (him : g2.im = g'.im)
    (hA : ∀ (k : Nat) r, Ac'[k]? = some r → A2[nA + k]? = some r) (har : ∀ (k : Nat) v, g'.ar[k]? = some v → g2.ar[nA + k]? = some v) : RepC g2 w A2 (c.outn ids nV nA) u := by
  cases c with
  | d x => simp only [CV.outn, RepC] at hr ⊢; rw [him]; exact hr
  | own k n =>
    obtain ⟨ad, cap, e, r, h1, h2, h3⟩ := hr
    exact ⟨ad, cap, e, r, hA k r h1, h2, fun h => har k _ (h3 h)⟩
  | ptr l off =>
    obtain ⟨b, hb, e⟩ := hr
    exact ⟨b, hob l b hb, e⟩
  | ip row off =>
    obtain ⟨b, o, e, h1, h2⟩ := hr
    exact ⟨b, o, e, by rw [him]; exact h1, by rw [him]; exact h2⟩
  | op k n i off =>
    obtain ⟨b, e, hv, r, h1, h2, h3⟩ := hr
    refine ⟨b, e, hv, r, hA k r h1, h2, fun h => ?_⟩
    obtain ⟨cap, h4, h5⟩ := h3 h
    exact ⟨cap, har k _ h4, h5⟩
  | fn f cap =>
    obtain ⟨bks, e, hl, hb⟩ := hr
    refine ⟨bks, e, by simpa using hl, fun i l b h1 h2 => ?_⟩
    simp only [List.getElem?_map, Option.map_eq_some_iff] at h1
    obtain ⟨l', h3, rfl⟩ := h1
    exact hob l' b (hb i l' b h3 h2)
  | _ => exact hr

theorem putBack_len {nA nV : Nat} {ids : List Nat} : ∀ {V : List (List CV)} {ls : List Nat} {rows : List (List CV)}, ls.length ≤ rows.length → (putBack nA nV ids V ls rows).length = V.length + (rows.length - ls.length)
  | V, [], rows, _ => by simp [putBack]
  | V, l :: ls, [], h => by simp at h
  | V, l :: ls, row :: rows, h => by
    simp only [putBack]
    rw [putBack_len (by simpa using h)]; simp

theorem putBack_at {nA nV : Nat} {ids : List Nat} : ∀ {V : List (List CV)} {ls : List Nat} {rows : List (List CV)}, ls.length ≤ rows.length → ls.Nodup → (∀ l ∈ ls, l < V.length) → ∀ (l : Nat) row, (putBack nA nV ids V ls rows)[l]? = some row →
    (∃ (i : Nat) (row' : List CV), ls[i]? = some l ∧ rows[i]? = some row' ∧ row = row'.map (CV.outn ids nV nA)) ∨ (l ∉ ls ∧ l < V.length ∧ V[l]? = some row) ∨ (V.length ≤ l ∧ ∃ row' : List CV, rows[ls.length + (l - V.length)]? = some row' ∧ row = row'.map (CV.outn ids nV nA))
  | V, [], rows, _, _, _, l, row, h => by
    simp only [putBack] at h
    by_cases hl : l < V.length
    · rw [List.getElem?_append_left hl] at h
      exact .inr (.inl ⟨by simp, hl, h⟩)
    · rw [List.getElem?_append_right (by omega), List.getElem?_map, Option.map_eq_some_iff] at h
      obtain ⟨row', h1, rfl⟩ := h
      exact .inr (.inr ⟨by omega, row', by simpa using h1, rfl⟩)
  | V, l0 :: ls, [], h, _, _, _, _, _ => by simp at h
  | V, l0 :: ls, row0 :: rows, hlen, hnd, hlt, l, row, h => by
    simp only [putBack] at h
    rw [List.nodup_cons] at hnd
    have hl0 : l0 < V.length := hlt l0 (by simp)
    have hV : V[l0]? = some V[l0] := List.getElem?_eq_getElem hl0
    rcases putBack_at (by simpa using hlen) hnd.2 (fun l hl => by simpa using hlt l (by simp [hl])) l row h with ⟨i, row', h1, h2, h3⟩ | ⟨h1, h2, h3⟩ | ⟨h1, row', h2, h3⟩
    · exact .inl ⟨i + 1, row', by simpa using h1, by simpa using h2, h3⟩
    · rw [set_get hV] at h3
      by_cases e : l = l0
      · subst e
        simp at h3
        exact .inl ⟨0, row0, rfl, rfl, h3.symm⟩
      · rw [if_neg e] at h3
        exact .inr (.inl ⟨by simp [e, h1], by simpa using h2, h3⟩)
    · simp at h1 h2
      refine .inr (.inr ⟨h1, row', ?_, h3⟩)
      rw [List.length_cons, show ls.length + 1 + (l - V.length) = (ls.length + (l - V.length)) + 1 by omega, List.getElem?_cons_succ]
      exact h2

set_option maxHeartbeats 1000000 in
/-- WHAT A CONTRACT GIVES THE CALLER. -/
theorem wpcall_sound (hI : Inv g w s.V s.A) (hF : Fr w0 g0 w g) {f : FuncId} {xs : List AV} {vs : Array Value} (hl : vs.size = xs.length) (hr : ∀ (i : Nat) x u, xs[i]? = some x → vs[i]? = some u → RepV g w s.A x u) (h : wpcall P s f xs K) :
    (∀ args w, (callFunc f args).run P w = .ok (.enter f args) w) ∧ ∃ x V' A', K x V' A' ∧ Calls P f vs w fun e w' => ∃ v g', e = .returned v ∧ RepV g' w' A' x v ∧ Inv g' w' V' A' ∧ Ext g w s.A g' w' A' ∧ Fr w0 g0 w' g' := by
  obtain ⟨ids, as, Vc, r, Vc', Ac', hnd, has, hVc, ⟨hent, hlen, hcall⟩, hK⟩ := h
  refine ⟨hent, _, _, _, hK, ?_⟩
  obtain ⟨hasl, hasx⟩ := innAs_at has
  obtain ⟨hVl, hVx⟩ := innVs_at hVc
  have hids : ∀ l ∈ ids, l < s.V.length := fun l hl' => by
    obtain ⟨i, hi⟩ := List.getElem?_of_mem hl'
    have hil := (List.getElem?_eq_some_iff.1 hi).1
    obtain ⟨row, h1, _⟩ := hVx i l _ hi (List.getElem?_eq_getElem (show i < Vc.length by omega))
    exact (List.getElem?_eq_some_iff.1 h1).1
  -- the cells that are handed over, and what they are
  have hargs : ∀ (l : List AV) (us : List Value), us.length = l.length → (∀ (i : Nat) x u, l[i]? = some x → us[i]? = some u → RepV g w s.A x u) → (∀ x ∈ l, ∃ y, x.inn s.A ids = some y) →
      RepCs g w s.A (argCells l) (us.flatMap fun u => u.cells.toList) ∧ ∀ k n, CV.own k n ∈ argCells l → (toD s.A (.own k n)).isSome = true := by
    intro l
    induction l with
    | nil => intro us h1 _ _; have : us = [] := List.eq_nil_of_length_eq_zero (by simpa using h1); subst this; exact ⟨⟨rfl, fun j c u h => by simp [argCells] at h⟩, fun k n h => by simp [argCells] at h⟩
    | cons x l ih =>
      intro us h1 h2 h3
      cases us with
      | nil => simp at h1
      | cons u us =>
        obtain ⟨⟨h4, h5⟩, h6⟩ := ih us (by simpa using h1) (fun i x u h7 h8 => h2 (i + 1) x u (by simpa using h7) (by simpa using h8)) (fun x hx => h3 x (by simp [hx]))
        obtain ⟨y, hy⟩ := h3 x (by simp)
        have hx0 := h2 0 x u rfl rfl
        have hpl : RepCs g w s.A x.cells u.cells.toList := by
          refine (AV.plain_cells hx0 ?_).1
          cases x with
          | c c => simp only [AV.inn, Option.map_eq_some_iff] at hy; obtain ⟨d, hd, _⟩ := hy; cases c <;> first | rfl | simp [CV.inn] at hd
          | agg cs =>
            simp only [AV.inn, Option.map_eq_some_iff] at hy
            obtain ⟨ds, hd, _⟩ := hy
            simp only [AV.plain, List.all_eq_true, Bool.not_eq_true']
            intro c hc
            obtain ⟨j, hj⟩ := List.getElem?_of_mem hc
            obtain ⟨h9, h10⟩ := inns_at hd
            have hjl : j < ds.length := by have := (List.getElem?_eq_some_iff.1 hj).1; omega
            have := h10 j c _ hj (List.getElem?_eq_getElem hjl)
            cases c <;> first | rfl | simp [CV.inn] at this
          | tup ys => simp [AV.inn] at hy
        refine ⟨⟨by simp only [argCells, List.flatMap_cons, List.length_append] at h4 ⊢; have := hpl.1; omega, fun j c v h7 h8 => ?_⟩, fun k n h7 => ?_⟩
        · simp only [argCells, List.flatMap_cons] at h7 h8
          by_cases hj : j < x.cells.length
          · rw [List.getElem?_append_left hj] at h7
            rw [List.getElem?_append_left (by rw [hpl.1]; exact hj)] at h8
            exact hpl.2 j c v h7 h8
          · rw [List.getElem?_append_right (by omega)] at h7
            rw [List.getElem?_append_right (by rw [hpl.1]; omega), hpl.1] at h8
            exact h5 _ c v h7 h8
        · simp only [argCells, List.flatMap_cons, List.mem_append] at h7
          rcases h7 with h7 | h7
          · cases x with
            | c c =>
              simp [AV.cells] at h7; subst h7
              simp only [AV.inn, Option.map_eq_some_iff] at hy
              obtain ⟨d, hd, _⟩ := hy
              exact CV.inn_own hd
            | agg cs =>
              simp only [AV.inn, Option.map_eq_some_iff] at hy
              obtain ⟨ds, hd, _⟩ := hy
              exact inns_own hd k n h7
            | tup ys => simp [AV.cells] at h7
          · exact h6 k n h7
  obtain ⟨hra, hoa⟩ := hargs xs vs.toList (by simpa using hl) (fun i x u h1 h2 => hr i x u h1 (by simpa using h2)) (fun x hx => by
    obtain ⟨i, hi⟩ := List.getElem?_of_mem hx
    have : i < as.length := by have := (List.getElem?_eq_some_iff.1 hi).1; omega
    exact ⟨_, hasx i x _ hi (List.getElem?_eq_getElem this)⟩)
  -- the objects that are handed over
  have hobjs : ∀ ls : List Nat, (∀ l ∈ ls, l ∈ ids) → ∃ us : List Value, RepCs g w s.A (objCells s.V ls) us ∧ (∀ k n, CV.own k n ∈ objCells s.V ls → (toD s.A (.own k n)).isSome = true) ∧
      ∀ (l : Nat) row b, l ∈ ls → s.V[l]? = some row → g.ob[l]? = some b → ∃ cs ty, w.heap[b]? = some (.cells cs ty (0, 0)) ∧ cs.size = row.length ∧ ∃ o, ∀ (j : Nat) c u, row[j]? = some c → cs[j]? = some u → (objCells s.V ls)[o + j]? = some c ∧ us[o + j]? = some u := by
    intro ls
    induction ls with
    | nil => intro _; exact ⟨[], ⟨rfl, fun j c u h => by simp [objCells] at h⟩, fun k n h => by simp [objCells] at h, fun l row b h => by simp at h⟩
    | cons l0 ls ih =>
      intro hsub
      obtain ⟨us, ⟨h1, h2⟩, h3, h4⟩ := ih (fun l hl => hsub l (by simp [hl]))
      have hl0 := hids l0 (hsub l0 (by simp))
      have hrow0 : s.V[l0]? = some s.V[l0] := List.getElem?_eq_getElem hl0
      have hob0 : g.ob[l0]? = some (g.ob[l0]'(by rw [hI.obl]; exact hl0)) := List.getElem?_eq_getElem _
      obtain ⟨_, cs0, ty0, hh0, hs0, hr0⟩ := hI.obj l0 _ _ hrow0 hob0
      have hget : s.V.getD l0 [] = s.V[l0] := by simp [List.getD, hrow0]
      have hcells : objCells s.V (l0 :: ls) = s.V[l0] ++ objCells s.V ls := by simp only [objCells, List.flatMap_cons, hget]
      refine ⟨cs0.toList ++ us, ?_, ?_, ?_⟩
      · rw [hcells]
        refine ⟨by simp [h1, hs0], fun j c u h5 h6 => ?_⟩
        by_cases hj : j < s.V[l0].length
        · rw [List.getElem?_append_left hj] at h5
          rw [List.getElem?_append_left (by simp; omega)] at h6
          exact hr0 j c u h5 (by simpa using h6)
        · rw [List.getElem?_append_right (by omega)] at h5
          rw [List.getElem?_append_right (by simp; omega)] at h6
          exact h2 _ c u h5 (by simpa [hs0] using h6)
      · rw [hcells]
        intro k n hm
        rcases List.mem_append.1 hm with hm | hm
        · obtain ⟨i, hi⟩ := List.getElem?_of_mem (hsub l0 (by simp))
          have hil := (List.getElem?_eq_some_iff.1 hi).1
          obtain ⟨row, h5, h6⟩ := hVx i l0 _ hi (List.getElem?_eq_getElem (show i < Vc.length by omega))
          rw [hrow0] at h5; cases h5
          exact inns_own h6 k n hm
        · exact h3 k n hm
      · intro l row b hml hrow hb
        rw [hcells]
        by_cases e : l = l0
        · subst e
          rw [hrow0] at hrow; cases hrow
          rw [hob0] at hb; cases hb
          refine ⟨cs0, ty0, hh0, hs0, 0, fun j c u h5 h6 => ?_⟩
          have hj := (List.getElem?_eq_some_iff.1 h5).1
          rw [Nat.zero_add, List.getElem?_append_left hj, List.getElem?_append_left (by simp; omega)]
          exact ⟨h5, by simpa using h6⟩
        · simp only [List.mem_cons, e, false_or] at hml
          obtain ⟨cs, ty, h5, h6, o, h7⟩ := h4 l row b hml hrow hb
          refine ⟨cs, ty, h5, h6, s.V[l0].length + o, fun j c u h8 h9 => ?_⟩
          obtain ⟨h10, h11⟩ := h7 j c u h8 h9
          rw [Nat.add_assoc, List.getElem?_append_right (by omega), List.getElem?_append_right (by simp; omega)]
          simp only [Nat.add_sub_cancel_left, Array.length_toList, hs0]
          exact ⟨h10, h11⟩
  obtain ⟨us, hro, hoo, hwo⟩ := hobjs ids (fun _ h => h)
  have hcat : RepCs g w s.A (argCells xs ++ objCells s.V ids) ((vs.toList.flatMap fun u => u.cells.toList) ++ us) := by
    refine ⟨by simp only [List.length_append]; have := hra.1; have := hro.1; omega, fun j c u h1 h2 => ?_⟩
    by_cases hj : j < (argCells xs).length
    · rw [List.getElem?_append_left hj] at h1
      rw [List.getElem?_append_left (by rw [hra.1]; exact hj)] at h2
      exact hra.2 j c u h1 h2
    · rw [List.getElem?_append_right (by omega)] at h1
      rw [List.getElem?_append_right (by rw [hra.1]; omega), hra.1] at h2
      exact hro.2 _ c u h1 h2
  obtain ⟨g1, hI1, hx1, hF1, ha1, ho1, hd1⟩ := seal_some hI hF hcat (fun k n hm => by
    rcases List.mem_append.1 hm with hm | hm
    · exact hoa k n hm
    · exact hoo k n hm)
  let gc : Gh := { ob := ids.map fun l => g1.ob.getD l 0, ar := [], im := g1.im }
  have hgob : ∀ (i l b : Nat), ids[i]? = some l → g1.ob[l]? = some b → gc.ob[i]? = some b := fun i l b h1 h2 => by
    simp [gc, h1, h2]
  have hgob' : ∀ (i b : Nat), gc.ob[i]? = some b → ∃ l, ids[i]? = some l ∧ g1.ob[l]? = some b := fun i b h1 => by
    simp only [gc, List.getElem?_map, Option.map_eq_some_iff] at h1
    obtain ⟨l, h2, h3⟩ := h1
    have hll : l < g1.ob.length := by rw [hI1.obl]; exact hids l (List.mem_of_getElem? h2)
    exact ⟨l, h2, by rw [← h3]; simp [List.getD, hll]⟩
  -- what the callee finds
  have hInvc : Inv gc w Vc [] := by
    refine ⟨by simp [gc, hVl], rfl, fun i row' b h1 h2 => ?_, fun k r v h1 => by simp at h1, fun i i' b h1 h2 => ?_, fun k k' v v' b h1 => by simp [gc] at h1, fun l k v b _ h2 => by simp [gc] at h2, hI1.fresh⟩
    · obtain ⟨l, h3, h4⟩ := hgob' i b h2
      obtain ⟨row, h5, h6⟩ := hVx i l row' h3 h1
      have hb : g.ob[l]? = some b := by rw [← ho1]; exact h4
      obtain ⟨cs, ty, h7, h8, o, h9⟩ := hwo l row b (List.mem_of_getElem? h3) h5 hb
      obtain ⟨h10, h11⟩ := inns_at h6
      refine ⟨(hI1.obj l row b h5 h4).1, cs, ty, h7, by omega, fun j d u h12 h13 => ?_⟩
      have hj : j < row.length := by have := (List.getElem?_eq_some_iff.1 h12).1; omega
      have hc : row[j]? = some row[j] := List.getElem?_eq_getElem hj
      obtain ⟨h14, h15⟩ := h9 j _ u hc h13
      refine inn_sound (h11 j _ d hc h12) (RepC.ext hx1 (hro.2 (o + j) _ u h14 h15)) (fun x hx => ?_) hgob rfl
      refine hd1 ((argCells xs).length + (o + j)) row[j] x u ?_ ?_ hx
      · rw [List.getElem?_append_right (by omega)]; simpa using h14
      · rw [List.getElem?_append_right (by rw [hra.1]; omega), hra.1]; simpa using h15
    · obtain ⟨l, h3, h4⟩ := hgob' i b h1
      obtain ⟨l', h5, h6⟩ := hgob' i' b h2
      obtain rfl := hI1.obob l l' b h4 h6
      have hi := (List.getElem?_eq_some_iff.1 h3).1
      exact (List.getElem?_inj hi hnd).1 (h3.trans h5.symm)
  have hrepc : ∀ (i : Nat) x u, as[i]? = some x → vs[i]? = some u → RepV gc w [] x u := by
    intro i y u h1 h2
    have hi : i < xs.length := by have := (List.getElem?_eq_some_iff.1 h1).1; omega
    have hx : xs[i]? = some xs[i] := List.getElem?_eq_getElem hi
    have hin := hasx i _ y hx h1
    have hr0 := hr i _ u hx h2
    -- where the cells of argument i stand
    have hplace : ∀ (l : List AV) (us : List Value), RepCs g w s.A (argCells l) (us.flatMap fun u => u.cells.toList) → us.length = l.length → (∀ (i : Nat) x u, l[i]? = some x → us[i]? = some u → x.cells.length = u.cells.size) → ∀ (i : Nat) x u, l[i]? = some x → us[i]? = some u →
        ∃ o, ∀ (j : Nat) c v, x.cells[j]? = some c → u.cells[j]? = some v → (argCells l)[o + j]? = some c ∧ (us.flatMap fun u => u.cells.toList)[o + j]? = some v := by
      intro l
      induction l with
      | nil => intro us _ _ _ i x u h; simp at h
      | cons x0 l ih =>
        intro us hrc hul hsz i x u h3 h4
        cases us with
        | nil => simp at hul
        | cons u0 us =>
          have hs0 := hsz 0 x0 u0 rfl rfl
          cases i with
          | zero =>
            simp at h3 h4; subst h3; subst h4
            refine ⟨0, fun j c v h5 h6 => ?_⟩
            have hj := (List.getElem?_eq_some_iff.1 h5).1
            simp only [argCells, List.flatMap_cons, Nat.zero_add]
            rw [List.getElem?_append_left hj, List.getElem?_append_left (by simp; omega)]
            exact ⟨h5, by simpa using h6⟩
          | succ i =>
            simp at h3 h4
            obtain ⟨o, ho⟩ := ih us ⟨by have := hrc.1; simp only [argCells, List.flatMap_cons, List.length_append, Array.length_toList] at this ⊢; omega, fun j c v h5 h6 => hrc.2 (x0.cells.length + j) c v (by
                simp only [argCells, List.flatMap_cons]; rw [List.getElem?_append_right (by omega)]; simpa [argCells] using h5) (by
                simp only [List.flatMap_cons]; rw [List.getElem?_append_right (by simp; omega)]; simpa [hs0] using h6)⟩ (by simpa using hul) (fun i x u h5 h6 => hsz (i + 1) x u (by simpa using h5) (by simpa using h6)) i x u h3 h4
            refine ⟨x0.cells.length + o, fun j c v h5 h6 => ?_⟩
            obtain ⟨h7, h8⟩ := ho j c v h5 h6
            simp only [argCells, List.flatMap_cons, Nat.add_assoc]
            rw [List.getElem?_append_right (by omega), List.getElem?_append_right (by simp; omega)]
            simp only [Nat.add_sub_cancel_left, Array.length_toList]
            exact ⟨h7, by rw [show x0.cells.length + (o + j) - u0.cells.size = o + j by omega]; exact h8⟩
    have hpl : ∀ (i : Nat) x u, xs[i]? = some x → vs.toList[i]? = some u → RepCs g w s.A x.cells u.cells.toList := by
      intro i x u h3 h4
      have hi' : i < as.length := by have := (List.getElem?_eq_some_iff.1 h3).1; omega
      have hy := hasx i x _ h3 (List.getElem?_eq_getElem hi')
      refine (AV.plain_cells (hr i x u h3 (by simpa using h4)) ?_).1
      cases x with
      | c c => simp only [AV.inn, Option.map_eq_some_iff] at hy; obtain ⟨d, hd, _⟩ := hy; cases c <;> first | rfl | simp [CV.inn] at hd
      | agg cs =>
        simp only [AV.inn, Option.map_eq_some_iff] at hy
        obtain ⟨ds, hd, _⟩ := hy
        simp only [AV.plain, List.all_eq_true, Bool.not_eq_true']
        intro c hc
        obtain ⟨j, hj⟩ := List.getElem?_of_mem hc
        obtain ⟨h9, h10⟩ := inns_at hd
        have hjl : j < ds.length := by have := (List.getElem?_eq_some_iff.1 hj).1; omega
        have := h10 j c _ hj (List.getElem?_eq_getElem hjl)
        cases c <;> first | rfl | simp [CV.inn] at this
      | tup ys => simp [AV.inn] at hy
    obtain ⟨o, ho⟩ := hplace xs vs.toList hra (by simpa using hl) (fun i x u h3 h4 => by have := (hpl i x u h3 h4).1; simp at this; omega) i _ u hx (by simpa using h2)
    have hcell : ∀ (j : Nat) c d v, xs[i].cells[j]? = some c → u.cells[j]? = some v → c.inn s.A ids = some d → RepC gc w [] d v := fun j c d v h3 h4 h5 => by
      obtain ⟨h6, h7⟩ := ho j c v h3 h4
      have hlt := (List.getElem?_eq_some_iff.1 h6).1
      refine inn_sound h5 (RepC.ext hx1 (hra.2 _ c v h6 h7)) (fun x hx => hd1 (o + j) c x v ?_ ?_ hx) hgob rfl
      · rw [List.getElem?_append_left hlt]; exact h6
      · rw [List.getElem?_append_left (by rw [hra.1]; exact hlt)]; exact h7
    generalize hxi : xs[i] = x at hin hr0 hcell
    cases x with
    | c c =>
      simp only [AV.inn, Option.map_eq_some_iff] at hin
      obtain ⟨d, hd, rfl⟩ := hin
      have hone : u.oneCell' = true := RepC.oneCell (by cases c <;> first | rfl | simp [CV.inn] at hd) hr0
      have hcs : u.cells = #[u] := by cases u <;> first | rfl | simp [Value.oneCell'] at hone
      exact hcell 0 c d u rfl (by rw [hcs]; rfl) hd
    | agg cs =>
      simp only [AV.inn, Option.map_eq_some_iff] at hin
      obtain ⟨ds, hd, rfl⟩ := hin
      obtain ⟨us', rfl, hlu, _⟩ := hr0
      obtain ⟨h9, h10⟩ := inns_at hd
      refine ⟨us', rfl, by omega, fun j d v h3 h4 => ?_⟩
      have hj : j < cs.length := by have := (List.getElem?_eq_some_iff.1 h3).1; omega
      have hc : cs[j]? = some cs[j] := List.getElem?_eq_getElem hj
      exact hcell j _ d v hc (by simpa [Value.cells] using h4) (h10 j _ d hc h3)
    | tup ys => simp [AV.inn] at hin
  refine (hcall gc w vs rfl hInvc (by omega) hrepc).mono ?_
  rintro e w' ⟨v, g', rfl, hrv, hI', hF'⟩
  -- back at the caller's
  obtain ⟨new, hobn, hnew⟩ := hF'.ob
  have hgcl : gc.ob.length = ids.length := by simp [gc]
  let g2 : Gh := { ob := g1.ob ++ new, ar := g1.ar ++ g'.ar, im := g'.im }
  have hobl1 : g1.ob.length = s.V.length := hI1.obl
  have harl1 : g1.ar.length = (sealAs s.A (argCells xs ++ objCells s.V ids)).length := hI1.arl
  have hsl : (sealAs s.A (argCells xs ++ objCells s.V ids)).length = s.A.length := by rw [← harl1, ha1, hI.arl]
  have hob2 : ∀ (i b : Nat), g'.ob[i]? = some b → g2.ob[back ids s.V.length i]? = some b := by
    intro i b h1
    rw [hobn] at h1
    simp only [back]
    by_cases hi : i < ids.length
    · have hid : ids[i]? = some ids[i] := List.getElem?_eq_getElem hi
      rw [List.getElem?_append_left (by omega)] at h1
      obtain ⟨l, h2, h3⟩ := hgob' i b h1
      simp only [h2, g2]
      rw [List.getElem?_append_left (by have := (List.getElem?_eq_some_iff.1 h3).1; exact this)]; exact h3
    · have hid : ids[i]? = none := List.getElem?_eq_none (by omega)
      rw [List.getElem?_append_right (by omega), hgcl] at h1
      simp only [hid, g2]
      rw [List.getElem?_append_right (by omega), hobl1]
      simpa using h1
  have hA2 : ∀ (k : Nat) r, Ac'[k]? = some r → (sealAs s.A (argCells xs ++ objCells s.V ids) ++ Ac')[s.A.length + k]? = some r := fun k r h1 => by
    rw [List.getElem?_append_right (by omega), hsl]; simpa using h1
  have har2 : ∀ (k : Nat) v, g'.ar[k]? = some v → g2.ar[s.A.length + k]? = some v := fun k v h1 => by
    simp only [g2]
    rw [List.getElem?_append_right (by omega), harl1, hsl]; simpa using h1
  have hgr : Grows g1.im w g'.im w' := by
    refine ⟨fun b => ?_, fun b o ho => ?_⟩
    · rcases Nat.lt_or_ge b w.heap.size with hb | hb
      · rw [hF'.imeq b hb]; exact Nat.le_refl _
      · rw [hI1.fresh b hb]; exact Nat.zero_le _
    · have hb := hI1.imLt ho
      refine World.cell?_of_block (a := ⟨b, o, none⟩) (hF'.blk b hb (fun hm => ?_))
      obtain ⟨i, hi⟩ := List.getElem?_of_mem hm
      obtain ⟨l, h2, h3⟩ := hgob' i b hi
      have hll := hids l (List.mem_of_getElem? h2)
      have := (hI1.obj l _ b (List.getElem?_eq_getElem hll) h3).1
      omega
  have hx2 : Ext g1 w (sealAs s.A (argCells xs ++ objCells s.V ids)) g2 w' (sealAs s.A (argCells xs ++ objCells s.V ids) ++ Ac') := by
    refine ⟨fun l b hb => ?_, hgr, fun k r hk => ⟨r, ?_, rfl, Nat.le_refl _, fun _ => ?_⟩⟩
    · simp only [g2]; rw [List.getElem?_append_left (List.getElem?_eq_some_iff.1 hb).1]; exact hb
    · rw [List.getElem?_append_left (List.getElem?_eq_some_iff.1 hk).1]; exact hk
    · simp only [g2]; rw [List.getElem?_append_left (by rw [harl1]; exact (List.getElem?_eq_some_iff.1 hk).1)]
  have hconv : ∀ c u, RepC g' w' Ac' c u → RepC g2 w' (sealAs s.A (argCells xs ++ objCells s.V ids) ++ Ac') (c.outn ids s.V.length s.A.length) u := fun c u h1 => outn_sound h1 hob2 rfl hA2 har2
  have hold : ∀ b, b < w.heap.size → (∀ (l : Nat), l ∈ ids → g1.ob[l]? ≠ some b) → w'.heap[b]? = w.heap[b]? := fun b hb hne => hF'.blk b hb (fun hm => by
    obtain ⟨i, hi⟩ := List.getElem?_of_mem hm
    obtain ⟨l, h2, h3⟩ := hgob' i b hi
    exact hne l (List.mem_of_getElem? h2) h3)
  have hVc'l : ids.length ≤ Vc'.length := by omega
  have hIobl' := hI'.obl
  have hnewl : new.length = Vc'.length - ids.length := by
    have : g'.ob.length = Vc'.length := hIobl'
    rw [hobn, List.length_append, hgcl] at this; omega
  -- the objects' blocks
  have hblk2 : ∀ (l b : Nat), g2.ob[l]? = some b → (l < s.V.length ∧ g1.ob[l]? = some b ∧ b < w.heap.size) ∨ (s.V.length ≤ l ∧ g'.ob[ids.length + (l - s.V.length)]? = some b ∧ w.heap.size ≤ b) := by
    intro l b h1
    simp only [g2] at h1
    by_cases hl' : l < s.V.length
    · rw [List.getElem?_append_left (by omega)] at h1
      exact .inl ⟨hl', h1, hI1.obLt h1⟩
    · rw [List.getElem?_append_right (by omega), hobl1] at h1
      refine .inr ⟨by omega, ?_, hnew b (List.mem_of_getElem? h1)⟩
      rw [hobn, List.getElem?_append_right (by omega), hgcl]; simpa using h1
  have hg'idx : ∀ (i l b : Nat), ids[i]? = some l → g1.ob[l]? = some b → g'.ob[i]? = some b := fun i l b h1 h2 => by
    have h3 := hgob i l b h1 h2
    rw [hobn, List.getElem?_append_left (List.getElem?_eq_some_iff.1 h3).1]; exact h3
  refine ⟨v, g2, rfl, ?_, ?_, hx1.trans hx2, ?_⟩
  · -- the result
    cases r with
    | c c => exact hconv c v hrv
    | agg cs =>
      obtain ⟨us', rfl, h1, h2⟩ := hrv
      refine ⟨us', rfl, by simpa using h1, fun j c u h3 h4 => ?_⟩
      simp only [List.getElem?_map, Option.map_eq_some_iff] at h3
      obtain ⟨c', h5, rfl⟩ := h3
      exact hconv c' u (h2 j c' u h5 h4)
    | tup ys =>
      obtain ⟨us', rfl, h1, h2⟩ := hrv
      refine ⟨us', rfl, by simpa using h1, fun j y u h3 h4 => ?_⟩
      simp only [List.getElem?_map, Option.map_eq_some_iff] at h3
      obtain ⟨y', h5, rfl⟩ := h3
      have h6 := h2 j y' u h5 h4
      cases y' with
      | c c => exact hconv c u h6
      | agg cs =>
        obtain ⟨us'', rfl, h7, h8⟩ := h6
        refine ⟨us'', rfl, by simpa using h7, fun j c u h9 h10 => ?_⟩
        simp only [List.getElem?_map, Option.map_eq_some_iff] at h9
        obtain ⟨c', h11, rfl⟩ := h9
        exact hconv c' u (h8 j c' u h11 h10)
      | tup zs => exact h6.elim
  · -- the memory
    refine ⟨?_, ?_, fun l row b h1 h2 => ?_, fun k r v' h1 h2 => ?_, fun l l' b h1 h2 => ?_, fun k k' v1 v2 b h1 h2 h3 h4 => ?_, fun l k v' b h1 h2 h3 => ?_, fun b hb => hI'.fresh b hb⟩
    · rw [putBack_len hVc'l]; simp only [g2, List.length_append]; omega
    · simp only [g2, List.length_append, harl1]; rw [hI'.arl]
    · rcases putBack_at hVc'l hnd hids l row h1 with ⟨i, row', h3, h4, rfl⟩ | ⟨h3, h4, h5⟩ | ⟨h3, row', h4, rfl⟩
      · have hl' := hids l (List.mem_of_getElem? h3)
        rcases hblk2 l b h2 with ⟨_, h5, _⟩ | ⟨h5, _⟩
        · obtain ⟨h6, cs, ty, h7, h8, h9⟩ := hI'.obj i row' b h4 (hg'idx i l b h3 h5)
          refine ⟨h6, cs, ty, h7, by simpa using h8, fun j c u h10 h11 => ?_⟩
          simp only [List.getElem?_map, Option.map_eq_some_iff] at h10
          obtain ⟨c', h12, rfl⟩ := h10
          exact hconv c' u (h9 j c' u h12 h11)
        · omega
      · rcases hblk2 l b h2 with ⟨_, h6, h7⟩ | ⟨h6, _⟩
        · refine hI1.objKeep hx2 h5 h6 (hold b h7 (fun l' hl' h8 => h3 (hI1.obob l l' b h6 h8 ▸ hl'))) ?_
          show g'.im b = 0
          rw [hF'.imeq b h7]; exact (hI1.obj l row b h5 h6).1
        · omega
      · rcases hblk2 l b h2 with ⟨h5, _⟩ | ⟨_, h5, _⟩
        · omega
        · obtain ⟨h6, cs, ty, h7, h8, h9⟩ := hI'.obj _ row' b h4 h5
          refine ⟨h6, cs, ty, h7, by simpa using h8, fun j c u h10 h11 => ?_⟩
          simp only [List.getElem?_map, Option.map_eq_some_iff] at h10
          obtain ⟨c', h12, rfl⟩ := h10
          exact hconv c' u (h9 j c' u h12 h11)
    · simp only [g2] at h2
      by_cases hk : k < s.A.length
      · rw [List.getElem?_append_left (by omega)] at h1
        rw [List.getElem?_append_left (by omega)] at h2
        exact hI1.arrKeep hx2 h1 h2 (fun b hb => hold b (hI1.arLt h2 hb) (fun l _ h3 => hI1.obar l k v' b h3 h2 hb)) (fun b hb => hF'.imeq b (hI1.arLt h2 hb))
      · rw [List.getElem?_append_right (by omega), hsl] at h1
        rw [List.getElem?_append_right (by omega), harl1, hsl] at h2
        exact hI'.arr _ r v' h1 h2
    · rcases hblk2 l b h1 with ⟨h3, h4, h5⟩ | ⟨h3, h4, h5⟩ <;> rcases hblk2 l' b h2 with ⟨h6, h7, h8⟩ | ⟨h6, h7, h8⟩
      · exact hI1.obob l l' b h4 h7
      · omega
      · omega
      · have := hI'.obob _ _ b h4 h7; omega
    · have hcase : ∀ (k : Nat) v b, g2.ar[k]? = some v → v.ownBlock = some b → (k < s.A.length ∧ g1.ar[k]? = some v ∧ b < w.heap.size) ∨ (s.A.length ≤ k ∧ g'.ar[k - s.A.length]? = some v ∧ w.heap.size ≤ b) := fun k v b h5 h6 => by
        simp only [g2] at h5
        by_cases hk : k < s.A.length
        · rw [List.getElem?_append_left (by omega)] at h5
          exact .inl ⟨hk, h5, hI1.arLt h5 h6⟩
        · rw [List.getElem?_append_right (by omega), harl1, hsl] at h5
          exact .inr ⟨by omega, h5, hF'.ar _ v b h5 h6⟩
      rcases hcase k v1 b h1 h3 with ⟨h5, h6, h7⟩ | ⟨h5, h6, h7⟩ <;> rcases hcase k' v2 b h2 h4 with ⟨h8, h9, h10⟩ | ⟨h8, h9, h10⟩
      · exact hI1.arar k k' v1 v2 b h6 h9 h3 h4
      · omega
      · omega
      · have := hI'.arar _ _ v1 v2 b h6 h9 h3 h4; omega
    · simp only [g2] at h2
      by_cases hk : k < s.A.length
      · rw [List.getElem?_append_left (by omega)] at h2
        rcases hblk2 l b h1 with ⟨_, h5, _⟩ | ⟨_, _, h6⟩
        · exact hI1.obar l k v' b h5 h2 h3
        · have := hI1.arLt h2 h3; omega
      · rw [List.getElem?_append_right (by omega), harl1, hsl] at h2
        have h7 := hF'.ar _ v' b h2 h3
        rcases hblk2 l b h1 with ⟨_, _, h5⟩ | ⟨_, h5, _⟩
        · omega
        · exact hI'.obar _ _ v' b h5 h2 h3
  · -- what is left alone
    refine ⟨hF'.os.trans hF.os, hF'.tape.trans hF.tape, hF'.output.trans hF.output, Nat.le_trans hF.size hF'.size, fun b h1 h2 => ?_, fun b h1 => ?_, ?_, fun k v' b h1 h2 => ?_⟩
    · rw [hold b (Nat.lt_of_lt_of_le h1 hF.size) (fun l hl' h3 => by rcases hF1.obOK h3 with h4 | h4 <;> first | exact h2 h4 | omega)]
      exact hF1.blk b h1 h2
    · show g'.im b = g0.im b
      rw [hF'.imeq b (Nat.lt_of_lt_of_le h1 hF.size)]; exact hF1.imeq b h1
    · obtain ⟨new1, e1, hn1⟩ := hF1.ob
      exact ⟨new1 ++ new, by simp only [g2, e1, List.append_assoc], fun b hb => by
        rcases List.mem_append.1 hb with h | h
        · exact hn1 b h
        · exact Nat.le_trans hF.size (hnew b h)⟩
    · simp only [g2] at h1
      by_cases hk : k < s.A.length
      · rw [List.getElem?_append_left (by omega)] at h1
        exact hF1.ar k v' b h1 h2
      · rw [List.getElem?_append_right (by omega), harl1, hsl] at h1
        exact Nat.le_trans hF.size (hF'.ar _ v' b h1 h2)
end
end Go.Av
