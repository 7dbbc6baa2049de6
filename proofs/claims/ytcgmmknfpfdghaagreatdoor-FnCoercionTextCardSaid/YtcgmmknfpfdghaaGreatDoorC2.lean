/- A part of the library of this seat. -/
import Derived.Test.YtcgmmknfpfdghaaGreatDoorC1
set_option linter.unusedVariables false
set_option linter.unusedSimpArgs false
namespace Go.Av
open Go

def pos? : List Nat -> Nat -> Option Nat
 | [], _ => none
 | x :: r, l => if l = x then some 0 else (pos? r l).map (· + 1)

def poss (ids : List Nat) : List Nat -> Option (List Nat)
 | [] => some []
 | l :: r => match pos? ids l, poss ids r with
  | some i, some is => some (i :: is)
  | _, _ => none

def CV.inn (A : List Arr) (ids : List Nat) : CV -> Option CV
 | .d x => some (.d x)
 | .nil => some (.d (.sl []))
 | .own k n => (toD A (.own k n)).map CV.d
 | .ptr l off => (pos? ids l).map fun i => .ptr i off
 | .np => some .np
 | .ip row off => some (.ip row off)
 | .op _ _ _ _ => none
 | .fn f cap => (poss ids cap).map fun is => .fn f is
 | .undef => none

def inns (A : List Arr) (ids : List Nat) : List CV -> Option (List CV)
 | [] => some []
 | c :: r => match c.inn A ids, inns A ids r with
  | some d, some ds => some (d :: ds)
  | _, _ => none

def AV.inn (A : List Arr) (ids : List Nat) : AV -> Option AV
 | .c x => (x.inn A ids).map AV.c
 | .agg xs => (inns A ids xs).map AV.agg
 | .tup _ => none

def innAs (A : List Arr) (ids : List Nat) : List AV -> Option (List AV)
 | [] => some []
 | c :: r => match c.inn A ids, innAs A ids r with
  | some d, some ds => some (d :: ds)
  | _, _ => none

def innVs (A : List Arr) (V : List (List CV)) (ids : List Nat) : List Nat -> Option (List (List CV))
 | [] => some []
 | l :: r => match V[l]?, innVs A V ids r with
  | some row, some rs => match inns A ids row with
   | some row' => some (row' :: rs)
   | none => none
  | _, _ => none

def back (ids : List Nat) (nV : Nat) (i : Nat) : Nat := match ids[i]? with
 | some l => l
 | none => nV + (i - ids.length)

def CV.outn (ids : List Nat) (nV nA : Nat) : CV -> CV
 | .ptr i off => .ptr (back ids nV i) off
 | .own k n => .own (nA + k) n
 | .op k n i off => .op (nA + k) n i off
 | .fn f cap => .fn f (cap.map (back ids nV))
 | c => c

def AV.outn (ids : List Nat) (nV nA : Nat) : AV -> AV
 | .c x => .c (x.outn ids nV nA)
 | .agg xs => .agg (xs.map (CV.outn ids nV nA))
 | .tup xs => .tup (xs.map fun x => match x with
  | .c x => .c (x.outn ids nV nA)
  | .agg xs => .agg (xs.map (CV.outn ids nV nA))
  | x => x)

def putBack (nA nV : Nat) (ids : List Nat) : List (List CV) -> List Nat -> List (List CV) -> List (List CV)
 | V, l :: ls, row :: rows => putBack nA nV ids (V.set l (row.map (CV.outn ids nV nA))) ls rows
 | V, [], rows => V ++ rows.map fun row => row.map (CV.outn ids nV nA)
 | V, _ :: _, [] => V

def argCells (xs : List AV) : List CV := xs.flatMap AV.cells
def objCells (V : List (List CV)) (ids : List Nat) : List CV := ids.flatMap fun l => V.getD l []

def ACalls (P : Program) (f : FuncId) (as : List AV) (V : List (List CV)) (r : AV) (V' : List (List CV)) (A' : List Arr) : Prop :=
 (∀ args w, (callFunc f args).run P w = .ok (.enter f args) w) /\ V.length <= V'.length /\
 ∀ (g : Gh) (w : World) (vs : Array Value), g.ar = [] -> Inv g w V [] -> Tab w g -> vs.size = as.length -> (∀ (i : Nat) x u, as[i]? = some x -> vs[i]? = some u -> RepV g w [] x u) ->
  Calls P f vs w fun e w' => ∃ v g', e = .returned v /\ RepV g' w' A' r v /\ Inv g' w' V' A' /\ Fr w g w' g'

def wpcall0 (P : Program) (s : St) (f : FuncId) (xs : List AV) (K : AV -> List (List CV) -> List Arr -> Prop) : Prop :=
 ∃ (ids : List Nat) (as : List AV) (Vc : List (List CV)) (r : AV) (Vc' : List (List CV)) (Ac' : List Arr), ids.Nodup /\ innAs s.A ids xs = some as /\ innVs s.A s.V ids ids = some Vc /\ ACalls P f as Vc r Vc' Ac' /\
  K (r.outn ids s.V.length s.A.length) (putBack s.A.length s.V.length ids s.V ids Vc') (sealAs s.A (argCells xs ++ objCells s.V ids) ++ Ac')

def arr0 : Arr := ⟨0, 0, [], false⟩
def putL {α : Type} (l : List α) : List Nat -> List α -> List α
 | h :: hs, v :: vs => putL (l.set h v) hs vs
 | _, _ => l
def CV.innH (hs : List Nat) : CV -> Option CV
 | .d x => some (.d x)
 | .nil => some (.d (.sl []))
 | .own k n => (pos? hs k).map fun i => .own i n
 | .np => some .np
 | .ip row off => some (.ip row off)
 | .fn f [] => some (.fn f [])
 | _ => none
def innHs (hs : List Nat) : List CV -> Option (List CV)
 | [] => some []
 | c :: r => match c.innH hs, innHs hs r with
  | some d, some ds => some (d :: ds)
  | _, _ => none
def AV.innH (hs : List Nat) : AV -> Option AV
 | .c x => (x.innH hs).map AV.c
 | .agg xs => (innHs hs xs).map AV.agg
 | .tup _ => none
def innAsH (hs : List Nat) : List AV -> Option (List AV)
 | [] => some []
 | c :: r => match c.innH hs, innAsH hs r with
  | some d, some ds => some (d :: ds)
  | _, _ => none
def CV.outnH (hs : List Nat) (nA : Nat) : CV -> CV
 | .own k n => .own (back hs nA k) n
 | .op k n i off => .op (back hs nA k) n i off
 | c => c
def AV.outnH (hs : List Nat) (nA : Nat) : AV -> AV
 | .c x => .c (x.outnH hs nA)
 | .agg xs => .agg (xs.map (CV.outnH hs nA))
 | .tup xs => .tup (xs.map fun x => match x with
  | .c x => .c (x.outnH hs nA)
  | .agg xs => .agg (xs.map (CV.outnH hs nA))
  | x => x)
def ACallsG (P : Program) (f : FuncId) (as : List AV) (V : List (List CV)) (A0 : List Arr) (r : AV) (V' : List (List CV)) (A' : List Arr) : Prop :=
 (∀ args w, (callFunc f args).run P w = .ok (.enter f args) w) /\ V.length <= V'.length /\
 ∀ (g : Gh) (w : World) (vs : Array Value), Inv g w V A0 -> Tab w g -> vs.size = as.length -> (∀ (i : Nat) x u, as[i]? = some x -> vs[i]? = some u -> RepV g w A0 x u) ->
  Calls P f vs w fun e w' => ∃ v g', e = .returned v /\ RepV g' w' A' r v /\ Inv g' w' V' A' /\ Fr w g w' g'

def wpcallH (P : Program) (s : St) (f : FuncId) (xs : List AV) (K : AV -> List (List CV) -> List Arr -> Prop) : Prop :=
 ∃ (hs : List Nat) (as : List AV) (r : AV) (Ac' : List Arr), hs.Nodup /\ (∀ (i h : Nat), hs[i]? = some h -> ∃ a a', s.A[h]? = some a /\ a.wr = true /\ Ac'[i]? = some a' /\ a'.sz = a.sz) /\ innAsH hs xs = some as /\
  ACallsG P f as [] (hs.map fun h => s.A.getD h arr0) r [] Ac' /\ K (r.outnH hs s.A.length) s.V (putL s.A hs Ac' ++ Ac'.drop hs.length)


def wpcall (P : Program) (s : St) (f : FuncId) (xs : List AV) (K : AV -> List (List CV) -> List Arr -> Prop) : Prop := wpcall0 P s f xs K \/ wpcallH P s f xs K

section
variable {P : Program} {g g' g0 : Gh} {w w' w0 : World} {V V' : List (List CV)} {A A' : List Arr} {s : St} {a : Act} {K : AV -> List (List CV) -> List Arr -> Prop}

theorem pos?_spec : ∀ {ids : List Nat} {l i : Nat}, pos? ids l = some i -> ids[i]? = some l
 | [], l, i, h => by simp [pos?] at h
 | x :: r, l, i, h => by
  simp only [pos?] at h
  split at h
  ·rename_i e; simp at h; subst h; simp [e]
  ·simp only [Option.map_eq_some_iff] at h
   obtain ⟨j, h1, rfl⟩ := h
   simpa using pos?_spec h1

theorem poss_spec : ∀ {ids cap is : List Nat}, poss ids cap = some is -> is.length = cap.length /\ ∀ (j l i : Nat), cap[j]? = some l -> is[j]? = some i -> ids[i]? = some l
 | ids, [], is, h => by simp [poss] at h; subst h; exact ⟨rfl, fun j l i h => by simp at h⟩
 | ids, c :: r, is, h => by
  simp only [poss] at h
  split at h
  ·rename_i i is' h1 h2
   simp at h; subst h
   obtain ⟨h3, h4⟩ := poss_spec h2
   refine ⟨by simp [h3], fun j l i h5 h6 => ?_⟩
   cases j with
   | zero => simp at h5 h6; subst h5; subst h6; exact pos?_spec h1
   | succ j => simp at h5 h6; exact h4 j l i h5 h6
  ·simp at h

theorem seal_some : ∀ {cs : List CV} {vs : List Value} {g : Gh} {A : List Arr}, Inv g w V A -> Fr w0 g0 w g -> RepCs g w A cs vs -> (∀ k n, CV.own k n ∈ cs -> (toD A (.own k n)).isSome = true) ->
  ∃ g', Inv g' w V (sealAs A cs) /\ Ext g w A g' w (sealAs A cs) /\ Fr w0 g0 w g' /\ g'.ar = g.ar /\ g'.ob = g.ob /\ ∀ (j : Nat) c x u, cs[j]? = some c -> vs[j]? = some u -> toD A c = some x -> RepD g'.im w x u
 | [], vs, g, A, hI, hF, hr, hd => ⟨g, hI, .refl _ _ _, hF, rfl, rfl, fun j c x u h => by simp at h⟩
 | c :: r, vs, g, A, hI, hF, hr, hd => by
  cases vs with
  | nil => exact absurd hr.1 (by simp)
  | cons v vs =>
   have hone : ∃ g1, Inv g1 w V (sealA A c) /\ Ext g w A g1 w (sealA A c) /\ Fr w0 g0 w g1 /\ g1.ar = g.ar /\ g1.ob = g.ob /\ ∀ x, toD A c = some x -> RepD g1.im w x v := by
    have hrc := hr.2 0 c v rfl rfl
    cases ht : toD A c with
    | some x =>
     obtain ⟨g1, h1, h2, h3, h4, h5, h6⟩ := seal_one hI hF hrc ht
     exact ⟨g1, h1, h2, h3, h4, h5, fun y hy => by simp at hy; subst hy; exact h6⟩
    | none =>
     have hne : sealA A c = A := by
      cases c <;> try rfl
      rename_i k n
      have := hd k n (by simp)
      rw [ht] at this; simp at this
     rw [hne]
     exact ⟨g, hI, .refl _ _ _, hF, rfl, rfl, fun y hy => by simp at hy⟩
   obtain ⟨g1, hI1, hx1, hF1, ha1, ho1, hd1⟩ := hone
   have hr' : RepCs g1 w (sealA A c) r vs := ⟨by simpa using hr.1, fun j c' u h3 h4 => RepC.ext hx1 (hr.2 (j + 1) c' u (by simpa using h3) (by simpa using h4))⟩
   obtain ⟨g2, hI2, hx2, hF2, ha2, ho2, hd2⟩ := seal_some hI1 hF1 hr' (fun k n h => by rw [toD_sealA]; exact hd k n (by simp [h]))
   refine ⟨g2, hI2, hx1.trans hx2, hF2, ha2.trans ha1, ho2.trans ho1, fun j c' x u h3 h4 h5 => ?_⟩
   cases j with
   | zero => simp at h3 h4; subst h3; subst h4; exact RepD.grows hx2.gr _ _ (hd1 x h5)
   | succ j => simp at h3 h4; exact hd2 j c' x u h3 h4 (by rw [toD_sealA]; exact h5)

theorem CV.inn_own {ids : List Nat} {k n : Nat} {d : CV} (h : CV.inn A ids (.own k n) = some d) : (toD A (.own k n)).isSome = true := by
 simp only [CV.inn, Option.map_eq_some_iff] at h
 obtain ⟨x, hx, _⟩ := h
 simp [hx]

theorem inns_own {ids : List Nat} : ∀ {cs ds : List CV}, inns A ids cs = some ds -> ∀ k n, CV.own k n ∈ cs -> (toD A (.own k n)).isSome = true
 | [], ds, h, k, n, hm => by simp at hm
 | c :: r, ds, h, k, n, hm => by
  simp only [inns] at h
  split at h
  ·rename_i d ds' h1 h2
   simp only [List.mem_cons] at hm
   rcases hm with rfl | hm
   ·exact CV.inn_own h1
   ·exact inns_own h2 k n hm
  ·simp at h

theorem inns_at {ids : List Nat} : ∀ {cs ds : List CV}, inns A ids cs = some ds -> ds.length = cs.length /\ ∀ (j : Nat) c d, cs[j]? = some c -> ds[j]? = some d -> c.inn A ids = some d
 | [], ds, h => by simp [inns] at h; subst h; exact ⟨rfl, fun j c d h => by simp at h⟩
 | c :: r, ds, h => by
  simp only [inns] at h
  split at h
  ·rename_i d ds' h1 h2
   simp at h; subst h
   obtain ⟨h3, h4⟩ := inns_at h2
   refine ⟨by simp [h3], fun j c' d' h5 h6 => ?_⟩
   cases j with
   | zero => simp at h5 h6; subst h5; subst h6; exact h1
   | succ j => simp at h5 h6; exact h4 j c' d' h5 h6
  ·simp at h

theorem innAs_at {ids : List Nat} : ∀ {xs as : List AV}, innAs A ids xs = some as -> as.length = xs.length /\ ∀ (j : Nat) x y, xs[j]? = some x -> as[j]? = some y -> x.inn A ids = some y
 | [], as, h => by simp [innAs] at h; subst h; exact ⟨rfl, fun j x y h => by simp at h⟩
 | c :: r, as, h => by
  simp only [innAs] at h
  split at h
  ·rename_i d ds' h1 h2
   simp at h; subst h
   obtain ⟨h3, h4⟩ := innAs_at h2
   refine ⟨by simp [h3], fun j c' d' h5 h6 => ?_⟩
   cases j with
   | zero => simp at h5 h6; subst h5; subst h6; exact h1
   | succ j => simp at h5 h6; exact h4 j c' d' h5 h6
  ·simp at h

theorem innVs_at {ids : List Nat} : ∀ {ls : List Nat} {Vc : List (List CV)}, innVs A V ids ls = some Vc -> Vc.length = ls.length /\ ∀ (i l : Nat) row', ls[i]? = some l -> Vc[i]? = some row' -> ∃ row, V[l]? = some row /\ inns A ids row = some row'
 | [], Vc, h => by simp [innVs] at h; subst h; exact ⟨rfl, fun i l row' h => by simp at h⟩
 | l :: r, Vc, h => by
  simp only [innVs] at h
  split at h
  ·rename_i row rs h1 h2
   split at h
   ·rename_i row' h3
    simp at h; subst h
    obtain ⟨h4, h5⟩ := innVs_at h2
    refine ⟨by simp [h4], fun i l' rw' h6 h7 => ?_⟩
    cases i with
    | zero => simp at h6 h7; subst h6; subst h7; exact ⟨row, h1, h3⟩
    | succ i => simp at h6 h7; exact h5 i l' rw' h6 h7
   ·simp at h
  ·simp at h

theorem inn_sound {ids : List Nat} {g1 gc : Gh} {c d : CV} {u : Value} (h : c.inn A ids = some d) (hr : RepC g1 w A' c u) (hd : ∀ x, toD A c = some x -> RepD g1.im w x u) (hob : ∀ (i l b : Nat), ids[i]? = some l -> g1.ob[l]? = some b -> gc.ob[i]? = some b) (him : gc.im = g1.im) : RepC gc w [] d u := by
 cases c with
 | d x => simp [CV.inn] at h; subst h; simp only [RepC] at hr ⊢; rw [him]; exact hr
 | nil => simp [CV.inn] at h; subst h; simp only [RepC]; rw [him]; exact hd _ rfl
 | own k n =>
  simp only [CV.inn, Option.map_eq_some_iff] at h
  obtain ⟨x, hx, rfl⟩ := h
  simp only [RepC]; rw [him]; exact hd x hx
 | ptr l off =>
  simp only [CV.inn, Option.map_eq_some_iff] at h
  obtain ⟨i, hi, rfl⟩ := h
  obtain ⟨b, hb, e⟩ := hr
  exact ⟨b, hob i l b (pos?_spec hi) hb, e⟩
 | np => simp [CV.inn] at h; subst h; exact hr
 | ip row off =>
  simp [CV.inn] at h; subst h
  obtain ⟨b, o, e, h1, h2⟩ := hr
  exact ⟨b, o, e, by rw [him]; exact h1, by rw [him]; exact h2⟩
 | op k n i off => simp [CV.inn] at h
 | fn f cap =>
  simp only [CV.inn, Option.map_eq_some_iff] at h
  obtain ⟨is, hi, rfl⟩ := h
  obtain ⟨bks, e, hl, hb⟩ := hr
  obtain ⟨h1, h2⟩ := poss_spec hi
  refine ⟨bks, e, by omega, fun j i b h3 h4 => ?_⟩
  have hj : j < cap.length := by have := (List.getElem?_eq_some_iff.1 h3).1; omega
  have hc : cap[j]? = some cap[j] := List.getElem?_eq_getElem hj
  exact hob i _ b (h2 j _ i hc h3) (hb j _ b hc h4)
 | undef => simp [CV.inn] at h

theorem outn_sound {ids : List Nat} {nV nA : Nat} {Ac' A2 : List Arr} {g2 : Gh} {c : CV} {u : Value} (hr : RepC g' w Ac' c u) (hob : ∀ (i b : Nat), g'.ob[i]? = some b -> g2.ob[back ids nV i]? = some b) (him : g2.im = g'.im)
  (hA : ∀ (k : Nat) r, Ac'[k]? = some r -> A2[nA + k]? = some r) (har : ∀ (k : Nat) v, g'.ar[k]? = some v -> g2.ar[nA + k]? = some v) : RepC g2 w A2 (c.outn ids nV nA) u := by
 cases c with
 | d x => simp only [CV.outn, RepC] at hr ⊢; rw [him]; exact hr
 | own k n =>
  obtain ⟨ad, cap, e, r, h1, h2, h3⟩ := hr
  exact ⟨ad, cap, e, r, hA k r h1, h2, fun h => har k _ (h3 h)⟩
 | ptr l off =>
  obtain ⟨b, hb, e⟩ := hr
  exact ⟨b, hob l b hb, e⟩
 | ip row off =>
  obtain ⟨b, o, e, h1, h2⟩ := hr
  exact ⟨b, o, e, by rw [him]; exact h1, by rw [him]; exact h2⟩
 | op k n i off =>
  obtain ⟨b, e, hv, r, h1, h2, h3⟩ := hr
  refine ⟨b, e, hv, r, hA k r h1, h2, fun h => ?_⟩
  obtain ⟨cap, h4, h5⟩ := h3 h
  exact ⟨cap, har k _ h4, h5⟩
 | fn f cap =>
  obtain ⟨bks, e, hl, hb⟩ := hr
  refine ⟨bks, e, by simpa using hl, fun i l b h1 h2 => ?_⟩
  simp only [List.getElem?_map, Option.map_eq_some_iff] at h1
  obtain ⟨l', h3, rfl⟩ := h1
  exact hob l' b (hb i l' b h3 h2)
 | _ => exact hr

theorem putBack_len {nA nV : Nat} {ids : List Nat} : ∀ {V : List (List CV)} {ls : List Nat} {rows : List (List CV)}, ls.length <= rows.length -> (putBack nA nV ids V ls rows).length = V.length + (rows.length - ls.length)
 | V, [], rows, _ => by simp [putBack]
 | V, l :: ls, [], h => by simp at h
 | V, l :: ls, row :: rows, h => by
  simp only [putBack]
  rw [putBack_len (by simpa using h)]; simp

theorem putBack_at {nA nV : Nat} {ids : List Nat} : ∀ {V : List (List CV)} {ls : List Nat} {rows : List (List CV)}, ls.length <= rows.length -> ls.Nodup -> (∀ l ∈ ls, l < V.length) -> ∀ (l : Nat) row, (putBack nA nV ids V ls rows)[l]? = some row ->
  (∃ (i : Nat) (row' : List CV), ls[i]? = some l /\ rows[i]? = some row' /\ row = row'.map (CV.outn ids nV nA)) \/ (l ∉ ls /\ l < V.length /\ V[l]? = some row) \/ (V.length <= l /\ ∃ row' : List CV, rows[ls.length + (l - V.length)]? = some row' /\ row = row'.map (CV.outn ids nV nA))
 | V, [], rows, _, _, _, l, row, h => by
  simp only [putBack] at h
  by_cases hl : l < V.length
  ·rw [List.getElem?_append_left hl] at h
   exact .inr (.inl ⟨by simp, hl, h⟩)
  ·rw [List.getElem?_append_right (by omega), List.getElem?_map, Option.map_eq_some_iff] at h
   obtain ⟨row', h1, rfl⟩ := h
   exact .inr (.inr ⟨by omega, row', by simpa using h1, rfl⟩)
 | V, l0 :: ls, [], h, _, _, _, _, _ => by simp at h
 | V, l0 :: ls, row0 :: rows, hlen, hnd, hlt, l, row, h => by
  simp only [putBack] at h
  rw [List.nodup_cons] at hnd
  have hl0 : l0 < V.length := hlt l0 (by simp)
  have hV : V[l0]? = some V[l0] := List.getElem?_eq_getElem hl0
  rcases putBack_at (by simpa using hlen) hnd.2 (fun l hl => by simpa using hlt l (by simp [hl])) l row h with ⟨i, row', h1, h2, h3⟩ | ⟨h1, h2, h3⟩ | ⟨h1, row', h2, h3⟩
  ·exact .inl ⟨i + 1, row', by simpa using h1, by simpa using h2, h3⟩
  ·rw [set_get hV] at h3
   by_cases e : l = l0
   ·subst e
    simp at h3
    exact .inl ⟨0, row0, rfl, rfl, h3.symm⟩
   ·rw [if_neg e] at h3
    exact .inr (.inl ⟨by simp [e, h1], by simpa using h2, h3⟩)
  ·simp at h1 h2
   refine .inr (.inr ⟨h1, row', ?_, h3⟩)
   rw [List.length_cons, show ls.length + 1 + (l - V.length) = (ls.length + (l - V.length)) + 1 by omega, List.getElem?_cons_succ]
   exact h2

set_option maxHeartbeats 1000000 in
theorem wpcall0_sound (hI : Inv g w s.V s.A) (hF : Fr w0 g0 w g) {f : FuncId} {xs : List AV} {vs : Array Value} (hl : vs.size = xs.length) (hr : ∀ (i : Nat) x u, xs[i]? = some x -> vs[i]? = some u -> RepV g w s.A x u) (h : wpcall0 P s f xs K) :
  (∀ args w, (callFunc f args).run P w = .ok (.enter f args) w) /\ ∃ x V' A', K x V' A' /\ Calls P f vs w fun e w' => ∃ v g', e = .returned v /\ RepV g' w' A' x v /\ Inv g' w' V' A' /\ Ext g w s.A g' w' A' /\ Fr w0 g0 w' g' := by
 obtain ⟨ids, as, Vc, r, Vc', Ac', hnd, has, hVc, ⟨hent, hlen, hcall⟩, hK⟩ := h
 refine ⟨hent, _, _, _, hK, ?_⟩
 obtain ⟨hasl, hasx⟩ := innAs_at has
 obtain ⟨hVl, hVx⟩ := innVs_at hVc
 have hids : ∀ l ∈ ids, l < s.V.length := fun l hl' => by
  obtain ⟨i, hi⟩ := List.getElem?_of_mem hl'
  have hil := (List.getElem?_eq_some_iff.1 hi).1
  obtain ⟨row, h1, _⟩ := hVx i l _ hi (List.getElem?_eq_getElem (show i < Vc.length by omega))
  exact (List.getElem?_eq_some_iff.1 h1).1
 -- the cells that are handed over, and what they are
 have hargs : ∀ (l : List AV) (us : List Value), us.length = l.length -> (∀ (i : Nat) x u, l[i]? = some x -> us[i]? = some u -> RepV g w s.A x u) -> (∀ x ∈ l, ∃ y, x.inn s.A ids = some y) ->
   RepCs g w s.A (argCells l) (us.flatMap fun u => u.cells.toList) /\ ∀ k n, CV.own k n ∈ argCells l -> (toD s.A (.own k n)).isSome = true := by
  intro l
  induction l with
  | nil => intro us h1 _ _; have : us = [] := List.eq_nil_of_length_eq_zero (by simpa using h1); subst this; exact ⟨⟨rfl, fun j c u h => by simp [argCells] at h⟩, fun k n h => by simp [argCells] at h⟩
  | cons x l ih =>
   intro us h1 h2 h3
   cases us with
   | nil => simp at h1
   | cons u us =>
    obtain ⟨⟨h4, h5⟩, h6⟩ := ih us (by simpa using h1) (fun i x u h7 h8 => h2 (i + 1) x u (by simpa using h7) (by simpa using h8)) (fun x hx => h3 x (by simp [hx]))
    obtain ⟨y, hy⟩ := h3 x (by simp)
    have hx0 := h2 0 x u rfl rfl
    have hpl : RepCs g w s.A x.cells u.cells.toList := by
     refine (AV.plain_cells hx0 ?_).1
     cases x with
     | c c => simp only [AV.inn, Option.map_eq_some_iff] at hy; obtain ⟨d, hd, _⟩ := hy; cases c <;> first | rfl | simp [CV.inn] at hd
     | agg cs =>
      simp only [AV.inn, Option.map_eq_some_iff] at hy
      obtain ⟨ds, hd, _⟩ := hy
      simp only [AV.plain, List.all_eq_true, Bool.not_eq_true']
      intro c hc
      obtain ⟨j, hj⟩ := List.getElem?_of_mem hc
      obtain ⟨h9, h10⟩ := inns_at hd
      have hjl : j < ds.length := by have := (List.getElem?_eq_some_iff.1 hj).1; omega
      have := h10 j c _ hj (List.getElem?_eq_getElem hjl)
      cases c <;> first | rfl | simp [CV.inn] at this
     | tup ys => simp [AV.inn] at hy
    refine ⟨⟨by simp only [argCells, List.flatMap_cons, List.length_append] at h4 ⊢; have := hpl.1; omega, fun j c v h7 h8 => ?_⟩, fun k n h7 => ?_⟩
    ·simp only [argCells, List.flatMap_cons] at h7 h8
     by_cases hj : j < x.cells.length
     ·rw [List.getElem?_append_left hj] at h7
      rw [List.getElem?_append_left (by rw [hpl.1]; exact hj)] at h8
      exact hpl.2 j c v h7 h8
     ·rw [List.getElem?_append_right (by omega)] at h7
      rw [List.getElem?_append_right (by rw [hpl.1]; omega), hpl.1] at h8
      exact h5 _ c v h7 h8
    ·simp only [argCells, List.flatMap_cons, List.mem_append] at h7
     rcases h7 with h7 | h7
     ·cases x with
      | c c =>
       simp [AV.cells] at h7; subst h7
       simp only [AV.inn, Option.map_eq_some_iff] at hy
       obtain ⟨d, hd, _⟩ := hy
       exact CV.inn_own hd
      | agg cs =>
       simp only [AV.inn, Option.map_eq_some_iff] at hy
       obtain ⟨ds, hd, _⟩ := hy
       exact inns_own hd k n h7
      | tup ys => simp [AV.cells] at h7
     ·exact h6 k n h7
 obtain ⟨hra, hoa⟩ := hargs xs vs.toList (by simpa using hl) (fun i x u h1 h2 => hr i x u h1 (by simpa using h2)) (fun x hx => by
  obtain ⟨i, hi⟩ := List.getElem?_of_mem hx
  have : i < as.length := by have := (List.getElem?_eq_some_iff.1 hi).1; omega
  exact ⟨_, hasx i x _ hi (List.getElem?_eq_getElem this)⟩)
 -- the objects that are handed over
 have hobjs : ∀ ls : List Nat, (∀ l ∈ ls, l ∈ ids) -> ∃ us : List Value, RepCs g w s.A (objCells s.V ls) us /\ (∀ k n, CV.own k n ∈ objCells s.V ls -> (toD s.A (.own k n)).isSome = true) /\
   ∀ (l : Nat) row b, l ∈ ls -> s.V[l]? = some row -> g.ob[l]? = some b -> ∃ cs ty, w.heap[b]? = some (.cells cs ty (0, 0)) /\ cs.size = row.length /\ ∃ o, ∀ (j : Nat) c u, row[j]? = some c -> cs[j]? = some u -> (objCells s.V ls)[o + j]? = some c /\ us[o + j]? = some u := by
  intro ls
  induction ls with
  | nil => intro _; exact ⟨[], ⟨rfl, fun j c u h => by simp [objCells] at h⟩, fun k n h => by simp [objCells] at h, fun l row b h => by simp at h⟩
  | cons l0 ls ih =>
   intro hsub
   obtain ⟨us, ⟨h1, h2⟩, h3, h4⟩ := ih (fun l hl => hsub l (by simp [hl]))
   have hl0 := hids l0 (hsub l0 (by simp))
   have hrow0 : s.V[l0]? = some s.V[l0] := List.getElem?_eq_getElem hl0
   have hob0 : g.ob[l0]? = some (g.ob[l0]'(by rw [hI.obl]; exact hl0)) := List.getElem?_eq_getElem _
   obtain ⟨_, cs0, ty0, hh0, hs0, hr0⟩ := hI.obj l0 _ _ hrow0 hob0
   have hget : s.V.getD l0 [] = s.V[l0] := by simp [List.getD, hrow0]
   have hcells : objCells s.V (l0 :: ls) = s.V[l0] ++ objCells s.V ls := by simp only [objCells, List.flatMap_cons, hget]
   refine ⟨cs0.toList ++ us, ?_, ?_, ?_⟩
   ·rw [hcells]
    refine ⟨by simp [h1, hs0], fun j c u h5 h6 => ?_⟩
    by_cases hj : j < s.V[l0].length
    ·rw [List.getElem?_append_left hj] at h5
     rw [List.getElem?_append_left (by simp; omega)] at h6
     exact hr0 j c u h5 (by simpa using h6)
    ·rw [List.getElem?_append_right (by omega)] at h5
     rw [List.getElem?_append_right (by simp; omega)] at h6
     exact h2 _ c u h5 (by simpa [hs0] using h6)
   ·rw [hcells]
    intro k n hm
    rcases List.mem_append.1 hm with hm | hm
    ·obtain ⟨i, hi⟩ := List.getElem?_of_mem (hsub l0 (by simp))
     have hil := (List.getElem?_eq_some_iff.1 hi).1
     obtain ⟨row, h5, h6⟩ := hVx i l0 _ hi (List.getElem?_eq_getElem (show i < Vc.length by omega))
     rw [hrow0] at h5; cases h5
     exact inns_own h6 k n hm
    ·exact h3 k n hm
   ·intro l row b hml hrow hb
    rw [hcells]
    by_cases e : l = l0
    ·subst e
     rw [hrow0] at hrow; cases hrow
     rw [hob0] at hb; cases hb
     refine ⟨cs0, ty0, hh0, hs0, 0, fun j c u h5 h6 => ?_⟩
     have hj := (List.getElem?_eq_some_iff.1 h5).1
     rw [Nat.zero_add, List.getElem?_append_left hj, List.getElem?_append_left (by simp; omega)]
     exact ⟨h5, by simpa using h6⟩
    ·simp only [List.mem_cons, e, false_or] at hml
     obtain ⟨cs, ty, h5, h6, o, h7⟩ := h4 l row b hml hrow hb
     refine ⟨cs, ty, h5, h6, s.V[l0].length + o, fun j c u h8 h9 => ?_⟩
     obtain ⟨h10, h11⟩ := h7 j c u h8 h9
     rw [Nat.add_assoc, List.getElem?_append_right (by omega), List.getElem?_append_right (by simp; omega)]
     simp only [Nat.add_sub_cancel_left, Array.length_toList, hs0]
     exact ⟨h10, h11⟩
 obtain ⟨us, hro, hoo, hwo⟩ := hobjs ids (fun _ h => h)
 have hcat : RepCs g w s.A (argCells xs ++ objCells s.V ids) ((vs.toList.flatMap fun u => u.cells.toList) ++ us) := by
  refine ⟨by simp only [List.length_append]; have := hra.1; have := hro.1; omega, fun j c u h1 h2 => ?_⟩
  by_cases hj : j < (argCells xs).length
  ·rw [List.getElem?_append_left hj] at h1
   rw [List.getElem?_append_left (by rw [hra.1]; exact hj)] at h2
   exact hra.2 j c u h1 h2
  ·rw [List.getElem?_append_right (by omega)] at h1
   rw [List.getElem?_append_right (by rw [hra.1]; omega), hra.1] at h2
   exact hro.2 _ c u h1 h2
 obtain ⟨g1, hI1, hx1, hF1, ha1, ho1, hd1⟩ := seal_some hI hF hcat (fun k n hm => by
  rcases List.mem_append.1 hm with hm | hm
  ·exact hoa k n hm
  ·exact hoo k n hm)
 let gc : Gh := { ob := ids.map fun l => g1.ob.getD l 0, ar := [], im := g1.im }
 have hgob : ∀ (i l b : Nat), ids[i]? = some l -> g1.ob[l]? = some b -> gc.ob[i]? = some b := fun i l b h1 h2 => by
  simp [gc, h1, h2]
 have hgob' : ∀ (i b : Nat), gc.ob[i]? = some b -> ∃ l, ids[i]? = some l /\ g1.ob[l]? = some b := fun i b h1 => by
  simp only [gc, List.getElem?_map, Option.map_eq_some_iff] at h1
  obtain ⟨l, h2, h3⟩ := h1
  have hll : l < g1.ob.length := by rw [hI1.obl]; exact hids l (List.mem_of_getElem? h2)
  exact ⟨l, h2, by rw [<- h3]; simp [List.getD, hll]⟩
 -- what the callee finds
 have hInvc : Inv gc w Vc [] := by
  refine ⟨by simp [gc, hVl], rfl, fun i row' b h1 h2 => ?_, fun k r v h1 => by simp at h1, fun i i' b h1 h2 => ?_, fun k k' v v' b h1 => by simp [gc] at h1, fun l k v b _ h2 => by simp [gc] at h2, hI1.fresh⟩
  ·obtain ⟨l, h3, h4⟩ := hgob' i b h2
   obtain ⟨row, h5, h6⟩ := hVx i l row' h3 h1
   have hb : g.ob[l]? = some b := by rw [<- ho1]; exact h4
   obtain ⟨cs, ty, h7, h8, o, h9⟩ := hwo l row b (List.mem_of_getElem? h3) h5 hb
   obtain ⟨h10, h11⟩ := inns_at h6
   refine ⟨(hI1.obj l row b h5 h4).1, cs, ty, h7, by omega, fun j d u h12 h13 => ?_⟩
   have hj : j < row.length := by have := (List.getElem?_eq_some_iff.1 h12).1; omega
   have hc : row[j]? = some row[j] := List.getElem?_eq_getElem hj
   obtain ⟨h14, h15⟩ := h9 j _ u hc h13
   refine inn_sound (h11 j _ d hc h12) (RepC.ext hx1 (hro.2 (o + j) _ u h14 h15)) (fun x hx => ?_) hgob rfl
   refine hd1 ((argCells xs).length + (o + j)) row[j] x u ?_ ?_ hx
   ·rw [List.getElem?_append_right (by omega)]; simpa using h14
   ·rw [List.getElem?_append_right (by rw [hra.1]; omega), hra.1]; simpa using h15
  ·obtain ⟨l, h3, h4⟩ := hgob' i b h1
   obtain ⟨l', h5, h6⟩ := hgob' i' b h2
   obtain rfl := hI1.obob l l' b h4 h6
   have hi := (List.getElem?_eq_some_iff.1 h3).1
   exact (List.getElem?_inj hi hnd).1 (h3.trans h5.symm)
 have hrepc : ∀ (i : Nat) x u, as[i]? = some x -> vs[i]? = some u -> RepV gc w [] x u := by
  intro i y u h1 h2
  have hi : i < xs.length := by have := (List.getElem?_eq_some_iff.1 h1).1; omega
  have hx : xs[i]? = some xs[i] := List.getElem?_eq_getElem hi
  have hin := hasx i _ y hx h1
  have hr0 := hr i _ u hx h2
  -- where the cells of argument i stand
  have hplace : ∀ (l : List AV) (us : List Value), RepCs g w s.A (argCells l) (us.flatMap fun u => u.cells.toList) -> us.length = l.length -> (∀ (i : Nat) x u, l[i]? = some x -> us[i]? = some u -> x.cells.length = u.cells.size) -> ∀ (i : Nat) x u, l[i]? = some x -> us[i]? = some u ->
    ∃ o, ∀ (j : Nat) c v, x.cells[j]? = some c -> u.cells[j]? = some v -> (argCells l)[o + j]? = some c /\ (us.flatMap fun u => u.cells.toList)[o + j]? = some v := by
   intro l
   induction l with
   | nil => intro us _ _ _ i x u h; simp at h
   | cons x0 l ih =>
    intro us hrc hul hsz i x u h3 h4
    cases us with
    | nil => simp at hul
    | cons u0 us =>
     have hs0 := hsz 0 x0 u0 rfl rfl
     cases i with
     | zero =>
      simp at h3 h4; subst h3; subst h4
      refine ⟨0, fun j c v h5 h6 => ?_⟩
      have hj := (List.getElem?_eq_some_iff.1 h5).1
      simp only [argCells, List.flatMap_cons, Nat.zero_add]
      rw [List.getElem?_append_left hj, List.getElem?_append_left (by simp; omega)]
      exact ⟨h5, by simpa using h6⟩
     | succ i =>
      simp at h3 h4
      obtain ⟨o, ho⟩ := ih us ⟨by have := hrc.1; simp only [argCells, List.flatMap_cons, List.length_append, Array.length_toList] at this ⊢; omega, fun j c v h5 h6 => hrc.2 (x0.cells.length + j) c v (by
        simp only [argCells, List.flatMap_cons]; rw [List.getElem?_append_right (by omega)]; simpa [argCells] using h5) (by
        simp only [List.flatMap_cons]; rw [List.getElem?_append_right (by simp; omega)]; simpa [hs0] using h6)⟩ (by simpa using hul) (fun i x u h5 h6 => hsz (i + 1) x u (by simpa using h5) (by simpa using h6)) i x u h3 h4
      refine ⟨x0.cells.length + o, fun j c v h5 h6 => ?_⟩
      obtain ⟨h7, h8⟩ := ho j c v h5 h6
      simp only [argCells, List.flatMap_cons, Nat.add_assoc]
      rw [List.getElem?_append_right (by omega), List.getElem?_append_right (by simp; omega)]
      simp only [Nat.add_sub_cancel_left, Array.length_toList]
      exact ⟨h7, by rw [show x0.cells.length + (o + j) - u0.cells.size = o + j by omega]; exact h8⟩
  have hpl : ∀ (i : Nat) x u, xs[i]? = some x -> vs.toList[i]? = some u -> RepCs g w s.A x.cells u.cells.toList := by
   intro i x u h3 h4
   have hi' : i < as.length := by have := (List.getElem?_eq_some_iff.1 h3).1; omega
   have hy := hasx i x _ h3 (List.getElem?_eq_getElem hi')
   refine (AV.plain_cells (hr i x u h3 (by simpa using h4)) ?_).1
   cases x with
   | c c => simp only [AV.inn, Option.map_eq_some_iff] at hy; obtain ⟨d, hd, _⟩ := hy; cases c <;> first | rfl | simp [CV.inn] at hd
   | agg cs =>
    simp only [AV.inn, Option.map_eq_some_iff] at hy
    obtain ⟨ds, hd, _⟩ := hy
    simp only [AV.plain, List.all_eq_true, Bool.not_eq_true']
    intro c hc
    obtain ⟨j, hj⟩ := List.getElem?_of_mem hc
    obtain ⟨h9, h10⟩ := inns_at hd
    have hjl : j < ds.length := by have := (List.getElem?_eq_some_iff.1 hj).1; omega
    have := h10 j c _ hj (List.getElem?_eq_getElem hjl)
    cases c <;> first | rfl | simp [CV.inn] at this
   | tup ys => simp [AV.inn] at hy
  obtain ⟨o, ho⟩ := hplace xs vs.toList hra (by simpa using hl) (fun i x u h3 h4 => by have := (hpl i x u h3 h4).1; simp at this; omega) i _ u hx (by simpa using h2)
  have hcell : ∀ (j : Nat) c d v, xs[i].cells[j]? = some c -> u.cells[j]? = some v -> c.inn s.A ids = some d -> RepC gc w [] d v := fun j c d v h3 h4 h5 => by
   obtain ⟨h6, h7⟩ := ho j c v h3 h4
   have hlt := (List.getElem?_eq_some_iff.1 h6).1
   refine inn_sound h5 (RepC.ext hx1 (hra.2 _ c v h6 h7)) (fun x hx => hd1 (o + j) c x v ?_ ?_ hx) hgob rfl
   ·rw [List.getElem?_append_left hlt]; exact h6
   ·rw [List.getElem?_append_left (by rw [hra.1]; exact hlt)]; exact h7
  generalize hxi : xs[i] = x at hin hr0 hcell
  cases x with
  | c c =>
   simp only [AV.inn, Option.map_eq_some_iff] at hin
   obtain ⟨d, hd, rfl⟩ := hin
   have hone : u.oneCell' = true := RepC.oneCell (by cases c <;> first | rfl | simp [CV.inn] at hd) hr0
   have hcs : u.cells = #[u] := by cases u <;> first | rfl | simp [Value.oneCell'] at hone
   exact hcell 0 c d u rfl (by rw [hcs]; rfl) hd
  | agg cs =>
   simp only [AV.inn, Option.map_eq_some_iff] at hin
   obtain ⟨ds, hd, rfl⟩ := hin
   obtain ⟨us', rfl, hlu, _⟩ := hr0
   obtain ⟨h9, h10⟩ := inns_at hd
   refine ⟨us', rfl, by omega, fun j d v h3 h4 => ?_⟩
   have hj : j < cs.length := by have := (List.getElem?_eq_some_iff.1 h3).1; omega
   have hc : cs[j]? = some cs[j] := List.getElem?_eq_getElem hj
   exact hcell j _ d v hc (by simpa [Value.cells] using h4) (h10 j _ d hc h3)
  | tup ys => simp [AV.inn] at hin
 refine (hcall gc w vs rfl hInvc (hF1.now.less (fun b hb => by obtain ⟨i, hi⟩ := List.getElem?_of_mem hb; obtain ⟨l, _, h⟩ := hgob' i b hi; exact List.mem_of_getElem? h) (fun b hb => by simp [Gh.arb, gc] at hb)) (by omega) hrepc).mono ?_
 rintro e w' ⟨v, g', rfl, hrv, hI', hF'⟩
 -- back at the caller's
 have hna : ∀ b, b ∉ gc.arb := fun b h => by simp [Gh.arb, gc] at h
 obtain ⟨new, hobn, hnew⟩ := hF'.ob
 have hgcl : gc.ob.length = ids.length := by simp [gc]
 let g2 : Gh := { ob := g1.ob ++ new, ar := g1.ar ++ g'.ar, im := g'.im }
 have hobl1 : g1.ob.length = s.V.length := hI1.obl
 have harl1 : g1.ar.length = (sealAs s.A (argCells xs ++ objCells s.V ids)).length := hI1.arl
 have hsl : (sealAs s.A (argCells xs ++ objCells s.V ids)).length = s.A.length := by rw [<- harl1, ha1, hI.arl]
 have hob2 : ∀ (i b : Nat), g'.ob[i]? = some b -> g2.ob[back ids s.V.length i]? = some b := by
  intro i b h1
  rw [hobn] at h1
  simp only [back]
  by_cases hi : i < ids.length
  ·have hid : ids[i]? = some ids[i] := List.getElem?_eq_getElem hi
   rw [List.getElem?_append_left (by omega)] at h1
   obtain ⟨l, h2, h3⟩ := hgob' i b h1
   simp only [h2, g2]
   rw [List.getElem?_append_left (by have := (List.getElem?_eq_some_iff.1 h3).1; exact this)]; exact h3
  ·have hid : ids[i]? = none := List.getElem?_eq_none (by omega)
   rw [List.getElem?_append_right (by omega), hgcl] at h1
   simp only [hid, g2]
   rw [List.getElem?_append_right (by omega), hobl1]
   simpa using h1
 have hA2 : ∀ (k : Nat) r, Ac'[k]? = some r -> (sealAs s.A (argCells xs ++ objCells s.V ids) ++ Ac')[s.A.length + k]? = some r := fun k r h1 => by
  rw [List.getElem?_append_right (by omega), hsl]; simpa using h1
 have har2 : ∀ (k : Nat) v, g'.ar[k]? = some v -> g2.ar[s.A.length + k]? = some v := fun k v h1 => by
  simp only [g2]
  rw [List.getElem?_append_right (by omega), harl1, hsl]; simpa using h1
 have hgr : Grows g1.im w g'.im w' := by
  refine ⟨fun b => ?_, fun b o ho => ?_⟩
  ·rcases Nat.lt_or_ge b w.heap.size with hb | hb
   ·rw [hF'.imeq b hb (hna b)]; exact Nat.le_refl _
   ·rw [hI1.fresh b hb]; exact Nat.zero_le _
  ·have hb := hI1.imLt ho
   refine World.cell?_of_block (a := ⟨b, o, none⟩) (hF'.blk b hb (fun hm => ?_) (hna b))
   obtain ⟨i, hi⟩ := List.getElem?_of_mem hm
   obtain ⟨l, h2, h3⟩ := hgob' i b hi
   have hll := hids l (List.mem_of_getElem? h2)
   have := (hI1.obj l _ b (List.getElem?_eq_getElem hll) h3).1
   omega
 have hx2 : Ext g1 w (sealAs s.A (argCells xs ++ objCells s.V ids)) g2 w' (sealAs s.A (argCells xs ++ objCells s.V ids) ++ Ac') := by
  refine ⟨fun l b hb => ?_, hgr, fun k r hk => ⟨r, ?_, rfl, Nat.le_refl _, fun _ => ?_⟩⟩
  ·simp only [g2]; rw [List.getElem?_append_left (List.getElem?_eq_some_iff.1 hb).1]; exact hb
  ·rw [List.getElem?_append_left (List.getElem?_eq_some_iff.1 hk).1]; exact hk
  ·simp only [g2]; rw [List.getElem?_append_left (by rw [harl1]; exact (List.getElem?_eq_some_iff.1 hk).1)]
 have hconv : ∀ c u, RepC g' w' Ac' c u -> RepC g2 w' (sealAs s.A (argCells xs ++ objCells s.V ids) ++ Ac') (c.outn ids s.V.length s.A.length) u := fun c u h1 => outn_sound h1 hob2 rfl hA2 har2
 have hold : ∀ b, b < w.heap.size -> (∀ (l : Nat), l ∈ ids -> g1.ob[l]? ≠ some b) -> w'.heap[b]? = w.heap[b]? := fun b hb hne => hF'.blk b hb (fun hm => by
  obtain ⟨i, hi⟩ := List.getElem?_of_mem hm
  obtain ⟨l, h2, h3⟩ := hgob' i b hi
  exact hne l (List.mem_of_getElem? h2) h3) (hna b)
 have hVc'l : ids.length <= Vc'.length := by omega
 have hIobl' := hI'.obl
 have hnewl : new.length = Vc'.length - ids.length := by
  have : g'.ob.length = Vc'.length := hIobl'
  rw [hobn, List.length_append, hgcl] at this; omega
 -- the objects' blocks
 have hblk2 : ∀ (l b : Nat), g2.ob[l]? = some b -> (l < s.V.length /\ g1.ob[l]? = some b /\ b < w.heap.size) \/ (s.V.length <= l /\ g'.ob[ids.length + (l - s.V.length)]? = some b /\ w.heap.size <= b) := by
  intro l b h1
  simp only [g2] at h1
  by_cases hl' : l < s.V.length
  ·rw [List.getElem?_append_left (by omega)] at h1
   exact .inl ⟨hl', h1, hI1.obLt h1⟩
  ·rw [List.getElem?_append_right (by omega), hobl1] at h1
   refine .inr ⟨by omega, ?_, hnew b (List.mem_of_getElem? h1)⟩
   rw [hobn, List.getElem?_append_right (by omega), hgcl]; simpa using h1
 have hg'idx : ∀ (i l b : Nat), ids[i]? = some l -> g1.ob[l]? = some b -> g'.ob[i]? = some b := fun i l b h1 h2 => by
  have h3 := hgob i l b h1 h2
  rw [hobn, List.getElem?_append_left (List.getElem?_eq_some_iff.1 h3).1]; exact h3
 refine ⟨v, g2, rfl, ?_, ?_, hx1.trans hx2, ?_⟩
 ·-- the result
  cases r with
  | c c => exact hconv c v hrv
  | agg cs =>
   obtain ⟨us', rfl, h1, h2⟩ := hrv
   refine ⟨us', rfl, by simpa using h1, fun j c u h3 h4 => ?_⟩
   simp only [List.getElem?_map, Option.map_eq_some_iff] at h3
   obtain ⟨c', h5, rfl⟩ := h3
   exact hconv c' u (h2 j c' u h5 h4)
  | tup ys =>
   obtain ⟨us', rfl, h1, h2⟩ := hrv
   refine ⟨us', rfl, by simpa using h1, fun j y u h3 h4 => ?_⟩
   simp only [List.getElem?_map, Option.map_eq_some_iff] at h3
   obtain ⟨y', h5, rfl⟩ := h3
   have h6 := h2 j y' u h5 h4
   cases y' with
   | c c => exact hconv c u h6
   | agg cs =>
    obtain ⟨us'', rfl, h7, h8⟩ := h6
    refine ⟨us'', rfl, by simpa using h7, fun j c u h9 h10 => ?_⟩
    simp only [List.getElem?_map, Option.map_eq_some_iff] at h9
    obtain ⟨c', h11, rfl⟩ := h9
    exact hconv c' u (h8 j c' u h11 h10)
   | tup zs => exact h6.elim
 ·-- the memory
  refine ⟨?_, ?_, fun l row b h1 h2 => ?_, fun k r v' h1 h2 => ?_, fun l l' b h1 h2 => ?_, fun k k' v1 v2 b h1 h2 h3 h4 => ?_, fun l k v' b h1 h2 h3 => ?_, fun b hb => hI'.fresh b hb⟩
  ·rw [putBack_len hVc'l]; simp only [g2, List.length_append]; omega
  ·simp only [g2, List.length_append, harl1]; rw [hI'.arl]
  ·rcases putBack_at hVc'l hnd hids l row h1 with ⟨i, row', h3, h4, rfl⟩ | ⟨h3, h4, h5⟩ | ⟨h3, row', h4, rfl⟩
   ·have hl' := hids l (List.mem_of_getElem? h3)
    rcases hblk2 l b h2 with ⟨_, h5, _⟩ | ⟨h5, _⟩
    ·obtain ⟨h6, cs, ty, h7, h8, h9⟩ := hI'.obj i row' b h4 (hg'idx i l b h3 h5)
     refine ⟨h6, cs, ty, h7, by simpa using h8, fun j c u h10 h11 => ?_⟩
     simp only [List.getElem?_map, Option.map_eq_some_iff] at h10
     obtain ⟨c', h12, rfl⟩ := h10
     exact hconv c' u (h9 j c' u h12 h11)
    ·omega
   ·rcases hblk2 l b h2 with ⟨_, h6, h7⟩ | ⟨h6, _⟩
    ·refine hI1.objKeep hx2 h5 h6 (hold b h7 (fun l' hl' h8 => h3 (hI1.obob l l' b h6 h8 ▸ hl'))) ?_
     show g'.im b = 0
     rw [hF'.imeq b h7 (hna b)]; exact (hI1.obj l row b h5 h6).1
    ·omega
   ·rcases hblk2 l b h2 with ⟨h5, _⟩ | ⟨_, h5, _⟩
    ·omega
    ·obtain ⟨h6, cs, ty, h7, h8, h9⟩ := hI'.obj _ row' b h4 h5
     refine ⟨h6, cs, ty, h7, by simpa using h8, fun j c u h10 h11 => ?_⟩
     simp only [List.getElem?_map, Option.map_eq_some_iff] at h10
     obtain ⟨c', h12, rfl⟩ := h10
     exact hconv c' u (h9 j c' u h12 h11)
  ·simp only [g2] at h2
   by_cases hk : k < s.A.length
   ·rw [List.getElem?_append_left (by omega)] at h1
    rw [List.getElem?_append_left (by omega)] at h2
    exact hI1.arrKeep hx2 h1 h2 (fun b hb => hold b (hI1.arLt h2 hb) (fun l _ h3 => hI1.obar l k v' b h3 h2 hb)) (fun b hb => hF'.imeq b (hI1.arLt h2 hb) (hna b))
   ·rw [List.getElem?_append_right (by omega), hsl] at h1
    rw [List.getElem?_append_right (by omega), harl1, hsl] at h2
    exact hI'.arr _ r v' h1 h2
  ·rcases hblk2 l b h1 with ⟨h3, h4, h5⟩ | ⟨h3, h4, h5⟩ <;> rcases hblk2 l' b h2 with ⟨h6, h7, h8⟩ | ⟨h6, h7, h8⟩
   ·exact hI1.obob l l' b h4 h7
   ·omega
   ·omega
   ·have := hI'.obob _ _ b h4 h7; omega
  ·have hcase : ∀ (k : Nat) v b, g2.ar[k]? = some v -> v.ownBlock = some b -> (k < s.A.length /\ g1.ar[k]? = some v /\ b < w.heap.size) \/ (s.A.length <= k /\ g'.ar[k - s.A.length]? = some v /\ w.heap.size <= b) := fun k v b h5 h6 => by
    simp only [g2] at h5
    by_cases hk : k < s.A.length
    ·rw [List.getElem?_append_left (by omega)] at h5
     exact .inl ⟨hk, h5, hI1.arLt h5 h6⟩
    ·rw [List.getElem?_append_right (by omega), harl1, hsl] at h5
     exact .inr ⟨by omega, h5, hF'.ar0 rfl _ v b h5 h6⟩
   rcases hcase k v1 b h1 h3 with ⟨h5, h6, h7⟩ | ⟨h5, h6, h7⟩ <;> rcases hcase k' v2 b h2 h4 with ⟨h8, h9, h10⟩ | ⟨h8, h9, h10⟩
   ·exact hI1.arar k k' v1 v2 b h6 h9 h3 h4
   ·omega
   ·omega
   ·have := hI'.arar _ _ v1 v2 b h6 h9 h3 h4; omega
  ·simp only [g2] at h2
   by_cases hk : k < s.A.length
   ·rw [List.getElem?_append_left (by omega)] at h2
    rcases hblk2 l b h1 with ⟨_, h5, _⟩ | ⟨_, _, h6⟩
    ·exact hI1.obar l k v' b h5 h2 h3
    ·have := hI1.arLt h2 h3; omega
   ·rw [List.getElem?_append_right (by omega), harl1, hsl] at h2
    have h7 := hF'.ar0 rfl _ v' b h2 h3
    rcases hblk2 l b h1 with ⟨_, _, h5⟩ | ⟨_, h5, _⟩
    ·omega
    ·exact hI'.obar _ _ v' b h5 h2 h3
 ·-- what is left alone
  refine ⟨hF'.os.trans hF.os, hF'.tape.trans hF.tape, hF'.output.trans hF.output, Nat.le_trans hF.size hF'.size, fun b h1 h2 h2' => ?_, fun b h1 h1' => ?_, ?_, fun k v' b h1 h2 => ?_, fun k v' h1 => ?_, hF.tab⟩
  ·rw [hold b (Nat.lt_of_lt_of_le h1 hF.size) (fun l hl' h3 => by rcases hF1.obOK h3 with h4 | h4 <;> first | exact h2 h4 | omega)]
   exact hF1.blk b h1 h2 h2'
  ·show g'.im b = g0.im b
   rw [hF'.imeq b (Nat.lt_of_lt_of_le h1 hF.size) (hna b)]; exact hF1.imeq b h1 h1'
  ·obtain ⟨new1, e1, hn1⟩ := hF1.ob
   exact ⟨new1 ++ new, by simp only [g2, e1, List.append_assoc], fun b hb => by
    rcases List.mem_append.1 hb with h | h
    ·exact hn1 b h
    ·exact Nat.le_trans hF.size (hnew b h)⟩
  ·simp only [g2] at h1
   by_cases hk : k < s.A.length
   ·rw [List.getElem?_append_left (by omega)] at h1
    exact hF1.ar k v' b h1 h2
   ·rw [List.getElem?_append_right (by omega), harl1, hsl] at h1
    exact .inl (Nat.le_trans hF.size (hF'.ar0 rfl _ v' b h1 h2))
  ·obtain ⟨v2, h3, h4⟩ := hF1.arx k v' h1
   exact ⟨v2, by simp only [g2]; rw [List.getElem?_append_left (List.getElem?_eq_some_iff.1 h3).1]; exact h3, h4⟩
theorem putL_len {α : Type} : ∀ {l : List α} {hs : List Nat} {vs : List α}, (putL l hs vs).length = l.length
 | l, [], vs => by cases vs <;> rfl
 | l, h :: hs, [] => rfl
 | l, h :: hs, v :: vs => by simp only [putL]; rw [putL_len]; simp
theorem putL_out {α : Type} {k : Nat} : ∀ {l : List α} {hs : List Nat} {vs : List α}, k ∉ hs -> (putL l hs vs)[k]? = l[k]?
 | l, [], vs, _ => by cases vs <;> rfl
 | l, h :: hs, [], _ => rfl
 | l, h :: hs, v :: vs, hk => by
  simp only [List.mem_cons, not_or] at hk
  simp only [putL]
  rw [putL_out hk.2, List.getElem?_set_ne (by omega)]
theorem putL_in {α : Type} : ∀ {l : List α} {hs : List Nat} {vs : List α} {i h : Nat}, hs.Nodup -> hs.length <= vs.length -> hs[i]? = some h -> h < l.length -> (putL l hs vs)[h]? = vs[i]?
 | l, [], vs, i, h, _, _, hi, _ => by simp at hi
 | l, h0 :: hs, [], i, h, _, hl, _, _ => by simp at hl
 | l, h0 :: hs, v :: vs, 0, h, hn, _, hi, hlt => by
  simp at hi; subst hi
  simp only [putL]
  rw [putL_out (List.nodup_cons.1 hn).1]; simp [hlt]
 | l, h0 :: hs, v :: vs, i + 1, h, hn, hl, hi, hlt => by
  simp only [putL]
  rw [putL_in (List.nodup_cons.1 hn).2 (by simpa using hl) (by simpa using hi) (by simpa using hlt)]; simp
theorem innHs_at {hs : List Nat} : ∀ {cs ds : List CV}, innHs hs cs = some ds -> ds.length = cs.length /\ ∀ (j : Nat) c d, cs[j]? = some c -> ds[j]? = some d -> c.innH hs = some d
 | [], ds, h => by simp [innHs] at h; subst h; exact ⟨rfl, fun j c d h => by simp at h⟩
 | c :: r, ds, h => by
  simp only [innHs] at h
  split at h
  ·rename_i d ds' h1 h2
   simp at h; subst h
   obtain ⟨h3, h4⟩ := innHs_at h2
   refine ⟨by simp [h3], fun j c' d' h5 h6 => ?_⟩
   cases j with
   | zero => simp at h5 h6; subst h5; subst h6; exact h1
   | succ j => simp at h5 h6; exact h4 j c' d' h5 h6
  ·simp at h
theorem innAsH_at {hs : List Nat} : ∀ {xs as : List AV}, innAsH hs xs = some as -> as.length = xs.length /\ ∀ (j : Nat) x y, xs[j]? = some x -> as[j]? = some y -> x.innH hs = some y
 | [], as, h => by simp [innAsH] at h; subst h; exact ⟨rfl, fun j x y h => by simp at h⟩
 | c :: r, as, h => by
  simp only [innAsH] at h
  split at h
  ·rename_i d ds' h1 h2
   simp at h; subst h
   obtain ⟨h3, h4⟩ := innAsH_at h2
   refine ⟨by simp [h3], fun j c' d' h5 h6 => ?_⟩
   cases j with
   | zero => simp at h5 h6; subst h5; subst h6; exact h1
   | succ j => simp at h5 h6; exact h4 j c' d' h5 h6
  ·simp at h

set_option maxHeartbeats 1000000 in
theorem wpcallH_sound (hI : Inv g w s.V s.A) (hF : Fr w0 g0 w g) {f : FuncId} {xs : List AV} {vs : Array Value} (hl : vs.size = xs.length) (hr : ∀ (i : Nat) x u, xs[i]? = some x -> vs[i]? = some u -> RepV g w s.A x u) (h : wpcallH P s f xs K) :
  (∀ args w, (callFunc f args).run P w = .ok (.enter f args) w) /\ ∃ x V' A', K x V' A' /\ Calls P f vs w fun e w' => ∃ v g', e = .returned v /\ RepV g' w' A' x v /\ Inv g' w' V' A' /\ Ext g w s.A g' w' A' /\ Fr w0 g0 w' g' := by
 obtain ⟨hs, as, r, Ac', hnd, hhs, has, ⟨hent, _, hcall⟩, hK⟩ := h
 refine ⟨hent, _, _, _, hK, ?_⟩
 obtain ⟨hasl, hasx⟩ := innAsH_at has
 have hsA : ∀ h ∈ hs, h < s.A.length := fun h hm => by
  obtain ⟨i, hi⟩ := List.getElem?_of_mem hm
  obtain ⟨a, _, h1, _⟩ := hhs i h hi
  exact (List.getElem?_eq_some_iff.1 h1).1
 have harl := hI.arl
 have hlen : hs.length <= Ac'.length := by
  rcases Nat.lt_or_ge Ac'.length hs.length with h1 | h1
  ·obtain ⟨_, _, _, _, h2, _⟩ := hhs Ac'.length _ (List.getElem?_eq_getElem h1)
   simp at h2
  ·exact h1
 let gc : Gh := { ob := [], ar := hs.map fun h => g.ar.getD h undef, im := g.im }
 have hgar : ∀ (i h : Nat) v, hs[i]? = some h -> g.ar[h]? = some v -> gc.ar[i]? = some v := fun i h v h1 h2 => by simp [gc, h1, h2]
 have hgar' : ∀ (i : Nat) v, gc.ar[i]? = some v -> ∃ h, hs[i]? = some h /\ g.ar[h]? = some v := fun i v h1 => by
  simp only [gc, List.getElem?_map, Option.map_eq_some_iff] at h1
  obtain ⟨h, h2, h3⟩ := h1
  have hll : h < g.ar.length := by rw [harl]; exact hsA h (List.mem_of_getElem? h2)
  exact ⟨h, h2, by rw [<- h3]; simp [List.getD, hll]⟩
 have hA0 : ∀ (i : Nat) a, (hs.map fun h => s.A.getD h arr0)[i]? = some a -> ∃ h, hs[i]? = some h /\ s.A[h]? = some a := fun i a h1 => by
  simp only [List.getElem?_map, Option.map_eq_some_iff] at h1
  obtain ⟨h, h2, h3⟩ := h1
  have hll := hsA h (List.mem_of_getElem? h2)
  exact ⟨h, h2, by rw [<- h3]; simp [List.getD, hll]⟩
 have hA0' : ∀ (i h : Nat) a, hs[i]? = some h -> s.A[h]? = some a -> (hs.map fun h => s.A.getD h arr0)[i]? = some a := fun i h a h1 h2 => by simp [h1, h2]
 -- a block that is handed over
 have harb : ∀ b, b ∈ gc.arb -> ∃ (i h : Nat) (v : Value), hs[i]? = some h /\ g.ar[h]? = some v /\ v.ownBlock = some b := fun b hb => by
  obtain ⟨i, v, h1, h2⟩ := Gh.mem_arb hb
  obtain ⟨h, h3, h4⟩ := hgar' i v h1
  exact ⟨i, h, v, h3, h4, h2⟩
 have harb0 : ∀ b, b ∈ gc.arb -> g.im b = 0 := fun b hb => by
  obtain ⟨i, h, v, h1, h2, h3⟩ := harb b hb
  obtain ⟨a, _, h4, h5, _⟩ := hhs i h h1
  have h6 := (hI.arr h a v h4 h2).2.1 b h3
  rw [h5] at h6; simpa using h6
 have hInvc : Inv gc w [] (hs.map fun h => s.A.getD h arr0) := by
  refine ⟨rfl, by simp [gc], fun l row b h1 => by simp at h1, fun k r' v h1 h2 => ?_, fun l l' b h1 => by simp [gc] at h1, fun k k' v v' b h1 h2 h3 h4 => ?_, fun l k v b h1 => by simp [gc] at h1, hI.fresh⟩
  ·obtain ⟨h, h3, h4⟩ := hA0 k r' h1
   obtain ⟨h', h5, h6⟩ := hgar' k v h2
   obtain rfl : h = h' := by rw [h3] at h5; exact Option.some.inj h5
   exact hI.arr h r' v h4 h6
  ·obtain ⟨h, h5, h6⟩ := hgar' k v h1
   obtain ⟨h', h7, h8⟩ := hgar' k' v' h2
   obtain rfl := hI.arar h h' v v' b h6 h8 h3 h4
   exact (List.getElem?_inj (List.getElem?_eq_some_iff.1 h5).1 hnd).1 (h5.trans h7.symm)
 have hcell : ∀ (c d : CV) (u : Value), c.innH hs = some d -> RepC g w s.A c u -> RepC gc w (hs.map fun h => s.A.getD h arr0) d u := by
  intro c d u h1 h2
  cases c with
  | d x => simp only [CV.innH] at h1; cases h1; exact h2
  | nil => simp only [CV.innH] at h1; cases h1; simp only [RepC] at h2; subst h2; simp only [RepC, RepD]; exact ⟨none, 0, rfl, Nat.le_refl _, .inl trivial⟩
  | own k n =>
   simp only [CV.innH, Option.map_eq_some_iff] at h1
   obtain ⟨i, hi, rfl⟩ := h1
   obtain ⟨a, cap, e, r', h3, h4, h5⟩ := h2
   have hki := pos?_spec hi
   exact ⟨a, cap, e, r', hA0' i k r' hki h3, h4, fun h6 => hgar i k u hki (h5 h6)⟩
  | np => simp only [CV.innH] at h1; cases h1; exact h2
  | ip row off => simp only [CV.innH] at h1; cases h1; exact h2
  | fn f cap =>
   cases cap with
   | nil =>
    simp only [CV.innH] at h1; cases h1
    obtain ⟨bks, h3, h4, _⟩ := h2
    exact ⟨bks, h3, h4, fun i l b h5 => by simp at h5⟩
   | cons _ _ => simp [CV.innH] at h1
  | ptr _ _ => simp [CV.innH] at h1
  | op _ _ _ _ => simp [CV.innH] at h1
  | undef => simp [CV.innH] at h1
 have hrepc : ∀ (i : Nat) x u, as[i]? = some x -> vs[i]? = some u -> RepV gc w (hs.map fun h => s.A.getD h arr0) x u := by
  intro i y u h1 h2
  have hi : i < xs.length := by have := (List.getElem?_eq_some_iff.1 h1).1; omega
  have hx : xs[i]? = some xs[i] := List.getElem?_eq_getElem hi
  have hin := hasx i _ y hx h1
  have hr0 := hr i _ u hx h2
  generalize xs[i] = x at hin hr0
  cases x with
  | c c =>
   simp only [AV.innH, Option.map_eq_some_iff] at hin
   obtain ⟨d, hd, rfl⟩ := hin
   exact hcell c d u hd hr0
  | agg cs =>
   simp only [AV.innH, Option.map_eq_some_iff] at hin
   obtain ⟨ds, hd, rfl⟩ := hin
   obtain ⟨us', rfl, hlu, h3⟩ := hr0
   obtain ⟨h9, h10⟩ := innHs_at hd
   refine ⟨us', rfl, by omega, fun j d v h4 h5 => ?_⟩
   have hj : j < cs.length := by have := (List.getElem?_eq_some_iff.1 h4).1; omega
   have hc : cs[j]? = some cs[j] := List.getElem?_eq_getElem hj
   exact hcell _ d v (h10 j _ d hc h4) (h3 j _ v hc h5)
  | tup ys => simp [AV.innH] at hin
 refine (hcall gc w vs hInvc (hF.now.less (fun b hb => by simp [gc] at hb) (fun b hb => by obtain ⟨i, v, q1, q2⟩ := Gh.mem_arb hb; obtain ⟨h, _, q3⟩ := hgar' i v q1; exact Gh.arb_mem q3 q2)) (by omega) hrepc).mono ?_
 rintro e w' ⟨v, g', rfl, hrv, hI', hF'⟩
 have hob' : g'.ob = [] := List.eq_nil_of_length_eq_zero (by rw [hI'.obl]; rfl)
 have harl' := hI'.arl
 let g2 : Gh := { ob := g.ob, ar := putL g.ar hs g'.ar ++ g'.ar.drop hs.length, im := g'.im }
 let A2 := putL s.A hs Ac' ++ Ac'.drop hs.length
 have hgl : (putL g.ar hs g'.ar).length = s.A.length := by rw [putL_len, harl]
 have hAl : (putL s.A hs Ac').length = s.A.length := putL_len
 -- where the arrays stand
 have hin : ∀ (i h : Nat), hs[i]? = some h -> g2.ar[h]? = g'.ar[i]? /\ A2[h]? = Ac'[i]? := fun i h h1 => by
  have h2 := hsA h (List.mem_of_getElem? h1)
  constructor
  ·simp only [g2]
   rw [List.getElem?_append_left (by omega)]; exact putL_in hnd (by omega) h1 (by omega)
  ·simp only [A2]
   rw [List.getElem?_append_left (by omega)]; exact putL_in hnd hlen h1 h2
 have hout : ∀ k, k < s.A.length -> k ∉ hs -> g2.ar[k]? = g.ar[k]? /\ A2[k]? = s.A[k]? := fun k h1 h2 => by
  constructor
  ·simp only [g2]; rw [List.getElem?_append_left (by omega), putL_out h2]
  ·simp only [A2]; rw [List.getElem?_append_left (by omega), putL_out h2]
 have hnew : ∀ k, s.A.length <= k -> g2.ar[k]? = g'.ar[hs.length + (k - s.A.length)]? /\ A2[k]? = Ac'[hs.length + (k - s.A.length)]? := fun k h1 => by
  constructor
  ·simp only [g2]; rw [List.getElem?_append_right (by omega), hgl, List.getElem?_drop]
  ·simp only [A2]; rw [List.getElem?_append_right (by omega), hAl, List.getElem?_drop]
 have hbk : ∀ k, g2.ar[back hs s.A.length k]? = g'.ar[k]? /\ A2[back hs s.A.length k]? = Ac'[k]? := fun k => by
  by_cases hk : k < hs.length
  ·have e : hs[k]? = some hs[k] := List.getElem?_eq_getElem hk
   have e2 : back hs s.A.length k = hs[k] := by simp only [back, e]
   rw [e2]; exact hin k _ e
  ·have e : hs[k]? = none := List.getElem?_eq_none (by omega)
   have e2 : back hs s.A.length k = s.A.length + (k - hs.length) := by simp only [back, e]
   rw [e2]
   have := hnew (s.A.length + (k - hs.length)) (by omega)
   rwa [show hs.length + (s.A.length + (k - hs.length) - s.A.length) = k by omega] at this
 -- three kinds of arrays
 have hkind : ∀ k, (∃ i : Nat, g2.ar[k]? = g'.ar[i]? /\ A2[k]? = Ac'[i]? /\ ((hs[i]? = some k) \/ (hs.length <= i /\ k = s.A.length + (i - hs.length)))) \/ (k < s.A.length /\ k ∉ hs /\ g2.ar[k]? = g.ar[k]? /\ A2[k]? = s.A[k]?) := fun k => by
  by_cases h1 : k < s.A.length
  ·by_cases h2 : k ∈ hs
   ·obtain ⟨i, hi⟩ := List.getElem?_of_mem h2
    exact .inl ⟨i, (hin i k hi).1, (hin i k hi).2, .inl hi⟩
   ·exact .inr ⟨h1, h2, hout k h1 h2⟩
  ·exact .inl ⟨hs.length + (k - s.A.length), (hnew k (by omega)).1, (hnew k (by omega)).2, .inr ⟨by omega, by omega⟩⟩
 have hkinj : ∀ (k k' i : Nat), ((hs[i]? = some k) \/ (hs.length <= i /\ k = s.A.length + (i - hs.length))) -> ((hs[i]? = some k') \/ (hs.length <= i /\ k' = s.A.length + (i - hs.length))) -> k = k' := fun k k' i h1 h2 => by
  rcases h1 with h1 | ⟨h1, h3⟩ <;> rcases h2 with h2 | ⟨h2, h4⟩
  ·rw [h1] at h2; exact Option.some.inj h2
  ·have := (List.getElem?_eq_some_iff.1 h1).1; omega
  ·have := (List.getElem?_eq_some_iff.1 h2).1; omega
  ·omega
 have hnob : ∀ b, b ∉ gc.ob := fun b h => by simp [gc] at h
 have hblk : ∀ b, b < w.heap.size -> b ∉ gc.arb -> w'.heap[b]? = w.heap[b]? := fun b h1 h2 => hF'.blk b h1 (hnob b) h2
 have him : ∀ b, b < w.heap.size -> b ∉ gc.arb -> g'.im b = g.im b := fun b h1 h2 => hF'.imeq b h1 h2
 have hob0 : ∀ (l b : Nat), g.ob[l]? = some b -> b < w.heap.size /\ b ∉ gc.arb := fun l b h1 => ⟨hI.obLt h1, fun h2 => by
  obtain ⟨i, h, v', h3, h4, h5⟩ := harb b h2
  exact hI.obar l h v' b h1 h4 h5⟩
 have har0 : ∀ (k b : Nat) (v : Value), k ∉ hs -> g.ar[k]? = some v -> v.ownBlock = some b -> b < w.heap.size /\ b ∉ gc.arb := fun k b v h0 h1 h1' => ⟨hI.arLt h1 h1', fun h2 => by
  obtain ⟨i, h, v', h3, h4, h5⟩ := harb b h2
  obtain rfl := hI.arar k h v v' b h1 h4 h1' h5
  exact h0 (List.mem_of_getElem? h3)⟩
 have hnewb : ∀ (i b : Nat) (v : Value), g'.ar[i]? = some v -> v.ownBlock = some b -> w.heap.size <= b \/ b ∈ gc.arb := fun i b v h1 h2 => hF'.ar i v b h1 h2
 have hgr : Grows g.im w g'.im w' := by
  refine ⟨fun b => ?_, fun b o ho => ?_⟩
  ·rcases Nat.lt_or_ge b w.heap.size with hb | hb
   ·by_cases h1 : b ∈ gc.arb
    ·rw [harb0 b h1]; exact Nat.zero_le _
    ·rw [him b hb h1]; exact Nat.le_refl _
   ·rw [hI.fresh b hb]; exact Nat.zero_le _
  ·have hb := hI.imLt ho
   refine World.cell?_of_block (a := ⟨b, o, none⟩) (hblk b hb (fun h1 => ?_))
   have := harb0 b h1; omega
 have hx2 : Ext g w s.A g2 w' A2 := by
  refine ⟨fun l b hb => hb, hgr, fun k r' hk => ?_⟩
  have hkl := (List.getElem?_eq_some_iff.1 hk).1
  by_cases h2 : k ∈ hs
  ·obtain ⟨i, hi⟩ := List.getElem?_of_mem h2
   obtain ⟨a, a', h3, h4, h5, h6⟩ := hhs i k hi
   obtain rfl : r' = a := by rw [hk] at h3; exact Option.some.inj h3
   have hv : g.ar[k]? = some (g.ar[k]'(by omega)) := List.getElem?_eq_getElem (by omega)
   obtain ⟨v', h7, h8, h9⟩ := hF'.arx i _ (hgar i k _ hi hv)
   obtain ⟨_, _, xs1, ho1, _⟩ := hI.arr k r' _ hk hv
   obtain ⟨_, _, xs2, ho2, _⟩ := hI'.arr i a' v' h5 h7
   rw [slen_own ho1, slen_own ho2] at h8 h9
   refine ⟨a', (hin i k hi).2.trans h5, h6, h8, fun h10 => ?_⟩
   rw [(hin i k hi).1, h7, h9 h10, hv]
  ·obtain ⟨h3, h4⟩ := hout k hkl h2
   exact ⟨r', h4.trans hk, rfl, Nat.le_refl _, fun _ => h3⟩
 have hconv : ∀ c u, RepC g' w' Ac' c u -> RepC g2 w' A2 (c.outnH hs s.A.length) u := fun c u h1 => by
  cases c with
  | d x => exact h1
  | nil => exact h1
  | own k n =>
   obtain ⟨a, cap, e, r', h3, h4, h5⟩ := h1
   exact ⟨a, cap, e, r', (hbk k).2.trans h3, h4, fun h6 => (hbk k).1.trans (h5 h6)⟩
  | ptr l off => obtain ⟨b, h3, _⟩ := h1; rw [hob'] at h3; simp at h3
  | np => exact h1
  | ip row off => exact h1
  | op k n i off =>
   obtain ⟨b, e, h2, r', h3, h4, h5⟩ := h1
   exact ⟨b, e, h2, r', (hbk k).2.trans h3, h4, fun h6 => by obtain ⟨cap, h7, h8⟩ := h5 h6; exact ⟨cap, (hbk k).1.trans h7, h8⟩⟩
  | fn f cap =>
   obtain ⟨bks, h3, h4, h5⟩ := h1
   refine ⟨bks, h3, h4, fun i l b h6 h7 => ?_⟩
   have := h5 i l b h6 h7
   rw [hob'] at this; simp at this
  | undef => exact h1
 refine ⟨v, g2, rfl, ?_, ?_, hx2, ?_⟩
 ·-- the result
  cases r with
  | c c => exact hconv c v hrv
  | agg cs =>
   obtain ⟨us', rfl, h1, h2⟩ := hrv
   refine ⟨us', rfl, by simpa using h1, fun j c u h3 h4 => ?_⟩
   simp only [List.getElem?_map, Option.map_eq_some_iff] at h3
   obtain ⟨c', h5, rfl⟩ := h3
   exact hconv c' u (h2 j c' u h5 h4)
  | tup ys =>
   obtain ⟨us', rfl, h1, h2⟩ := hrv
   refine ⟨us', rfl, by simpa using h1, fun j y u h3 h4 => ?_⟩
   simp only [List.getElem?_map, Option.map_eq_some_iff] at h3
   obtain ⟨y', h5, rfl⟩ := h3
   have h6 := h2 j y' u h5 h4
   cases y' with
   | c c => exact hconv c u h6
   | agg cs =>
    obtain ⟨us'', rfl, h7, h8⟩ := h6
    refine ⟨us'', rfl, by simpa using h7, fun j c u h9 h10 => ?_⟩
    simp only [List.getElem?_map, Option.map_eq_some_iff] at h9
    obtain ⟨c', h11, rfl⟩ := h9
    exact hconv c' u (h8 j c' u h11 h10)
   | tup zs => exact h6.elim
 ·-- the memory
  refine ⟨hI.obl, ?_, fun l row b h1 h2 => ?_, fun k r' v' h1 h2 => ?_, hI.obob, fun k k' v1 v2 b h1 h2 h3 h4 => ?_, fun l k v' b h1 h2 h3 => ?_, fun b hb => hI'.fresh b hb⟩
  ·show (putL g.ar hs g'.ar ++ g'.ar.drop hs.length).length = (putL s.A hs Ac' ++ Ac'.drop hs.length).length
   simp only [List.length_append, List.length_drop]; omega
  ·obtain ⟨h3, h4⟩ := hob0 l b h2
   exact hI.objKeep hx2 h1 h2 (hblk b h3 h4) ((him b h3 h4).trans (hI.obj l row b h1 h2).1)
  ·rcases hkind k with ⟨i, h3, h4, _⟩ | ⟨h3, h4, h5, h6⟩
   ·exact hI'.arr i r' v' (h4.symm.trans h1) (h3.symm.trans h2)
   ·refine hI.arrKeep hx2 (h6.symm.trans h1) (h5.symm.trans h2) (fun b hb => ?_) (fun b hb => ?_)
    ·obtain ⟨h7, h8⟩ := har0 k b v' h4 (h5.symm.trans h2) hb
     exact hblk b h7 h8
    ·obtain ⟨h7, h8⟩ := har0 k b v' h4 (h5.symm.trans h2) hb
     exact him b h7 h8
  ·rcases hkind k with ⟨i, h5, _, h6⟩ | ⟨h5, h6, h7, _⟩ <;> rcases hkind k' with ⟨i', h8, _, h9⟩ | ⟨h8, h9, h10, _⟩
   ·obtain rfl := hI'.arar i i' v1 v2 b (h5.symm.trans h1) (h8.symm.trans h2) h3 h4
    exact hkinj k k' i h6 h9
   ·obtain ⟨h11, h12⟩ := har0 k' b v2 h9 (h10.symm.trans h2) h4
    rcases hnewb i b v1 (h5.symm.trans h1) h3 with h13 | h13
    ·omega
    ·exact absurd h13 h12
   ·obtain ⟨h11, h12⟩ := har0 k b v1 h6 (h7.symm.trans h1) h3
    rcases hnewb i' b v2 (h8.symm.trans h2) h4 with h13 | h13
    ·omega
    ·exact absurd h13 h12
   ·exact hI.arar k k' v1 v2 b (h7.symm.trans h1) (h10.symm.trans h2) h3 h4
  ·obtain ⟨h4, h5⟩ := hob0 l b h1
   rcases hkind k with ⟨i, h6, _, _⟩ | ⟨_, _, h6, _⟩
   ·rcases hnewb i b v' (h6.symm.trans h2) h3 with h7 | h7
    ·omega
    ·exact h5 h7
   ·exact hI.obar l k v' b h1 (h6.symm.trans h2) h3
 ·-- what is left alone
  have hsub : ∀ b, b < w0.heap.size -> b ∉ g0.arb -> b ∉ gc.arb := fun b h1 h2 h3 => by
   obtain ⟨i, h, v', h4, h5, h6⟩ := harb b h3
   rcases hF.ar h v' b h5 h6 with h7 | h7
   ·omega
   ·exact h2 h7
  refine ⟨hF'.os.trans hF.os, hF'.tape.trans hF.tape, hF'.output.trans hF.output, Nat.le_trans hF.size hF'.size, fun b h1 h2 h2' => ?_, fun b h1 h1' => ?_, hF.ob, fun k v' b h1 h2 => ?_, fun k v' h1 => ?_, hF.tab⟩
  ·rw [hblk b (Nat.lt_of_lt_of_le h1 hF.size) (hsub b h1 h2')]; exact hF.blk b h1 h2 h2'
  ·show g'.im b = g0.im b
   rw [him b (Nat.lt_of_lt_of_le h1 hF.size) (hsub b h1 h1')]; exact hF.imeq b h1 h1'
  ·rcases hkind k with ⟨i, h3, _, _⟩ | ⟨_, _, h3, _⟩
   ·rcases hnewb i b v' (h3.symm.trans h1) h2 with h4 | h4
    ·exact .inl (Nat.le_trans hF.size h4)
    ·obtain ⟨i', h, v2, h5, h6, h7⟩ := harb b h4
     exact hF.ar h v2 b h6 h7
   ·exact hF.ar k v' b (h3.symm.trans h1) h2
  ·obtain ⟨v1, h2, h3, h4⟩ := hF.arx k v' h1
   have hkl : k < s.A.length := by rw [<- harl]; exact (List.getElem?_eq_some_iff.1 h2).1
   by_cases h5 : k ∈ hs
   ·obtain ⟨i, hi⟩ := List.getElem?_of_mem h5
    obtain ⟨v2, h6, h7, h8⟩ := hF'.arx i v1 (hgar i k v1 hi h2)
    refine ⟨v2, (hin i k hi).1.trans h6, by omega, fun h9 => ?_⟩
    rw [h8 (by omega)]; exact h4 (by omega)
   ·exact ⟨v1, (hout k hkl h5).1.trans h2, h3, h4⟩


theorem wpcall_sound (hI : Inv g w s.V s.A) (hF : Fr w0 g0 w g) {f : FuncId} {xs : List AV} {vs : Array Value} (hl : vs.size = xs.length) (hr : ∀ (i : Nat) x u, xs[i]? = some x -> vs[i]? = some u -> RepV g w s.A x u) (h : wpcall P s f xs K) :
  (∀ args w, (callFunc f args).run P w = .ok (.enter f args) w) /\ ∃ x V' A', K x V' A' /\ Calls P f vs w fun e w' => ∃ v g', e = .returned v /\ RepV g' w' A' x v /\ Inv g' w' V' A' /\ Ext g w s.A g' w' A' /\ Fr w0 g0 w' g' :=
 h.elim (wpcall0_sound hI hF hl hr) (wpcallH_sound hI hF hl hr)
end
end Go.Av

namespace Go.Av
open Go

def astep (P : Program) (s : St) (ow : Bool) (o : Oper) (K : AV -> List (List CV) -> List Arr -> Prop) : Prop :=
 match o.op with
 | .call { callee := .value f, args, .. } => onv (aval s f) fun fv => match fv with
  | .c (.fn fid cap) => onv (avals s args.toList) fun xs => wpcall P s fid (xs ++ cap.map fun l => .c (.ptr l 0)) K
  | _ => False
 | op => wpo P s ow op K

def St.put (s : St) (dst : Option Tmp) (x : AV) (V : List (List CV)) (A : List Arr) : St :=
 ⟨match dst with | some d => (d, x) :: s.fr | none => s.fr, V, A⟩

def gdo (all : Array Oper) (s : St) (o : Oper) (yes no : Prop) : Prop :=
 match o.guard with
 | none => yes
 | some (j, want) => onv (all[j]?) fun oj => onv oj.dst fun t => onv (look s.fr t) fun x => match x with
  | .c (.d (.bool b)) => (b = want -> yes) /\ (b = (!want) -> no)
  | .c .undef => no
  | _ => False

def aops (P : Program) (all : Array Oper) (ow : Nat -> Bool) (K : St -> Prop) : Nat -> List Oper -> St -> Prop
 | _, [], s => K s
 | i, o :: rest, s => gdo all s o (astep P s (ow i) o fun x V A => aops P all ow K (i + 1) rest (s.put o.dst x V A)) (aops P all ow K (i + 1) rest (s.put o.dst (.c .undef) s.V s.A))

def dstsOk (n : Nat) (ops : List Oper) : Bool := ops.all fun o => match o.dst with
 | some d => decide (d < n)
 | none => true

def codeOk (n : Nat) : Code -> Bool
 | .region _ ops _ => dstsOk n ops.toList
 | .seq a b => codeOk n a && codeOk n b
 | .cond _ a b => codeOk n a && codeOk n b
 | .block _ c => codeOk n c
 | .loop c => codeOk n c
 | .scope c => codeOk n c
 | _ => true

def T (P : Program) (n : Nat) (c : Code) (Q : Exit -> St -> Prop) (s : St) : Prop :=
 codeOk n c = true -> ∀ w0 g0 g a w, Rp n w0 g0 s g a w -> c.wp P (fun e a' w' => ∃ s' g', Q e s' /\ Rp n w0 g0 s' g' a' w') a w

section
variable {P : Program} {n : Nat} {Q Q' : Exit -> St -> Prop} {s s' : St} {w0 : World} {g0 g g' : Gh} {a : Act} {w w' : World}

theorem astep_wp (hI : Inv g w s.V s.A) (hF : Fr w0 g0 w g) (hS : Slots g w s a) {ow : Bool} {o : Oper} {K : AV -> List (List CV) -> List Arr -> Prop} (h : astep P s ow o K) :
  ∃ x V' A', K x V' A' /\ ∀ (next : Act -> World -> Prop) (Q : Exit -> Act -> World -> Prop), (∀ v w' g', RepV g' w' A' x v -> Inv g' w' V' A' -> Ext g w s.A g' w' A' -> Fr w0 g0 w' g' -> next (a.put o.dst v) w') -> o.wp P a w next Q := by
 have plain : wpo P s ow o.op K -> ∃ x V' A', K x V' A' /\ ∀ (next : Act -> World -> Prop) (Q : Exit -> Act -> World -> Prop), (∀ v w' g', RepV g' w' A' x v -> Inv g' w' V' A' -> Ext g w s.A g' w' A' -> Fr w0 g0 w' g' -> next (a.put o.dst v) w') -> o.wp P a w next Q := by
  intro h
  obtain ⟨x, V', A', nx, v, w', g', h1, h2, h3, h4, h5, h6, h7⟩ := wpo_sound hI hF hS h
  refine ⟨x, V', A', h1, fun next Q hn => ?_⟩
  unfold Oper.wp
  rw [h2]
  rcases h3 with rfl | ⟨rfl, rfl⟩
  ·exact hn v w' g' h4 h5 h6 h7
  ·exact hn _ w' g' h4 h5 h6 h7
 unfold astep at h
 split at h
 ·rename_i f args argTypes heq
  refine onv_elim h fun fv h1 h2 => ?_
  have hfv := aval_sound hS h1
  split at h2
  ·rename_i fid cap
   refine onv_elim h2 fun xs h3 h4 => ?_
   obtain ⟨h5, h6⟩ := avals_sound hS h3
   have h5' : xs.length = args.size := by rw [h5, Array.length_toList]
   obtain ⟨bks, h7, h8, h9⟩ : RepC g w s.A (.fn fid cap) (a.eval f) := hfv
   have hargs : args.map a.eval ++ (bks.map fun b => Value.pointer (some ⟨b, 0, none⟩)).toArray = ((args.toList.map a.eval) ++ bks.map fun b => Value.pointer (some ⟨b, 0, none⟩)).toArray := by
    apply Array.ext'; simp
   obtain ⟨hent, x, V', A', hK, hc⟩ := wpcall_sound (vs := ((args.toList.map a.eval) ++ bks.map fun b => Value.pointer (some ⟨b, 0, none⟩)).toArray) hI hF (by simp [h5, h8]) (fun i x u h10 h11 => by
    simp only [List.getElem?_toArray] at h11
    by_cases hi : i < xs.length
    ·rw [List.getElem?_append_left hi] at h10
     rw [List.getElem?_append_left (by simp; omega)] at h11
     exact h6 i x u h10 h11
    ·rw [List.getElem?_append_right (by omega)] at h10
     rw [List.getElem?_append_right (by simp; omega)] at h11
     simp only [List.getElem?_map, Option.map_eq_some_iff] at h10 h11
     obtain ⟨l, h12, rfl⟩ := h10
     obtain ⟨b, h13, rfl⟩ := h11
     exact ⟨b, h9 _ l b h12 (by rw [<- h13]; congr 1; simp [h5]), rfl⟩) h4
   refine ⟨x, V', A', hK, fun next Q hn => ?_⟩
   have hrun : (execOp a.eval o).run P w = .ok (.enter fid ((args.toList.map a.eval) ++ bks.map fun b => Value.pointer (some ⟨b, 0, none⟩)).toArray) w := by
    simp only [execOp, heq, resolve, h7, Deferred.ofValue, Sem.run_bind, Sem.run_pure, Result.andThen_ok, invoke, Array.empty_append]
    rw [hent, hargs]
   unfold Oper.wp
   rw [hrun]
   show Calls P fid _ w _
   refine hc.mono ?_
   rintro e w' ⟨v, g', rfl, h14, h15, h16, h17⟩
   exact hn v w' g' h14 h15 h16 h17
  ·exact h2.elim
 ·exact plain h

theorem Rp.put (h : Rp n w0 g0 s g a w) {dst : Option Tmp} (hd : ∀ d, dst = some d -> d < n) {x : AV} {v : Value} {V' : List (List CV)} {A' : List Arr} (hr : RepV g' w' A' x v) (hI : Inv g' w' V' A') (hx : Ext g w s.A g' w' A') (hF : Fr w0 g0 w' g') :
  Rp n w0 g0 (s.put dst x V' A') g' (a.put dst v) w' := by
 refine ⟨hI, hF, ?_, ?_, fun t y hy => ?_⟩
 ·cases dst <;> simp [Act.put, h.size]
 ·cases dst <;> simp [Act.put, h.defers]
 ·cases dst with
  | none =>
   obtain ⟨u, h1, h2⟩ := h.slot t y hy
   exact ⟨u, h1, RepV.ext hx h2⟩
  | some d =>
   have hdn := hd d rfl
   simp only [St.put, look] at hy
   by_cases e : t = d
   ·subst e
    simp at hy; subst hy
    refine ⟨v, ?_, hr⟩
    have : t < a.tmps.size := by rw [h.size]; exact hdn
    simp [Act.put, this]
   ·rw [if_neg e] at hy
    obtain ⟨u, h1, h2⟩ := h.slot t y hy
    refine ⟨u, ?_, RepV.ext hx h2⟩
    simp only [Act.put]
    rw [Array.getElem?_setIfInBounds_ne (fun e' => e e'.symm)]; exact h1

theorem yielded_of (h : Rp n w0 g0 s g a w) {all : Array Oper} {j t : Nat} {oj : Oper} {x : AV} (h1 : all[j]? = some oj) (h2 : oj.dst = some t) (h3 : look s.fr t = some x) : (∀ b, x = .c (.d (.bool b)) -> yielded all a.tmps j = some b) /\ (x = .c .undef -> yielded all a.tmps j = none) := by
 obtain ⟨u, h4, h5⟩ := h.slot t x h3
 refine ⟨fun b hb => ?_, fun hb => ?_⟩
 ·subst hb
  simp only [RepV, RepE, RepC, RepD] at h5
  subst h5
  simp [yielded, h1, h2, h4]
 ·subst hb
  simp only [RepV, RepE, RepC] at h5
  subst h5
  simp [yielded, h1, h2, h4, undef]

theorem gdo_sound (h : Rp n w0 g0 s g a w) {all : Array Oper} {o : Oper} {yes no : Prop} (hg : gdo all s o yes no) : (Region.wanted o (yielded all a.tmps) = true /\ yes) \/ (Region.wanted o (yielded all a.tmps) = false /\ no) := by
 unfold gdo at hg
 split at hg
 ·rename_i hgd; exact .inl ⟨by simp [Region.wanted, hgd], hg⟩
 ·rename_i j want hgd
  refine onv_elim hg fun oj h1 h2 => onv_elim h2 fun t h3 h4 => onv_elim h4 fun x h5 h6 => ?_
  obtain ⟨h7, h8⟩ := yielded_of h h1 h3 h5
  split at h6
  ·rename_i b
   have h9 := h7 b rfl
   by_cases e : b = want
   ·exact .inl ⟨by simp [Region.wanted, hgd, h9, e], h6.1 e⟩
   ·exact .inr ⟨by simp [Region.wanted, hgd, h9, e], h6.2 (by cases b <;> cases want <;> simp_all)⟩
  ·exact .inr ⟨by simp [Region.wanted, hgd, h8 rfl], h6⟩
  ·exact h6.elim

theorem aops_sound {all : Array Oper} {ow : Nat -> Bool} {K : St -> Prop} {Q : Exit -> Act -> World -> Prop} : ∀ (ops : List Oper) (i : Nat) (s : St) (g : Gh) (a : Act) (w : World), dstsOk n ops = true -> Rp n w0 g0 s g a w -> aops P all ow K i ops s ->
  (∀ s' g' a' w', K s' -> Rp n w0 g0 s' g' a' w' -> Q .normal a' w') -> wpList P all Q ops a w
 | [], i, s, g, a, w, _, hR, h, hQ => hQ s g a w h hR
 | o :: rest, i, s, g, a, w, hd, hR, h, hQ => by
  simp only [dstsOk, List.all_cons, Bool.and_eq_true] at hd
  have hdst : ∀ d, o.dst = some d -> d < n := fun d e => by have := hd.1; rw [e] at this; simpa using this
  simp only [aops] at h
  unfold wpList
  rcases gdo_sound hR h with ⟨h1, h2⟩ | ⟨h1, h2⟩
  ·rw [if_pos h1]
   obtain ⟨x, V', A', h3, h4⟩ := astep_wp hR.inv hR.fr hR.slot h2
   exact .inl (h4 _ _ fun v w' g' h5 h6 h7 h8 => aops_sound rest (i + 1) _ g' _ w' hd.2 (hR.put hdst h5 h6 h7 h8) h3 hQ)
  ·rw [if_neg (by rw [h1]; simp)]
   exact aops_sound rest (i + 1) _ g _ w hd.2 (hR.put hdst (x := .c .undef) (v := undef) rfl hR.inv (.refl _ _ _) hR.fr) h2 hQ

theorem T.region {id : Nat} {ops : Array Oper} (ow : Nat -> Bool) (h : aops P ops ow (fun s' => Q .normal s') 0 ops.toList s) : T P n (.region id ops false) Q s := by
 intro hok w0 g0 g a w hR
 exact wp_region_list (aops_sound ops.toList 0 s g a w hok hR h fun s' g' a' w' h1 h2 => ⟨s', g', h1, h2⟩)

theorem T.mono {c : Code} (h : T P n c Q s) (hq : ∀ e s', Q e s' -> Q' e s') : T P n c Q' s :=
 fun hok w0 g0 g a w hR => Go.wp_mono (h hok w0 g0 g a w hR) fun _ _ _ ⟨s', g', h1, h2⟩ => ⟨s', g', hq _ _ h1, h2⟩

def Then (P : Program) (n : Nat) (c : Code) (Q : Exit -> St -> Prop) : Exit -> St -> Prop
 | .normal, s => T P n c Q s
 | e, s => Q e s

theorem T.seq {x y : Code} (h : T P n x (Then P n y Q) s) : T P n (.seq x y) Q s := by
 intro hok w0 g0 g a w hR
 simp only [codeOk, Bool.and_eq_true] at hok
 refine wp_seq (Go.wp_mono (h hok.1 w0 g0 g a w hR) ?_)
 rintro e a' w' ⟨s', g', h1, h2⟩
 cases e with
 | normal => exact h1 hok.2 w0 g0 g' a' w' h2
 | _ => exact ⟨s', g', h1, h2⟩

theorem T.skip (h : Q .normal s) : T P n .skip Q s := fun _ _ _ g _ _ hR => wp_skip ⟨s, g, h, hR⟩
theorem T.exit {id : Nat} (h : Q (.exit id) s) : T P n (.exit id) Q s := fun _ _ _ g _ _ hR => wp_exit ⟨s, g, h, hR⟩
theorem T.ret (h : Q .ret s) : T P n .ret Q s := fun _ _ _ g _ _ hR => wp_ret ⟨s, g, h, hR⟩

theorem T.cond {c : Operand} {x y : Code} {b : Bool} (hc : aval s c = some (.c (.d (.bool b)))) (ht : b = true -> T P n x Q s) (hf : b = false -> T P n y Q s) : T P n (.cond c x y) Q s := by
 intro hok w0 g0 g a w hR
 simp only [codeOk, Bool.and_eq_true] at hok
 have hv := aval_sound hR.slot hc
 simp only [RepV, RepE, RepC, RepD] at hv
 exact wp_cond_split hv (fun e => ht e hok.1 w0 g0 g a w hR) (fun e => hf e hok.2 w0 g0 g a w hR)

def InBlock (id : Nat) (Q : Exit -> St -> Prop) : Exit -> St -> Prop
 | .exit id', s => if id' = id then Q .normal s else Q (.exit id') s
 | e, s => Q e s

theorem T.block {id : Nat} {c : Code} (h : T P n c (InBlock id Q) s) : T P n (.block id c) Q s := by
 intro hok w0 g0 g a w hR
 refine wp_block (Go.wp_mono (h hok w0 g0 g a w hR) ?_)
 rintro e a' w' ⟨s', g', h1, h2⟩
 cases e with
 | exit id' =>
  simp only [InBlock] at h1
  simp only [Exit.inBlock]
  split
  ·rename_i e; rw [if_pos e] at h1; exact ⟨s', g', h1, h2⟩
  ·rename_i e; rw [if_neg e] at h1; exact ⟨s', g', h1, h2⟩
 | _ => exact ⟨s', g', h1, h2⟩

def Iter (P : Program) (n : Nat) (c : Code) (Q : Exit -> St -> Prop) : Nat -> St -> Prop
 | 0, _ => False
 | k + 1, s => T P n c (fun e s' => match e with | .normal => Iter P n c Q k s' | e => Q e s') s

theorem Iter.succ {c : Code} : ∀ {k : Nat} {s : St}, Iter P n c Q k s -> Iter P n c Q (k + 1) s
 | 0, _, h => h.elim
 | k + 1, s, h => T.mono h fun e s' h1 => by cases e <;> first | exact Iter.succ h1 | exact h1

theorem Iter.le {c : Code} {k k' : Nat} (hk : k <= k') {s : St} (h : Iter P n c Q k s) : Iter P n c Q k' s := by
 induction hk with
 | refl => exact h
 | step _ ih => exact ih.succ

theorem T.loop_iter {c : Code} {k : Nat} (h : Iter P n c Q k s) : T P n (.loop c) Q s := by
 intro hok w0 g0 g a w hR
 refine wp_loop_rounds k ?_
 have key : ∀ k s g a w, Iter P n c Q k s -> Rp n w0 g0 s g a w -> Code.rounds P c (fun e a' w' => ∃ s' g', Q e s' /\ Rp n w0 g0 s' g' a' w') k a w := by
  intro k
  induction k with
  | zero => intro s g a w h _; exact h.elim
  | succ k ih =>
   intro s g a w h hR
   rw [rounds_succ]
   refine Go.wp_mono (h hok w0 g0 g a w hR) ?_
   rintro e a' w' ⟨s', g', h1, h2⟩
   cases e with
   | normal => exact ih s' g' a' w' h1 h2
   | _ => exact ⟨s', g', h1, h2⟩
 exact key k s g a w h hR

theorem T.loop {c : Code} (I : Nat -> St -> Prop) (h : ∀ k s, I k s -> T P n c (fun e s' => match e with | .normal => ∃ k', k' < k /\ I k' s' | e => Q e s') s) {k : Nat} (h0 : I k s) : T P n (.loop c) Q s := by
 have key : ∀ k s, I k s -> Iter P n c Q (k + 1) s := by
  intro k
  induction k using Nat.strongRecOn with
  | _ k ih =>
   intro s hs
   refine T.mono (h k s hs) fun e s' h1 => ?_
   cases e with
   | normal => obtain ⟨k', hk, h2⟩ := h1; exact (ih k' hk s' h2).le hk
   | _ => exact h1
 exact T.loop_iter (key k s h0)

theorem T.forget {c : Code} (fr' : List (Nat × AV)) (hsub : ∀ t x, look fr' t = some x -> look s.fr t = some x) (h : T P n c Q ⟨fr', s.V, s.A⟩) : T P n c Q s :=
 fun hok w0 g0 g a w hR => h hok w0 g0 g a w ⟨hR.inv, hR.fr, hR.size, hR.defers, fun t x hx => hR.slot t x (hsub t x hx)⟩

theorem T.ownifyObj {c : Code} (l j : Nat) (sz : Nat) (e : TypeId) {row : List CV} (hl : s.V[l]? = some row) (hj : row[j]? = some .nil) (h : T P n c Q ⟨s.fr, s.V.set l (row.set j (.own s.A.length 0)), s.A ++ [⟨sz, e, [], true⟩]⟩) : T P n c Q s := by
 intro hok w0 g0 g a w hR
 obtain ⟨g1, hm1, ho1, ha1, hI1, hx1, hF1⟩ := hR.inv.newArr hR.fr { sz := sz, ety := e, rows := [], wr := true } (.slice none 0 0) [] (by simp) (World.ownsRow_nil w 0 e sz) (fun j x u h => by simp at h) (fun b h => by simp [Value.ownBlock] at h)
 refine h hok w0 g0 g1 a w ⟨?_, hF1, hR.size, hR.defers, fun t' x hx => ?_⟩
 ·refine ⟨by simpa using hI1.obl, hI1.arl, fun l' row' b h1 h2 => ?_, hI1.arr, hI1.obob, hI1.arar, hI1.obar, hI1.fresh⟩
  have h1' : (s.V.set l (row.set j (.own s.A.length 0)))[l']? = some row' := h1
  rw [set_get hl] at h1'
  by_cases e' : l' = l
  ·subst e'
   simp at h1'; subst h1'
   obtain ⟨h3, cs, ty, h4, h5, h6⟩ := hI1.obj l' row b hl h2
   refine ⟨h3, cs, ty, h4, by simpa using h5, fun i c u h7 h8 => ?_⟩
   rw [set_get hj] at h7
   by_cases e'' : i = j
   ·subst e''
    simp at h7; subst h7
    have h9 := h6 i _ u hj h8
    simp only [RepC] at h9; subst h9
    exact ⟨none, 0, rfl, _, by simp; rfl, Nat.zero_le _, fun _ => by rw [ha1, List.getElem?_append_right (by rw [hR.inv.arl]; exact Nat.le_refl _), hR.inv.arl]; simp⟩
   ·rw [if_neg e''] at h7; exact h6 i c u h7 h8
  ·rw [if_neg e'] at h1'; exact hI1.obj l' row' b h1' h2
 ·obtain ⟨u, h1, h2⟩ := hR.slot t' x hx
  exact ⟨u, h1, RepV.ext hx1 h2⟩
end


def ares1 (P : Program) (s : St) : ResultVar -> Option AV
 | .tmp t => look s.fr t
 | .cell t ty => match td P ty, look s.fr t with
  | some d, some (.c p) => match cellsAt s p d.sz with
   | some cs => mkV d.ag cs
   | none => none
  | _, _ => none

def ares (P : Program) (s : St) : List ResultVar -> Option (List AV)
 | [] => some []
 | r :: rs => match ares1 P s r, ares P s rs with
  | some x, some xs => some (x :: xs)
  | _, _ => none

def one (xs : List AV) : AV := match xs with
 | [x] => x
 | xs => .tup xs

def CV.res (A : List Arr) (os ks : List Nat) : CV -> Option CV
 | .own k n => match pos? ks k with
  | some i => (toD A (.own k n)).map fun _ => .own i n
  | none => (toD A (.own k n)).map CV.d
 | c => c.inn A os

def ress (A : List Arr) (os ks : List Nat) : List CV -> Option (List CV)
 | [] => some []
 | c :: r => match c.res A os ks, ress A os ks r with
  | some d, some ds => some (d :: ds)
  | _, _ => none

def AV.res1 (A : List Arr) (os ks : List Nat) : AV -> Option AV
 | .c x => (x.res A os ks).map AV.c
 | .agg xs => (ress A os ks xs).map AV.agg
 | .tup _ => none

def resAs (A : List Arr) (os ks : List Nat) : List AV -> Option (List AV)
 | [] => some []
 | c :: r => match c.res1 A os ks, resAs A os ks r with
  | some d, some ds => some (d :: ds)
  | _, _ => none

def resVs (A : List Arr) (V : List (List CV)) (os ks : List Nat) : List Nat -> Option (List (List CV))
 | [] => some []
 | l :: r => match V[l]?, resVs A V os ks r with
  | some row, some rs => match ress A os ks row with
   | some row' => some (row' :: rs)
   | none => none
  | _, _ => none

def getAs (A : List Arr) : List Nat -> Option (List Arr)
 | [] => some []
 | k :: r => match A[k]?, getAs A r with
  | some x, some xs => some (x :: xs)
  | _, _ => none

def Done (P : Program) (fn : Func) (m : Nat) (r : AV) (V' : List (List CV)) (A' : List Arr) (e : Exit) (s : St) : Prop :=
 (e = .normal \/ e = .ret) /\ ∃ (ext ks : List Nat) (xs ys : List AV), ares P s fn.results.toList = some xs /\ ks.Nodup /\ ext.Nodup /\ (∀ l ∈ ext, m <= l) /\ resAs s.A (List.range m ++ ext) ks xs = some ys /\ r = one ys /\
  resVs s.A s.V (List.range m ++ ext) ks (List.range m ++ ext) = some V' /\ getAs s.A ks = some A'

end Go.Av

namespace Go.Av
open Go

def sealL (A : List Arr) (L : List Nat) : List Arr := L.foldl (fun A k => match A[k]? with | some r => A.set k { r with wr := false } | none => A) A

section
variable {P : Program} {n : Nat} {Q Q' : Exit -> St -> Prop} {s s' : St} {w0 : World} {g0 g g' : Gh} {a : Act} {w w' : World} {V : List (List CV)} {A A' : List Arr}

theorem seal_list : ∀ (L : List Nat) (g : Gh) (A : List Arr), Inv g w V A -> Fr w0 g0 w g ->
  ∃ g', Inv g' w V (sealL A L) /\ Ext g w A g' w (sealL A L) /\ Fr w0 g0 w g' /\ g'.ar = g.ar /\ g'.ob = g.ob /\ (∀ k, k ∉ L -> (sealL A L)[k]? = A[k]?) /\ ∀ k ∈ L, ∀ r v, A[k]? = some r -> g.ar[k]? = some v -> RepD g'.im w (.sl r.rows) v
 | [], g, A, hI, hF => ⟨g, hI, .refl _ _ _, hF, rfl, rfl, fun _ _ => rfl, fun k h => by simp at h⟩
 | k0 :: L, g, A, hI, hF => by
  cases hk : A[k0]? with
  | none =>
   obtain ⟨g', h1, h2, h3, h4, h5, h6, h7⟩ := seal_list L g A hI hF
   have he : sealL A (k0 :: L) = sealL A L := by simp only [sealL, List.foldl_cons, hk]
   rw [he]
   exact ⟨g', h1, h2, h3, h4, h5, fun k h => h6 k (fun h' => h (by simp [h'])), fun k h r v h8 h9 => by
    simp only [List.mem_cons] at h
    rcases h with rfl | h
    ·rw [hk] at h8; cases h8
    ·exact h7 k h r v h8 h9⟩
  | some r0 =>
   have hkl : k0 < g.ar.length := by rw [hI.arl]; exact (List.getElem?_eq_some_iff.1 hk).1
   have hv0 : g.ar[k0]? = some g.ar[k0] := List.getElem?_eq_getElem hkl
   obtain ⟨g1, i1, i2, i3, i4, i5, i6⟩ := hI.seal hF hk hv0
   obtain ⟨g', h1, h2, h3, h4, h5, h6, h7⟩ := seal_list L g1 _ i1 i3
   have he : sealL A (k0 :: L) = sealL (A.set k0 { r0 with wr := false }) L := by simp only [sealL, List.foldl_cons, hk]
   rw [he]
   refine ⟨g', h1, i2.trans h2, h3, h4.trans i4, h5.trans i5, fun k h => ?_, fun k h r v h8 h9 => ?_⟩
   ·simp only [List.mem_cons, not_or] at h
    rw [h6 k h.2, set_get hk, if_neg h.1]
   ·by_cases e : k = k0
    ·subst e
     rw [hk] at h8; cases h8
     rw [hv0] at h9; cases h9
     exact RepD.grows h2.gr _ _ i6
    ·simp only [List.mem_cons, e, false_or] at h
     exact h7 k h r v (by rw [set_get hk, if_neg e]; exact h8) (by rw [i4]; exact h9)

theorem RepC.nilA {c : CV} {u : Value} (h : RepC g w [] c u) : RepC { g with ar := g'.ar } w A' c u := by
 cases c with
 | own k n => obtain ⟨_, _, _, r, h1, _⟩ := h; simp at h1
 | op k n i off => obtain ⟨_, _, _, r, h1, _⟩ := h; simp at h1
 | _ => exact h

theorem getAs_at : ∀ {ks : List Nat} {xs : List Arr}, getAs A ks = some xs -> xs.length = ks.length /\ ∀ (i k : Nat) x, ks[i]? = some k -> xs[i]? = some x -> A[k]? = some x
 | [], xs, h => by simp [getAs] at h; subst h; exact ⟨rfl, fun i k x h => by simp at h⟩
 | k :: r, xs, h => by
  simp only [getAs] at h
  split at h
  ·rename_i x xs' h1 h2
   simp at h; subst h
   obtain ⟨h3, h4⟩ := getAs_at h2
   refine ⟨by simp [h3], fun i k' x' h5 h6 => ?_⟩
   cases i with
   | zero => simp at h5 h6; subst h5; subst h6; exact h1
   | succ i => simp at h5 h6; exact h4 i k' x' h5 h6
  ·simp at h

theorem ress_at {os ks : List Nat} : ∀ {cs ds : List CV}, ress A os ks cs = some ds -> ds.length = cs.length /\ ∀ (j : Nat) c d, cs[j]? = some c -> ds[j]? = some d -> c.res A os ks = some d
 | [], ds, h => by simp [ress] at h; subst h; exact ⟨rfl, fun j c d h => by simp at h⟩
 | c :: r, ds, h => by
  simp only [ress] at h
  split at h
  ·rename_i d ds' h1 h2
   simp at h; subst h
   obtain ⟨h3, h4⟩ := ress_at h2
   refine ⟨by simp [h3], fun j c' d' h5 h6 => ?_⟩
   cases j with
   | zero => simp at h5 h6; subst h5; subst h6; exact h1
   | succ j => simp at h5 h6; exact h4 j c' d' h5 h6
  ·simp at h

theorem resAs_at {os ks : List Nat} : ∀ {cs ds : List AV}, resAs A os ks cs = some ds -> ds.length = cs.length /\ ∀ (j : Nat) c d, cs[j]? = some c -> ds[j]? = some d -> c.res1 A os ks = some d
 | [], ds, h => by simp [resAs] at h; subst h; exact ⟨rfl, fun j c d h => by simp at h⟩
 | c :: r, ds, h => by
  simp only [resAs] at h
  split at h
  ·rename_i d ds' h1 h2
   simp at h; subst h
   obtain ⟨h3, h4⟩ := resAs_at h2
   refine ⟨by simp [h3], fun j c' d' h5 h6 => ?_⟩
   cases j with
   | zero => simp at h5 h6; subst h5; subst h6; exact h1
   | succ j => simp at h5 h6; exact h4 j c' d' h5 h6
  ·simp at h

theorem resVs_at {os ks : List Nat} : ∀ {ls : List Nat} {Vc : List (List CV)}, resVs A V os ks ls = some Vc -> Vc.length = ls.length /\ ∀ (i l : Nat) row', ls[i]? = some l -> Vc[i]? = some row' -> ∃ row, V[l]? = some row /\ ress A os ks row = some row'
 | [], Vc, h => by simp [resVs] at h; subst h; exact ⟨rfl, fun i l row' h => by simp at h⟩
 | l :: r, Vc, h => by
  simp only [resVs] at h
  split at h
  ·rename_i row rs h1 h2
   split at h
   ·rename_i row' h3
    simp at h; subst h
    obtain ⟨h4, h5⟩ := resVs_at h2
    refine ⟨by simp [h4], fun i l' rw' h6 h7 => ?_⟩
    cases i with
    | zero => simp at h6 h7; subst h6; subst h7; exact ⟨row, h1, h3⟩
    | succ i => simp at h6 h7; exact h5 i l' rw' h6 h7
   ·simp at h
  ·simp at h

def resRun (tmps : Array Value) : ResultVar -> Sem Value
 | .tmp t => pure (tmps.getD t undef)
 | .cell p t => do loadVar t (<- asAddr (tmps.getD p undef))

theorem results_eq (fn : Func) (tmps : Array Value) : results fn tmps = (do let vs <- fn.results.mapM (resRun tmps); pure (if h : vs.size = 1 then vs[0] else .tuple vs)) := by
 unfold results
 congr 1

theorem ares_sound (hI : Inv g w s.V s.A) (hS : Slots g w s a) : ∀ {rs : List ResultVar} {xs : List AV}, ares P s rs = some xs ->
  ∃ us : List Value, us.length = xs.length /\ (∀ (i : Nat) x u, xs[i]? = some x -> us[i]? = some u -> RepV g w s.A x u) /\
   (rs.mapM (resRun a.tmps)).run P w = .ok us w
 | [], xs, h => by simp [ares] at h; subst h; exact ⟨[], rfl, fun i x u h => by simp at h, rfl⟩
 | r :: rs, xs, h => by
  simp only [ares] at h
  split at h
  ·rename_i x xs' h1 h2
   simp at h; subst h
   obtain ⟨us, h3, h4, h5⟩ := ares_sound hI hS h2
   have hone : ∃ u, RepV g w s.A x u /\ (resRun a.tmps r).run P w = .ok u w := by
    cases r with
    | tmp t =>
     obtain ⟨u, h6, h7⟩ := hS t x h1
     exact ⟨u, h7, by simp [resRun, h6]⟩
    | cell p ty =>
     simp only [ares1] at h1
     split at h1
     ·rename_i d c hd hp
      split at h1
      ·rename_i cs hcs
       obtain ⟨u, h6, h7⟩ := hS p _ hp
       obtain ⟨b, off, vs, rfl, hl, hr, hc⟩ := cellsAt_sound hI h7 hcs
       obtain ⟨k1, k2⟩ := run_loadAt_av (P := P) hd hc (hr.1.trans hl)
       have hget : a.tmps.getD p undef = .pointer (some ⟨b, off, none⟩) := by simp [h6]
       cases hag : d.ag with
       | true =>
        simp [mkV, hag] at h1; subst h1
        exact ⟨.agg vs.toArray, ⟨vs, rfl, hr.1, fun i c u h8 h9 => hr.2 i c u h8 h9⟩, by simp only [resRun, hget]; exact k1 hag⟩
       | false =>
        simp only [mkV, hag, Bool.false_eq_true, if_false] at h1
        split at h1
        ·rename_i c'
         simp at h1; subst h1
         obtain ⟨u, rfl⟩ : ∃ u, vs = [u] := by
          have := hr.1
          simp at this
          exact List.length_eq_one_iff.1 this
         exact ⟨u, hr.2 0 c' u rfl rfl, by simp only [resRun, hget]; exact k2 hag u rfl⟩
        ·simp at h1
      ·simp at h1
     ·simp at h1
   obtain ⟨u, h6, h7⟩ := hone
   refine ⟨u :: us, by simp [h3], fun i x' u' h8 h9 => ?_, ?_⟩
   ·cases i with
    | zero => simp at h8 h9; subst h8; subst h9; exact h6
    | succ i => simp at h8 h9; exact h4 i x' u' h8 h9
   ·simp only [List.mapM_cons, Sem.run_bind, h7, Result.andThen_ok, h5, Sem.run_pure]
  ·simp at h

theorem enters {f : FuncId} {fn : Func} {c : Code} (hf : P.funcs[f]? = some fn) (hname : (fn.name == "runtime.NumGoroutine") = false) (hb : fn.body = some c) (args : Array Value) (w : World) : (callFunc f args).run P w = .ok (.enter f args) w := by
 have h : ¬ fn.name = "runtime.NumGoroutine" := by simpa using hname
 simp [callFunc, hf, h, hb]

def argFr (as : List AV) : List (Nat × AV) := (as.zipIdx 0).map fun (x, i) => (i, x)

theorem look_argFr : ∀ (as : List AV) (k t : Nat) (x : AV), look ((as.zipIdx k).map fun (x, i) => (i, x)) t = some x -> k <= t /\ as[t - k]? = some x
 | [], k, t, x, h => by simp [look] at h
 | y :: as, k, t, x, h => by
  simp only [List.zipIdx_cons, List.map_cons, look] at h
  split at h
  ·rename_i e; subst e; simp at h; subst h; simp
  ·rename_i e
   obtain ⟨h1, h2⟩ := look_argFr as (k + 1) t x h
   refine ⟨by omega, ?_⟩
   rw [show t - k = (t - (k + 1)) + 1 by omega, List.getElem?_cons_succ]; exact h2

def DoneG (P : Program) (fn : Func) (m a : Nat) (r : AV) (V' : List (List CV)) (A' : List Arr) (e : Exit) (s : St) : Prop :=
 (e = .normal \/ e = .ret) /\ ∃ (ext ks : List Nat) (xs ys : List AV), (∃ ke, ks = List.range a ++ ke) /\ ares P s fn.results.toList = some xs /\ ks.Nodup /\ ext.Nodup /\ (∀ l ∈ ext, m <= l) /\ resAs s.A (List.range m ++ ext) ks xs = some ys /\ r = one ys /\
  resVs s.A s.V (List.range m ++ ext) ks (List.range m ++ ext) = some V' /\ getAs s.A ks = some A'
set_option maxHeartbeats 1000000 in
theorem ACallsG.of_body {f : FuncId} {fn : Func} {c : Code} {as : List AV} {V V' : List (List CV)} {A0 : List Arr} {r : AV} {A' : List Arr} (hf : P.funcs[f]? = some fn) (hname : (fn.name == "runtime.NumGoroutine") = false) (hb : fn.body = some c) (hok : codeOk fn.ntmps c = true) (hn : as.length <= fn.ntmps)
  (hVl : V.length <= V'.length) (h : T P fn.ntmps c (DoneG P fn V.length A0.length r V' A') ⟨argFr as, V, A0⟩) : ACallsG P f as V A0 r V' A' := by
 refine ⟨enters hf hname hb, hVl, fun g w vs hI hTb hvl hvr => ?_⟩
 refine calls_of_wp hf hb ?_
 have hR : Rp fn.ntmps w g ⟨argFr as, V, A0⟩ g { tmps := vs ++ Array.replicate (fn.ntmps - vs.size) undef, defers := [] } w := by
  refine ⟨hI, Fr.refl hTb, by simp; omega, rfl, fun t x hx => ?_⟩
  obtain ⟨_, hx⟩ := look_argFr as 0 t x hx
  rw [Nat.sub_zero] at hx
  have ht : t < vs.size := by have := (List.getElem?_eq_some_iff.1 hx).1; omega
  exact ⟨vs[t], by rw [Array.getElem?_append_left ht]; simp [ht], hvr t x _ hx (by simp [ht])⟩
 refine Go.wp_mono (h hok w g g _ w hR) ?_
 rintro e a' w' ⟨s', g', ⟨hex, ext, ks, xs, ys, ⟨ke, hke⟩, hxs, hknd, hend, hext, hys, rfl, hV', hA'⟩, hR'⟩
 obtain ⟨us, hul, hur, hrun⟩ := ares_sound hR'.inv hR'.slot hxs
 let v : Value := if h : us.toArray.size = 1 then us.toArray[0] else .tuple us.toArray
 have hresults : (results fn a'.tmps).run P w' = .ok v w' := by
  rw [results_eq, Sem.run_bind, Array.mapM_eq_mapM_toList]
  have hm : (List.toArray <$> fn.results.toList.mapM (resRun a'.tmps)).run P w' = .ok us.toArray w' := by
   simp [hrun]
  rw [hm]
  rfl
 let os := List.range V.length ++ ext
 -- seal what is not handed over
 obtain ⟨g1, hI1, hx1, hF1, ha1, ho1, hkeep, hseal⟩ := seal_list ((List.range s'.A.length).filter fun k => (pos? ks k).isNone) g' s'.A hR'.inv hR'.fr
 obtain ⟨hAl, hAx⟩ := getAs_at hA'
 obtain ⟨hVl', hVx⟩ := resVs_at hV'
 have hksA : ∀ (i k : Nat), ks[i]? = some k -> k < s'.A.length := fun i k hi => by
  have hil := (List.getElem?_eq_some_iff.1 hi).1
  have := hAx i k _ hi (List.getElem?_eq_getElem (show i < A'.length by omega))
  exact (List.getElem?_eq_some_iff.1 this).1
 have hosV : ∀ l ∈ os, l < s'.V.length := fun l hl => by
  obtain ⟨i, hi⟩ := List.getElem?_of_mem hl
  have hil := (List.getElem?_eq_some_iff.1 hi).1
  have hil' : i < (List.range V.length ++ ext).length := hil
  obtain ⟨row, h1, _⟩ := hVx i l _ hi (List.getElem?_eq_getElem (show i < V'.length by omega))
  exact (List.getElem?_eq_some_iff.1 h1).1
 have hosnd : os.Nodup := by
  simp only [os]
  refine List.nodup_append.2 ⟨List.nodup_range, hend, fun a ha b hb' => ?_⟩
  have h1 := hext b hb'
  simp at ha
  omega
 let gf : Gh := { ob := os.map fun l => g1.ob.getD l 0, ar := ks.map fun k => g1.ar.getD k undef, im := g1.im }
 have hgob : ∀ (i l b : Nat), os[i]? = some l -> g1.ob[l]? = some b -> gf.ob[i]? = some b := fun i l b h1 h2 => by simp [gf, h1, h2]
 have hgob' : ∀ (i b : Nat), gf.ob[i]? = some b -> ∃ l, os[i]? = some l /\ g1.ob[l]? = some b := fun i b h1 => by
  simp only [gf, List.getElem?_map, Option.map_eq_some_iff] at h1
  obtain ⟨l, h2, h3⟩ := h1
  have hll : l < g1.ob.length := by rw [hI1.obl]; exact hosV l (List.mem_of_getElem? h2)
  exact ⟨l, h2, by rw [<- h3]; simp [List.getD, hll]⟩
 have hgar : ∀ (i k : Nat) v, ks[i]? = some k -> g1.ar[k]? = some v -> gf.ar[i]? = some v := fun i k v h1 h2 => by simp [gf, h1, h2]
 have hgar' : ∀ (i : Nat) v, gf.ar[i]? = some v -> ∃ k, ks[i]? = some k /\ g1.ar[k]? = some v := fun i v h1 => by
  simp only [gf, List.getElem?_map, Option.map_eq_some_iff] at h1
  obtain ⟨k, h2, h3⟩ := h1
  have hkl : k < g1.ar.length := by rw [ha1, hR'.inv.arl]; exact hksA i k h2
  exact ⟨k, h2, by rw [<- h3]; simp [List.getD, hkl]⟩
 have hposmem : ∀ {l : List Nat} {k : Nat}, (pos? l k).isNone = true ↔ k ∉ l := by
  intro l
  induction l with
  | nil => intro k; simp [pos?]
  | cons x l ih =>
   intro k
   simp only [pos?]
   by_cases e : k = x
   ·subst e; simp
   ·simp only [e, if_false, Option.isNone_map, ih, List.mem_cons, false_or]
 have hAk : ∀ (i k : Nat) x, ks[i]? = some k -> A'[i]? = some x -> (sealL s'.A ((List.range s'.A.length).filter fun k => (pos? ks k).isNone))[k]? = some x := fun i k x h1 h2 => by
  rw [hkeep k (by simp only [List.mem_filter, not_and, hposmem]; intro _ h; exact h (List.mem_of_getElem? h1))]
  exact hAx i k x h1 h2
 -- a cell, as it is handed back
 have hcell : ∀ (c d : CV) (u : Value), c.res s'.A os ks = some d -> RepC g' w' s'.A c u -> RepC gf w' A' d u := by
  intro c d u h1 h2
  have plain : c.inn s'.A os = some d -> (∀ k n, c ≠ .own k n) -> RepC gf w' A' d u := by
   intro h3 h4
   have h5 := inn_sound (A := s'.A) (A' := sealL s'.A ((List.range s'.A.length).filter fun k => (pos? ks k).isNone)) (ids := os) (g1 := g1) (gc := { gf with ar := [] }) (w := w') h3 (RepC.ext hx1 h2) (fun x hx => by
    cases c with
    | d y => simp [toD] at hx; subst hx; exact RepD.grows hx1.gr _ _ h2
    | nil => simp [toD] at hx; subst hx; simp only [RepC] at h2; subst h2; simp only [RepD]; exact ⟨none, 0, rfl, Nat.le_refl _, .inl trivial⟩
    | own k n => exact absurd rfl (h4 k n)
    | _ => simp [toD] at hx) hgob rfl
   exact RepC.nilA (g := { gf with ar := [] }) (g' := gf) h5
  cases c with
  | own k n =>
   simp only [CV.res] at h1
   obtain ⟨ad, cap, e, r, hk, hnl, hv⟩ := h2
   split at h1
   ·rename_i i hi
    simp only [Option.map_eq_some_iff] at h1
    obtain ⟨x, hx, rfl⟩ := h1
    simp only [toD, hk] at hx
    split at hx
    ·rename_i hne
     have hki := pos?_spec hi
     have hil := (List.getElem?_eq_some_iff.1 hki).1
     have hA'i : A'[i]? = some (A'[i]'(by omega)) := List.getElem?_eq_getElem (by omega)
     have h3 := hAx i k _ hki hA'i
     rw [hk] at h3
     have h4 : r = A'[i]'(by omega) := Option.some.inj h3
     refine ⟨ad, cap, e, r, by rw [hA'i, h4], hnl, fun _ => hgar i k u hki (by rw [ha1]; exact hv hne)⟩
    ·simp at hx
   ·rename_i hi
    simp only [Option.map_eq_some_iff] at h1
    obtain ⟨x, hx, rfl⟩ := h1
    simp only [toD, hk] at hx
    split at hx
    ·rename_i hne
     simp at hx; subst hx
     exact hseal k (by simp [hi]; exact (List.getElem?_eq_some_iff.1 hk).1) r u hk (hv hne)
    ·simp at hx
  | d y => exact plain h1 (by intro k n h; cases h)
  | nil => exact plain h1 (by intro k n h; cases h)
  | ptr l off => exact plain h1 (by intro k n h; cases h)
  | np => exact plain h1 (by intro k n h; cases h)
  | ip row off => exact plain h1 (by intro k n h; cases h)
  | op k n i off => exact plain h1 (by intro k n h; cases h)
  | fn f cap => exact plain h1 (by intro k n h; cases h)
  | undef => exact plain h1 (by intro k n h; cases h)
 have hval : ∀ (x y : AV) (u : Value), x.res1 s'.A os ks = some y -> RepV g' w' s'.A x u -> RepE gf w' A' y u := by
  intro x y u h1 h2
  cases x with
  | c c =>
   simp only [AV.res1, Option.map_eq_some_iff] at h1
   obtain ⟨d, hd, rfl⟩ := h1
   exact hcell c d u hd h2
  | agg cs =>
   simp only [AV.res1, Option.map_eq_some_iff] at h1
   obtain ⟨ds, hd, rfl⟩ := h1
   obtain ⟨us', rfl, h3, h4⟩ := h2
   obtain ⟨h5, h6⟩ := ress_at hd
   refine ⟨us', rfl, by omega, fun j d u h7 h8 => ?_⟩
   have hj : j < cs.length := by have := (List.getElem?_eq_some_iff.1 h7).1; omega
   have hc : cs[j]? = some cs[j] := List.getElem?_eq_getElem hj
   exact hcell _ d u (h6 j _ d hc h7) (h4 j _ u hc h8)
  | tup zs => simp [AV.res1] at h1
 obtain ⟨hyl, hyx⟩ := resAs_at hys
 have hrepr : RepV gf w' A' (one ys) v := by
  have hall : ∀ (i : Nat) y u, ys[i]? = some y -> us[i]? = some u -> RepE gf w' A' y u := fun i y u h1 h2 => by
   have hi : i < xs.length := by have := (List.getElem?_eq_some_iff.1 h1).1; omega
   have hx : xs[i]? = some xs[i] := List.getElem?_eq_getElem hi
   exact hval _ y u (hyx i _ y hx h1) (hur i _ u hx h2)
  by_cases h1 : us.length = 1
  ·obtain ⟨u, rfl⟩ := List.length_eq_one_iff.1 h1
   obtain ⟨y, rfl⟩ := List.length_eq_one_iff.1 (show ys.length = 1 by omega)
   have h2 := hall 0 y u rfl rfl
   have hv : v = u := by simp [v]
   rw [hv]
   cases y with
   | tup zs => exact h2.elim
   | c c => exact h2
   | agg cs => exact h2
  ·have hv : v = .tuple us.toArray := by simp [v, h1]
   have ho : one ys = .tup ys := by
    match ys, (show ys.length ≠ 1 by omega) with
    | [], _ => rfl
    | _ :: _ :: _, _ => rfl
   rw [hv, ho]
   exact ⟨us, rfl, by omega, hall⟩
 have hgobl : g.ob.length = V.length := hI.obl
 have hgfob : ∃ new, gf.ob = g.ob ++ new /\ ∀ b ∈ new, w.heap.size <= b := by
  obtain ⟨new, e, hnew⟩ := hF1.ob
  refine ⟨ext.map fun l => g1.ob.getD l 0, ?_, fun b hb' => ?_⟩
  ·simp only [gf, os, List.map_append]
   congr 1
   apply List.ext_getElem?
   intro i
   by_cases hi : i < V.length
   ·simp [hi, e, List.getD, List.getElem?_append_left (show i < g.ob.length by omega), List.getElem?_eq_getElem (show i < g.ob.length by omega)]
   ·simp [List.getElem?_eq_none (show g.ob.length <= i by omega), List.getElem?_eq_none (show (List.range V.length).length <= i by simp; omega)]
  ·simp only [List.mem_map] at hb'
   obtain ⟨l, hl, rfl⟩ := hb'
   have hll : l < g1.ob.length := by rw [hI1.obl]; exact hosV l (by simp [os, hl])
   have hml := hext l hl
   have hmem : g1.ob.getD l 0 ∈ new := by
    have h1 : g1.ob[l]? = some (g1.ob.getD l 0) := by simp [List.getD, hll]
    generalize g1.ob.getD l 0 = q at h1 ⊢
    rw [e, List.getElem?_append_right (by omega)] at h1
    exact List.mem_of_getElem? h1
   exact hnew _ hmem
 have hInvf : Inv gf w' V' A' := by
  refine ⟨by simp [gf, hVl', os], by simp [gf, hAl], fun i row' b h1 h2 => ?_, fun i x v' h1 h2 => ?_, fun i i' b h1 h2 => ?_, fun i i' v1 v2 b h1 h2 h3 h4 => ?_, fun i j v' b h1 h2 => ?_, hI1.fresh⟩
  ·obtain ⟨l, h3, h4⟩ := hgob' i b h2
   obtain ⟨row, h5, h6⟩ := hVx i l row' h3 h1
   obtain ⟨h7, h8⟩ := ress_at h6
   have hb' : g'.ob[l]? = some b := by rw [<- ho1]; exact h4
   obtain ⟨_, cs, ty, h10, h11, h12⟩ := hR'.inv.obj l row b h5 hb'
   refine ⟨(hI1.obj l row b h5 h4).1, cs, ty, h10, by omega, fun j d u h13 h14 => ?_⟩
   have hj : j < row.length := by have := (List.getElem?_eq_some_iff.1 h13).1; omega
   have hc : row[j]? = some row[j] := List.getElem?_eq_getElem hj
   exact hcell _ d u (h8 j _ d hc h13) (h12 j _ u hc h14)
  ·obtain ⟨k, h3, h4⟩ := hgar' i v' h2
   exact hI1.arr k x v' (hAk i k x h3 h1) h4
  ·obtain ⟨l, h3, h4⟩ := hgob' i b h1
   obtain ⟨l', h5, h6⟩ := hgob' i' b h2
   obtain rfl := hI1.obob l l' b h4 h6
   exact (List.getElem?_inj (List.getElem?_eq_some_iff.1 h3).1 hosnd).1 (h3.trans h5.symm)
  ·obtain ⟨k, h5, h6⟩ := hgar' i v1 h1
   obtain ⟨k', h7, h8⟩ := hgar' i' v2 h2
   obtain rfl := hI1.arar k k' v1 v2 b h6 h8 h3 h4
   exact (List.getElem?_inj (List.getElem?_eq_some_iff.1 h5).1 hknd).1 (h5.trans h7.symm)
  ·obtain ⟨l, h3, h4⟩ := hgob' i b h1
   obtain ⟨k, h5, h6⟩ := hgar' j v' h2
   exact hI1.obar l k v' b h4 h6
 have hpost : a'.defers = [] /\ ∃ v, (results fn a'.tmps).run P w' = .ok v w' /\ ∃ v1 g', Ending.returned v = .returned v1 /\ RepV g' w' A' (one ys) v1 /\ Inv g' w' V' A' /\ Fr w g w' g' :=
  ⟨hR'.defers, v, hresults, v, gf, rfl, hrepr, hInvf, ⟨hF1.os, hF1.tape, hF1.output, hF1.size, hF1.blk, hF1.imeq, hgfob, fun i v' b h1 h2 => by
   obtain ⟨k, h3, h4⟩ := hgar' i v' h1
   exact hF1.ar k v' b h4 h2, fun k v' h1 => by
   obtain ⟨v2, h2, h3⟩ := hF1.arx k v' h1
   have hk : k < A0.length := by rw [<- hI.arl]; exact (List.getElem?_eq_some_iff.1 h1).1
   exact ⟨v2, hgar k k v2 (by rw [hke, List.getElem?_append_left (by simpa using hk)]; simp [hk]) h2, h3⟩, hF1.tab⟩⟩
 rcases hex with rfl | rfl <;> exact hpost

theorem ACalls.of_body {f : FuncId} {fn : Func} {c : Code} {as : List AV} {V V' : List (List CV)} {r : AV} {A' : List Arr} (hf : P.funcs[f]? = some fn) (hname : (fn.name == "runtime.NumGoroutine") = false) (hb : fn.body = some c) (hok : codeOk fn.ntmps c = true) (hn : as.length <= fn.ntmps)
  (hVl : V.length <= V'.length) (h : T P fn.ntmps c (Done P fn V.length r V' A') ⟨argFr as, V, []⟩) : ACalls P f as V r V' A' := by
 obtain ⟨h1, h2, h3⟩ := ACallsG.of_body (A0 := []) hf hname hb hok hn hVl (T.mono h fun e s' hd => by
  obtain ⟨hex, ext, ks, xs, ys, h⟩ := hd
  exact ⟨hex, ext, ks, xs, ys, ⟨ks, by simp⟩, h⟩)
 exact ⟨h1, h2, fun g w vs _ hI => h3 g w vs hI⟩
end
end Go.Av

namespace Go.Av
open Go

def isS : Op -> Bool
 | .move _ | .assign _ | .pick _ _ _ | .fieldAddr _ _ _ | .unOp _ _ _ | .binOp _ _ _ _ _ | .extract _ _ => true
 | _ => false

def gw (all : Array Oper) (s : St) (o : Oper) : Bool :=
 match o.guard with
 | none => true
 | some (j, want) => match (all[j]?).bind (·.dst) with
  | some t => match look s.fr t with
   | some (.c (.d (.bool b))) => b == want
   | _ => false
  | none => false

def Stp (P : Program) (all : Array Oper) (ow : Bool) (o : Oper) (s s' : St) : Prop :=
 gdo all s o True True /\ ((gw all s o = true /\ ∃ x V A, s' = s.put o.dst x V A /\ ∀ K : AV -> List (List CV) -> List Arr -> Prop, K x V A -> astep P s ow o K) \/ (gw all s o = false /\ s' = s.put o.dst (.c .undef) s.V s.A))

def aopsD (P : Program) (all : Array Oper) (ow : Nat -> Bool) (ws : List Nat) (K : St -> Prop) : Nat -> List Oper -> St -> Prop
 | _, [], s => K s
 | i, o :: rest, s => gdo all s o (astep P s (ow i) o fun x V A => (i ∈ ws \/ (V = s.V /\ A = s.A)) /\ aopsD P all ow ws K (i + 1) rest (s.put o.dst x V A)) (aopsD P all ow ws K (i + 1) rest (s.put o.dst (.c .undef) s.V s.A))

def mask1 (acc : List Nat) (o : Oper) : Nat := o.after.toList.foldl (fun m e => if Region.binds .any e then m ||| 2 ^ e.on ||| acc.getD e.on 0 else m) 0

def masks : List Oper -> List Nat -> List Nat
 | [], acc => acc
 | o :: r, acc => masks r (acc ++ [mask1 acc o])

def touch (all : Array Oper) (x y : Oper) : Bool := match x.dst with
 | some d => (y.looksAt all).contains d
 | none => false

def pairOk (all : Array Oper) (ws ms : List Nat) (oi oj : Oper) (i j : Nat) : Bool :=
 (oi.dst.isNone || oi.dst != oj.dst) && ((!touch all oi oj && !touch all oj oi && !(ws.contains i && !isS oj.op) && !(ws.contains j && !isS oi.op)) || (ms.getD j 0).testBit i)

def drawOk (all : Array Oper) (ws : List Nat) : Bool :=
 let l := all.toList.zipIdx
 let ms := masks all.toList []
 (l.all fun (o, j) => o.after.toList.all fun e => !Region.binds .any e || decide (e.on < j)) &&
 (l.all fun (oj, j) => l.all fun (oi, i) => !(decide (i < j)) || pairOk all ws ms oi oj i j) &&
 (l.all fun (o, j) => !ws.contains j || !isS o.op)

section
variable {P : Program} {n : Nat} {Q Q' : Exit -> St -> Prop} {s s' : St} {w0 : World} {g0 g g' : Gh} {a : Act} {w w' : World} {V : List (List CV)} {A A' : List Arr}

theorem gdo_mono {all : Array Oper} {o : Oper} {y n : Prop} (h : gdo all s o y n) : (gw all s o = true /\ y \/ gw all s o = false /\ n) /\ gdo all s o True True := by
 unfold gdo at h
 unfold gw gdo
 split at h
 ·rename_i hg; simp [hg, h]
 ·rename_i j want hg
  refine onv_elim h fun oj h1 h2 => onv_elim h2 fun t h3 h4 => onv_elim h4 fun x h5 h6 => ?_
  simp only [hg, h1, Option.bind_some, h3, h5, onv]
  split at h6
  ·rename_i b
   simp only [beq_iff_eq, beq_eq_false_iff_ne, implies_true, and_self, and_true]
   by_cases e : b = want
   ·exact .inl ⟨e, h6.1 e⟩
   ·exact .inr ⟨e, h6.2 (by cases b <;> cases want <;> simp_all)⟩
  ·simp [h6]
  ·exact h6.elim

theorem wpo_det {ow : Bool} {op : Op} {K : AV -> List (List CV) -> List Arr -> Prop} (h : wpo P s ow op K) : ∃ x V A, K x V A /\ ∀ K' : AV -> List (List CV) -> List Arr -> Prop, K' x V A -> wpo P s ow op K' := by
 cases op with
 | move x => exact onv_elim h fun v h1 h2 => ⟨_, _, _, h2, fun K' h => by simpa only [wpo, onv, h1] using h⟩
 | assign x => exact onv_elim h fun v h1 h2 => ⟨_, _, _, h2, fun K' h => by simpa only [wpo, onv, h1] using h⟩
 | pick c x y =>
  refine onv_elim h fun v h1 h2 => ?_
  split at h2
  ·rename_i t
   cases t with
   | true => simp only [if_true] at h2; exact onv_elim h2 fun v h3 h4 => ⟨_, _, _, h4, fun K' h => by simpa only [wpo, onv, h1, if_true, h3] using h⟩
   | false => simp only [Bool.false_eq_true, if_false] at h2; exact onv_elim h2 fun v h3 h4 => ⟨_, _, _, h4, fun K' h => by simpa only [wpo, onv, h1, Bool.false_eq_true, if_false, h3] using h⟩
  ·exact h2.elim
 | alloc e => exact onv_elim h fun d h1 h2 => onv_elim h2 fun z h3 h4 => ⟨_, _, _, h4, fun K' h => by simpa only [wpo, onv, h1, h3] using h⟩
 | box e x => exact onv_elim h fun v h1 h2 => ⟨_, _, _, h2.2, fun K' h => by simp only [wpo, onv, h1]; exact ⟨h2.1, h⟩⟩
 | build t parts => exact onv_elim h fun d h1 h2 => onv_elim h2 fun z h3 h4 => onv_elim h4 fun ps h5 h6 => onv_elim h6 fun cs h7 h8 => ⟨_, _, _, h8.2.2, fun K' h => by simp only [wpo, onv, h1, h3, h5, h7]; exact ⟨h8.1, h8.2.1, h⟩⟩
 | buildSlice t len parts =>
  refine onv_elim h fun d h1 h2 => onv_elim h2 fun e h3 h4 => onv_elim h4 fun de h5 h6 => onv_elim h6 fun rows h7 h8 => onv_elim h8 fun ds h9 h10 => ?_
  obtain ⟨k1, k2, k3, k4, k5⟩ := h10
  cases ow with
  | true => simp only [if_true] at k5; exact ⟨_, _, _, k5, fun K' h => by simp only [wpo, onv, h1, h3, h5, h7, h9]; exact ⟨k1, k2, k3, k4, by simpa only [if_true] using h⟩⟩
  | false => simp only [Bool.false_eq_true, if_false] at k5; exact ⟨_, _, _, k5, fun K' h => by simp only [wpo, onv, h1, h3, h5, h7, h9]; exact ⟨k1, k2, k3, k4, by simpa only [Bool.false_eq_true, if_false] using h⟩⟩
 | load t x =>
  refine onv_elim h fun d h1 h2 => onv_elim h2 fun p h3 h4 => ?_
  split at h4
  ·exact onv_elim h4 fun cs h5 h6 => onv_elim h6 fun v h7 h8 => ⟨_, _, _, h8, fun K' h => by simpa only [wpo, onv, h1, h3, h5, h7] using h⟩
  ·exact h4.elim
 | store t x y =>
  refine onv_elim h fun d h1 h2 => onv_elim h2 fun p h3 h4 => onv_elim h4 fun v h5 h6 => ?_
  obtain ⟨h7, h8, h9⟩ := h6
  split at h9
  ·exact onv_elim h9 fun row h10 h11 => ⟨_, _, _, h11.2, fun K' h => by simp only [wpo, onv, h1, h3, h5, h10]; exact ⟨h7, h8, h11.1, h⟩⟩
  ·refine onv_elim h9 fun r h10 h11 => ?_
   obtain ⟨h12, h13, h14⟩ := h11
   exact onv_elim h14 fun row h15 h16 => onv_elim h16 fun ds h17 h18 => ⟨_, _, _, h18.2.2, fun K' h => by simp only [wpo, onv, h1, h3, h5, h10, h15, h17]; exact ⟨h7, h8, h12, h13, h18.1, h18.2.1, h⟩⟩
  ·exact h9.elim
 | nilCheck x =>
  refine onv_elim h fun v h1 h2 => ?_
  split at h2
  ·exact ⟨_, _, _, h2, fun K' h => by simpa only [wpo, onv, h1] using h⟩
  ·exact ⟨_, _, _, h2, fun K' h => by simpa only [wpo, onv, h1] using h⟩
  ·exact ⟨_, _, _, h2, fun K' h => by simpa only [wpo, onv, h1] using h⟩
  ·exact ⟨_, _, _, h2, fun K' h => by simpa only [wpo, onv, h1] using h⟩
  ·exact h2.elim
 | binOp op t x y t' =>
  refine onv_elim h fun u h1 h2 => onv_elim h2 fun v h3 h4 => ?_
  split at h4
  ·rename_i r hr
   exact ⟨_, _, _, h4, fun K' h => by simpa only [wpo, onv, h1, h3, hr] using h⟩
  ·rename_i hr
   split at h4
   ·rename_i r hr2
    exact ⟨_, _, _, h4, fun K' h => by simpa only [wpo, onv, h1, h3, hr, hr2] using h⟩
   ·rename_i hr2
    exact onv_elim h4 fun r h5 h6 => onv_elim h6 fun d h7 h8 => ⟨_, _, _, h8.2, fun K' h => by simp only [wpo, onv, h1, h3, hr, hr2, h5, h7]; exact ⟨h8.1, h⟩⟩
 | unOp op t x => exact onv_elim h fun u h1 h2 => onv_elim h2 fun r h3 h4 => ⟨_, _, _, h4, fun K' h => by simpa only [wpo, onv, h1, h3] using h⟩
 | convert src dst x =>
  refine onv_elim h fun u h1 h2 => onv_elim h2 fun ds h3 h4 => onv_elim h4 fun dd h5 h6 => ?_
  split at h6
  ·exact onv_elim h6 fun k h7 h8 => ⟨_, _, _, h8, fun K' h => by simpa only [wpo, onv, h1, h3, h5, h7] using h⟩
  ·exact ⟨_, _, _, h6.2.2, fun K' h => by simp only [wpo, onv, h1, h3, h5]; exact ⟨h6.1, h6.2.1, h⟩⟩
  ·obtain ⟨h7, h8⟩ := h6
   exact onv_elim h8 fun e h9 h10 => onv_elim h10 fun de h11 h12 => onv_elim h12.2 fun b h13 h14 => ⟨_, _, _, h14, fun K' h => by simp only [wpo, onv, h1, h3, h5, h9, h11, h13]; exact ⟨h7, h12.1, h⟩⟩
  ·exact h6.elim
 | makeFunc fn first captured =>
  cases fn with
  | func f =>
   obtain ⟨h1, h2⟩ := h
   exact onv_elim h2 fun cs h3 h4 => onv_elim h4 fun ls h5 h6 => ⟨_, _, _, h6, fun K' h => by simp only [wpo, onv, h3, h5]; exact ⟨h1, h⟩⟩
  | _ => exact h.elim
 | makeSlice t l c =>
  refine onv_elim h fun d h1 h2 => onv_elim h2 fun e h3 h4 => onv_elim h4 fun de h5 h6 => onv_elim h6 fun z h7 h8 => onv_elim h8 fun dz h9 h10 => onv_elim h10 fun vl h11 h12 => onv_elim h12 fun vc h13 h14 => ?_
  split at h14
  ·obtain ⟨k1, k2, k3, k4, k5, k6, k7⟩ := h14
   exact ⟨_, _, _, k7, fun K' h => by simp only [wpo, onv, h1, h3, h5, h7, h9, h11, h13]; exact ⟨k1, k2, k3, k4, k5, k6, h⟩⟩
  ·exact h14.elim
 | slice t x lo hi mx =>
  obtain ⟨rfl, h⟩ := h
  refine onv_elim h fun d h1 h2 => onv_elim h2 fun v h3 h4 => onv_elim h4 fun l h5 h6 => onv_elim h6 fun hh h7 h8 => ?_
  split at h8
  ·obtain ⟨h9, h10⟩ := h8
   exact onv_elim h10 fun i h11 h12 => onv_elim h12 fun j h13 h14 => ⟨_, _, _, h14.2.2.2, fun K' h => by simp only [wpo, onv, h1, h3, h5, h7, h11, h13]; exact ⟨trivial, h9, h14.1, h14.2.1, h14.2.2.1, h⟩⟩
  ·refine onv_elim h8 fun rows h9 h10 => onv_elim h10 fun e h11 h12 => onv_elim h12 fun de h13 h14 => onv_elim h14 fun i h15 h16 => onv_elim h16 fun j h17 h18 => ?_
   refine ⟨_, _, _, h18.2.2.2.2, fun K' h => ?_⟩
   simp only [wpo, onv, h1, h3, h5, h7, h9, h11, h13, h15, h17]
   exact ⟨trivial, h18.1, h18.2.1, h18.2.2.1, h18.2.2.2.1, h⟩
 | fieldAddr t x f =>
  refine onv_elim h fun d h1 h2 => onv_elim h2 fun fo h3 h4 => ?_
  obtain ⟨off, sz⟩ := fo
  obtain ⟨h5, h6⟩ := h4
  refine onv_elim h6 fun v h7 h8 => ?_
  split at h8
  ·exact ⟨_, _, _, h8, fun K' h => by simp only [wpo, onv, h1, h3, h7]; exact ⟨h5, h⟩⟩
  ·exact ⟨_, _, _, h8, fun K' h => by simp only [wpo, onv, h1, h3, h7]; exact ⟨h5, h⟩⟩
  ·exact ⟨_, _, _, h8, fun K' h => by simp only [wpo, onv, h1, h3, h7]; exact ⟨h5, h⟩⟩
  ·exact h8.elim
 | indexAddr t x ix =>
  refine onv_elim h fun d h1 h2 => onv_elim h2 fun v h3 h4 => onv_elim h4 fun i h5 h6 => ?_
  split at h6
  ·obtain ⟨h0, h6⟩ := h6
   split at h6
   ·exact onv_elim h6 fun e h7 h8 => onv_elim h8 fun de h9 h10 => onv_elim h10 fun row h11 h12 => ⟨_, _, _, h12.2, fun K' h => by simp only [wpo, onv, h1, h3, h5, h7, h9, h11]; exact ⟨h0, h12.1, h⟩⟩
   ·exact onv_elim h6 fun e h7 h8 => onv_elim h8 fun de h9 h10 => onv_elim h10 fun r h11 h12 => ⟨_, _, _, h12.2.2.2, fun K' h => by simp only [wpo, onv, h1, h3, h5, h7, h9, h11]; exact ⟨h0, h12.1, h12.2.1, h12.2.2.1, h⟩⟩
   ·refine onv_elim h6 fun le h7 h8 => ?_
    obtain ⟨len, e⟩ := le
    exact onv_elim h8 fun de h9 h10 => ⟨_, _, _, h10.2, fun K' h => by simp only [wpo, onv, h1, h3, h5, h7, h9]; exact ⟨h0, h10.1, h⟩⟩
   ·exact h6.elim
  ·exact h6.elim
 | index t x ix =>
  refine onv_elim h fun d h1 h2 => onv_elim h2 fun v h3 h4 => onv_elim h4 fun i h5 h6 => ?_
  split at h6
  ·obtain ⟨h7, h0, h8⟩ := h6
   exact onv_elim h8 fun c h9 h10 => ⟨_, _, _, h10, fun K' h => by simp only [wpo, onv, h1, h3, h5, h9]; exact ⟨h7, h0, h⟩⟩
  ·refine onv_elim h6 fun le h7 h8 => onv_elim h8 fun de h9 h10 => ?_
   obtain ⟨h11, h12, h0, h13, h14⟩ := h10
   exact onv_elim h14 fun c h15 h16 => ⟨_, _, _, h16, fun K' h => by simp only [wpo, onv, h1, h3, h5, h7, h9, h15]; exact ⟨h11, h12, h0, h13, h⟩⟩
  ·exact h6.elim
 | extract x i =>
  refine onv_elim h fun v h1 h2 => ?_
  split at h2
  ·refine onv_elim h2 fun u h3 h4 => ?_
   split at h4
   ·exact h4.elim
   ·refine ⟨_, _, _, h4, fun K' h => ?_⟩
    simp only [wpo, onv, h1, h3]
    exact h
  ·exact h2.elim
 | call c =>
  obtain ⟨callee, args, argTypes⟩ := c
  cases callee with
  | builtin b =>
   cases b with
   | len =>
    refine onv_elim h fun x h1 h2 => onv_elim h2 fun v h3 h4 => onv_elim h4 fun t h5 h6 => onv_elim h6 fun d h7 h8 => onv_elim h8 fun n h9 h10 => ?_
    exact ⟨_, _, _, h10.2.2, fun K' h => by simp only [wpo, onv, h1, h3, h5, h7, h9]; exact ⟨h10.1, h10.2.1, h⟩⟩
   | append =>
    refine onv_elim h fun x h1 h2 => onv_elim h2 fun y h3 h4 => onv_elim h4 fun t h5 h6 => ?_
    obtain ⟨h7, h8⟩ := h6
    refine onv_elim h8 fun d h9 h10 => onv_elim h10 fun e h11 h12 => onv_elim h12 fun de h13 h14 => ?_
    obtain ⟨h15, h16, h17⟩ := h14
    refine onv_elim h17 fun v h18 h19 => onv_elim h19 fun u h20 h21 => onv_elim h21 fun nr h22 h23 => ?_
    obtain ⟨h24, h25⟩ := h23
    split at h25
    ·refine onv_elim h25 fun r h26 h27 => ?_
     obtain ⟨k1, k2, k3, k4, k5, k6⟩ := h27
     cases ow with
     | true => simp only [if_true] at k6; exact ⟨_, _, _, k6, fun K' h => by simp only [wpo]; simp only [onv] at h16; simp only [onv, h1, h3, h5, h9, h11, h13, h18, h20, h22, h26]; exact ⟨h7, h15, h16, h24, k1, k2, k3, k4, k5, by simpa only [if_true] using h⟩⟩
     | false => simp only [Bool.false_eq_true, if_false] at k6; exact ⟨_, _, _, k6, fun K' h => by simp only [wpo]; simp only [onv] at h16; simp only [onv, h1, h3, h5, h9, h11, h13, h18, h20, h22, h26]; exact ⟨h7, h15, h16, h24, k1, k2, k3, k4, k5, by simpa only [Bool.false_eq_true, if_false] using h⟩⟩
    ·obtain ⟨k1, k2, k6⟩ := h25
     cases ow with
     | true => simp only [if_true] at k6; exact ⟨_, _, _, k6, fun K' h => by simp only [wpo]; simp only [onv] at h16; simp only [onv, h1, h3, h5, h9, h11, h13, h18, h20, h22]; exact ⟨h7, h15, h16, h24, k1, k2, by simpa only [if_true] using h⟩⟩
     | false => simp only [Bool.false_eq_true, if_false] at k6; exact ⟨_, _, _, k6, fun K' h => by simp only [wpo]; simp only [onv] at h16; simp only [onv, h1, h3, h5, h9, h11, h13, h18, h20, h22]; exact ⟨h7, h15, h16, h24, k1, k2, by simpa only [Bool.false_eq_true, if_false] using h⟩⟩
    ·exact h25.elim
   | max =>
    refine onv_elim h fun x h1 h2 => onv_elim h2 fun y h3 h4 => ?_
    obtain ⟨h5, h6⟩ := h4
    refine onv_elim h6 fun v h7 h8 => onv_elim h8 fun u h9 h10 => ?_
    split at h10
    ·exact ⟨_, _, _, h10, fun K' h => by simp only [wpo, onv, h1, h3, h7, h9]; exact ⟨h5, h⟩⟩
    ·exact h10.elim
   | min =>
    refine onv_elim h fun x h1 h2 => onv_elim h2 fun y h3 h4 => ?_
    obtain ⟨h5, h6⟩ := h4
    refine onv_elim h6 fun v h7 h8 => onv_elim h8 fun u h9 h10 => ?_
    split at h10
    ·exact ⟨_, _, _, h10, fun K' h => by simp only [wpo, onv, h1, h3, h7, h9]; exact ⟨h5, h⟩⟩
    ·exact h10.elim
   | _ => exact h.elim
  | _ => exact h.elim
 | _ => exact h.elim

theorem astep_plain {ow : Bool} {o : Oper} {K : AV -> List (List CV) -> List Arr -> Prop} (h : ∀ f args ts, o.op ≠ .call ⟨.value f, args, ts⟩) : astep P s ow o K = wpo P s ow o.op K := by
 obtain ⟨dst, op, ty, pos, after, guard⟩ := o
 cases op <;> try rfl
 rename_i c
 obtain ⟨callee, args, ts⟩ := c
 cases callee <;> first | rfl | exact absurd rfl (h _ _ _)

theorem astep_det {ow : Bool} {o : Oper} {K : AV -> List (List CV) -> List Arr -> Prop} (h : astep P s ow o K) : ∃ x V A, K x V A /\ ∀ K' : AV -> List (List CV) -> List Arr -> Prop, K' x V A -> astep P s ow o K' := by
 by_cases hop : ∃ f args ts, o.op = .call ⟨.value f, args, ts⟩
 ·obtain ⟨f, args, ts, heq⟩ := hop
  simp only [astep, heq] at h ⊢
  refine onv_elim h fun fv h1 h2 => ?_
  split at h2
  ·rename_i fid cap
   refine onv_elim h2 fun xs h3 h4 => ?_
   rcases h4 with ⟨ids, as, Vc, r, Vc', Ac', k1, k2, k3, k4, k5⟩ | ⟨hs, as, r, Ac', k1, k2, k3, k4, k5⟩
   ·refine ⟨_, _, _, k5, fun K' h => ?_⟩
    simp only [onv, h1, h3]
    exact .inl ⟨ids, as, Vc, r, Vc', Ac', k1, k2, k3, k4, h⟩
   ·refine ⟨_, _, _, k5, fun K' h => ?_⟩
    simp only [onv, h1, h3]
    exact .inr ⟨hs, as, r, Ac', k1, k2, k3, k4, h⟩
  ·exact h2.elim
 ·have hne : ∀ f args ts, o.op ≠ .call ⟨.value f, args, ts⟩ := fun f args ts e => hop ⟨f, args, ts, e⟩
  rw [astep_plain hne] at h
  obtain ⟨x, V, A, h1, h2⟩ := wpo_det h
  exact ⟨x, V, A, h1, fun K' h3 => by rw [astep_plain hne]; exact h2 K' h3⟩

theorem aopsD_trace {all : Array Oper} {ow : Nat -> Bool} {ws : List Nat} {K : St -> Prop} : ∀ (ops : List Oper) (i : Nat) (s : St), aopsD P all ow ws K i ops s ->
  ∃ σ : Nat -> St, σ 0 = s /\ K (σ ops.length) /\ ∀ (j : Nat) o, ops[j]? = some o -> Stp P all (ow (i + j)) o (σ j) (σ (j + 1)) /\ (i + j ∈ ws \/ ((σ (j + 1)).V = (σ j).V /\ (σ (j + 1)).A = (σ j).A))
 | [], i, s, h => ⟨fun _ => s, rfl, h, fun j o h => by simp at h⟩
 | o :: rest, i, s, h => by
  simp only [aopsD] at h
  obtain ⟨h0, hg⟩ := gdo_mono h
  rcases h0 with ⟨h1, h2⟩ | ⟨h1, h2⟩
  ·obtain ⟨x, V, A, ⟨h3, h4⟩, h5⟩ := astep_det h2
   obtain ⟨σ, k1, k2, k3⟩ := aopsD_trace rest (i + 1) _ h4
   refine ⟨fun j => match j with | 0 => s | j + 1 => σ j, rfl, k2, fun j o' ho => ?_⟩
   cases j with
   | zero =>
    simp at ho; subst ho
    refine ⟨⟨hg, .inl ⟨h1, x, V, A, k1, h5⟩⟩, ?_⟩
    rcases h3 with h3 | ⟨h3, h3'⟩
    ·exact .inl h3
    ·exact .inr (by simp only [k1]; exact ⟨h3, h3'⟩)
   | succ j =>
    simp at ho
    have := k3 j o' ho
    rwa [show i + 1 + j = i + (j + 1) by omega] at this
  ·obtain ⟨σ, k1, k2, k3⟩ := aopsD_trace rest (i + 1) _ h2
   refine ⟨fun j => match j with | 0 => s | j + 1 => σ j, rfl, k2, fun j o' ho => ?_⟩
   cases j with
   | zero =>
    simp at ho; subst ho
    exact ⟨⟨hg, .inr ⟨h1, k1⟩⟩, .inr (by simp only [k1]; exact ⟨rfl, rfl⟩)⟩
   | succ j =>
    simp at ho
    have := k3 j o' ho
    rwa [show i + 1 + j = i + (j + 1) by omega] at this
end
end Go.Av

namespace Go.Av
open Go

section
variable {P : Program} {n : Nat} {Q Q' : Exit -> St -> Prop} {s s' : St} {w0 : World} {g0 g g' : Gh} {a : Act} {w w' : World} {V : List (List CV)} {A A' : List Arr}

theorem cellsAt_congr {fr fr' : List (Nat × AV)} {p : CV} {k : Nat} : cellsAt ⟨fr', V, A⟩ p k = cellsAt ⟨fr, V, A⟩ p k := by
 cases p <;> rfl

theorem aparts_congr : ∀ {parts : List (Nat × Operand)}, (∀ p ∈ parts, aval s' p.2 = aval s p.2) -> aparts s' parts = aparts s parts
 | [], _ => rfl
 | (i, x) :: r, h => by
  have e := aparts_congr (parts := r) (fun p hp => h p (List.mem_cons_of_mem _ hp))
  simp only [aparts, h (i, x) (by simp), e]

theorem arows_congr {sz : Nat} : ∀ {parts : List (Nat × Operand)} {k : Nat}, (∀ p ∈ parts, aval s' p.2 = aval s p.2) -> arows s' sz k parts = arows s sz k parts
 | [], _, _ => rfl
 | (i, x) :: r, k, h => by
  have e := arows_congr (sz := sz) (parts := r) (k := k + 1) (fun p hp => h p (List.mem_cons_of_mem _ hp))
  simp only [arows, h (i, x) (by simp), e]

theorem avals_congr : ∀ {os : List Operand}, (∀ p ∈ os, aval s' p = aval s p) -> avals s' os = avals s os
 | [], _ => rfl
 | x :: r, h => by
  have e := avals_congr (os := r) (fun p hp => h p (List.mem_cons_of_mem _ hp))
  simp only [avals, h x (by simp), e]

theorem wpo_congr {fr fr' : List (Nat × AV)} {ow : Bool} {op : Op} {K : AV -> List (List CV) -> List Arr -> Prop} (he : ∀ x ∈ op.operands.toList, aval ⟨fr', V, A⟩ x = aval ⟨fr, V, A⟩ x) (h : wpo P ⟨fr, V, A⟩ ow op K) : wpo P ⟨fr', V, A⟩ ow op K := by
 cases op with
 | move x => simpa only [wpo, he x (by simp [Op.operands])] using h
 | assign x => simpa only [wpo, he x (by simp [Op.operands])] using h
 | pick c x y => simpa only [wpo, he c (by simp [Op.operands]), he x (by simp [Op.operands]), he y (by simp [Op.operands])] using h
 | alloc e => exact h
 | box e x => simpa only [wpo, he x (by simp [Op.operands])] using h
 | build t parts => simpa only [wpo, aparts_congr (s' := ⟨fr', V, A⟩) (s := ⟨fr, V, A⟩) (parts := parts.toList) (fun p hp => he p.2 (by simp only [Op.operands, List.mem_map]; exact ⟨p, hp, rfl⟩))] using h
 | buildSlice t len parts =>
  simp only [wpo] at h ⊢
  have : ∀ sz, arows ⟨fr', V, A⟩ sz 0 parts.toList = arows ⟨fr, V, A⟩ sz 0 parts.toList := fun sz => arows_congr (fun p hp => he p.2 (by simp only [Op.operands, List.mem_map]; exact ⟨p, hp, rfl⟩))
  simpa only [this] using h
 | load t x =>
  simp only [wpo, he x (by simp [Op.operands])] at h ⊢
  simpa only [cellsAt_congr (fr := fr) (fr' := fr')] using h
 | store t x y => simpa only [wpo, he x (by simp [Op.operands]), he y (by simp [Op.operands])] using h
 | nilCheck x => simpa only [wpo, he x (by simp [Op.operands])] using h
 | binOp op t x y t' => simpa only [wpo, he x (by simp [Op.operands]), he y (by simp [Op.operands])] using h
 | unOp op t x => simpa only [wpo, he x (by simp [Op.operands])] using h
 | convert src dst x => simpa only [wpo, he x (by simp [Op.operands])] using h
 | makeFunc fn first captured =>
  cases fn with
  | func f => simpa only [wpo, avals_congr (s' := ⟨fr', V, A⟩) (s := ⟨fr, V, A⟩) (os := captured.toList) (fun p hp => he p (by simp [Op.operands]; exact .inr (by simpa using hp)))] using h
  | _ => exact h
 | makeSlice t l c => simpa only [wpo, he l (by simp [Op.operands]), he c (by simp [Op.operands])] using h
 | slice t x lo hi mx =>
  have hlo : oval ⟨fr', V, A⟩ lo = oval ⟨fr, V, A⟩ lo := by
   cases lo with
   | none => rfl
   | some l => simp only [oval, he l (by simp [Op.operands])]
  have hhi : oval ⟨fr', V, A⟩ hi = oval ⟨fr, V, A⟩ hi := by
   cases hi with
   | none => rfl
   | some l => simp only [oval, he l (by simp [Op.operands])]
  simpa only [wpo, he x (by simp [Op.operands]), hlo, hhi] using h
 | fieldAddr t x f => simpa only [wpo, he x (by simp [Op.operands])] using h
 | indexAddr t x ix => simpa only [wpo, he x (by simp [Op.operands]), he ix (by simp [Op.operands])] using h
 | index t x ix => simpa only [wpo, he x (by simp [Op.operands]), he ix (by simp [Op.operands])] using h
 | extract x i => simpa only [wpo, he x (by simp [Op.operands])] using h
 | call c =>
  obtain ⟨callee, args, argTypes⟩ := c
  cases callee with
  | builtin b =>
   have hx : ∀ (i : Nat) x, args[i]? = some x -> aval ⟨fr', V, A⟩ x = aval ⟨fr, V, A⟩ x := fun i x hi => he x (by
    simp only [Op.operands, Call.operands, Array.empty_append, Array.mem_toList_iff]
    exact Array.mem_of_getElem? hi)
   cases b with
   | len => exact onv_elim h fun x h1 h2 => by simp only [wpo, onv, h1, hx 0 x h1]; exact h2
   | append => exact onv_elim h fun x h1 h2 => onv_elim h2 fun y h3 h4 => by simp only [wpo, onv, h1, h3, hx 0 x h1, hx 1 y h3]; exact h4
   | max => exact onv_elim h fun x h1 h2 => onv_elim h2 fun y h3 h4 => by simp only [wpo, onv, h1, h3, hx 0 x h1, hx 1 y h3]; exact h4
   | min => exact onv_elim h fun x h1 h2 => onv_elim h2 fun y h3 h4 => by simp only [wpo, onv, h1, h3, hx 0 x h1, hx 1 y h3]; exact h4
   | _ => exact h
  | _ => exact h
 | _ => exact h

theorem astep_congr {fr fr' : List (Nat × AV)} {ow : Bool} {o : Oper} {K : AV -> List (List CV) -> List Arr -> Prop} (he : ∀ x ∈ o.op.operands.toList, aval ⟨fr', V, A⟩ x = aval ⟨fr, V, A⟩ x) (h : astep P ⟨fr, V, A⟩ ow o K) : astep P ⟨fr', V, A⟩ ow o K := by
 by_cases hop : ∃ f args ts, o.op = .call ⟨.value f, args, ts⟩
 ·obtain ⟨f, args, ts, heq⟩ := hop
  simp only [astep, heq] at h he ⊢
  have h1 : aval ⟨fr', V, A⟩ f = aval ⟨fr, V, A⟩ f := he f (by simp [Op.operands, Call.operands])
  have h2 : avals ⟨fr', V, A⟩ args.toList = avals ⟨fr, V, A⟩ args.toList := avals_congr fun p hp => he p (by simp [Op.operands, Call.operands]; exact .inr (by simpa using hp))
  rw [h1, h2]
  exact h
 ·have hne : ∀ f args ts, o.op ≠ .call ⟨.value f, args, ts⟩ := fun f args ts e => hop ⟨f, args, ts, e⟩
  rw [astep_plain hne] at h ⊢
  exact wpo_congr he h

theorem astep_S {ow : Bool} {o : Oper} (hs : isS o.op = true) (he : ∀ x ∈ o.op.operands.toList, aval s' x = aval s x) {x : AV} {V0 : List (List CV)} {A0 : List Arr} (h : ∀ K : AV -> List (List CV) -> List Arr -> Prop, K x V0 A0 -> astep P s ow o K)
  {K : AV -> List (List CV) -> List Arr -> Prop} (hK : K x s'.V s'.A) : astep P s' ow o K := by
 have hne : ∀ f args ts, o.op ≠ .call ⟨.value f, args, ts⟩ := fun f args ts e => by rw [e] at hs; simp [isS] at hs
 have h0 := h (fun v _ _ => v = x) rfl
 rw [astep_plain hne] at h0 ⊢
 obtain ⟨dst, op, ty, pos, after, guard⟩ := o
 simp only at h0 he hs ⊢
 cases op with
 | move y => exact onv_elim h0 fun v h1 h2 => by subst h2; simp only [wpo, onv, he y (by simp [Op.operands]), h1]; exact hK
 | assign y => exact onv_elim h0 fun v h1 h2 => by subst h2; simp only [wpo, onv, he y (by simp [Op.operands]), h1]; exact hK
 | pick c y z =>
  refine onv_elim h0 fun v h1 h2 => ?_
  split at h2
  ·rename_i t
   cases t with
   | true => simp only [if_true] at h2; exact onv_elim h2 fun v h3 h4 => by subst h4; simp only [wpo, onv, he c (by simp [Op.operands]), h1, if_true, he y (by simp [Op.operands]), h3]; exact hK
   | false => simp only [Bool.false_eq_true, if_false] at h2; exact onv_elim h2 fun v h3 h4 => by subst h4; simp only [wpo, onv, he c (by simp [Op.operands]), h1, Bool.false_eq_true, if_false, he z (by simp [Op.operands]), h3]; exact hK
  ·exact h2.elim
 | fieldAddr t y f =>
  refine onv_elim h0 fun d h1 h2 => onv_elim h2 fun fo h3 h4 => ?_
  obtain ⟨off, sz⟩ := fo
  obtain ⟨h5, h6⟩ := h4
  refine onv_elim h6 fun v h7 h8 => ?_
  split at h8
  ·subst h8; simp only [wpo, onv, h1, h3, he y (by simp [Op.operands]), h7]; exact ⟨h5, hK⟩
  ·subst h8; simp only [wpo, onv, h1, h3, he y (by simp [Op.operands]), h7]; exact ⟨h5, hK⟩
  ·subst h8; simp only [wpo, onv, h1, h3, he y (by simp [Op.operands]), h7]; exact ⟨h5, hK⟩
  ·exact h8.elim
 | unOp op t y => exact onv_elim h0 fun u h1 h2 => onv_elim h2 fun r h3 h4 => by subst h4; simp only [wpo, onv, he y (by simp [Op.operands]), h1, h3]; exact hK
 | binOp op t y z t' =>
  refine onv_elim h0 fun u h1 h2 => onv_elim h2 fun v h3 h4 => ?_
  split at h4
  ·rename_i r hr
   subst h4; simp only [wpo, onv, he y (by simp [Op.operands]), he z (by simp [Op.operands]), h1, h3, hr]; exact hK
  ·rename_i hr
   split at h4
   ·rename_i r hr2
    subst h4; simp only [wpo, onv, he y (by simp [Op.operands]), he z (by simp [Op.operands]), h1, h3, hr, hr2]; exact hK
   rename_i hr2
   exact onv_elim h4 fun r h5 h6 => onv_elim h6 fun d h7 h8 => by
    obtain ⟨h8, h9⟩ := h8
    subst h9; simp only [wpo, onv, he y (by simp [Op.operands]), he z (by simp [Op.operands]), h1, h3, hr, hr2, h5, h7]; exact ⟨h8, hK⟩
 | extract y i =>
  refine onv_elim h0 fun v h1 h2 => ?_
  split at h2
  ·refine onv_elim h2 fun u h3 h4 => ?_
   split at h4
   ·exact h4.elim
   ·subst h4; simp only [wpo, onv, he y (by simp [Op.operands]), h1, h3]; exact hK
  ·exact h2.elim
 | _ => simp [isS] at hs

theorem mask1_spec {acc : List Nat} {o : Oper} {k : Nat} (h : (mask1 acc o).testBit k = true) : ∃ e ∈ o.after, Region.binds .any e = true /\ (k = e.on \/ (acc.getD e.on 0).testBit k = true) := by
 have key : ∀ (l : List Edge) (m : Nat), (l.foldl (fun m e => if Region.binds .any e then m ||| 2 ^ e.on ||| acc.getD e.on 0 else m) m).testBit k = true -> m.testBit k = true \/ ∃ e ∈ l, Region.binds .any e = true /\ (k = e.on \/ (acc.getD e.on 0).testBit k = true) := by
  intro l
  induction l with
  | nil => intro m h; exact .inl h
  | cons e l ih =>
   intro m h
   simp only [List.foldl_cons] at h
   rcases ih _ h with h1 | ⟨e', h1, h2⟩
   ·split at h1
    ·rename_i hb
     rw [Nat.testBit_or, Nat.testBit_or, Bool.or_eq_true, Bool.or_eq_true] at h1
     rcases h1 with (h1 | h1) | h1
     ·exact .inl h1
     ·rw [Nat.testBit_two_pow] at h1
      exact .inr ⟨e, by simp, hb, .inl (by simpa using (by simpa using h1 : e.on = k).symm)⟩
     ·exact .inr ⟨e, by simp, hb, .inr h1⟩
    ·exact .inl h1
   ·exact .inr ⟨e', by simp [h1], h2⟩
 rcases key _ 0 h with h1 | ⟨e, h1, h2⟩
 ·simp at h1
 ·exact ⟨e, Array.mem_toList_iff.1 h1, h2⟩

theorem masks_spec : ∀ (l : List Oper) (acc : List Nat), (masks l acc).length = acc.length + l.length /\ (∀ i, i < acc.length -> (masks l acc)[i]? = acc[i]?) /\
  ∀ (i : Nat) o, l[i]? = some o -> ∃ pre : List Nat, pre.length = acc.length + i /\ (∀ j, j < pre.length -> pre[j]? = (masks l acc)[j]?) /\ (masks l acc)[acc.length + i]? = some (mask1 pre o)
 | [], acc => ⟨by simp [masks], fun _ _ => rfl, fun i o h => by simp at h⟩
 | o :: r, acc => by
  obtain ⟨h1, h2, h3⟩ := masks_spec r (acc ++ [mask1 acc o])
  simp only [masks]
  refine ⟨by rw [h1]; simp; omega, fun i hi => ?_, fun i o' ho => ?_⟩
  ·rw [h2 i (by simp; omega), List.getElem?_append_left hi]
  ·cases i with
   | zero =>
    simp at ho; subst ho
    refine ⟨acc, by simp, fun j hj => ?_, ?_⟩
    ·rw [h2 j (by simp; omega), List.getElem?_append_left hj]
    ·rw [Nat.add_zero, h2 _ (by simp)]; simp
   | succ i =>
    simp at ho
    obtain ⟨pre, h4, h5, h6⟩ := h3 i o' ho
    simp at h4
    exact ⟨pre, by omega, h5, by rw [<- h6]; congr 1; simp; omega⟩

theorem look_filter (f : Nat -> Bool) : ∀ (fr : List (Nat × AV)) (t : Nat), look (fr.filter fun p => f p.1) t = if f t then look fr t else none
 | [], t => by simp [look]
 | (d, x) :: r, t => by
  by_cases hd : f d = true
  ·rw [List.filter_cons_of_pos (by exact hd)]
   simp only [look]
   rw [look_filter f r t]
   by_cases e : t = d
   ·subst e; simp [hd]
   ·simp [e]
  ·rw [List.filter_cons_of_neg (by exact hd), look_filter f r t]
   simp only [look]
   by_cases e : t = d
   ·subst e; simp [hd]
   ·simp [e]

structure DS (all : Array Oper) (ws : List Nat) (σ : Nat -> St) (n : Nat) (w0 : World) (g0 : Gh) (listed : Array Bool) (k0 : Nat) (g : Gh) (a : Act) (w : World) : Prop where
 inv : Inv g w (σ k0).V (σ k0).A
 fr : Fr w0 g0 w g
 size : a.tmps.size = n
 defers : a.defers = []
 lsize : listed.size = all.size
 slot1 : ∀ (i : Nat) o t x, all[i]? = some o -> listed[i]? = some true -> o.dst = some t -> look (σ (i + 1)).fr t = some x -> ∃ u, a.tmps[t]? = some u /\ RepV g w (σ k0).A x u
 slot0 : ∀ t x, (∀ (i : Nat) o, all[i]? = some o -> listed[i]? = some true -> o.dst ≠ some t) -> look (σ 0).fr t = some x -> ∃ u, a.tmps[t]? = some u /\ RepV g w (σ k0).A x u
 wprog : ∀ i ∈ ws, i < all.size -> (listed[i]? = some true ↔ i < k0)
 kle : k0 <= all.size
 closed : ∀ (i : Nat) o, all[i]? = some o -> listed[i]? = some true -> ∀ e ∈ o.after, Region.binds .any e = true -> listed[e.on]? = some true

theorem filter_le {α : Type} {p q : α -> Bool} (h : ∀ i, p i = true -> q i = true) : ∀ (l : List α), (l.filter p).length <= (l.filter q).length
 | [] => by simp
 | x :: l => by
  have ih := filter_le h l
  cases hp : p x with
  | true => simp [hp, h x hp]; exact ih
  | false => cases hq : q x <;> simp [hp, hq] <;> omega

theorem filter_lt {α : Type} {p q : α -> Bool} (h : ∀ i, p i = true -> q i = true) {j : α} : ∀ {l : List α}, j ∈ l -> q j = true -> p j = false -> (l.filter p).length < (l.filter q).length
 | [], hj, _, _ => by simp at hj
 | x :: l, hj, hq, hp => by
  rcases List.mem_cons.1 hj with rfl | hj'
  ·have := filter_le h l
   simp [hp, hq]; omega
  ·have ih := filter_lt h hj' hq hp
   cases hp' : p x with
   | true => simp [hp', h x hp']; exact ih
   | false => cases hq' : q x <;> simp [hp', hq'] <;> omega

theorem listed_iff {listed : Array Bool} {i : Nat} : listed.getD i false = true ↔ listed[i]? = some true := by
 rcases Nat.lt_or_ge i listed.size with h | h
 ·simp [h]
 ·simp [h]

theorem unlisted_of {listed : Array Bool} {i : Nat} (h : listed.getD i true = false) : listed[i]? = some false := by
 rcases Nat.lt_or_ge i listed.size with h1 | h1
 ·simp [h1] at h ⊢; exact h
 ·simp [h1] at h

set_option maxHeartbeats 2000000 in
theorem draw_sound {all : Array Oper} {ow : Nat -> Bool} {ws : List Nat} {σ : Nat -> St} {K : St -> Prop} {Q : Exit -> Act -> World -> Prop} (hd : drawOk all ws = true) (hdst : dstsOk n all.toList = true)
  (htr : ∀ (j : Nat) o, all[j]? = some o -> Stp P all (ow j) o (σ j) (σ (j + 1)) /\ (j ∈ ws \/ ((σ (j + 1)).V = (σ j).V /\ (σ (j + 1)).A = (σ j).A)))
  (hK : K (σ all.size)) (hQ : ∀ s' g' a' w', K s' -> Rp n w0 g0 s' g' a' w' -> Q .normal a' w') :
  ∀ (fuel : Nat) (listed : Array Bool) (k0 : Nat) (g : Gh) (a : Act) (w : World), ((List.range all.size).filter fun i => !listed.getD i true).length <= fuel -> DS all ws σ n w0 g0 listed k0 g a w -> wpAny P .any all Q fuel listed a w := by
 simp only [drawOk, Bool.and_eq_true, List.all_eq_true] at hd
 obtain ⟨⟨hd1, hd2⟩, hd3⟩ := hd
 -- the checks, read
 have hmem : ∀ (j : Nat) o, all[j]? = some o -> (o, j) ∈ all.toList.zipIdx := fun j o h => by
  rw [List.mem_iff_getElem?]
  exact ⟨j, by simp [List.getElem?_zipIdx, h]⟩
 have hedge : ∀ (j : Nat) o, all[j]? = some o -> ∀ e ∈ o.after, Region.binds .any e = true -> e.on < j := fun j o h e he hb => by
  have := hd1 _ (hmem j o h) e (Array.mem_toList_iff.2 he)
  simpa [hb] using this
 have hpair : ∀ (i j : Nat) oi oj, all[i]? = some oi -> all[j]? = some oj -> i < j -> pairOk all ws (masks all.toList []) oi oj i j = true := fun i j oi oj h1 h2 hlt => by
  have := hd2 _ (hmem j oj h2) _ (hmem i oi h1)
  simpa [hlt] using this
 have hws : ∀ (j : Nat) o, all[j]? = some o -> j ∈ ws -> isS o.op = false := fun j o h hj => by
  have := hd3 _ (hmem j o h)
  simpa [hj] using this
 have hdne : ∀ (i j : Nat) oi oj d, all[i]? = some oi -> all[j]? = some oj -> i < j -> oi.dst = some d -> oj.dst ≠ some d := fun i j oi oj d h1 h2 hlt h3 h4 => by
  have := hpair i j oi oj h1 h2 hlt
  simp [pairOk, h3, h4] at this
 have hdu : ∀ (i j : Nat) oi oj d, all[i]? = some oi -> all[j]? = some oj -> oi.dst = some d -> oj.dst = some d -> i = j := fun i j oi oj d h1 h2 h3 h4 => by
  rcases Nat.lt_trichotomy i j with h | h | h
  ·exact absurd h4 (hdne i j oi oj d h1 h2 h h3)
  ·exact h
  ·exact absurd h3 (hdne j i oj oi d h2 h1 h h4)
 have hdn : ∀ (j : Nat) o d, all[j]? = some o -> o.dst = some d -> d < n := fun j o d h1 h2 => by
  have := List.all_eq_true.1 hdst o (by rw [Array.mem_toList_iff]; exact Array.mem_of_getElem? h1)
  simpa [h2] using this
 obtain ⟨hml, _, hms⟩ := masks_spec all.toList []
 -- the order that the edges force
 have hbit : ∀ {listed : Array Bool}, (∀ (i : Nat) o, all[i]? = some o -> listed[i]? = some true -> ∀ e ∈ o.after, Region.binds .any e = true -> listed[e.on]? = some true) ->
   ∀ (i : Nat) o, all[i]? = some o -> (∀ e ∈ o.after, Region.binds .any e = true -> listed[e.on]? = some true) -> ∀ k, ((masks all.toList []).getD i 0).testBit k = true -> listed[k]? = some true := by
  intro listed hcl i
  induction i using Nat.strongRecOn with
  | _ i ih =>
   intro o ho hafter k hk
   obtain ⟨pre, h1, h2, h3⟩ := hms i o (by simpa using ho)
   simp only [List.length_nil, Nat.zero_add] at h1 h3
   have h4 : (masks all.toList []).getD i 0 = mask1 pre o := by simp [List.getD, h3]
   rw [h4] at hk
   obtain ⟨e, he, hb, h5⟩ := mask1_spec hk
   have he1 := hafter e he hb
   rcases h5 with rfl | h5
   ·exact he1
   ·have hlt := hedge i o ho e he hb
    have h6 : pre.getD e.on 0 = (masks all.toList []).getD e.on 0 := by simp only [List.getD, h2 e.on (by omega)]
    rw [h6] at h5
    have hsz : e.on < all.size := by have := (Array.getElem?_eq_some_iff.1 ho).1; omega
    have hoe : all[e.on]? = some all[e.on] := Array.getElem?_eq_getElem hsz
    exact ih e.on hlt _ hoe (hcl e.on _ hoe he1) k h5
 -- frames
 have hstep : ∀ (j : Nat) o t, all[j]? = some o -> o.dst ≠ some t -> look (σ (j + 1)).fr t = look (σ j).fr t := fun j o t h1 h2 => by
  obtain ⟨⟨_, h3⟩, _⟩ := htr j o h1
  have hput : ∀ (x : AV) V A, look ((σ j).put o.dst x V A).fr t = look (σ j).fr t := fun x V A => by
   simp only [St.put]
   cases hdd : o.dst with
   | none => rfl
   | some d => simp only [look]; rw [if_neg (fun e => h2 (by rw [hdd, e]))]
  rcases h3 with ⟨_, x, V, A, h4, _⟩ | ⟨_, h4⟩
  ·rw [h4]; exact hput x V A
  ·rw [h4]; exact hput _ _ _
 have hfrB : ∀ (j t : Nat), j <= all.size -> (∀ (i : Nat) o, i < j -> all[i]? = some o -> o.dst ≠ some t) -> look (σ j).fr t = look (σ 0).fr t := by
  intro j
  induction j with
  | zero => intro t _ _; rfl
  | succ j ih =>
   intro t hj hno
   have ho : all[j]? = some all[j] := Array.getElem?_eq_getElem (by omega)
   rw [hstep j _ t ho (hno j _ (by omega) ho)]
   exact ih t (by omega) (fun i o hi => hno i o (by omega))
 have hfrA : ∀ (j i : Nat) oi t, j <= all.size -> i < j -> all[i]? = some oi -> oi.dst = some t -> look (σ j).fr t = look (σ (i + 1)).fr t := by
  intro j
  induction j with
  | zero => intro i oi t _ h; omega
  | succ j ih =>
   intro i oi t hj hij hoi hdt
   by_cases e : i = j
   ·subst e; rfl
   ·have ho : all[j]? = some all[j] := Array.getElem?_eq_getElem (by omega)
    rw [hstep j _ t ho (hdne i j oi _ t hoi ho (by omega) hdt)]
    exact ih i oi t (by omega) (by omega) hoi hdt
 have hVA : ∀ (b a : Nat), a <= b -> b <= all.size -> (∀ i, a <= i -> i < b -> i ∉ ws) -> (σ b).V = (σ a).V /\ (σ b).A = (σ a).A := by
  intro b
  induction b with
  | zero =>
   intro a h _ _
   obtain rfl : a = 0 := by omega
   exact ⟨rfl, rfl⟩
  | succ b ih =>
   intro a hab hb hno
   by_cases e : a = b + 1
   ·subst e; exact ⟨rfl, rfl⟩
   ·have ho : all[b]? = some all[b] := Array.getElem?_eq_getElem (by omega)
    obtain ⟨h1, h2⟩ := ih a (by omega) (by omega) (fun i hi hi' => hno i hi (by omega))
    rcases (htr b _ ho).2 with h3 | ⟨h3, h4⟩
    ·exact absurd h3 (hno b (by omega) (by omega))
    ·exact ⟨h3.trans h1, h4.trans h2⟩
 -- at the end
 have hend : ∀ {listed : Array Bool} {k0 : Nat} {g : Gh} {a : Act} {w : World}, DS all ws σ n w0 g0 listed k0 g a w -> Region.ready .any all listed = [] -> Q .normal a w := by
  intro listed k0 g a w hD hr
  have hall : ∀ i, i < all.size -> listed[i]? = some true := by
   intro i
   induction i using Nat.strongRecOn with
   | _ i ih =>
    intro hi
    have ho : all[i]? = some all[i] := Array.getElem?_eq_getElem hi
    have hli : i < listed.size := by rw [hD.lsize]; exact hi
    cases hl : listed[i] with
    | true => rw [Array.getElem?_eq_getElem hli, hl]
    | false =>
     exfalso
     have : i ∈ Region.ready .any all listed := mem_ready.2 ⟨by simp [hli, hl], _, ho, fun e he hb => listed_iff.2 (ih e.on (hedge i _ ho e he hb) (by have := hedge i _ ho e he hb; omega))⟩
     rw [hr] at this; simp at this
  have hva := hVA all.size k0 hD.kle (Nat.le_refl _) (fun i h1 h2 h3 => by have := (hD.wprog i h3 h2).1 (hall i h2); omega)
  refine hQ _ g a w hK ⟨by rw [hva.1, hva.2]; exact hD.inv, hD.fr, hD.size, hD.defers, fun t x hx => ?_⟩
  rw [hva.2]
  by_cases hex : ∃ (i : Nat) (o : Oper), all[i]? = some o /\ o.dst = some t
  ·obtain ⟨i, o, ho, hdt⟩ := hex
   have hi := (Array.getElem?_eq_some_iff.1 ho).1
   rw [hfrA all.size i o t (Nat.le_refl _) hi ho hdt] at hx
   exact hD.slot1 i o t x ho (hall i hi) hdt hx
  ·rw [hfrB all.size t (Nat.le_refl _) (fun i o _ ho hdt => hex ⟨i, o, ho, hdt⟩)] at hx
   exact hD.slot0 t x (fun i o ho _ hdt => hex ⟨i, o, ho, hdt⟩) hx
 -- one operation
 intro fuel
 induction fuel with
 | zero =>
  intro listed k0 g a w hf hD
  have hnil : Region.ready .any all listed = [] := by
   have h0 : ((List.range all.size).filter fun i => !listed.getD i true) = [] := List.eq_nil_of_length_eq_zero (by omega)
   rcases hr : Region.ready .any all listed with _ | ⟨j, r⟩
   ·rfl
   ·have hj : j ∈ Region.ready .any all listed := by rw [hr]; simp
    obtain ⟨h1, o, h2, _⟩ := mem_ready.1 hj
    have : j ∈ ((List.range all.size).filter fun i => !listed.getD i true) := by
     rw [List.mem_filter, List.mem_range]
     exact ⟨(Array.getElem?_eq_some_iff.1 h2).1, by simp [h1]⟩
    rw [h0] at this; simp at this
  exact ⟨hnil, hend hD hnil⟩
 | succ fuel ih =>
  intro listed k0 g a w hf hD
  refine ⟨fun hr => hend hD hr, fun j hj => ?_⟩
  obtain ⟨hun, o, ho, hafter⟩ := mem_ready.1 hj
  have hju := unlisted_of hun
  have hjn : j < all.size := (Array.getElem?_eq_some_iff.1 ho).1
  have hjl : j < listed.size := by rw [hD.lsize]; exact hjn
  have hafter' : ∀ e ∈ o.after, Region.binds .any e = true -> listed[e.on]? = some true := fun e he hb => listed_iff.1 (hafter e he hb)
  have hbefore : ∀ k, ((masks all.toList []).getD j 0).testBit k = true -> listed[k]? = some true := hbit hD.closed j o ho hafter'
  have hbehind : ∀ (i : Nat) oi, all[i]? = some oi -> listed[i]? = some true -> ((masks all.toList []).getD i 0).testBit j = false := fun i oi hoi hli => by
   cases hb : ((masks all.toList []).getD i 0).testBit j with
   | false => rfl
   | true => have := hbit hD.closed i oi hoi (hD.closed i oi hoi hli) j hb; rw [hju] at this; simp at this
  -- what the operation looks at
  have hlooks : ∀ t ∈ o.looksAt all, ∀ x, look (σ j).fr t = some x -> ∃ u, a.tmps[t]? = some u /\ RepV g w (σ k0).A x u := by
   intro t ht x hx
   by_cases hex : ∃ (i : Nat) (oi : Oper), i < j /\ all[i]? = some oi /\ oi.dst = some t
   ·obtain ⟨i, oi, hij, hoi, hdt⟩ := hex
    rw [hfrA j i oi t (by omega) hij hoi hdt] at hx
    have hp := hpair i j oi o hoi ho hij
    have htc : touch all oi o = true := by simp only [touch, hdt]; simpa using ht
    simp only [pairOk, htc, Bool.and_eq_true, Bool.or_eq_true] at hp
    have hb : ((masks all.toList []).getD j 0).testBit i = true := by simpa using hp.2
    exact hD.slot1 i oi t x hoi (hbefore i hb) hdt hx
   ·rw [hfrB j t (by omega) (fun i oi hij hoi hdt => hex ⟨i, oi, hij, hoi, hdt⟩)] at hx
    refine hD.slot0 t x (fun i oi hoi hli hdt => ?_) hx
    rcases Nat.lt_trichotomy i j with h | h | h
    ·exact hex ⟨i, oi, h, hoi, hdt⟩
    ·subst h; rw [hju] at hli; simp at hli
    ·have hp := hpair j i o oi ho hoi h
     have htc : touch all oi o = true := by simp only [touch, hdt]; simpa using ht
     have hb := hbehind i oi hoi hli
     simp only [pairOk, htc, hb, Bool.and_eq_true, Bool.or_eq_true] at hp
     simp at hp
  let fr' := (σ j).fr.filter fun p => (o.looksAt all).contains p.1
  have hlk : ∀ t, look fr' t = if (o.looksAt all).contains t then look (σ j).fr t else none := fun t => look_filter (fun t => (o.looksAt all).contains t) (σ j).fr t
  have hS : ∀ (V : List (List CV)), Slots g w ⟨fr', V, (σ k0).A⟩ a := fun V t x hx => by
   simp only [hlk] at hx
   split at hx
   ·rename_i hc; exact hlooks t (by simpa using hc) x hx
   ·cases hx
  have hop : ∀ (V V' : List (List CV)) (A A' : List Arr), ∀ x ∈ o.op.operands.toList, aval ⟨fr', V, A⟩ x = aval ⟨(σ j).fr, V', A'⟩ x := fun V V' A A' x hx => by
   cases x with
   | tmp t =>
    simp only [aval, hlk]
    rw [if_pos]
    simp only [Oper.looksAt, List.contains_eq_mem, decide_eq_true_eq, List.mem_append, List.mem_filterMap]
    exact .inl ⟨.tmp t, hx, rfl⟩
   | _ => rfl
  have hRr : Rp n w0 g0 ⟨fr', (σ k0).V, (σ k0).A⟩ g a w := ⟨hD.inv, hD.fr, hD.size, hD.defers, hS _⟩
  -- the guard
  obtain ⟨⟨hgd, hst⟩, hor⟩ := htr j o ho
  have hgd' : gdo all ⟨fr', (σ k0).V, (σ k0).A⟩ o True True /\ gw all ⟨fr', (σ k0).V, (σ k0).A⟩ o = gw all (σ j) o := by
   unfold gdo gw at *
   cases hgg : o.guard with
   | none => simp
   | some jw =>
    obtain ⟨q, want⟩ := jw
    simp only [hgg] at hgd ⊢
    obtain ⟨oq, h1, h2⟩ := onv_some hgd
    obtain ⟨t, h3, h4⟩ := onv_some h2
    have : look fr' t = look (σ j).fr t := by
     rw [hlk, if_pos]
     simp only [Oper.looksAt, hgg, List.contains_eq_mem, decide_eq_true_eq, List.mem_append]
     exact .inr (by simp [h1, h3])
    simp only [h1, onv, h3, Option.bind_some, this] at h4 ⊢
    exact ⟨h4, trivial⟩
  have hwant : Region.wanted o (yielded all a.tmps) = gw all (σ j) o := by
   rw [<- hgd'.2]
   have h0 := gdo_mono hgd'.1
   -- both say the same
   have h1 := hgd'.1
   unfold gdo at h1
   unfold gw
   cases hgg : o.guard with
   | none => simp [Region.wanted, hgg]
   | some jw =>
    obtain ⟨q, want⟩ := jw
    simp only [hgg] at h1 ⊢
    obtain ⟨oq, h2, h3⟩ := onv_some h1
    obtain ⟨t, h4, h5⟩ := onv_some h3
    obtain ⟨x, h6, h7⟩ := onv_some h5
    obtain ⟨h8, h9⟩ := yielded_of hRr h2 h4 h6
    simp only [h2, Option.bind_some, h4, h6]
    split at h7
    ·rename_i b; simp [Region.wanted, hgg, h8 b rfl]
    ·simp [Region.wanted, hgg, h9 rfl]
    ·exact h7.elim
  -- the state behind it
  have hset : ∀ i, (listed.setIfInBounds j true)[i]? = if i = j then some true else listed[i]? := fun i => by
   by_cases e : i = j
   ·subst e; simp [hjl]
   ·rw [if_neg e, Array.getElem?_setIfInBounds_ne (fun h => e h.symm)]
  have hcount : ((List.range all.size).filter fun i => !(listed.setIfInBounds j true).getD i true).length <= fuel := by
   have hlt : ((List.range all.size).filter fun i => !(listed.setIfInBounds j true).getD i true).length < ((List.range all.size).filter fun i => !listed.getD i true).length := by
    have hsub : ∀ i, (!(listed.setIfInBounds j true).getD i true) = true -> (!listed.getD i true) = true := fun i h => by
     by_cases e : i = j
     ·subst e; simp [hjl] at h
     ·have : (listed.setIfInBounds j true).getD i true = listed.getD i true := by
       simp only [Array.getD_eq_getD_getElem?, hset, if_neg e]
      rwa [this] at h
    exact filter_lt hsub (List.mem_range.2 hjn) (by simp [hun]) (by simp [hjl])
   omega
  have hnext : ∀ (k1 : Nat) (x : AV) (v : Value) (w' : World) (g' : Gh), look (σ (j + 1)).fr = look ((σ j).put o.dst x [] []).fr -> RepV g' w' (σ k1).A x v -> Inv g' w' (σ k1).V (σ k1).A -> Ext g w (σ k0).A g' w' (σ k1).A -> Fr w0 g0 w' g' -> k1 <= all.size ->
    (∀ i ∈ ws, i < all.size -> ((listed.setIfInBounds j true)[i]? = some true ↔ i < k1)) -> DS all ws σ n w0 g0 (listed.setIfInBounds j true) k1 g' (a.put o.dst v) w' := by
   intro k1 x v w' g' hfr hrv hI hx hF hk hwp
   have hputs : ∀ t u, o.dst ≠ some t -> a.tmps[t]? = some u -> (a.put o.dst v).tmps[t]? = some u := fun t u hne hu => by
    cases hdd : o.dst with
    | none => exact hu
    | some d =>
     simp only [Act.put]
     rw [Array.getElem?_setIfInBounds_ne (fun e => hne (by rw [hdd, e]))]; exact hu
   refine ⟨hI, hF, ?_, ?_, by simp [hD.lsize], fun i oi t y hoi hli hdt hy => ?_, fun t y hno hy => ?_, hwp, hk, fun i oi hoi hli e he hb => ?_⟩
   ·cases o.dst <;> simp [Act.put, hD.size]
   ·cases o.dst <;> simp [Act.put, hD.defers]
   ·rw [hset] at hli
    by_cases e : i = j
    ·subst e
     obtain rfl : o = oi := by rw [ho] at hoi; exact Option.some.inj hoi
     rw [hfr] at hy
     simp only [St.put, hdt, look, if_true] at hy
     cases hy
     refine ⟨v, ?_, hrv⟩
     have : t < a.tmps.size := by rw [hD.size]; exact hdn i o t ho hdt
     simp [Act.put, hdt, this]
    ·rw [if_neg e] at hli
     obtain ⟨u, h1, h2⟩ := hD.slot1 i oi t y hoi hli hdt hy
     exact ⟨u, hputs t u (fun h => e (hdu i j oi o t hoi ho hdt h)) h1, RepV.ext hx h2⟩
   ·have hne : o.dst ≠ some t := hno j o ho (by rw [hset, if_pos rfl])
    obtain ⟨u, h1, h2⟩ := hD.slot0 t y (fun i oi hoi hli => hno i oi hoi (by
     rw [hset]
     by_cases e : i = j
     ·rw [if_pos e]
     ·rw [if_neg e]; exact hli)) hy
    exact ⟨u, hputs t u hne h1, RepV.ext hx h2⟩
   ·rw [hset] at hli ⊢
    have : listed[e.on]? = some true := by
     by_cases e' : i = j
     ·subst e'
      obtain rfl : o = oi := by rw [ho] at hoi; exact Option.some.inj hoi
      exact hafter' e he hb
     ·rw [if_neg e'] at hli
      exact hD.closed i oi hoi hli e he hb
    by_cases e' : e.on = j
    ·rw [if_pos e']
    ·rw [if_neg e']; exact this
  have hwp0 : j ∉ ws -> ∀ i ∈ ws, i < all.size -> ((listed.setIfInBounds j true)[i]? = some true ↔ i < k0) := fun hjw i hi hin => by
   rw [hset, if_neg (fun e => hjw (by rw [<- e]; exact hi))]
   exact hD.wprog i hi hin
  have hva : isS o.op = false -> (σ j).V = (σ k0).V /\ (σ j).A = (σ k0).A := by
   intro hns
   rcases Nat.le_total j k0 with h | h
   ·have := hVA k0 j h hD.kle (fun i h1 h2 h3 => by
     have hin : i < all.size := by have := hD.kle; omega
     have hli := (hD.wprog i h3 hin).2 h2
     have hoi : all[i]? = some all[i] := Array.getElem?_eq_getElem hin
     rcases Nat.lt_or_ge j i with h4 | h4
     ·have hp := hpair j i o _ ho hoi h4
      have hb := hbehind i _ hoi hli
      simp only [pairOk, hb, Bool.and_eq_true, Bool.or_eq_true] at hp
      simp [h3, hns] at hp
     ·obtain rfl : i = j := by omega
      rw [hju] at hli; simp at hli)
    exact ⟨this.1.symm, this.2.symm⟩
   ·exact hVA j k0 h (by omega) (fun i h1 h2 h3 => by
     have hin : i < all.size := by omega
     have hoi : all[i]? = some all[i] := Array.getElem?_eq_getElem hin
     have hp := hpair i j _ o hoi ho h2
     simp only [pairOk, Bool.and_eq_true, Bool.or_eq_true] at hp
     have hb : ((masks all.toList []).getD j 0).testBit i = true := by
      rcases hp.2 with h4 | h4
      ·simp [h3, hns] at h4
      ·exact h4
     have := (hD.wprog i h3 hin).1 (hbefore i hb)
     omega)
  -- carried out, or passed over
  unfold wpOp
  simp only [ho]
  rcases hst with ⟨h1, x, V, A, h2, h3⟩ | ⟨h1, h2⟩
  ·rw [if_pos (by rw [hwant, h1])]
   refine .inl ?_
   by_cases hs : isS o.op = true
   ·-- slots alone
    have hjw : j ∉ ws := fun h => by have := hws j o ho h; rw [hs] at this; simp at this
    have h4 : astep P ⟨fr', (σ k0).V, (σ k0).A⟩ (ow j) o (fun y V' A' => y = x /\ V' = (σ k0).V /\ A' = (σ k0).A) := astep_S (s := σ j) (s' := ⟨fr', (σ k0).V, (σ k0).A⟩) hs (hop _ _ _ _) h3 ⟨rfl, rfl, rfl⟩
    obtain ⟨y, V', A', ⟨rfl, rfl, rfl⟩, h5⟩ := astep_wp hRr.inv hRr.fr hRr.slot h4
    refine h5 _ _ fun v w' g' h6 h7 h8 h9 => ih _ k0 g' _ w' hcount (hnext k0 y v w' g' (by rw [h2]; rfl) h6 h7 h8 h9 hD.kle (hwp0 hjw))
   ·have hns : isS o.op = false := by simpa using hs
    obtain ⟨hv1, hv2⟩ := hva hns
    have h4 : astep P ⟨fr', (σ k0).V, (σ k0).A⟩ (ow j) o (fun y V' A' => y = x /\ V' = V /\ A' = A) := by
     rw [<- hv1, <- hv2]
     exact astep_congr (fr := (σ j).fr) (hop _ _ _ _) (h3 _ ⟨rfl, rfl, rfl⟩)
    obtain ⟨y, V', A', ⟨rfl, rfl, rfl⟩, h5⟩ := astep_wp hRr.inv hRr.fr hRr.slot h4
    have hVj : (σ (j + 1)).V = V' := by rw [h2]; rfl
    have hAj : (σ (j + 1)).A = A' := by rw [h2]; rfl
    by_cases hjw : j ∈ ws
    ·refine h5 _ _ fun v w' g' h6 h7 h8 h9 => ih _ (j + 1) g' _ w' hcount (hnext (j + 1) y v w' g' (by rw [h2]; rfl) (by rw [hAj]; exact h6) (by rw [hVj, hAj]; exact h7) (by rw [hAj]; exact h8) h9 (by omega) (fun i hi hin => ?_))
     have hoi : all[i]? = some all[i] := Array.getElem?_eq_getElem hin
     rw [hset]
     by_cases e : i = j
     ·subst e; simp
     ·rw [if_neg e]
      constructor
      ·intro hli
       rcases Nat.lt_or_ge j i with h | h
       ·have hp := hpair j i o _ ho hoi h
        have hb := hbehind i _ hoi hli
        simp only [pairOk, hb, Bool.and_eq_true, Bool.or_eq_true] at hp
        simp [hi, hns] at hp
       ·omega
      ·intro hlt
       have hp := hpair i j _ o hoi ho (by omega)
       simp only [pairOk, Bool.and_eq_true, Bool.or_eq_true] at hp
       rcases hp.2 with h | h
       ·simp [hi, hns] at h
       ·exact hbefore i h
    ·rcases hor with hor | ⟨ho1, ho2⟩
     ·exact absurd hor hjw
     ·refine h5 _ _ fun v w' g' h6 h7 h8 h9 => ih _ k0 g' _ w' hcount (hnext k0 y v w' g' (by rw [h2]; rfl) ?_ ?_ ?_ h9 hD.kle (hwp0 hjw))
      ·rw [<- hv2, <- ho2, hAj]; exact h6
      ·rw [<- hv1, <- hv2, <- ho1, <- ho2, hVj, hAj]; exact h7
      ·have e1 : (σ k0).A = A' := by rw [<- hv2, <- ho2, hAj]
       rw [e1] at h8 ⊢; exact h8
  ·rw [if_neg (by rw [hwant, h1]; simp)]
   have hVj : (σ (j + 1)).V = (σ j).V := by rw [h2]; rfl
   have hAj : (σ (j + 1)).A = (σ j).A := by rw [h2]; rfl
   by_cases hjw : j ∈ ws
   ·have hns := hws j o ho hjw
    obtain ⟨hv1, hv2⟩ := hva hns
    refine ih _ (j + 1) g _ w hcount (hnext (j + 1) (.c .undef) undef w g (by rw [h2]; rfl) rfl ?_ ?_ hD.fr (by omega) (fun i hi hin => ?_))
    ·rw [hVj, hAj, hv1, hv2]; exact hD.inv
    ·rw [hAj, hv2]; exact .refl _ _ _
    ·have hoi : all[i]? = some all[i] := Array.getElem?_eq_getElem hin
     rw [hset]
     by_cases e : i = j
     ·subst e; simp
     ·rw [if_neg e]
      constructor
      ·intro hli
       rcases Nat.lt_or_ge j i with h | h
       ·have hp := hpair j i o _ ho hoi h
        have hb := hbehind i _ hoi hli
        simp only [pairOk, hb, Bool.and_eq_true, Bool.or_eq_true] at hp
        simp [hi, hns] at hp
       ·omega
      ·intro hlt
       have hp := hpair i j _ o hoi ho (by omega)
       simp only [pairOk, Bool.and_eq_true, Bool.or_eq_true] at hp
       rcases hp.2 with h | h
       ·simp [hi, hns] at h
       ·exact hbefore i h
   ·exact ih _ k0 g _ w hcount (hnext k0 (.c .undef) undef w g (by rw [h2]; rfl) rfl hD.inv (.refl _ _ _) hD.fr hD.kle (hwp0 hjw))

theorem T.region_draw {id : Nat} {ops : Array Oper} (hm : P.follows .mixedOrders = true) (ow : Nat -> Bool) (ws : List Nat) (hd : drawOk ops ws = true) (h : aopsD P ops ow ws (fun s' => Q .normal s') 0 ops.toList s) : T P n (.region id ops true) Q s := by
 intro hok w0 g0 g a w hR
 obtain ⟨σ, h0, hK, htr⟩ := aopsD_trace ops.toList 0 s h
 obtain ⟨hI, hx⟩ := hR.inv.heap (w' := { w with drawn := w.drawn + 1 }) rfl
 refine wp_region_any hm (draw_sound (K := fun s' => Q .normal s') (w0 := w0) (g0 := g0) (n := n) (σ := σ) (ow := ow) hd hok (fun j o ho => ?_) ?_ (fun s' g' a' w' h1 h2 => ⟨s', g', h1, h2⟩) ops.size (Array.replicate ops.size false) 0 g a _ ?_ ?_)
 ·have := htr j o (by simpa using ho)
  simpa only [Nat.zero_add] using this
 ·simpa using hK
 ·exact Nat.le_trans (List.length_filter_le _ _) (by simp)
 ·refine ⟨by rw [h0]; exact hI, hR.fr.heap rfl rfl rfl rfl, hR.size, hR.defers, by simp, fun i o t x ho hl => ?_, fun t x _ hx' => ?_, fun i _ hin => ?_, Nat.zero_le _, fun i o ho hl => ?_⟩
  ·have hi := (Array.getElem?_eq_some_iff.1 ho).1
   simp [hi] at hl
  ·rw [h0] at hx' ⊢
   obtain ⟨u, h1, h2⟩ := hR.slot t x hx'
   exact ⟨u, h1, RepV.ext hx h2⟩
  ·simp [hin]
  ·have hi := (Array.getElem?_eq_some_iff.1 ho).1
   simp [hi] at hl
end
end Go.Av

namespace Go.Av
open Go

def pairOkF (all : Array Oper) (ws fs : List Nat) (m : Nat) (ms : List Nat) (oi oj : Oper) (i j : Nat) : Bool :=
 (oi.dst.isNone || oi.dst != oj.dst) && ((!touch all oi oj && !touch all oj oi && !(ws.contains i && !isS oj.op && !(fs.contains j && decide (i < m))) && !(ws.contains j && !isS oi.op && !(fs.contains i && decide (j < m)))) || (ms.getD j 0).testBit i)

def drawOkF (all : Array Oper) (ws fs : List Nat) (m : Nat) : Bool :=
 let l := all.toList.zipIdx
 let ms := masks all.toList []
 (l.all fun (o, j) => o.after.toList.all fun e => !Region.binds .any e || decide (e.on < j)) &&
 (l.all fun (oj, j) => l.all fun (oi, i) => !(decide (i < j)) || pairOkF all ws fs m ms oi oj i j) &&
 (l.all fun (o, j) => !ws.contains j || !isS o.op) && (fs.all fun j => !ws.contains j) && (fs.all fun j => ws.all fun i => decide (i < m) || decide (j < i))

def exV (ex : List Nat) (rs : Nat -> List CV) (V : List (List CV)) : List (List CV) := ex.foldl (fun W i => W.set i (rs i)) V

theorem exV_same (V : List (List CV)) : ∀ (ex : List Nat), exV ex (fun i => V.getD i []) V = V
 | [] => rfl
 | i :: ex => by
  have h : V.set i (V.getD i []) = V := by
   apply List.ext_getElem?
   intro j
   rw [List.getElem?_set]
   split
   ·rename_i e
    subst e
    split
    ·rename_i h; simp [List.getD, h]
    ·rename_i h; simp [Nat.le_of_not_lt h]
   ·rfl
  show exV ex _ (V.set i (V.getD i [])) = V
  rw [h]; exact exV_same V ex

def freeStep (P : Program) (s : St) (ow : Bool) (o : Oper) (ex : List Nat) (V0 : List (List CV)) (A0 : List Arr) (x : AV) : Prop :=
 ∀ (rs : Nat -> List CV) GV GA, astep P ⟨s.fr, exV ex rs V0 ++ GV, A0 ++ GA⟩ ow o fun y V' A' => y = x /\ V' = exV ex rs V0 ++ GV /\ A' = A0 ++ GA

def aopsF (P : Program) (all : Array Oper) (ow : Nat -> Bool) (ws fs : List Nat) (m : Nat) (ex : List Nat) (V0 : List (List CV)) (A0 : List Arr) (K : St -> Prop) : Nat -> List Oper -> St -> Prop
 | _, [], s => K s
 | i, o :: rest, s => gdo all s o (astep P s (ow i) o fun x V A => (i ∈ ws \/ (V = s.V /\ A = s.A)) /\ (i ∈ ws -> i < m -> V.take V0.length = exV ex (fun i => V.getD i []) V0 /\ A.take A0.length = A0) /\ (i ∈ fs -> freeStep P s (ow i) o ex V0 A0 x) /\
   aopsF P all ow ws fs m ex V0 A0 K (i + 1) rest (s.put o.dst x V A)) (aopsF P all ow ws fs m ex V0 A0 K (i + 1) rest (s.put o.dst (.c .undef) s.V s.A))

section
variable {P : Program} {n : Nat} {Q Q' : Exit -> St -> Prop} {s s' : St} {w0 : World} {g0 g g' : Gh} {a : Act} {w w' : World} {V : List (List CV)} {A A' : List Arr}

def StpF (P : Program) (all : Array Oper) (ow : Bool) (fs : List Nat) (j : Nat) (ex : List Nat) (V0 : List (List CV)) (A0 : List Arr) (o : Oper) (s s' : St) : Prop :=
 gdo all s o True True /\ ((gw all s o = true /\ ∃ x V A, s' = s.put o.dst x V A /\ (∀ K : AV -> List (List CV) -> List Arr -> Prop, K x V A -> astep P s ow o K) /\ (j ∈ fs -> freeStep P s ow o ex V0 A0 x)) \/ (gw all s o = false /\ s' = s.put o.dst (.c .undef) s.V s.A))

def Pre (ex : List Nat) (V0 : List (List CV)) (A0 : List Arr) (s : St) : Prop := s.V.take V0.length = exV ex (fun i => s.V.getD i []) V0 /\ s.A.take A0.length = A0

theorem aopsF_trace {all : Array Oper} {ow : Nat -> Bool} {ws fs : List Nat} {m : Nat} {ex : List Nat} {V0 : List (List CV)} {A0 : List Arr} {K : St -> Prop} : ∀ (ops : List Oper) (i : Nat) (s : St), aopsF P all ow ws fs m ex V0 A0 K i ops s ->
  ∃ σ : Nat -> St, σ 0 = s /\ K (σ ops.length) /\ ∀ (j : Nat) o, ops[j]? = some o -> StpF P all (ow (i + j)) fs (i + j) ex V0 A0 o (σ j) (σ (j + 1)) /\ (i + j ∈ ws \/ ((σ (j + 1)).V = (σ j).V /\ (σ (j + 1)).A = (σ j).A)) /\
   (i + j < m -> Pre ex V0 A0 (σ (j + 1)) \/ ((σ (j + 1)).V = (σ j).V /\ (σ (j + 1)).A = (σ j).A))
 | [], i, s, h => ⟨fun _ => s, rfl, h, fun j o h => by simp at h⟩
 | o :: rest, i, s, h => by
  simp only [aopsF] at h
  obtain ⟨h0, hg⟩ := gdo_mono h
  rcases h0 with ⟨h1, h2⟩ | ⟨h1, h2⟩
  ·obtain ⟨x, V, A, ⟨h3, h3p, h3f, h4⟩, h5⟩ := astep_det h2
   obtain ⟨σ, k1, k2, k3⟩ := aopsF_trace rest (i + 1) _ h4
   refine ⟨fun j => match j with | 0 => s | j + 1 => σ j, rfl, k2, fun j o' ho => ?_⟩
   cases j with
   | zero =>
    simp at ho; subst ho
    refine ⟨⟨hg, .inl ⟨h1, x, V, A, k1, h5, h3f⟩⟩, ?_, fun hm => ?_⟩
    ·rcases h3 with h3 | ⟨h3, h3'⟩
     ·exact .inl h3
     ·exact .inr (by simp only [k1]; exact ⟨h3, h3'⟩)
    ·rcases h3 with h3 | ⟨h3, h3'⟩
     ·exact .inl (by simp only [k1]; exact h3p h3 hm)
     ·exact .inr (by simp only [k1]; exact ⟨h3, h3'⟩)
   | succ j =>
    simp at ho
    have := k3 j o' ho
    rwa [show i + 1 + j = i + (j + 1) by omega] at this
  ·obtain ⟨σ, k1, k2, k3⟩ := aopsF_trace rest (i + 1) _ h2
   refine ⟨fun j => match j with | 0 => s | j + 1 => σ j, rfl, k2, fun j o' ho => ?_⟩
   cases j with
   | zero =>
    simp at ho; subst ho
    exact ⟨⟨hg, .inr ⟨h1, k1⟩⟩, .inr (by simp only [k1]; exact ⟨rfl, rfl⟩), fun _ => .inr (by simp only [k1]; exact ⟨rfl, rfl⟩)⟩
   | succ j =>
    simp at ho
    have := k3 j o' ho
    rwa [show i + 1 + j = i + (j + 1) by omega] at this

structure DSF (all : Array Oper) (ws : List Nat) (σ : Nat -> St) (n : Nat) (w0 : World) (g0 : Gh) (listed : Array Bool) (k0 : Nat) (g : Gh) (a : Act) (w : World) : Prop where
 inv : Inv g w (σ k0).V (σ k0).A
 fr : Fr w0 g0 w g
 size : a.tmps.size = n
 defers : a.defers = []
 lsize : listed.size = all.size
 slot1 : ∀ (i : Nat) o t x, all[i]? = some o -> listed[i]? = some true -> o.dst = some t -> look (σ (i + 1)).fr t = some x -> ∃ u, a.tmps[t]? = some u /\ RepV g w (σ k0).A x u
 slot0 : ∀ t x, (∀ (i : Nat) o, all[i]? = some o -> listed[i]? = some true -> o.dst ≠ some t) -> look (σ 0).fr t = some x -> ∃ u, a.tmps[t]? = some u /\ RepV g w (σ k0).A x u
 wprog : ∀ i ∈ ws, i < all.size -> (listed[i]? = some true ↔ i < k0)
 kle : k0 <= all.size
 kw : k0 = 0 \/ ∃ i ∈ ws, k0 = i + 1
 closed : ∀ (i : Nat) o, all[i]? = some o -> listed[i]? = some true -> ∀ e ∈ o.after, Region.binds .any e = true -> listed[e.on]? = some true

set_option maxHeartbeats 2000000 in
theorem drawF_sound {all : Array Oper} {ow : Nat -> Bool} {ws fs : List Nat} {m : Nat} {ex : List Nat} {V0 : List (List CV)} {A0 : List Arr} {σ : Nat -> St} {K : St -> Prop} {Q : Exit -> Act -> World -> Prop} (hd : drawOkF all ws fs m = true) (hdst : dstsOk n all.toList = true)
  (htr : ∀ (j : Nat) o, all[j]? = some o -> StpF P all (ow j) fs j ex V0 A0 o (σ j) (σ (j + 1)) /\ (j ∈ ws \/ ((σ (j + 1)).V = (σ j).V /\ (σ (j + 1)).A = (σ j).A)) /\ (j < m -> Pre ex V0 A0 (σ (j + 1)) \/ ((σ (j + 1)).V = (σ j).V /\ (σ (j + 1)).A = (σ j).A))) (h00 : (σ 0).V = V0 /\ (σ 0).A = A0)
  (hK : K (σ all.size)) (hQ : ∀ s' g' a' w', K s' -> Rp n w0 g0 s' g' a' w' -> Q .normal a' w') :
  ∀ (fuel : Nat) (listed : Array Bool) (k0 : Nat) (g : Gh) (a : Act) (w : World), ((List.range all.size).filter fun i => !listed.getD i true).length <= fuel -> DSF all ws σ n w0 g0 listed k0 g a w -> wpAny P .any all Q fuel listed a w := by
 simp only [drawOkF, Bool.and_eq_true, List.all_eq_true] at hd
 obtain ⟨⟨⟨⟨hd1, hd2⟩, hd3⟩, hd4⟩, hd5⟩ := hd
 -- the checks, read
 have hmem : ∀ (j : Nat) o, all[j]? = some o -> (o, j) ∈ all.toList.zipIdx := fun j o h => by
  rw [List.mem_iff_getElem?]
  exact ⟨j, by simp [List.getElem?_zipIdx, h]⟩
 have hedge : ∀ (j : Nat) o, all[j]? = some o -> ∀ e ∈ o.after, Region.binds .any e = true -> e.on < j := fun j o h e he hb => by
  have := hd1 _ (hmem j o h) e (Array.mem_toList_iff.2 he)
  simpa [hb] using this
 have hpairF : ∀ (i j : Nat) oi oj, all[i]? = some oi -> all[j]? = some oj -> i < j -> pairOkF all ws fs m (masks all.toList []) oi oj i j = true := fun i j oi oj h1 h2 hlt => by
  have := hd2 _ (hmem j oj h2) _ (hmem i oi h1)
  simpa [hlt] using this
 have hpair : ∀ (i j : Nat) oi oj, all[i]? = some oi -> all[j]? = some oj -> i < j -> i ∉ fs -> j ∉ fs -> pairOk all ws (masks all.toList []) oi oj i j = true := fun i j oi oj h1 h2 hlt hi hj => by
  have := hpairF i j oi oj h1 h2 hlt
  simpa [pairOkF, pairOk, hi, hj] using this
 have hwf : ∀ i, i ∈ ws -> i ∉ fs := fun i hi hf => by
  have := hd4 i hf
  simp [hi] at this
 have hpre : ∀ k, k <= m -> k <= all.size -> Pre ex V0 A0 (σ k) := by
  intro k
  induction k with
  | zero =>
   intro _ _
   refine ⟨?_, by rw [h00.2]; simp⟩
   rw [h00.1, exV_same]; simp
  | succ k ih =>
   intro h1 h2
   have ho : all[k]? = some all[k] := Array.getElem?_eq_getElem (by omega)
   rcases (htr k _ ho).2.2 (by omega) with h3 | ⟨h3, h4⟩
   ·exact h3
   ·have := ih (by omega) (by omega)
    exact ⟨by rw [h3]; exact this.1, by rw [h4]; exact this.2⟩
 have hws : ∀ (j : Nat) o, all[j]? = some o -> j ∈ ws -> isS o.op = false := fun j o h hj => by
  have := hd3 _ (hmem j o h)
  simpa [hj] using this
 have hdne : ∀ (i j : Nat) oi oj d, all[i]? = some oi -> all[j]? = some oj -> i < j -> oi.dst = some d -> oj.dst ≠ some d := fun i j oi oj d h1 h2 hlt h3 h4 => by
  have := hpairF i j oi oj h1 h2 hlt
  simp [pairOkF, h3, h4] at this
 have hdu : ∀ (i j : Nat) oi oj d, all[i]? = some oi -> all[j]? = some oj -> oi.dst = some d -> oj.dst = some d -> i = j := fun i j oi oj d h1 h2 h3 h4 => by
  rcases Nat.lt_trichotomy i j with h | h | h
  ·exact absurd h4 (hdne i j oi oj d h1 h2 h h3)
  ·exact h
  ·exact absurd h3 (hdne j i oj oi d h2 h1 h h4)
 have hdn : ∀ (j : Nat) o d, all[j]? = some o -> o.dst = some d -> d < n := fun j o d h1 h2 => by
  have := List.all_eq_true.1 hdst o (by rw [Array.mem_toList_iff]; exact Array.mem_of_getElem? h1)
  simpa [h2] using this
 obtain ⟨hml, _, hms⟩ := masks_spec all.toList []
 -- the order that the edges force
 have hbit : ∀ {listed : Array Bool}, (∀ (i : Nat) o, all[i]? = some o -> listed[i]? = some true -> ∀ e ∈ o.after, Region.binds .any e = true -> listed[e.on]? = some true) ->
   ∀ (i : Nat) o, all[i]? = some o -> (∀ e ∈ o.after, Region.binds .any e = true -> listed[e.on]? = some true) -> ∀ k, ((masks all.toList []).getD i 0).testBit k = true -> listed[k]? = some true := by
  intro listed hcl i
  induction i using Nat.strongRecOn with
  | _ i ih =>
   intro o ho hafter k hk
   obtain ⟨pre, h1, h2, h3⟩ := hms i o (by simpa using ho)
   simp only [List.length_nil, Nat.zero_add] at h1 h3
   have h4 : (masks all.toList []).getD i 0 = mask1 pre o := by simp [List.getD, h3]
   rw [h4] at hk
   obtain ⟨e, he, hb, h5⟩ := mask1_spec hk
   have he1 := hafter e he hb
   rcases h5 with rfl | h5
   ·exact he1
   ·have hlt := hedge i o ho e he hb
    have h6 : pre.getD e.on 0 = (masks all.toList []).getD e.on 0 := by simp only [List.getD, h2 e.on (by omega)]
    rw [h6] at h5
    have hsz : e.on < all.size := by have := (Array.getElem?_eq_some_iff.1 ho).1; omega
    have hoe : all[e.on]? = some all[e.on] := Array.getElem?_eq_getElem hsz
    exact ih e.on hlt _ hoe (hcl e.on _ hoe he1) k h5
 -- frames
 have hstep : ∀ (j : Nat) o t, all[j]? = some o -> o.dst ≠ some t -> look (σ (j + 1)).fr t = look (σ j).fr t := fun j o t h1 h2 => by
  obtain ⟨⟨_, h3⟩, _⟩ := htr j o h1
  have hput : ∀ (x : AV) V A, look ((σ j).put o.dst x V A).fr t = look (σ j).fr t := fun x V A => by
   simp only [St.put]
   cases hdd : o.dst with
   | none => rfl
   | some d => simp only [look]; rw [if_neg (fun e => h2 (by rw [hdd, e]))]
  rcases h3 with ⟨_, x, V, A, h4, _, _⟩ | ⟨_, h4⟩
  ·rw [h4]; exact hput x V A
  ·rw [h4]; exact hput _ _ _
 have hfrB : ∀ (j t : Nat), j <= all.size -> (∀ (i : Nat) o, i < j -> all[i]? = some o -> o.dst ≠ some t) -> look (σ j).fr t = look (σ 0).fr t := by
  intro j
  induction j with
  | zero => intro t _ _; rfl
  | succ j ih =>
   intro t hj hno
   have ho : all[j]? = some all[j] := Array.getElem?_eq_getElem (by omega)
   rw [hstep j _ t ho (hno j _ (by omega) ho)]
   exact ih t (by omega) (fun i o hi => hno i o (by omega))
 have hfrA : ∀ (j i : Nat) oi t, j <= all.size -> i < j -> all[i]? = some oi -> oi.dst = some t -> look (σ j).fr t = look (σ (i + 1)).fr t := by
  intro j
  induction j with
  | zero => intro i oi t _ h; omega
  | succ j ih =>
   intro i oi t hj hij hoi hdt
   by_cases e : i = j
   ·subst e; rfl
   ·have ho : all[j]? = some all[j] := Array.getElem?_eq_getElem (by omega)
    rw [hstep j _ t ho (hdne i j oi _ t hoi ho (by omega) hdt)]
    exact ih i oi t (by omega) (by omega) hoi hdt
 have hVA : ∀ (b a : Nat), a <= b -> b <= all.size -> (∀ i, a <= i -> i < b -> i ∉ ws) -> (σ b).V = (σ a).V /\ (σ b).A = (σ a).A := by
  intro b
  induction b with
  | zero =>
   intro a h _ _
   obtain rfl : a = 0 := by omega
   exact ⟨rfl, rfl⟩
  | succ b ih =>
   intro a hab hb hno
   by_cases e : a = b + 1
   ·subst e; exact ⟨rfl, rfl⟩
   ·have ho : all[b]? = some all[b] := Array.getElem?_eq_getElem (by omega)
    obtain ⟨h1, h2⟩ := ih a (by omega) (by omega) (fun i hi hi' => hno i hi (by omega))
    rcases (htr b _ ho).2.1 with h3 | ⟨h3, h4⟩
    ·exact absurd h3 (hno b (by omega) (by omega))
    ·exact ⟨h3.trans h1, h4.trans h2⟩
 -- at the end
 have hend : ∀ {listed : Array Bool} {k0 : Nat} {g : Gh} {a : Act} {w : World}, DSF all ws σ n w0 g0 listed k0 g a w -> Region.ready .any all listed = [] -> Q .normal a w := by
  intro listed k0 g a w hD hr
  have hall : ∀ i, i < all.size -> listed[i]? = some true := by
   intro i
   induction i using Nat.strongRecOn with
   | _ i ih =>
    intro hi
    have ho : all[i]? = some all[i] := Array.getElem?_eq_getElem hi
    have hli : i < listed.size := by rw [hD.lsize]; exact hi
    cases hl : listed[i] with
    | true => rw [Array.getElem?_eq_getElem hli, hl]
    | false =>
     exfalso
     have : i ∈ Region.ready .any all listed := mem_ready.2 ⟨by simp [hli, hl], _, ho, fun e he hb => listed_iff.2 (ih e.on (hedge i _ ho e he hb) (by have := hedge i _ ho e he hb; omega))⟩
     rw [hr] at this; simp at this
  have hva := hVA all.size k0 hD.kle (Nat.le_refl _) (fun i h1 h2 h3 => by have := (hD.wprog i h3 h2).1 (hall i h2); omega)
  refine hQ _ g a w hK ⟨by rw [hva.1, hva.2]; exact hD.inv, hD.fr, hD.size, hD.defers, fun t x hx => ?_⟩
  rw [hva.2]
  by_cases hex : ∃ (i : Nat) (o : Oper), all[i]? = some o /\ o.dst = some t
  ·obtain ⟨i, o, ho, hdt⟩ := hex
   have hi := (Array.getElem?_eq_some_iff.1 ho).1
   rw [hfrA all.size i o t (Nat.le_refl _) hi ho hdt] at hx
   exact hD.slot1 i o t x ho (hall i hi) hdt hx
  ·rw [hfrB all.size t (Nat.le_refl _) (fun i o _ ho hdt => hex ⟨i, o, ho, hdt⟩)] at hx
   exact hD.slot0 t x (fun i o ho _ hdt => hex ⟨i, o, ho, hdt⟩) hx
 -- one operation
 intro fuel
 induction fuel with
 | zero =>
  intro listed k0 g a w hf hD
  have hnil : Region.ready .any all listed = [] := by
   have h0 : ((List.range all.size).filter fun i => !listed.getD i true) = [] := List.eq_nil_of_length_eq_zero (by omega)
   rcases hr : Region.ready .any all listed with _ | ⟨j, r⟩
   ·rfl
   ·have hj : j ∈ Region.ready .any all listed := by rw [hr]; simp
    obtain ⟨h1, o, h2, _⟩ := mem_ready.1 hj
    have : j ∈ ((List.range all.size).filter fun i => !listed.getD i true) := by
     rw [List.mem_filter, List.mem_range]
     exact ⟨(Array.getElem?_eq_some_iff.1 h2).1, by simp [h1]⟩
    rw [h0] at this; simp at this
  exact ⟨hnil, hend hD hnil⟩
 | succ fuel ih =>
  intro listed k0 g a w hf hD
  refine ⟨fun hr => hend hD hr, fun j hj => ?_⟩
  obtain ⟨hun, o, ho, hafter⟩ := mem_ready.1 hj
  have hju := unlisted_of hun
  have hjn : j < all.size := (Array.getElem?_eq_some_iff.1 ho).1
  have hjl : j < listed.size := by rw [hD.lsize]; exact hjn
  have hafter' : ∀ e ∈ o.after, Region.binds .any e = true -> listed[e.on]? = some true := fun e he hb => listed_iff.1 (hafter e he hb)
  have hbefore : ∀ k, ((masks all.toList []).getD j 0).testBit k = true -> listed[k]? = some true := hbit hD.closed j o ho hafter'
  have hbehind : ∀ (i : Nat) oi, all[i]? = some oi -> listed[i]? = some true -> ((masks all.toList []).getD i 0).testBit j = false := fun i oi hoi hli => by
   cases hb : ((masks all.toList []).getD i 0).testBit j with
   | false => rfl
   | true => have := hbit hD.closed i oi hoi (hD.closed i oi hoi hli) j hb; rw [hju] at this; simp at this
  -- what the operation looks at
  have hlooks : ∀ t ∈ o.looksAt all, ∀ x, look (σ j).fr t = some x -> ∃ u, a.tmps[t]? = some u /\ RepV g w (σ k0).A x u := by
   intro t ht x hx
   by_cases hex : ∃ (i : Nat) (oi : Oper), i < j /\ all[i]? = some oi /\ oi.dst = some t
   ·obtain ⟨i, oi, hij, hoi, hdt⟩ := hex
    rw [hfrA j i oi t (by omega) hij hoi hdt] at hx
    have hp := hpairF i j oi o hoi ho hij
    have htc : touch all oi o = true := by simp only [touch, hdt]; simpa using ht
    simp only [pairOkF, htc, Bool.and_eq_true, Bool.or_eq_true] at hp
    have hb : ((masks all.toList []).getD j 0).testBit i = true := by simpa using hp.2
    exact hD.slot1 i oi t x hoi (hbefore i hb) hdt hx
   ·rw [hfrB j t (by omega) (fun i oi hij hoi hdt => hex ⟨i, oi, hij, hoi, hdt⟩)] at hx
    refine hD.slot0 t x (fun i oi hoi hli hdt => ?_) hx
    rcases Nat.lt_trichotomy i j with h | h | h
    ·exact hex ⟨i, oi, h, hoi, hdt⟩
    ·subst h; rw [hju] at hli; simp at hli
    ·have hp := hpairF j i o oi ho hoi h
     have htc : touch all oi o = true := by simp only [touch, hdt]; simpa using ht
     have hb := hbehind i oi hoi hli
     simp only [pairOkF, htc, hb, Bool.and_eq_true, Bool.or_eq_true] at hp
     simp at hp
  let fr' := (σ j).fr.filter fun p => (o.looksAt all).contains p.1
  have hlk : ∀ t, look fr' t = if (o.looksAt all).contains t then look (σ j).fr t else none := fun t => look_filter (fun t => (o.looksAt all).contains t) (σ j).fr t
  have hS : ∀ (V : List (List CV)), Slots g w ⟨fr', V, (σ k0).A⟩ a := fun V t x hx => by
   simp only [hlk] at hx
   split at hx
   ·rename_i hc; exact hlooks t (by simpa using hc) x hx
   ·cases hx
  have hop : ∀ (V V' : List (List CV)) (A A' : List Arr), ∀ x ∈ o.op.operands.toList, aval ⟨fr', V, A⟩ x = aval ⟨(σ j).fr, V', A'⟩ x := fun V V' A A' x hx => by
   cases x with
   | tmp t =>
    simp only [aval, hlk]
    rw [if_pos]
    simp only [Oper.looksAt, List.contains_eq_mem, decide_eq_true_eq, List.mem_append, List.mem_filterMap]
    exact .inl ⟨.tmp t, hx, rfl⟩
   | _ => rfl
  have hRr : Rp n w0 g0 ⟨fr', (σ k0).V, (σ k0).A⟩ g a w := ⟨hD.inv, hD.fr, hD.size, hD.defers, hS _⟩
  -- the guard
  obtain ⟨⟨hgd, hst⟩, hor, _⟩ := htr j o ho
  have hgd' : gdo all ⟨fr', (σ k0).V, (σ k0).A⟩ o True True /\ gw all ⟨fr', (σ k0).V, (σ k0).A⟩ o = gw all (σ j) o := by
   unfold gdo gw at *
   cases hgg : o.guard with
   | none => simp
   | some jw =>
    obtain ⟨q, want⟩ := jw
    simp only [hgg] at hgd ⊢
    obtain ⟨oq, h1, h2⟩ := onv_some hgd
    obtain ⟨t, h3, h4⟩ := onv_some h2
    have : look fr' t = look (σ j).fr t := by
     rw [hlk, if_pos]
     simp only [Oper.looksAt, hgg, List.contains_eq_mem, decide_eq_true_eq, List.mem_append]
     exact .inr (by simp [h1, h3])
    simp only [h1, onv, h3, Option.bind_some, this] at h4 ⊢
    exact ⟨h4, trivial⟩
  have hwant : Region.wanted o (yielded all a.tmps) = gw all (σ j) o := by
   rw [<- hgd'.2]
   have h0 := gdo_mono hgd'.1
   -- both say the same
   have h1 := hgd'.1
   unfold gdo at h1
   unfold gw
   cases hgg : o.guard with
   | none => simp [Region.wanted, hgg]
   | some jw =>
    obtain ⟨q, want⟩ := jw
    simp only [hgg] at h1 ⊢
    obtain ⟨oq, h2, h3⟩ := onv_some h1
    obtain ⟨t, h4, h5⟩ := onv_some h3
    obtain ⟨x, h6, h7⟩ := onv_some h5
    obtain ⟨h8, h9⟩ := yielded_of hRr h2 h4 h6
    simp only [h2, Option.bind_some, h4, h6]
    split at h7
    ·rename_i b; simp [Region.wanted, hgg, h8 b rfl]
    ·simp [Region.wanted, hgg, h9 rfl]
    ·exact h7.elim
  -- the state behind it
  have hset : ∀ i, (listed.setIfInBounds j true)[i]? = if i = j then some true else listed[i]? := fun i => by
   by_cases e : i = j
   ·subst e; simp [hjl]
   ·rw [if_neg e, Array.getElem?_setIfInBounds_ne (fun h => e h.symm)]
  have hcount : ((List.range all.size).filter fun i => !(listed.setIfInBounds j true).getD i true).length <= fuel := by
   have hlt : ((List.range all.size).filter fun i => !(listed.setIfInBounds j true).getD i true).length < ((List.range all.size).filter fun i => !listed.getD i true).length := by
    have hsub : ∀ i, (!(listed.setIfInBounds j true).getD i true) = true -> (!listed.getD i true) = true := fun i h => by
     by_cases e : i = j
     ·subst e; simp [hjl] at h
     ·have : (listed.setIfInBounds j true).getD i true = listed.getD i true := by
       simp only [Array.getD_eq_getD_getElem?, hset, if_neg e]
      rwa [this] at h
    exact filter_lt hsub (List.mem_range.2 hjn) (by simp [hun]) (by simp [hjl])
   omega
  have hnext : ∀ (k1 : Nat) (x : AV) (v : Value) (w' : World) (g' : Gh), look (σ (j + 1)).fr = look ((σ j).put o.dst x [] []).fr -> RepV g' w' (σ k1).A x v -> Inv g' w' (σ k1).V (σ k1).A -> Ext g w (σ k0).A g' w' (σ k1).A -> Fr w0 g0 w' g' -> k1 <= all.size -> (k1 = 0 \/ ∃ i ∈ ws, k1 = i + 1) ->
    (∀ i ∈ ws, i < all.size -> ((listed.setIfInBounds j true)[i]? = some true ↔ i < k1)) -> DSF all ws σ n w0 g0 (listed.setIfInBounds j true) k1 g' (a.put o.dst v) w' := by
   intro k1 x v w' g' hfr hrv hI hx hF hk hkw hwp
   have hputs : ∀ t u, o.dst ≠ some t -> a.tmps[t]? = some u -> (a.put o.dst v).tmps[t]? = some u := fun t u hne hu => by
    cases hdd : o.dst with
    | none => exact hu
    | some d =>
     simp only [Act.put]
     rw [Array.getElem?_setIfInBounds_ne (fun e => hne (by rw [hdd, e]))]; exact hu
   refine ⟨hI, hF, ?_, ?_, by simp [hD.lsize], fun i oi t y hoi hli hdt hy => ?_, fun t y hno hy => ?_, hwp, hk, hkw, fun i oi hoi hli e he hb => ?_⟩
   ·cases o.dst <;> simp [Act.put, hD.size]
   ·cases o.dst <;> simp [Act.put, hD.defers]
   ·rw [hset] at hli
    by_cases e : i = j
    ·subst e
     obtain rfl : o = oi := by rw [ho] at hoi; exact Option.some.inj hoi
     rw [hfr] at hy
     simp only [St.put, hdt, look, if_true] at hy
     cases hy
     refine ⟨v, ?_, hrv⟩
     have : t < a.tmps.size := by rw [hD.size]; exact hdn i o t ho hdt
     simp [Act.put, hdt, this]
    ·rw [if_neg e] at hli
     obtain ⟨u, h1, h2⟩ := hD.slot1 i oi t y hoi hli hdt hy
     exact ⟨u, hputs t u (fun h => e (hdu i j oi o t hoi ho hdt h)) h1, RepV.ext hx h2⟩
   ·have hne : o.dst ≠ some t := hno j o ho (by rw [hset, if_pos rfl])
    obtain ⟨u, h1, h2⟩ := hD.slot0 t y (fun i oi hoi hli => hno i oi hoi (by
     rw [hset]
     by_cases e : i = j
     ·rw [if_pos e]
     ·rw [if_neg e]; exact hli)) hy
    exact ⟨u, hputs t u hne h1, RepV.ext hx h2⟩
   ·rw [hset] at hli ⊢
    have : listed[e.on]? = some true := by
     by_cases e' : i = j
     ·subst e'
      obtain rfl : o = oi := by rw [ho] at hoi; exact Option.some.inj hoi
      exact hafter' e he hb
     ·rw [if_neg e'] at hli
      exact hD.closed i oi hoi hli e he hb
    by_cases e' : e.on = j
    ·rw [if_pos e']
    ·rw [if_neg e']; exact this
  have hwp0 : j ∉ ws -> ∀ i ∈ ws, i < all.size -> ((listed.setIfInBounds j true)[i]? = some true ↔ i < k0) := fun hjw i hi hin => by
   rw [hset, if_neg (fun e => hjw (by rw [<- e]; exact hi))]
   exact hD.wprog i hi hin
  have hva : isS o.op = false -> j ∉ fs -> (σ j).V = (σ k0).V /\ (σ j).A = (σ k0).A := by
   intro hns hjf
   rcases Nat.le_total j k0 with h | h
   ·have := hVA k0 j h hD.kle (fun i h1 h2 h3 => by
     have hin : i < all.size := by have := hD.kle; omega
     have hli := (hD.wprog i h3 hin).2 h2
     have hoi : all[i]? = some all[i] := Array.getElem?_eq_getElem hin
     rcases Nat.lt_or_ge j i with h4 | h4
     ·have hp := hpair j i o _ ho hoi h4 hjf (hwf i h3)
      have hb := hbehind i _ hoi hli
      simp only [pairOk, hb, Bool.and_eq_true, Bool.or_eq_true] at hp
      simp [h3, hns] at hp
     ·obtain rfl : i = j := by omega
      rw [hju] at hli; simp at hli)
    exact ⟨this.1.symm, this.2.symm⟩
   ·exact hVA j k0 h (by omega) (fun i h1 h2 h3 => by
     have hin : i < all.size := by omega
     have hoi : all[i]? = some all[i] := Array.getElem?_eq_getElem hin
     have hp := hpair i j _ o hoi ho h2 (hwf i h3) hjf
     simp only [pairOk, Bool.and_eq_true, Bool.or_eq_true] at hp
     have hb : ((masks all.toList []).getD j 0).testBit i = true := by
      rcases hp.2 with h4 | h4
      ·simp [h3, hns] at h4
      ·exact h4
     have := (hD.wprog i h3 hin).1 (hbefore i hb)
     omega)
  -- carried out, or passed over
  unfold wpOp
  simp only [ho]
  rcases hst with ⟨h1, x, V, A, h2, h3, h3f⟩ | ⟨h1, h2⟩
  ·rw [if_pos (by rw [hwant, h1])]
   refine .inl ?_
   by_cases hs : isS o.op = true
   ·-- slots alone
    have hjw : j ∉ ws := fun h => by have := hws j o ho h; rw [hs] at this; simp at this
    have h4 : astep P ⟨fr', (σ k0).V, (σ k0).A⟩ (ow j) o (fun y V' A' => y = x /\ V' = (σ k0).V /\ A' = (σ k0).A) := astep_S (s := σ j) (s' := ⟨fr', (σ k0).V, (σ k0).A⟩) hs (hop _ _ _ _) h3 ⟨rfl, rfl, rfl⟩
    obtain ⟨y, V', A', ⟨rfl, rfl, rfl⟩, h5⟩ := astep_wp hRr.inv hRr.fr hRr.slot h4
    refine h5 _ _ fun v w' g' h6 h7 h8 h9 => ih _ k0 g' _ w' hcount (hnext k0 y v w' g' (by rw [h2]; rfl) h6 h7 h8 h9 hD.kle hD.kw (hwp0 hjw))
   ·have hns : isS o.op = false := by simpa using hs
    by_cases hjf : j ∈ fs
    ·have hjw : j ∉ ws := fun h => hwf j h hjf
     have hk0m : k0 <= m := by
      rcases hD.kw with h | ⟨i, hi, hk⟩
      ·omega
      ·rcases Nat.lt_or_ge i m with h | h
       ·omega
       ·exfalso
        have hin : i < all.size := by have := hD.kle; omega
        have hoi : all[i]? = some all[i] := Array.getElem?_eq_getElem hin
        have hli := (hD.wprog i hi hin).2 (by omega)
        have hji : j < i := by
         have := hd5 j hjf i hi
         simp at this; omega
        have hp := hpairF j i o _ ho hoi hji
        have hb := hbehind i _ hoi hli
        have hnm : ¬ i < m := by omega
        simp only [pairOkF, hb, Bool.and_eq_true, Bool.or_eq_true] at hp
        simp [hi, hns, hnm, hjf, hjw] at hp
     obtain ⟨hp1, hp2⟩ := hpre k0 hk0m hD.kle
     have h4 : astep P ⟨fr', (σ k0).V, (σ k0).A⟩ (ow j) o (fun y V' A' => y = x /\ V' = (σ k0).V /\ A' = (σ k0).A) := by
      have h5 := h3f hjf (fun i => (σ k0).V.getD i []) ((σ k0).V.drop V0.length) ((σ k0).A.drop A0.length)
      have e1 : exV ex (fun i => (σ k0).V.getD i []) V0 ++ (σ k0).V.drop V0.length = (σ k0).V := by
       rw [<- hp1]; exact List.take_append_drop _ _
      have e2 : A0 ++ (σ k0).A.drop A0.length = (σ k0).A := by conv => lhs; arg 1; rw [<- hp2]
                                                               exact List.take_append_drop _ _
      rw [e1, e2] at h5
      exact astep_congr (fr := (σ j).fr) (hop _ _ _ _) h5
     obtain ⟨y, V', A', ⟨rfl, rfl, rfl⟩, h5⟩ := astep_wp hRr.inv hRr.fr hRr.slot h4
     exact h5 _ _ fun v w' g' h6 h7 h8 h9 => ih _ k0 g' _ w' hcount (hnext k0 y v w' g' (by rw [h2]; rfl) h6 h7 h8 h9 hD.kle hD.kw (hwp0 hjw))
    obtain ⟨hv1, hv2⟩ := hva hns hjf
    have h4 : astep P ⟨fr', (σ k0).V, (σ k0).A⟩ (ow j) o (fun y V' A' => y = x /\ V' = V /\ A' = A) := by
     rw [<- hv1, <- hv2]
     exact astep_congr (fr := (σ j).fr) (hop _ _ _ _) (h3 _ ⟨rfl, rfl, rfl⟩)
    obtain ⟨y, V', A', ⟨rfl, rfl, rfl⟩, h5⟩ := astep_wp hRr.inv hRr.fr hRr.slot h4
    have hVj : (σ (j + 1)).V = V' := by rw [h2]; rfl
    have hAj : (σ (j + 1)).A = A' := by rw [h2]; rfl
    by_cases hjw : j ∈ ws
    ·refine h5 _ _ fun v w' g' h6 h7 h8 h9 => ih _ (j + 1) g' _ w' hcount (hnext (j + 1) y v w' g' (by rw [h2]; rfl) (by rw [hAj]; exact h6) (by rw [hVj, hAj]; exact h7) (by rw [hAj]; exact h8) h9 (by omega) (.inr ⟨j, hjw, rfl⟩) (fun i hi hin => ?_))
     have hoi : all[i]? = some all[i] := Array.getElem?_eq_getElem hin
     rw [hset]
     by_cases e : i = j
     ·subst e; simp
     ·rw [if_neg e]
      constructor
      ·intro hli
       rcases Nat.lt_or_ge j i with h | h
       ·have hp := hpair j i o _ ho hoi h (hwf j hjw) (hwf i hi)
        have hb := hbehind i _ hoi hli
        simp only [pairOk, hb, Bool.and_eq_true, Bool.or_eq_true] at hp
        simp [hi, hns] at hp
       ·omega
      ·intro hlt
       have hp := hpair i j _ o hoi ho (by omega) (hwf i hi) (hwf j hjw)
       simp only [pairOk, Bool.and_eq_true, Bool.or_eq_true] at hp
       rcases hp.2 with h | h
       ·simp [hi, hns] at h
       ·exact hbefore i h
    ·rcases hor with hor | ⟨ho1, ho2⟩
     ·exact absurd hor hjw
     ·refine h5 _ _ fun v w' g' h6 h7 h8 h9 => ih _ k0 g' _ w' hcount (hnext k0 y v w' g' (by rw [h2]; rfl) ?_ ?_ ?_ h9 hD.kle hD.kw (hwp0 hjw))
      ·rw [<- hv2, <- ho2, hAj]; exact h6
      ·rw [<- hv1, <- hv2, <- ho1, <- ho2, hVj, hAj]; exact h7
      ·have e1 : (σ k0).A = A' := by rw [<- hv2, <- ho2, hAj]
       rw [e1] at h8 ⊢; exact h8
  ·rw [if_neg (by rw [hwant, h1]; simp)]
   have hVj : (σ (j + 1)).V = (σ j).V := by rw [h2]; rfl
   have hAj : (σ (j + 1)).A = (σ j).A := by rw [h2]; rfl
   by_cases hjw : j ∈ ws
   ·have hns := hws j o ho hjw
    obtain ⟨hv1, hv2⟩ := hva hns (hwf j hjw)
    refine ih _ (j + 1) g _ w hcount (hnext (j + 1) (.c .undef) undef w g (by rw [h2]; rfl) rfl ?_ ?_ hD.fr (by omega) (.inr ⟨j, hjw, rfl⟩) (fun i hi hin => ?_))
    ·rw [hVj, hAj, hv1, hv2]; exact hD.inv
    ·rw [hAj, hv2]; exact .refl _ _ _
    ·have hoi : all[i]? = some all[i] := Array.getElem?_eq_getElem hin
     rw [hset]
     by_cases e : i = j
     ·subst e; simp
     ·rw [if_neg e]
      constructor
      ·intro hli
       rcases Nat.lt_or_ge j i with h | h
       ·have hp := hpair j i o _ ho hoi h (hwf j hjw) (hwf i hi)
        have hb := hbehind i _ hoi hli
        simp only [pairOk, hb, Bool.and_eq_true, Bool.or_eq_true] at hp
        simp [hi, hns] at hp
       ·omega
      ·intro hlt
       have hp := hpair i j _ o hoi ho (by omega) (hwf i hi) (hwf j hjw)
       simp only [pairOk, Bool.and_eq_true, Bool.or_eq_true] at hp
       rcases hp.2 with h | h
       ·simp [hi, hns] at h
       ·exact hbefore i h
   ·exact ih _ k0 g _ w hcount (hnext k0 (.c .undef) undef w g (by rw [h2]; rfl) rfl hD.inv (.refl _ _ _) hD.fr hD.kle hD.kw (hwp0 hjw))

theorem T.region_drawF {id : Nat} {ops : Array Oper} (hm : P.follows .mixedOrders = true) (ow : Nat -> Bool) (ws fs : List Nat) (m : Nat) (ex : List Nat) (hd : drawOkF ops ws fs m = true) (h : aopsF P ops ow ws fs m ex s.V s.A (fun s' => Q .normal s') 0 ops.toList s) : T P n (.region id ops true) Q s := by
 intro hok w0 g0 g a w hR
 obtain ⟨σ, h0, hK, htr⟩ := aopsF_trace ops.toList 0 s h
 obtain ⟨hI, hx⟩ := hR.inv.heap (w' := { w with drawn := w.drawn + 1 }) rfl
 refine wp_region_any hm (drawF_sound (ex := ex) (K := fun s' => Q .normal s') (w0 := w0) (g0 := g0) (n := n) (σ := σ) (ow := ow) hd hok (fun j o ho => ?_) ⟨by rw [h0], by rw [h0]⟩ ?_ (fun s' g' a' w' h1 h2 => ⟨s', g', h1, h2⟩) ops.size (Array.replicate ops.size false) 0 g a _ ?_ ?_)
 ·have := htr j o (by simpa using ho)
  simpa only [Nat.zero_add] using this
 ·simpa using hK
 ·exact Nat.le_trans (List.length_filter_le _ _) (by simp)
 ·refine ⟨by rw [h0]; exact hI, hR.fr.heap rfl rfl rfl rfl, hR.size, hR.defers, by simp, fun i o t x ho hl => ?_, fun t x _ hx' => ?_, fun i _ hin => ?_, Nat.zero_le _, .inl rfl, fun i o ho hl => ?_⟩
  ·have hi := (Array.getElem?_eq_some_iff.1 ho).1
   simp [hi] at hl
  ·rw [h0] at hx' ⊢
   obtain ⟨u, h1, h2⟩ := hR.slot t x hx'
   exact ⟨u, h1, RepV.ext hx h2⟩
  ·simp [hin]
  ·have hi := (Array.getElem?_eq_some_iff.1 ho).1
   simp [hi] at hl
end
end Go.Av

namespace Go.Av
open Go

def isA : Op -> Bool
 | .buildSlice _ _ _ => true
 | .call { callee := .builtin .append, .. } => true
 | _ => false

def pairOkH (all : Array Oper) (wv wa fs : List Nat) (m : Nat) (ms : List Nat) (oi oj : Oper) (i j : Nat) : Bool :=
 (oi.dst.isNone || oi.dst != oj.dst) && ((!touch all oi oj && !touch all oj oi &&
  !((wv.contains i || wa.contains i) && !isS oj.op && !(fs.contains j && decide (i < m)) && !(wv.contains i && wa.contains j) && !(wa.contains i && wv.contains j)) &&
  !((wv.contains j || wa.contains j) && !isS oi.op && !(fs.contains i && decide (j < m)) && !(wv.contains j && wa.contains i) && !(wa.contains j && wv.contains i))) || (ms.getD j 0).testBit i)

def drawOkH (all : Array Oper) (wv wa fs : List Nat) (m : Nat) : Bool :=
 let l := all.toList.zipIdx
 let ms := masks all.toList []
 (l.all fun (o, j) => o.after.toList.all fun e => !Region.binds .any e || decide (e.on < j)) &&
 (l.all fun (oj, j) => l.all fun (oi, i) => !(decide (i < j)) || pairOkH all wv wa fs m ms oi oj i j) &&
 (l.all fun (o, j) => (!wv.contains j || !isS o.op) && (!wa.contains j || isA o.op)) && (fs.all fun j => !wv.contains j && !wa.contains j) &&
 (fs.all fun j => (wv ++ wa).all fun i => decide (i < m) || decide (j < i)) && (wv.all fun j => !wa.contains j)

def aopsH (P : Program) (all : Array Oper) (ow : Nat -> Bool) (wv wa fs : List Nat) (m : Nat) (ex : List Nat) (V0 : List (List CV)) (A0 : List Arr) (K : St -> Prop) : Nat -> List Oper -> St -> Prop
 | _, [], s => K s
 | i, o :: rest, s => gdo all s o (astep P s (ow i) o fun x V A => ((i ∈ wv \/ V = s.V) /\ (i ∈ wa \/ A = s.A)) /\ (i ∈ wv \/ i ∈ wa -> i < m -> V.take V0.length = exV ex (fun i => V.getD i []) V0 /\ A.take A0.length = A0) /\ (i ∈ fs -> freeStep P s (ow i) o ex V0 A0 x) /\
   (i ∈ wv -> ∀ A2, astep P ⟨s.fr, s.V, A2⟩ (ow i) o fun y V' A' => y = x /\ V' = V /\ A' = A2) /\ aopsH P all ow wv wa fs m ex V0 A0 K (i + 1) rest (s.put o.dst x V A)) (aopsH P all ow wv wa fs m ex V0 A0 K (i + 1) rest (s.put o.dst (.c .undef) s.V s.A))

section
variable {P : Program} {n : Nat} {Q Q' : Exit -> St -> Prop} {s s' : St} {w0 : World} {g0 g g' : Gh} {a : Act} {w w' : World} {V : List (List CV)} {A A' : List Arr}

def StpH (P : Program) (all : Array Oper) (ow : Bool) (wv fs : List Nat) (j : Nat) (ex : List Nat) (V0 : List (List CV)) (A0 : List Arr) (o : Oper) (s s' : St) : Prop :=
 gdo all s o True True /\ ((gw all s o = true /\ ∃ x V A, s' = s.put o.dst x V A /\ (∀ K : AV -> List (List CV) -> List Arr -> Prop, K x V A -> astep P s ow o K) /\ (j ∈ fs -> freeStep P s ow o ex V0 A0 x) /\
  (j ∈ wv -> ∀ A2, astep P ⟨s.fr, s.V, A2⟩ ow o fun y V' A' => y = x /\ V' = V /\ A' = A2)) \/ (gw all s o = false /\ s' = s.put o.dst (.c .undef) s.V s.A))

structure DSH (all : Array Oper) (wv wa : List Nat) (σ : Nat -> St) (n : Nat) (w0 : World) (g0 : Gh) (listed : Array Bool) (kv ka : Nat) (g : Gh) (a : Act) (w : World) : Prop where
 inv : Inv g w (σ kv).V (σ ka).A
 fr : Fr w0 g0 w g
 size : a.tmps.size = n
 defers : a.defers = []
 lsize : listed.size = all.size
 slot1 : ∀ (i : Nat) o t x, all[i]? = some o -> listed[i]? = some true -> o.dst = some t -> look (σ (i + 1)).fr t = some x -> ∃ u, a.tmps[t]? = some u /\ RepV g w (σ ka).A x u
 slot0 : ∀ t x, (∀ (i : Nat) o, all[i]? = some o -> listed[i]? = some true -> o.dst ≠ some t) -> look (σ 0).fr t = some x -> ∃ u, a.tmps[t]? = some u /\ RepV g w (σ ka).A x u
 vprog : ∀ i ∈ wv, i < all.size -> (listed[i]? = some true ↔ i < kv)
 aprog : ∀ i ∈ wa, i < all.size -> (listed[i]? = some true ↔ i < ka)
 vle : kv <= all.size
 ale : ka <= all.size
 vw : kv = 0 \/ ∃ i ∈ wv, kv = i + 1
 aw : ka = 0 \/ ∃ i ∈ wa, ka = i + 1
 closed : ∀ (i : Nat) o, all[i]? = some o -> listed[i]? = some true -> ∀ e ∈ o.after, Region.binds .any e = true -> listed[e.on]? = some true

end
end Go.Av

namespace Go.Av
open Go

abbrev AV.i (n : Int) : AV := .c (.d (.int .i64 n))
abbrev AV.b (x : Bool) : AV := .c (.d (.bool x))
abbrev AV.s (x : List UInt8) : AV := .c (.d (.str x))
abbrev AV.l (x : List (List DV)) : AV := .c (.d (.sl x))
abbrev DV.i (n : Int) : DV := .int .i64 n

theorem wrap64 {n : Int} (h : -9223372036854775808 <= n) (h' : n <= 9223372036854775807) : IntKind.i64.wrap n = n := by
 have e : IntKind.i64.wrap n = if 9223372036854775808 <= n % 18446744073709551616 then n % 18446744073709551616 - 18446744073709551616 else n % 18446744073709551616 := by simp [IntKind.wrap, IntKind.signed, IntKind.bits]
 rw [e]
 split <;> omega

section
variable {P : Program} {n : Nat} {Q Q' : Exit -> St -> Prop} {s s' : St} {y : Code}

theorem onv_map {α : Type} {o : Option α} {k k' : α -> Prop} (hk : ∀ v, k v -> k' v) (h : onv o k) : onv o k' := by
 cases o with
 | none => exact h.elim
 | some v => exact hk v h

theorem gdo_map {all : Array Oper} {o : Oper} {y n y' n' : Prop} (hy : y -> y') (hn : n -> n') (h : gdo all s o y n) : gdo all s o y' n' := by
 unfold gdo at h ⊢
 split
 ·rename_i e; rw [e] at h; exact hy h
 ·rename_i j want e
  rw [e] at h
  refine onv_map (fun oj => onv_map fun t => onv_map fun x => ?_) h
  intro h
  split at h
  ·exact ⟨fun a => hy (h.1 a), fun a => hn (h.2 a)⟩
  ·exact hn h
  ·exact h.elim

theorem astep_map {o : Oper} {ow : Bool} {K K' : AV -> List (List CV) -> List Arr -> Prop} (hk : ∀ x V A, K x V A -> K' x V A) (h : astep P s ow o K) : astep P s ow o K' := by
 obtain ⟨x, V, A, h1, h2⟩ := astep_det h
 exact h2 K' (hk x V A h1)

structure Ops (P : Program) (all : Array Oper) (ow : Nat -> Bool) (K : St -> Prop) (i : Nat) (ops : List Oper) (s : St) : Prop where
 mk ::
 run : aops P all ow K i ops s
structure OpsD (P : Program) (all : Array Oper) (ow : Nat -> Bool) (ws : List Nat) (K : St -> Prop) (i : Nat) (ops : List Oper) (s : St) : Prop where
 mk ::
 run : aopsD P all ow ws K i ops s

theorem aops_go {all : Array Oper} {ow : Nat -> Bool} {K : St -> Prop} {i : Nat} {o : Oper} {rest : List Oper} (h : gdo all s o (astep P s (ow i) o fun x V A => Ops P all ow K (i + 1) rest (s.put o.dst x V A)) (Ops P all ow K (i + 1) rest (s.put o.dst (.c .undef) s.V s.A))) : Ops P all ow K i (o :: rest) s :=
 ⟨gdo_map (fun h => astep_map (fun _ _ _ h => h.run) h) (fun h => h.run) h⟩
theorem aops_end {all : Array Oper} {ow : Nat -> Bool} {K : St -> Prop} {i : Nat} (h : K s) : Ops P all ow K i [] s := ⟨h⟩
theorem aopsD_go {all : Array Oper} {ow : Nat -> Bool} {ws : List Nat} {K : St -> Prop} {i : Nat} {o : Oper} {rest : List Oper} (h : gdo all s o (astep P s (ow i) o fun x V A => (i ∈ ws \/ (V = s.V /\ A = s.A)) /\ OpsD P all ow ws K (i + 1) rest (s.put o.dst x V A)) (OpsD P all ow ws K (i + 1) rest (s.put o.dst (.c .undef) s.V s.A))) : OpsD P all ow ws K i (o :: rest) s :=
 ⟨gdo_map (fun h => astep_map (fun _ _ _ h => ⟨h.1, h.2.run⟩) h) (fun h => h.run) h⟩
theorem aopsD_end {all : Array Oper} {ow : Nat -> Bool} {ws : List Nat} {K : St -> Prop} {i : Nat} (h : K s) : OpsD P all ow ws K i [] s := ⟨h⟩

theorem T.rs {id : Nat} {l : List Oper} (ow : Nat -> Bool) (h : ∀ K : St -> Prop, (∀ s', T P n y Q s' -> K s') -> Ops P l.toArray ow K 0 l s) : T P n (.seq (.region id l.toArray false) y) Q s :=
 T.seq (T.region ow (h _ fun _ h => h).run)

theorem T.rd {id : Nat} {l : List Oper} (hm : P.follows .mixedOrders = true) (ow : Nat -> Bool) (ws : List Nat) (hd : drawOk l.toArray ws = true) (h : ∀ K : St -> Prop, (∀ s', T P n y Q s' -> K s') -> OpsD P l.toArray ow ws K 0 l s) : T P n (.seq (.region id l.toArray true) y) Q s :=
 T.seq (T.region_draw hm ow ws hd (h _ fun _ h => h).run)

theorem T.rs1 {id : Nat} {l : List Oper} (ow : Nat -> Bool) (h : ∀ K : St -> Prop, (∀ s', Q .normal s' -> K s') -> Ops P l.toArray ow K 0 l s) : T P n (.region id l.toArray false) Q s :=
 T.region ow (h _ fun _ h => h).run

theorem T.rd1 {id : Nat} {l : List Oper} (hm : P.follows .mixedOrders = true) (ow : Nat -> Bool) (ws : List Nat) (hd : drawOk l.toArray ws = true) (h : ∀ K : St -> Prop, (∀ s', Q .normal s' -> K s') -> OpsD P l.toArray ow ws K 0 l s) : T P n (.region id l.toArray true) Q s :=
 T.region_draw hm ow ws hd (h _ fun _ h => h).run

@[congr] theorem aops_cong {all : Array Oper} {ow : Nat -> Bool} {K : St -> Prop} {i i' : Nat} {ops : List Oper} (hi : i = i') (h : s = s') : Ops P all ow K i ops s = Ops P all ow K i' ops s' := by rw [h, hi]
@[congr] theorem aopsD_cong {all : Array Oper} {ow : Nat -> Bool} {ws : List Nat} {K : St -> Prop} {i i' : Nat} {ops : List Oper} (hi : i = i') (h : s = s') : OpsD P all ow ws K i ops s = OpsD P all ow ws K i' ops s' := by rw [h, hi]
@[congr] theorem astep_cong {o : Oper} {ow : Bool} {K : AV -> List (List CV) -> List Arr -> Prop} (h : s = s') : astep P s ow o K = astep P s' ow o K := by rw [h]
@[congr] theorem wpo_cong {o : Op} {ow : Bool} {K : AV -> List (List CV) -> List Arr -> Prop} (h : s = s') : wpo P s ow o K = wpo P s' ow o K := by rw [h]
@[congr] theorem gdo_cong {all : Array Oper} {o : Oper} {y n : Prop} (h : s = s') : gdo all s o y n = gdo all s' o y n := by rw [h]
@[congr] theorem onv_cong {α : Type} {o o' : Option α} {k : α -> Prop} (h : o = o') : onv o k = onv o' k := by rw [h]

def subL : List (Nat × AV) -> List (Nat × AV) -> Prop
 | [], _ => True
 | (t, x) :: r, fr => look fr t = some x /\ subL r fr

theorem subL.look : ∀ {l fr : List (Nat × AV)}, subL l fr -> ∀ t x, look l t = some x -> look fr t = some x
 | [], _, _, t, x, h => by simp [Av.look] at h
 | (t', x') :: r, fr, hs, t, x, h => by
  simp only [Av.look] at h
  split at h
  ·rename_i e; subst e; simp at h; subst h; exact hs.1
  ·exact subL.look hs.2 t x h

def Sub (s s' : St) : Prop := s.V = s'.V /\ s.A = s'.A /\ subL s.fr s'.fr

theorem T.sub {c : Code} (h : T P n c Q s) (hs : Sub s s') : T P n c Q s' := by
 obtain ⟨h1, h2, h3⟩ := hs
 refine T.forget s.fr (subL.look h3) ?_
 rw [<- h1, <- h2]; exact h

def Round {α : Type} (S : α -> St) (m : α -> Nat) (H : α -> Prop) (k : Nat) (Q : Exit -> St -> Prop) : Exit -> St -> Prop
 | .normal, s' => ∃ a', m a' < k /\ H a' /\ Sub (S a') s'
 | e, s' => Q e s'

theorem T.loopF {α : Type} {c : Code} (S : α -> St) (m : α -> Nat) (H : α -> Prop) (h : ∀ a, H a -> T P n c (Round S m H (m a) Q) (S a)) (a : α) (ha : H a) (hs : Sub (S a) s) : T P n (.loop c) Q s := by
 refine T.loop (fun k s => ∃ a, m a = k /\ H a /\ (S a).V = s.V /\ (S a).A = s.A /\ ∀ t x, look (S a).fr t = some x -> look s.fr t = some x) ?_ (k := m a) ⟨a, rfl, ha, hs.1, hs.2.1, subL.look hs.2.2⟩
 rintro k s1 ⟨a', rfl, h2, h3, h4, h5⟩
 refine T.forget (S a').fr h5 ?_
 rw [<- h3, <- h4]
 refine T.mono (h a' h2) fun e s2 h6 => ?_
 cases e with
 | normal =>
  obtain ⟨a2, h7, h8, h9, h10, h11⟩ := h6
  exact ⟨_, h7, a2, rfl, h8, h9, h10, subL.look h11⟩
 | _ => exact h6

@[congr] theorem wpcall_cong {s s' : St} {f : FuncId} {xs xs' : List AV} {K : AV -> List (List CV) -> List Arr -> Prop} (hs : s = s') (hx : xs = xs') : wpcall P s f xs K = wpcall P s' f xs' K := by subst hs; subst hx; rfl

theorem wpcall_pure {f : FuncId} {xs as : List AV} {r : AV} {K : AV -> List (List CV) -> List Arr -> Prop} (hin : innAs s.A [] xs = some as) (hc : ACalls P f as [] r [] []) (hK : K (r.outn [] s.V.length s.A.length) s.V (sealAs s.A (argCells xs))) : wpcall P s f xs K := by
 refine .inl ⟨[], as, [], r, [], [], List.nodup_nil, hin, rfl, hc, ?_⟩
 simpa [putBack, objCells] using hK

theorem Done.pure {fn : Func} {r x : AV} {e : Exit} (he : e = .normal \/ e = .ret) (hr : ares P s fn.results.toList = some [x]) (hx : x.res1 s.A [] [] = some r) : Done P fn 0 r [] [] e s :=
 ⟨he, [], [], [x], [r], hr, List.nodup_nil, List.nodup_nil, by simp, by simp [resAs, hx], rfl, rfl, rfl⟩
end

def fillR {α : Type} (f : α -> List DV) (z : List DV) (l : List α) (i : Nat) : List (List DV) := (l.take i).map f ++ List.replicate (l.length - i) z

section
variable {α : Type} {f : α -> List DV} {z : List DV} {l : List α} {i : Nat}
theorem get_lt (h : i < l.length) : ∃ o, l[i]? = some o := ⟨l[i], List.getElem?_eq_getElem h⟩
end

theorem keep {p : Prop} (h : p) : p := h

attribute [simp] astep wpo gdo onv aval avals oval slow shigh alen rowsOf look cvOf St.put cellsAt mkV splice abin aun abinS abinB cEq AV.plain AV.cells CV.isUndef toD toDs toRows sealA sealAs innAs AV.inn CV.inn inns AV.outn CV.outn argCells aparts arows afill isS ares ares1 AV.res1 CV.res ress pos? poss Then InBlock Sub subL argFr
section
variable {P : Program} {n : Nat} {Q : Exit -> St -> Prop} {s : St} {y : Code}
theorem T.ct {c : Operand} {x z : Code} (hc : aval s c = some (.c (.d (.bool true)))) (h : T P n x Q s) : T P n (.cond c x z) Q s := T.cond hc (fun _ => h) (fun h => absurd h (by decide))
theorem T.cf {c : Operand} {x z : Code} (hc : aval s c = some (.c (.d (.bool false)))) (h : T P n z Q s) : T P n (.cond c x z) Q s := T.cond hc (fun h => absurd h (by decide)) (fun _ => h)
theorem T.r0 {id : Nat} {l : List Oper} (h : ∀ K : St -> Prop, (∀ s', T P n y Q s' -> K s') -> Ops P l.toArray (fun _ => false) K 0 l s) : T P n (.seq (.region id l.toArray false) y) Q s := T.rs (fun _ => false) h
theorem T.r1 {id : Nat} {l : List Oper} (h : ∀ K : St -> Prop, (∀ s', Q .normal s' -> K s') -> Ops P l.toArray (fun _ => false) K 0 l s) : T P n (.region id l.toArray false) Q s := T.rs1 (fun _ => false) h
end
end Go.Av

namespace Go.Av
open Go

section
variable {P : Program} {all : Array Oper} {ow : Nat -> Bool} {K : St -> Prop} {i : Nat} {ops : List Oper} {ws : List Nat} {d : Nat} {b : Bool} {fr : List (Nat × AV)} {V : List (List CV)} {A : List Arr}
theorem Ops.gen (h : ∀ q : Bool, b = q -> Ops P all ow K i ops ⟨(d, .c (.d (.bool q))) :: fr, V, A⟩) : Ops P all ow K i ops ⟨(d, .c (.d (.bool b))) :: fr, V, A⟩ := h b rfl
theorem OpsD.gen (h : ∀ q : Bool, b = q -> OpsD P all ow ws K i ops ⟨(d, .c (.d (.bool q))) :: fr, V, A⟩) : OpsD P all ow ws K i ops ⟨(d, .c (.d (.bool b))) :: fr, V, A⟩ := h b rfl
end

theorem Done.data {P : Program} {s : St} {fn : Func} {r : AV} {e : Exit} (he : e = .normal \/ e = .ret) (hr : ares P s fn.results.toList = some [r]) (hx : r.res1 s.A [] [] = some r) : Done P fn 0 r [] [] e s := Done.pure he hr hx

end Go.Av

namespace Go.Av
open Go

abbrev dV (rows : List (List DV)) : List (List CV) := rows.map fun r => r.map CV.d

section
variable {P : Program} {s : St} {A : List Arr} {f : FuncId} {xs as : List AV} {r : AV} {K : AV -> List (List CV) -> List Arr -> Prop}

theorem inns_d {ids : List Nat} : ∀ (r : List DV), inns A ids (r.map CV.d) = some (r.map CV.d)
 | [] => rfl
 | x :: r => by simp [inns_d r]

theorem ress_d {os ks : List Nat} : ∀ (r : List DV), ress A os ks (r.map CV.d) = some (r.map CV.d)
 | [] => rfl
 | x :: r => by simp [ress_d r]

theorem innVs_d {ids : List Nat} {V : List (List CV)} : ∀ (ls : List Nat) (rows : List (List DV)), ls.length = rows.length -> (∀ (j l : Nat) row, ls[j]? = some l -> rows[j]? = some row -> V[l]? = some (row.map CV.d)) -> innVs A V ids ls = some (dV rows)
 | [], [], _, _ => rfl
 | l :: ls, row :: rows, hl, h => by
  simp only [innVs, h 0 l row rfl rfl, innVs_d ls rows (by simpa using hl) (fun j l row h1 h2 => h (j + 1) l row (by simpa using h1) (by simpa using h2)), inns_d]
  rfl
 | [], _ :: _, hl, _ => by simp at hl
 | _ :: _, [], hl, _ => by simp at hl

theorem resVs_d {os ks : List Nat} {V : List (List CV)} : ∀ (ls : List Nat) (rows : List (List DV)), ls.length = rows.length -> (∀ (j l : Nat) row, ls[j]? = some l -> rows[j]? = some row -> V[l]? = some (row.map CV.d)) -> resVs A V os ks ls = some (dV rows)
 | [], [], _, _ => rfl
 | l :: ls, row :: rows, hl, h => by
  simp only [resVs, h 0 l row rfl rfl, resVs_d ls rows (by simpa using hl) (fun j l row h1 h2 => h (j + 1) l row (by simpa using h1) (by simpa using h2)), ress_d]
  rfl
 | [], _ :: _, hl, _ => by simp at hl
 | _ :: _, [], hl, _ => by simp at hl

theorem putBack_same {nA nV : Nat} {ids : List Nat} : ∀ (ls : List Nat) (rows : List (List DV)) (V : List (List CV)), ls.length = rows.length -> (∀ (j l : Nat) row, ls[j]? = some l -> rows[j]? = some row -> V[l]? = some (row.map CV.d)) -> putBack nA nV ids V ls (dV rows) = V
 | [], [], V, _, _ => by simp [putBack]
 | l :: ls, row :: rows, V, hl, h => by
  have h0 := h 0 l row rfl rfl
  have hm : (row.map CV.d).map (CV.outn ids nV nA) = row.map CV.d := by simp [List.map_map, Function.comp_def]
  have hset : V.set l (row.map CV.d) = V := by
   obtain ⟨h1, h2⟩ := List.getElem?_eq_some_iff.1 h0
   rw [<- h2]; simp
  simp only [dV, List.map_cons, putBack, hm, hset]
  exact putBack_same ls rows V (by simpa using hl) (fun j l row h1 h2 => h (j + 1) l row (by simpa using h1) (by simpa using h2))
 | [], _ :: _, _, hl, _ => by simp at hl
 | _ :: _, [], _, hl, _ => by simp at hl

theorem objCells_d {V : List (List CV)} : ∀ (ls : List Nat) (rows : List (List DV)), ls.length = rows.length -> (∀ (j l : Nat) row, ls[j]? = some l -> rows[j]? = some row -> V[l]? = some (row.map CV.d)) -> ∃ ds : List DV, objCells V ls = ds.map CV.d
 | [], [], _, _ => ⟨[], rfl⟩
 | l :: ls, row :: rows, hl, h => by
  obtain ⟨ds, hd⟩ := objCells_d ls rows (by simpa using hl) (fun j l row h1 h2 => h (j + 1) l row (by simpa using h1) (by simpa using h2))
  refine ⟨row ++ ds, ?_⟩
  have h0 := h 0 l row rfl rfl
  simp only [objCells, List.flatMap_cons] at hd ⊢
  rw [hd]
  simp [List.getD, h0]
 | [], _ :: _, hl, _ => by simp at hl
 | _ :: _, [], hl, _ => by simp at hl

theorem sealAs_d : ∀ (ds : List DV) (A : List Arr), sealAs A (ds.map CV.d) = A
 | [], A => rfl
 | d :: ds, A => by
  simp only [List.map_cons, sealAs, List.foldl_cons, sealA]
  exact sealAs_d ds A

theorem sealAs_append (A : List Arr) (cs ds : List CV) : sealAs A (cs ++ ds) = sealAs (sealAs A cs) ds := by simp [sealAs]

theorem wpcall_objs (ids : List Nat) (rows : List (List DV)) (hnd : ids.Nodup) (hlen : ids.length = rows.length) (hrows : ∀ (j l : Nat) row, ids[j]? = some l -> rows[j]? = some row -> s.V[l]? = some (row.map CV.d)) (hin : innAs s.A ids xs = some as) (hc : ACalls P f as (dV rows) r (dV rows) [])
  (hK : K (r.outn ids s.V.length s.A.length) s.V (sealAs s.A (argCells xs))) : wpcall P s f xs K := by
 refine .inl ⟨ids, as, dV rows, r, dV rows, [], hnd, hin, innVs_d ids rows hlen hrows, hc, ?_⟩
 rw [putBack_same ids rows s.V hlen hrows]
 obtain ⟨ds, hd⟩ := objCells_d ids rows hlen hrows
 rw [hd, sealAs_append, sealAs_d, List.append_nil]
 exact hK

theorem Done.objs {fn : Func} {e : Exit} {rows : List (List DV)} {m : Nat} (hm : m = rows.length) (he : e = .normal \/ e = .ret) (hr : ares P s fn.results.toList = some [r]) (hx : r.res1 s.A (List.range rows.length) [] = some r)
  (hV : ∀ (l : Nat) row, rows[l]? = some row -> s.V[l]? = some (row.map CV.d)) : Done P fn m r (dV rows) [] e s := by
 subst hm
 refine ⟨he, [], [], [r], [r], hr, List.nodup_nil, List.nodup_nil, by simp, ?_, rfl, ?_, rfl⟩
 ·rw [List.append_nil]; simp only [resAs, hx]
 rw [List.append_nil]
 refine resVs_d (List.range rows.length) rows (by simp) fun j l row h1 h2 => ?_
 have hj : j < rows.length := (List.getElem?_eq_some_iff.1 h2).1
 simp [hj] at h1
 subst h1
 exact hV j row h2
end
end Go.Av

namespace Go.Av
open Go

def all2 {α β : Type} (q : α -> β -> Bool) : List α -> List β -> Bool
 | [], [] => true
 | x :: xs, y :: ys => q x y && all2 q xs ys
 | _, _ => false

theorem all2_len {α β : Type} {q : α -> β -> Bool} : ∀ {xs : List α} {ys : List β}, all2 q xs ys = true -> xs.length = ys.length
 | [], [], _ => rfl
 | x :: xs, y :: ys, h => by simp [all2] at h; simp [all2_len h.2]
 | [], _ :: _, h => by simp [all2] at h
 | _ :: _, [], h => by simp [all2] at h

theorem all2_ne {α β : Type} {q : α -> β -> Bool} {xs : List α} {ys : List β} (h : xs.length ≠ ys.length) : all2 q xs ys = false := by
 cases hq : all2 q xs ys
 ·rfl
 ·exact absurd (all2_len hq) h

def firstIx {α : Type} (q : α -> Bool) : List α -> Int -> Int
 | [], _ => -1
 | x :: xs, i => if q x = true then i else firstIx q xs (i + 1)

theorem firstIx_any {α : Type} {q : α -> Bool} : ∀ {xs : List α} {i : Int}, 0 <= i -> (decide (0 <= firstIx q xs i) = xs.any q)
 | [], i, _ => by simp [firstIx]
 | x :: xs, i, h => by
  by_cases hq : q x = true
  ·simp [firstIx, hq, h]
  ·have hr := firstIx_any (q := q) (xs := xs) (i := i + 1) (by omega)
   simp only [firstIx, hq, List.any_cons]
   simpa using hr

theorem not_any_not {α : Type} (p : α -> Bool) : ∀ (l : List α), (!l.any fun x => !p x) = l.all p
 | [] => rfl
 | x :: l => by simp [<- not_any_not p l, Bool.not_or]

theorem drop_cons {α : Type} {l : List α} {p : Nat} (h : p < l.length) : l.drop p = l[p] :: l.drop (p + 1) := by rw [List.drop_eq_getElem_cons h]

@[simp] theorem get_app_len {α : Type} (G X : List α) (k : Nat) : (G ++ X)[G.length + k]? = X[k]? := by
 rw [List.getElem?_append_right (by omega)]; congr 1; omega
@[simp] theorem get_app_len0 {α : Type} (G X : List α) : (G ++ X)[G.length]? = X[0]? := by
 rw [List.getElem?_append_right (by omega)]; congr 1; omega
@[simp] theorem set_app_len {α : Type} (G X : List α) (k : Nat) (v : α) : (G ++ X).set (G.length + k) v = G ++ X.set k v := by
 rw [List.set_append_right _ _ (by omega)]; congr 2; omega
@[simp] theorem set_app_len0 {α : Type} (G X : List α) (v : α) : (G ++ X).set G.length v = G ++ X.set 0 v := by
 rw [List.set_append_right _ _ (by omega)]; congr 2; omega

theorem all2_cons {α β : Type} {q : α -> β -> Bool} {x : α} {y : β} {xs : List α} {ys : List β} : all2 q (x :: xs) (y :: ys) = (q x y && all2 q xs ys) := rfl
theorem all2_nil {α β : Type} {q : α -> β -> Bool} : all2 q [] ([] : List β) = true := rfl

abbrev ptrs (n : Nat) : List AV := (List.range n).map fun l => .c (.ptr l 0)

section
variable {P : Program} {s : St} {A : List Arr} {f : FuncId} {xs as : List AV} {r : AV} {K : AV -> List (List CV) -> List Arr -> Prop}
theorem wpcall_obj1 (l : Nat) (row : List DV) (hrow : s.V[l]? = some (row.map CV.d)) (hin : innAs s.A [l] xs = some as) (hc : ACalls P f as (dV [row]) r (dV [row]) [])
  (hK : K (r.outn [l] s.V.length s.A.length) s.V (sealAs s.A (argCells xs))) : wpcall P s f xs K := by
 refine wpcall_objs [l] [row] (by simp) rfl ?_ hin hc hK
 intro j l' row' h1 h2
 match j with
 | 0 => simp at h1 h2; subst h1; subst h2; exact hrow
 | j + 1 => simp at h1

theorem Done.val {fn : Func} {e : Exit} (he : e = .normal \/ e = .ret) (hr : (ares P s fn.results.toList).bind (resAs s.A [] []) = some [r]) : Done P fn 0 r [] [] e s := by
 cases hx : ares P s fn.results.toList with
 | none => rw [hx] at hr; simp at hr
 | some xs => rw [hx] at hr; exact ⟨he, [], [], xs, [r], hx, List.nodup_nil, List.nodup_nil, by simp, hr, rfl, rfl, rfl⟩
theorem Done.tup {fn : Func} {e : Exit} {a b : AV} {ys : List AV} (he : e = .normal \/ e = .ret) (hr : (ares P s fn.results.toList).bind (resAs s.A [] []) = some (a :: b :: ys)) : Done P fn 0 (.tup (a :: b :: ys)) [] [] e s := by
 cases hx : ares P s fn.results.toList with
 | none => rw [hx] at hr; simp at hr
 | some xs => rw [hx] at hr; exact ⟨he, [], [], xs, _, hx, List.nodup_nil, List.nodup_nil, by simp, hr, rfl, rfl, rfl⟩

theorem wpcall_upd1 (l : Nat) (row row' : List DV) (hrow : s.V[l]? = some (row.map CV.d)) (hin : innAs s.A [l] xs = some as) (hc : ACalls P f as (dV [row]) r (dV [row']) [])
  (hK : K (r.outn [l] s.V.length s.A.length) (s.V.set l (row'.map CV.d)) (sealAs s.A (argCells xs))) : wpcall P s f xs K := by
 refine .inl ⟨[l], as, dV [row], r, dV [row'], [], by simp, hin, innVs_d [l] [row] rfl ?_, hc, ?_⟩
 ·intro j l' row'' h1 h2
  match j with
  | 0 => simp at h1 h2; subst h1; subst h2; exact hrow
  | j + 1 => simp at h1
 ·obtain ⟨ds, hd⟩ := objCells_d (V := s.V) [l] [row] rfl (by
   intro j l' row'' h1 h2
   match j with
   | 0 => simp at h1 h2; subst h1; subst h2; exact hrow
   | j + 1 => simp at h1)
  rw [hd, sealAs_append, sealAs_d, List.append_nil]
  have hm : (row'.map CV.d).map (CV.outn [l] s.V.length s.A.length) = row'.map CV.d := by simp [List.map_map, Function.comp_def]
  have hp : putBack s.A.length s.V.length [l] s.V [l] (dV [row']) = s.V.set l (row'.map CV.d) := by
   simp only [dV, List.map_cons, List.map_nil, putBack, hm, List.append_nil]
  rw [hp]; exact hK

theorem Done.obj1 {fn : Func} {e : Exit} {row : List DV} (he : e = .normal \/ e = .ret) (hr : ares P s fn.results.toList = some [r]) (hx : r.res1 s.A [0] [] = some r)
  (hV : s.V[0]? = some (row.map CV.d)) : Done P fn 1 r (dV [row]) [] e s := by
 refine Done.objs (rows := [row]) rfl he hr hx ?_
 intro l row' h
 match l with
 | 0 => simp at h; subst h; exact hV
 | l + 1 => simp at h
end

section
variable {P : Program} {n : Nat} {Q : Exit -> St -> Prop} {s : St} {x y : Code}
def Cut (S : St) (Q : Exit -> St -> Prop) : Exit -> St -> Prop
 | .normal, s' => Sub S s'
 | e, s' => Q e s'
end
end Go.Av

namespace Go.Av
attribute [-simp] Go.Av.get_app_len Go.Av.get_app_len0 Go.Av.set_app_len Go.Av.set_app_len0
open Go

inductive MTy where
 | mk (kind : Int) (kids : List MTy)
def MTy.kind : MTy -> Int | .mk k _ => k
def MTy.kids : MTy -> List MTy | .mk _ l => l

inductive MTm where
 | mk (kind : Int) (name : List UInt8) (num : Int) (ty fr : MTy) (label : Int) (kids : List MTm)
def MTm.kind : MTm -> Int | .mk k _ _ _ _ _ _ => k
def MTm.name : MTm -> List UInt8 | .mk _ s _ _ _ _ _ => s
def MTm.num : MTm -> Int | .mk _ _ n _ _ _ _ => n
def MTm.ty : MTm -> MTy | .mk _ _ _ t _ _ _ => t
def MTm.fr : MTm -> MTy | .mk _ _ _ _ t _ _ => t
def MTm.label : MTm -> Int | .mk _ _ _ _ _ l _ => l
def MTm.kids : MTm -> List MTm | .mk _ _ _ _ _ _ l => l

@[simp] theorem MTy.kind_mk (k : Int) (l : List MTy) : (MTy.mk k l).kind = k := rfl
@[simp] theorem MTy.kids_mk (k : Int) (l : List MTy) : (MTy.mk k l).kids = l := rfl
section
variable (k : Int) (s : List UInt8) (n : Int) (t f : MTy) (b : Int) (l : List MTm)
@[simp] theorem MTm.kind_mk : (MTm.mk k s n t f b l).kind = k := rfl
@[simp] theorem MTm.name_mk : (MTm.mk k s n t f b l).name = s := rfl
@[simp] theorem MTm.num_mk : (MTm.mk k s n t f b l).num = n := rfl
@[simp] theorem MTm.ty_mk : (MTm.mk k s n t f b l).ty = t := rfl
@[simp] theorem MTm.fr_mk : (MTm.mk k s n t f b l).fr = f := rfl
@[simp] theorem MTm.label_mk : (MTm.mk k s n t f b l).label = b := rfl
@[simp] theorem MTm.kids_mk : (MTm.mk k s n t f b l).kids = l := rfl
end

mutual
def eTy : MTy -> List DV
 | .mk k l => [.i k, .sl (eTyS l)]
def eTyS : List MTy -> List (List DV)
 | [] => []
 | t :: r => eTy t :: eTyS r
end
theorem eTyS_map : ∀ (l : List MTy), eTyS l = l.map eTy
 | [] => rfl
 | t :: r => by simp [eTyS, eTyS_map r]
theorem eTy_def (t : MTy) : eTy t = [.i t.kind, .sl (t.kids.map eTy)] := by
 cases t; simp [eTy, eTyS_map]

mutual
def eTm : MTm -> List DV
 | .mk k s n t f l kids => [.i k, .str s, .i n, .i t.kind, .sl (t.kids.map eTy), .i f.kind, .sl (f.kids.map eTy), .i l, .sl (eTmS kids)]
def eTmS : List MTm -> List (List DV)
 | [] => []
 | t :: r => eTm t :: eTmS r
end
theorem eTmS_map : ∀ (l : List MTm), eTmS l = l.map eTm
 | [] => rfl
 | t :: r => by simp [eTmS, eTmS_map r]
theorem eTm_def (e : MTm) : eTm e = [.i e.kind, .str e.name, .i e.num, .i e.ty.kind, .sl (e.ty.kids.map eTy), .i e.fr.kind, .sl (e.fr.kids.map eTy), .i e.label, .sl (e.kids.map eTm)] := by
 cases e; simp [eTm, eTmS_map]

abbrev aTy (t : MTy) : AV := .agg [.d (.i t.kind), .d (.sl (t.kids.map eTy))]
abbrev aTm (e : MTm) : AV := .agg [.d (.i e.kind), .d (.str e.name), .d (.i e.num), .d (.i e.ty.kind), .d (.sl (e.ty.kids.map eTy)), .d (.i e.fr.kind), .d (.sl (e.fr.kids.map eTy)), .d (.i e.label), .d (.sl (e.kids.map eTm))]

/- How many nodes lie below a node. -/
mutual
def nTy : MTy -> Nat
 | .mk _ l => nTyS l
def nTyS : List MTy -> Nat
 | [] => 0
 | t :: r => 1 + nTy t + nTyS r
end
mutual
def nTm : MTm -> Nat
 | .mk _ s _ t f _ kids => s.length + nTy t + nTy f + nTmS kids
def nTmS : List MTm -> Nat
 | [] => 0
 | e :: r => 1 + nTm e + nTmS r
end
theorem nTy_def (t : MTy) : nTy t = nTyS t.kids := by cases t; simp [nTy]
theorem nTyS_len : ∀ (l : List MTy), l.length <= nTyS l
 | [] => by simp [nTyS]
 | t :: r => by have := nTyS_len r; simp [nTyS]; omega
theorem nTyS_mem : ∀ {l : List MTy} {t : MTy}, t ∈ l -> nTy t < nTyS l
 | x :: r, t, h => by
  simp only [List.mem_cons] at h
  simp only [nTyS]
  rcases h with rfl | h
  ·omega
  ·have := nTyS_mem h; omega
def sumTy (l : List MTy) : Nat := (l.map nTy).sum
def sumTm (l : List MTm) : Nat := (l.map nTm).sum
/- No row is longer than any Go slice. -/
mutual
def wTy : MTy -> Prop
 | .mk _ l => l.length <= 9223372036854775807 /\ wTyS l
def wTyS : List MTy -> Prop
 | [] => True
 | t :: r => wTy t /\ wTyS r
end
mutual
def wTm : MTm -> Prop
 | .mk _ s _ t f _ kids => s.length <= 9223372036854775807 /\ wTy t /\ wTy f /\ kids.length <= 9223372036854775807 /\ wTmS kids
def wTmS : List MTm -> Prop
 | [] => True
 | e :: r => wTm e /\ wTmS r
end
def szM (n : Nat) (left : Int) : Int := if (n : Int) <= left then left - n else -1
end Go.Av

namespace Go.Av
open Go

theorem MTy.ind {P : MTy -> Prop} (h : ∀ t, (∀ u ∈ t.kids, P u) -> P t) : ∀ t, P t
 | .mk k l => h _ (fun u hu => MTy.ind h u)
termination_by t => SizeOf.sizeOf t
decreasing_by simp at hu; have := List.sizeOf_lt_of_mem hu; simp; omega

def inM (x lo hi : Int) : Bool := decide (lo <= x) && decide (x <= hi)

def nameM : List UInt8 -> Bool
 | [c] => decide (97 <= c.toNat) && decide (c.toNat <= 122)
 | _ => false

def noTyM (t : MTy) : Bool := decide (t.kind = 0) && decide (t.kids = [])

def labM (n : Int) : Bool := inM n 1 99 || inM n (-99) (-1)

def kidsM (k : Int) : Int :=
 if k = 1 \/ k = 2 \/ k = 3 \/ k = 4 then 0 else if k = 5 \/ k = 11 \/ k = 12 \/ k = 13 \/ k = 14 then 1 else if k = 6 \/ k = 7 \/ k = 8 \/ k = 10 then 2 else if k = 9 then 3 else -1

def tyKids (k : Int) : Int := if k = 1 \/ k = 2 \/ k = 3 then 0 else if k = 4 \/ k = 5 then 2 else -1

def shapeTy : Nat -> MTy -> Bool
 | 0, _ => false
 | d + 1, t => decide (tyKids t.kind = t.kids.length) && t.kids.all (shapeTy d)

theorem shapeTy_kids {d : Nat} {t : MTy} (h : shapeTy d t = true) : ∃ e, d = e + 1 /\ tyKids t.kind = t.kids.length /\ t.kids.length <= 2 /\ ∀ u ∈ t.kids, shapeTy e u = true := by
 cases d with
 | zero => simp [shapeTy] at h
 | succ e =>
  simp only [shapeTy, Bool.and_eq_true, decide_eq_true_eq, List.all_eq_true] at h
  refine ⟨e, rfl, h.1, ?_, h.2⟩
  have := h.1
  simp only [tyKids] at this
  split at this
  ·omega
  ·split at this <;> omega

mutual
def consTy : MTy -> MTy -> Bool
 | .mk k l, .mk k' l' => decide (k = 1) || decide (k' = 1) || (decide (k = k') && consTyS l l')
def consTyS : List MTy -> List MTy -> Bool
 | [], [] => true
 | x :: xs, y :: ys => consTy x y && consTyS xs ys
 | _, _ => false
end
theorem consTyS_all2 : ∀ (l m : List MTy), consTyS l m = all2 consTy l m
 | [], [] => rfl
 | x :: xs, y :: ys => by simp [consTyS, all2, consTyS_all2 xs ys]
 | [], _ :: _ => rfl
 | _ :: _, [] => rfl
theorem consTy_def (a b : MTy) : consTy a b = (decide (a.kind = 1) || decide (b.kind = 1) || (decide (a.kind = b.kind) && all2 consTy a.kids b.kids)) := by
 cases a; cases b; simp only [consTy, consTyS_all2]; rfl

/- A node by itself, but for the number of its operands. -/
def namedM (k : Int) : Bool := decide (k = 1) || decide (k = 5)
def typedM (k : Int) : Bool := decide (k = 5) || decide (k = 13) || decide (k = 14)
def castOwnM (e : MTm) : Bool := shapeTy 4 e.fr && shapeTy 4 e.ty && consTy e.fr e.ty && labM e.label
def ownM (e : MTm) : Bool :=
 (if namedM e.kind then nameM e.name else decide (e.name = [])) && inM e.num 0 (if e.kind = 2 then 999 else 0) &&
 (if typedM e.kind then shapeTy 4 e.ty else noTyM e.ty) && (if e.kind = 14 then castOwnM e else noTyM e.fr && decide (e.label = 0))
def nodeM (e : MTm) : Bool := decide (kidsM e.kind = e.kids.length) && ownM e

def shapeTm (nt : Int) : Nat -> MTm -> Bool
 | 0, _ => false
 | d + 1, e => decide (e.kind ≠ nt) && nodeM e && e.kids.all (shapeTm nt d)

def countTm : Nat -> MTm -> Nat
 | 0, _ => 1
 | d + 1, e => 1 + (e.kids.map (countTm d)).sum

/- A scan from a node on: whether it goes through, and how many nodes it has seen. -/
mutual
def scanM (mn md nt : Int) : Int -> MTm -> Int -> Bool × Int
 | deep, .mk k s n t f b l, c => if mn < c + 1 \/ md < deep \/ k = nt \/ nodeM (.mk k s n t f b l) = false then (false, c + 1) else scanS mn md nt (deep + 1) l (c + 1)
def scanS (mn md nt : Int) : Int -> List MTm -> Int -> Bool × Int
 | _, [], c => (true, c)
 | deep, e :: r, c => if (scanM mn md nt deep e c).1 = true then scanS mn md nt deep r (scanM mn md nt deep e c).2 else (false, (scanM mn md nt deep e c).2)
end
/- No casts, and no types but the unknown one. -/
mutual
def bareM : MTm -> Bool
 | .mk k _ _ t _ _ l => decide (k ≠ 14) && (decide (k ≠ 5) || decide (t.kind = 1)) && bareS l
def bareS : List MTm -> Bool
 | [] => true
 | e :: r => bareM e && bareS r
end
def castValidM (e : MTm) : Bool := shapeTm 13 40 e && decide (countTm 40 e <= 200)
def termValidM (e : MTm) : Bool := shapeTm 14 12 e && decide (countTm 12 e <= 30)
end Go.Av

namespace Go.Av
open Go

structure MBd where
 name : List UInt8
 ty : MTy
def eBd (b : MBd) : List DV := [.str b.name, .i b.ty.kind, .sl (b.ty.kids.map eTy)]

abbrev anyT : MTy := .mk 1 []
abbrev intT : MTy := .mk 2 []
abbrev boolT : MTy := .mk 3 []
abbrev zeroT : MTy := .mk 0 []

mutual
def meetTy : MTy -> MTy -> MTy
 | .mk k l, .mk k' l' => if k = 1 then .mk k' l' else if k' = 1 then .mk k l else .mk k (meetTyS l l')
def meetTyS : List MTy -> List MTy -> List MTy
 | x :: xs, y :: ys => meetTy x y :: meetTyS xs ys
 | _, _ => []
end
def lookM : List MBd -> List UInt8 -> Option MTy
 | [], _ => none
 | b :: r, s => match lookM r s with
  | some t => some t
  | none => if b.name = s then some b.ty else none

def ctxM (ctx : List MBd) : Bool := ctx.all (fun b => nameM b.name && shapeTy 4 b.ty) && decide (ctx.length <= 12)

def matchM (k : Int) (t : MTy) : Option (MTy × MTy) :=
 if t.kind = 1 then some (anyT, anyT) else if t.kind = k then match t.kids with
  | a :: b :: _ => some (a, b)
  | _ => none
 else none

def twoM (k : Int) (a b : MTy) : Option MTy := if shapeTy 4 (.mk k [a, b]) = true then some (.mk k [a, b]) else none

def nodeTy (ctx : List MBd) (k : Int) (name : List UInt8) (ty : MTy) (ts : List MTy) : Option MTy :=
 if k = 1 then lookM ctx name
 else if k = 2 then some intT
 else if k = 3 \/ k = 4 then some boolT
 else match ts with
  | [a] =>
   if k = 5 then twoM 4 ty a
   else if k = 11 then (matchM 5 a).map (·.1)
   else if k = 12 then (matchM 5 a).map (·.2)
   else if k = 13 then if consTy a ty = true then some ty else none
   else none
  | [a, b] =>
   if k = 6 then match matchM 4 a with
    | some (x, y) => if consTy b x = true then some y else none
    | none => none
   else if k = 7 then if consTy a intT = true /\ consTy b intT = true then some intT else none
   else if k = 8 then if consTy a intT = true /\ consTy b intT = true then some boolT else none
   else if k = 10 then twoM 5 a b
   else none
  | [a, b, c] => if k = 9 then if consTy b c = true /\ consTy a boolT = true then some (meetTy b c) else none else none
  | _ => none

mutual
def typeM : List MBd -> MTm -> Option MTy
 | ctx, .mk k s n t f b l => match typeMS (if k = 5 then ctx ++ [⟨s, t⟩] else ctx) l with
  | none => none
  | some ts => nodeTy ctx k s t ts
def typeMS : List MBd -> List MTm -> Option (List MTy)
 | _, [] => some []
 | ctx, e :: r => match typeM ctx e with
  | none => none
  | some t => match typeMS ctx r with
   | none => none
   | some ts => some (t :: ts)
end
def insideM (ctx : List MBd) (e : MTm) : List MBd := if e.kind = 5 then ctx ++ [⟨e.name, e.ty⟩] else ctx

theorem consTy_kind {a b : MTy} (h : consTy a b = true) (ha : a.kind ≠ 1) (hb : b.kind ≠ 1) : a.kind = b.kind /\ all2 consTy a.kids b.kids = true := by
 rw [consTy_def] at h
 simpa [ha, hb] using h

theorem shapeTy_mono : ∀ {d : Nat} {t : MTy}, shapeTy d t = true -> shapeTy (d + 1) t = true
 | 0, t, h => by simp [shapeTy] at h
 | d + 1, t, h => by
  simp only [shapeTy, Bool.and_eq_true, List.all_eq_true] at h ⊢
  exact ⟨h.1, fun u hu => by have := shapeTy_mono (h.2 u hu); simpa [shapeTy] using this⟩

def okCtx (ctx : List MBd) : Prop := ∀ b ∈ ctx, shapeTy 4 b.ty = true

end Go.Av

namespace Go.Av
attribute [-simp] Go.Av.MTy.kind_mk Go.Av.MTy.kids_mk Go.Av.MTm.kind_mk Go.Av.MTm.name_mk Go.Av.MTm.num_mk Go.Av.MTm.ty_mk Go.Av.MTm.fr_mk Go.Av.MTm.label_mk Go.Av.MTm.kids_mk
open Go

section
variable {P : Program} {n : Nat} {Q : Exit -> St -> Prop} {s s' : St} {y : Code}

structure OpsF (P : Program) (all : Array Oper) (ow : Nat -> Bool) (ws fs : List Nat) (m : Nat) (ex : List Nat) (V0 : List (List CV)) (A0 : List Arr) (K : St -> Prop) (i : Nat) (ops : List Oper) (s : St) : Prop where
 mk ::
 run : aopsF P all ow ws fs m ex V0 A0 K i ops s

theorem aopsF_go {all : Array Oper} {ow : Nat -> Bool} {ws fs : List Nat} {m : Nat} {ex : List Nat} {V0 : List (List CV)} {A0 : List Arr} {K : St -> Prop} {i : Nat} {o : Oper} {rest : List Oper}
  (h : gdo all s o (astep P s (ow i) o fun x V A => (i ∈ ws \/ (V = s.V /\ A = s.A)) /\ (i ∈ ws -> i < m -> V.take V0.length = exV ex (fun i => V.getD i []) V0 /\ A.take A0.length = A0) /\ (i ∈ fs -> freeStep P s (ow i) o ex V0 A0 x) /\ OpsF P all ow ws fs m ex V0 A0 K (i + 1) rest (s.put o.dst x V A)) (OpsF P all ow ws fs m ex V0 A0 K (i + 1) rest (s.put o.dst (.c .undef) s.V s.A))) : OpsF P all ow ws fs m ex V0 A0 K i (o :: rest) s :=
 ⟨gdo_map (fun h => astep_map (fun _ _ _ h => ⟨h.1, h.2.1, h.2.2.1, h.2.2.2.run⟩) h) (fun h => h.run) h⟩
theorem aopsF_end {all : Array Oper} {ow : Nat -> Bool} {ws fs : List Nat} {m : Nat} {ex : List Nat} {V0 : List (List CV)} {A0 : List Arr} {K : St -> Prop} {i : Nat} (h : K s) : OpsF P all ow ws fs m ex V0 A0 K i [] s := ⟨h⟩

theorem T.rdF {id : Nat} {l : List Oper} (hm : P.follows .mixedOrders = true) (ow : Nat -> Bool) (ws fs : List Nat) (m : Nat) (ex : List Nat) (hd : drawOkF l.toArray ws fs m = true) (h : ∀ K : St -> Prop, (∀ s', T P n y Q s' -> K s') -> OpsF P l.toArray ow ws fs m ex s.V s.A K 0 l s) : T P n (.seq (.region id l.toArray true) y) Q s :=
 T.seq (T.region_drawF hm ow ws fs m ex hd (h _ fun _ h => h).run)
theorem T.rdF1 {id : Nat} {l : List Oper} (hm : P.follows .mixedOrders = true) (ow : Nat -> Bool) (ws fs : List Nat) (m : Nat) (ex : List Nat) (hd : drawOkF l.toArray ws fs m = true) (h : ∀ K : St -> Prop, (∀ s', Q .normal s' -> K s') -> OpsF P l.toArray ow ws fs m ex s.V s.A K 0 l s) : T P n (.region id l.toArray true) Q s :=
 T.region_drawF hm ow ws fs m ex hd (h _ fun _ h => h).run

@[congr] theorem aopsF_cong {all : Array Oper} {ow : Nat -> Bool} {ws fs : List Nat} {m : Nat} {ex : List Nat} {V0 : List (List CV)} {A0 : List Arr} {K : St -> Prop} {i i' : Nat} {ops : List Oper} (hi : i = i') (h : s = s') : OpsF P all ow ws fs m ex V0 A0 K i ops s = OpsF P all ow ws fs m ex V0 A0 K i' ops s' := by rw [h, hi]

theorem OpsF.gen {all : Array Oper} {ow : Nat -> Bool} {ws fs : List Nat} {m : Nat} {ex : List Nat} {V0 : List (List CV)} {A0 : List Arr} {K : St -> Prop} {i : Nat} {ops : List Oper} {d : Nat} {b : Bool} {fr : List (Nat × AV)} {V : List (List CV)} {A : List Arr}
  (h : ∀ q : Bool, b = q -> OpsF P all ow ws fs m ex V0 A0 K i ops ⟨(d, .c (.d (.bool q))) :: fr, V, A⟩) : OpsF P all ow ws fs m ex V0 A0 K i ops ⟨(d, .c (.d (.bool b))) :: fr, V, A⟩ := h b rfl
end
section
variable {P : Program} {s : St} {r : AV}
theorem Done.new1 (l : Nat) {fn : Func} {e : Exit} {row : List DV} (he : e = .normal \/ e = .ret) (hr : (ares P s fn.results.toList).bind (resAs s.A [l] []) = some [r]) (hV : s.V[l]? = some (row.map CV.d)) : Done P fn 0 r (dV [row]) [] e s := by
 cases hx : ares P s fn.results.toList with
 | none => rw [hx] at hr; simp at hr
 | some xs =>
  rw [hx] at hr
  refine ⟨he, [l], [], xs, [r], hx, List.nodup_nil, by simp, by simp, hr, rfl, ?_, rfl⟩
  refine resVs_d [l] [row] rfl ?_
  intro j l' row' h1 h2
  match j with
  | 0 => simp at h1 h2; subst h1; subst h2; exact hV
  | j + 1 => simp at h1
end
attribute [simp] freeStep exV
end Go.Av

namespace Go.Av
open Go

def rB (b : List Int) : List (List DV) := b.map fun n => [.int .u8 n]
def okB (b : List Int) : Prop := (∀ n ∈ b, 0 <= n /\ n <= 255) /\ b.length <= 2000
abbrev rd (b : List Int) (p : Nat) : List DV := [.sl (rB b), .i p]

theorem rB_len (b : List Int) : (rB b).length = b.length := by simp [rB]
theorem rB_at {b : List Int} {i : Nat} (h : i < b.length) : (rB b)[i]? = some [.int .u8 b[i]] := by simp [rB, h]

theorem rB_get {b : List Int} {i : Nat} (h : i < (rB b).length) : (rB b)[i] = [.int .u8 (b[i]'(by simpa [rB] using h))] := by simp [rB]

theorem tmod_lt {a n : Int} (ha : 0 <= a) (hn : 0 < n) : 0 <= a.tmod n /\ a.tmod n < n := by
 rw [Int.tmod_eq_emod_of_nonneg ha]
 exact ⟨Int.emod_nonneg _ (by omega), Int.emod_lt_of_pos _ hn⟩
theorem tdiv_le {a n : Int} (ha : 0 <= a) (hn : 0 < n) : 0 <= a.tdiv n /\ a.tdiv n <= a := by
 rw [Int.tdiv_eq_ediv_of_nonneg ha]
 exact ⟨Int.ediv_nonneg ha (by omega), Int.ediv_le_self _ ha⟩

theorem xor_bound {x y : Int} (hx : 0 <= x) (hx' : x < 4611686018427387904) (hy : 0 <= y) (hy' : y < 4611686018427387904) : 0 <= bitI .xor .i64 x y /\ bitI .xor .i64 x y < 4611686018427387904 := by
 have h1 : (BitVec.ofInt 64 x).toNat = x.toNat := by
  rw [BitVec.toNat_ofInt, Int.emod_eq_of_lt hx (by omega)]
 have h2 : (BitVec.ofInt 64 y).toNat = y.toNat := by
  rw [BitVec.toNat_ofInt, Int.emod_eq_of_lt hy (by omega)]
 have h3 : (BitVec.ofInt 64 x ^^^ BitVec.ofInt 64 y).toNat = x.toNat ^^^ y.toNat := by rw [BitVec.toNat_xor, h1, h2]
 have h4 : x.toNat ^^^ y.toNat < 2 ^ 62 := Nat.xor_lt_two_pow (by omega) (by omega)
 have h5 : bitI .xor .i64 x y = IntKind.i64.wrap ((x.toNat ^^^ y.toNat : Nat) : Int) := by
  show IntKind.i64.wrap ((BitVec.ofInt 64 x ^^^ BitVec.ofInt 64 y).toNat : Int) = _
  rw [h3]
 rw [h5, wrap64 (by omega) (by omega)]
 omega
end Go.Av
