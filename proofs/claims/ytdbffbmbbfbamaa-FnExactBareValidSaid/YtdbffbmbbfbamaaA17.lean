/- Calls that take objects of plain data and leave them as they are: closures with captured variables that are only read. -/
import Derived.Test.YtdbffbmbbfbamaaA16
namespace Go.Av
open Go

/-- Objects of plain data. -/
abbrev dV (rows : List (List DV)) : List (List CV) := rows.map fun r => r.map CV.d

section
variable {P : Program} {s : St} {A : List Arr} {f : FuncId} {xs as : List AV} {r : AV} {K : AV → List (List CV) → List Arr → Prop}

theorem inns_d {ids : List Nat} : ∀ (r : List DV), inns A ids (r.map CV.d) = some (r.map CV.d)
  | [] => rfl
  | x :: r => by simp [inns_d r]

theorem ress_d {os ks : List Nat} : ∀ (r : List DV), ress A os ks (r.map CV.d) = some (r.map CV.d)
  | [] => rfl
  | x :: r => by simp [ress_d r]

theorem innVs_d {ids : List Nat} {V : List (List CV)} : ∀ (ls : List Nat) (rows : List (List DV)), ls.length = rows.length → (∀ (j l : Nat) row, ls[j]? = some l → rows[j]? = some row → V[l]? = some (row.map CV.d)) → innVs A V ids ls = some (dV rows)
  | [], [], _, _ => rfl
  | l :: ls, row :: rows, hl, h => by
    simp only [innVs, h 0 l row rfl rfl, innVs_d ls rows (by simpa using hl) (fun j l row h1 h2 => h (j + 1) l row (by simpa using h1) (by simpa using h2)), inns_d]
    rfl
  | [], _ :: _, hl, _ => by simp at hl
  | _ :: _, [], hl, _ => by simp at hl

theorem resVs_d {os ks : List Nat} {V : List (List CV)} : ∀ (ls : List Nat) (rows : List (List DV)), ls.length = rows.length → (∀ (j l : Nat) row, ls[j]? = some l → rows[j]? = some row → V[l]? = some (row.map CV.d)) → resVs A V os ks ls = some (dV rows)
  | [], [], _, _ => rfl
  | l :: ls, row :: rows, hl, h => by
    simp only [resVs, h 0 l row rfl rfl, resVs_d ls rows (by simpa using hl) (fun j l row h1 h2 => h (j + 1) l row (by simpa using h1) (by simpa using h2)), ress_d]
    rfl
  | [], _ :: _, hl, _ => by simp at hl
  | _ :: _, [], hl, _ => by simp at hl

theorem putBack_same {nA nV : Nat} {ids : List Nat} : ∀ (ls : List Nat) (rows : List (List DV)) (V : List (List CV)), ls.length = rows.length → (∀ (j l : Nat) row, ls[j]? = some l → rows[j]? = some row → V[l]? = some (row.map CV.d)) → putBack nA nV ids V ls (dV rows) = V
  | [], [], V, _, _ => by simp [putBack]
  | l :: ls, row :: rows, V, hl, h => by
    have h0 := h 0 l row rfl rfl
    have hm : (row.map CV.d).map (CV.outn ids nV nA) = row.map CV.d := by simp [List.map_map, Function.comp_def]
    have hset : V.set l (row.map CV.d) = V := by
      obtain ⟨h1, h2⟩ := List.getElem?_eq_some_iff.1 h0
      rw [← h2]; simp
    simp only [dV, List.map_cons, putBack, hm, hset]
    exact putBack_same ls rows V (by simpa using hl) (fun j l row h1 h2 => h (j + 1) l row (by simpa using h1) (by simpa using h2))
  | [], _ :: _, _, hl, _ => by simp at hl
  | _ :: _, [], _, hl, _ => by simp at hl

theorem objCells_d {V : List (List CV)} : ∀ (ls : List Nat) (rows : List (List DV)), ls.length = rows.length → (∀ (j l : Nat) row, ls[j]? = some l → rows[j]? = some row → V[l]? = some (row.map CV.d)) → ∃ ds : List DV, objCells V ls = ds.map CV.d
  | [], [], _, _ => ⟨[], rfl⟩
  | l :: ls, row :: rows, hl, h => by
    obtain ⟨ds, hd⟩ := objCells_d ls rows (by simpa using hl) (fun j l row h1 h2 => h (j + 1) l row (by simpa using h1) (by simpa using h2))
    refine ⟨row ++ ds, ?_⟩
    have h0 := h 0 l row rfl rfl
    simp only [objCells, List.flatMap_cons] at hd ⊢
    rw [hd]
    simp [List.getD, h0]
  | [], _ :: _, hl, _ => by simp at hl
  | _ :: _, [], hl, _ => by simp at hl

theorem sealAs_d : ∀ (ds : List DV) (A : List Arr), sealAs A (ds.map CV.d) = A
  | [], A => rfl
  | d :: ds, A => by
    simp only [List.map_cons, sealAs, List.foldl_cons, sealA]
    exact sealAs_d ds A

theorem sealAs_append (A : List Arr) (cs ds : List CV) : sealAs A (cs ++ ds) = sealAs (sealAs A cs) ds := by simp [sealAs]

/-- A call that takes the objects 'ids', of plain data, and leaves them as they are. -/
theorem wpcall_objs (ids : List Nat) (rows : List (List DV)) (hnd : ids.Nodup) (hlen : ids.length = rows.length) (hrows : ∀ (j l : Nat) row, ids[j]? = some l → rows[j]? = some row → s.V[l]? = some (row.map CV.d)) (hin : innAs s.A ids xs = some as) (hc : ACalls P f as (dV rows) r (dV rows) [])
    (hK : K (r.outn ids s.V.length s.A.length) s.V (sealAs s.A (argCells xs))) : wpcall P s f xs K := by
  refine ⟨ids, as, dV rows, r, dV rows, [], hnd, hin, innVs_d ids rows hlen hrows, hc, ?_⟩
  rw [putBack_same ids rows s.V hlen hrows]
  obtain ⟨ds, hd⟩ := objCells_d ids rows hlen hrows
  rw [hd, sealAs_append, sealAs_d, List.append_nil]
  exact hK

/-- A body that is done and leaves its objects of plain data as they were. -/
theorem Done.objs {fn : Func} {e : Exit} {rows : List (List DV)} {m : Nat} (hm : m = rows.length) (he : e = .normal ∨ e = .ret) (hr : ares P s fn.results.toList = some [r]) (hx : r.res1 s.A (List.range rows.length) [] = some r)
    (hV : ∀ (l : Nat) row, rows[l]? = some row → s.V[l]? = some (row.map CV.d)) : Done P fn m r (dV rows) [] e s := by
  subst hm
  refine ⟨he, [], [], [r], [r], hr, List.nodup_nil, List.nodup_nil, by simp, ?_, rfl, ?_, rfl⟩
  · rw [List.append_nil]; simp only [resAs, hx]
  rw [List.append_nil]
  refine resVs_d (List.range rows.length) rows (by simp) fun j l row h1 h2 => ?_
  have hj : j < rows.length := (List.getElem?_eq_some_iff.1 h2).1
  simp [hj] at h1
  subst h1
  exact hV j row h2
end
end Go.Av
