/- Lists, without a program: two lists side by side; where a test first holds. -/
import Derived.Test.YtdbffbmbbfbamaaA17
namespace Go.Av
open Go

/-- Two lists of one length, whose elements stand in a relation, in order. -/
def all2 {α β : Type} (q : α → β → Bool) : List α → List β → Bool
  | [], [] => true
  | x :: xs, y :: ys => q x y && all2 q xs ys
  | _, _ => false

theorem all2_len {α β : Type} {q : α → β → Bool} : ∀ {xs : List α} {ys : List β}, all2 q xs ys = true → xs.length = ys.length
  | [], [], _ => rfl
  | x :: xs, y :: ys, h => by simp [all2] at h; simp [all2_len h.2]
  | [], _ :: _, h => by simp [all2] at h
  | _ :: _, [], h => by simp [all2] at h

theorem all2_ne {α β : Type} {q : α → β → Bool} {xs : List α} {ys : List β} (h : xs.length ≠ ys.length) : all2 q xs ys = false := by
  cases hq : all2 q xs ys
  · rfl
  · exact absurd (all2_len hq) h

/-- The first index at which a test holds, or -1. -/
def firstIx {α : Type} (q : α → Bool) : List α → Int → Int
  | [], _ => -1
  | x :: xs, i => if q x = true then i else firstIx q xs (i + 1)

theorem firstIx_any {α : Type} {q : α → Bool} : ∀ {xs : List α} {i : Int}, 0 ≤ i → (decide (0 ≤ firstIx q xs i) = xs.any q)
  | [], i, _ => by simp [firstIx]
  | x :: xs, i, h => by
    by_cases hq : q x = true
    · simp [firstIx, hq, h]
    · have hr := firstIx_any (q := q) (xs := xs) (i := i + 1) (by omega)
      simp only [firstIx, hq, List.any_cons]
      simpa using hr

theorem not_any_not {α : Type} (p : α → Bool) : ∀ (l : List α), (!l.any fun x => !p x) = l.all p
  | [] => rfl
  | x :: l => by simp [← not_any_not p l, Bool.not_or]

theorem drop_cons {α : Type} {l : List α} {p : Nat} (h : p < l.length) : l.drop p = l[p] :: l.drop (p + 1) := by rw [List.drop_eq_getElem_cons h]

@[simp] theorem get_app_len {α : Type} (G X : List α) (k : Nat) : (G ++ X)[G.length + k]? = X[k]? := by
  rw [List.getElem?_append_right (by omega)]; congr 1; omega
@[simp] theorem get_app_len0 {α : Type} (G X : List α) : (G ++ X)[G.length]? = X[0]? := by
  rw [List.getElem?_append_right (by omega)]; congr 1; omega
@[simp] theorem set_app_len {α : Type} (G X : List α) (k : Nat) (v : α) : (G ++ X).set (G.length + k) v = G ++ X.set k v := by
  rw [List.set_append_right _ _ (by omega)]; congr 2; omega
@[simp] theorem set_app_len0 {α : Type} (G X : List α) (v : α) : (G ++ X).set G.length v = G ++ X.set 0 v := by
  rw [List.set_append_right _ _ (by omega)]; congr 2; omega

theorem all2_cons {α β : Type} {q : α → β → Bool} {x : α} {y : β} {xs : List α} {ys : List β} : all2 q (x :: xs) (y :: ys) = (q x y && all2 q xs ys) := rfl
theorem all2_nil {α β : Type} {q : α → β → Bool} : all2 q [] ([] : List β) = true := rfl

/-- How many objects a contract names. -/
abbrev ptrs (n : Nat) : List AV := (List.range n).map fun l => .c (.ptr l 0)

section
variable {P : Program} {s : St} {A : List Arr} {f : FuncId} {xs as : List AV} {r : AV} {K : AV → List (List CV) → List Arr → Prop}
/-- A call that takes one object of plain data and leaves it as it is. -/
theorem wpcall_obj1 (l : Nat) (row : List DV) (hrow : s.V[l]? = some (row.map CV.d)) (hin : innAs s.A [l] xs = some as) (hc : ACalls P f as (dV [row]) r (dV [row]) [])
    (hK : K (r.outn [l] s.V.length s.A.length) s.V (sealAs s.A (argCells xs))) : wpcall P s f xs K := by
  refine wpcall_objs [l] [row] (by simp) rfl ?_ hin hc hK
  intro j l' row' h1 h2
  match j with
  | 0 => simp at h1 h2; subst h1; subst h2; exact hrow
  | j + 1 => simp at h1

/-- A call that takes one object of plain data and changes it. -/
theorem wpcall_upd1 (l : Nat) (row row' : List DV) (hrow : s.V[l]? = some (row.map CV.d)) (hin : innAs s.A [l] xs = some as) (hc : ACalls P f as (dV [row]) r (dV [row']) [])
    (hK : K (r.outn [l] s.V.length s.A.length) (s.V.set l (row'.map CV.d)) (sealAs s.A (argCells xs))) : wpcall P s f xs K := by
  refine ⟨[l], as, dV [row], r, dV [row'], [], by simp, hin, innVs_d [l] [row] rfl ?_, hc, ?_⟩
  · intro j l' row'' h1 h2
    match j with
    | 0 => simp at h1 h2; subst h1; subst h2; exact hrow
    | j + 1 => simp at h1
  · obtain ⟨ds, hd⟩ := objCells_d (V := s.V) [l] [row] rfl (by
      intro j l' row'' h1 h2
      match j with
      | 0 => simp at h1 h2; subst h1; subst h2; exact hrow
      | j + 1 => simp at h1)
    rw [hd, sealAs_append, sealAs_d, List.append_nil]
    have hm : (row'.map CV.d).map (CV.outn [l] s.V.length s.A.length) = row'.map CV.d := by simp [List.map_map, Function.comp_def]
    have hp : putBack s.A.length s.V.length [l] s.V [l] (dV [row']) = s.V.set l (row'.map CV.d) := by
      simp only [dV, List.map_cons, List.map_nil, putBack, hm, List.append_nil]
    rw [hp]; exact hK

theorem Done.obj1 {fn : Func} {e : Exit} {row : List DV} (he : e = .normal ∨ e = .ret) (hr : ares P s fn.results.toList = some [r]) (hx : r.res1 s.A [0] [] = some r)
    (hV : s.V[0]? = some (row.map CV.d)) : Done P fn 1 r (dV [row]) [] e s := by
  refine Done.objs (rows := [row]) rfl he hr hx ?_
  intro l row' h
  match l with
  | 0 => simp at h; subst h; exact hV
  | l + 1 => simp at h
end

section
variable {P : Program} {n : Nat} {Q : Exit → St → Prop} {s : St} {x y : Code}
/-- A cut: what comes behind goes on from a state of which all ways through the first part are an instance. -/
def Cut (S : St) (Q : Exit → St → Prop) : Exit → St → Prop
  | .normal, s' => Sub S s'
  | e, s' => Q e s'
theorem T.cut (S : St) (h1 : T P n x (Cut S Q) s) (h2 : T P n y Q S) : T P n (.seq x y) Q s := by
  refine T.seq (T.mono h1 fun e s' h => ?_)
  cases e with
  | normal => exact T.sub h2 h
  | _ => exact h
end
end Go.Av
