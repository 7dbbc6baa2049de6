/- A part of the library of this seat. -/
import Derived.Test.YtcgmmknfpfdghaaGreatDoorC5
import Derived.ProofKit
import Derived.Carry
set_option linter.unusedVariables false
set_option linter.unusedSimpArgs false
namespace Go.Av
attribute [-simp] Go.Av.astep Go.Av.wpo Go.Av.gdo Go.Av.onv Go.Av.aval Go.Av.avals Go.Av.oval Go.Av.slow Go.Av.shigh Go.Av.alen Go.Av.rowsOf Go.Av.look Go.Av.cvOf Go.Av.St.put Go.Av.cellsAt Go.Av.mkV Go.Av.splice Go.Av.abin Go.Av.aun Go.Av.abinS Go.Av.abinB Go.Av.cEq Go.Av.AV.plain Go.Av.AV.cells Go.Av.CV.isUndef Go.Av.toD Go.Av.toDs Go.Av.toRows Go.Av.sealA Go.Av.sealAs Go.Av.innAs Go.Av.AV.inn Go.Av.CV.inn Go.Av.inns Go.Av.AV.outn Go.Av.CV.outn Go.Av.argCells Go.Av.aparts Go.Av.arows Go.Av.afill Go.Av.isS Go.Av.ares Go.Av.ares1 Go.Av.AV.res1 Go.Av.CV.res Go.Av.ress Go.Av.pos? Go.Av.poss Go.Av.Then Go.Av.InBlock Go.Av.Sub Go.Av.subL Go.Av.argFr Go.Av.get_app_len Go.Av.get_app_len0 Go.Av.set_app_len Go.Av.set_app_len0 Go.Av.MTy.kind_mk Go.Av.MTy.kids_mk Go.Av.MTm.kind_mk Go.Av.MTm.name_mk Go.Av.MTm.num_mk Go.Av.MTm.ty_mk Go.Av.MTm.fr_mk Go.Av.MTm.label_mk Go.Av.MTm.kids_mk Go.Av.freeStep Go.Av.exV Go.Av.keepL Go.Av.ups Go.Av.take_app_len Go.Av.MCo.kind_mk Go.Av.MCo.tag_mk Go.Av.MCo.label_mk Go.Av.MCo.kids_mk Go.Av.innVs Go.Av.putBack Go.Av.objCells Go.Av.back Go.Av.resVs Go.Av.one Go.Av.freeStepG Go.Av.exA Go.Av.innAsH Go.Av.AV.innH Go.Av.CV.innH Go.Av.innHs Go.Av.AV.outnH Go.Av.CV.outnH Go.Av.astepJ Go.Av.relC Go.Av.relL Go.Av.relV Go.Av.relVs Go.Av.callJ
open Go Go.ChangeShapes Go.WideShapes Go.ChangeAt Go.RowKit

def leafsFs (P : Program) (L : TypeId -> Option (List TypeId)) : Nat -> List Field -> Option (List TypeId)
 | _, [] => some []
 | off, f :: r => match L f.type with
  | some l => if f.offset = off /\ P.cellsOf f.type = l.length then (leafsFs P L (off + l.length) r).map (l ++ ·) else none
  | none => none

def leafsN (P : Program) : Nat -> TypeId -> Option (List TypeId)
 | 0, _ => none
 | k + 1, t => match P.underlying t with
  | some (.struct fs) => match leafsFs P (leafsN P k) 0 fs.toList with
   | some ls => if P.cellsOf t = ls.length then some ls else none
   | none => none
  | some .bool | some (.int _) | some .string | some (.slice _) => if P.cellsOf t = 1 then some [t] else none
  | _ => none

def leafs (P : Program) (t : TypeId) : Option (List TypeId) := leafsN P 8 t

def plainS (P : Program) (S : List TypeId) : Bool := S.all fun t =>
 match P.underlying t with
 | some .bool | some (.int _) | some .string => true
 | some (.slice e) => match leafs P e with
  | some ls => ls.all S.contains && P.cellsOf e == ls.length && decide (0 < ls.length)
  | none => false
 | _ => false

mutual
def TyD (P : Program) : TypeId -> DV -> Prop
 | t, .int k n => P.underlying t = some (.int k) /\ (Lit.int k n).wf = true
 | t, .bool _ => P.underlying t = some .bool
 | t, .str s => P.underlying t = some .string /\ s.length <= Go.maxLen
 | t, .sl rows => ∃ e ls, P.underlying t = some (.slice e) /\ leafs P e = some ls /\ rows.length <= Go.maxLen /\ TyRows P ls rows
 | _, .raw _ => False
def TyRows (P : Program) : List TypeId -> List (List DV) -> Prop
 | _, [] => True
 | ls, r :: rs => TyRow P ls r /\ TyRows P ls rs
def TyRow (P : Program) : List TypeId -> List DV -> Prop
 | [], [] => True
 | t :: ts, x :: xs => TyD P t x /\ TyRow P ts xs
 | _, _ => False
end

theorem TyRow.len {P : Program} : ∀ {ls : List TypeId} {xs : List DV}, TyRow P ls xs -> xs.length = ls.length
 | [], [], _ => rfl
 | _ :: _, _ :: _, h => by simp only [TyRow] at h; simp [TyRow.len h.2]
 | [], _ :: _, h => by simp [TyRow] at h
 | _ :: _, [], h => by simp [TyRow] at h

theorem TyRows.mk {P : Program} {ls : List TypeId} : ∀ {rows : List (List DV)}, (∀ r ∈ rows, TyRow P ls r) -> TyRows P ls rows
 | [], _ => trivial
 | r :: rs, h => ⟨h r (by simp), TyRows.mk fun r hr => h r (by simp [hr])⟩

theorem TyRows.at_ {P : Program} {ls : List TypeId} : ∀ {rows : List (List DV)}, TyRows P ls rows -> ∀ r ∈ rows, TyRow P ls r
 | [], _, r, hr => by simp at hr
 | x :: xs, h, r, hr => by
  simp only [List.mem_cons] at hr
  rcases hr with rfl | hr
  ·exact h.1
  ·exact TyRows.at_ h.2 r hr

def imOf (w : World) (b : Nat) : Nat := match w.heap[b]? with
 | some (.cells cs _ _) => cs.size
 | _ => 0

theorem imOf_cell {w : World} {a : Addr} {v : Value} (h : w.cell? a = some v) : a.spot = none /\ a.off < imOf w a.block := by
 unfold World.cell? at h
 split at h
 ·rename_i c _ _ hb
  split at h
  ·simp at h
  ·rename_i hs
   refine ⟨by simpa using hs, ?_⟩
   simp only [imOf, hb]
   exact (Array.getElem?_eq_some_iff.1 h).1
 ·simp at h

theorem TyRow.append {P : Program} : ∀ {ls ls' : List TypeId} {xs xs' : List DV}, TyRow P ls xs -> TyRow P ls' xs' -> TyRow P (ls ++ ls') (xs ++ xs')
 | [], _, [], _, _, h => h
 | _ :: _, _, _ :: _, _, h, h' => by
  simp only [TyRow] at h
  simp only [List.cons_append, TyRow]
  exact ⟨h.1, TyRow.append h.2 h'⟩
 | [], _, _ :: _, _, h, _ => by simp [TyRow] at h
 | _ :: _, _, [], _, h, _ => by simp [TyRow] at h

section
variable {H : Type} {enc : TypeId × Value -> H} {P : Program} {w : World} {base : Nat} {spare : Nat -> Bool} {held : Bool}

theorem choose_list {α : Type} {p : Nat -> α -> Prop} : ∀ (n : Nat), (∀ i, i < n -> ∃ x, p i x) -> ∃ l : List α, l.length = n /\ ∀ (i : Nat) x, l[i]? = some x -> p i x
 | 0, _ => ⟨[], rfl, fun i x h => by simp at h⟩
 | n + 1, h => by
  obtain ⟨l, h1, h2⟩ := choose_list n fun i hi => h i (by omega)
  obtain ⟨x, hx⟩ := h n (by omega)
  refine ⟨l ++ [x], by simp [h1], fun i y hy => ?_⟩
  by_cases hi : i < l.length
  ·rw [List.getElem?_append_left hi] at hy; exact h2 i y hy
  ·rw [List.getElem?_append_right (by omega)] at hy
   have : i - l.length = 0 := by
    have := (List.getElem?_eq_some_iff.1 hy).1
    simp at this; omega
   rw [this] at hy
   simp at hy; subst hy
   rw [show i = n by omega]; exact hx

theorem fields_of_leafs {S : List TypeId} {L : TypeId -> Option (List TypeId)} {n : Nat} {cs : List Value}
  (ih : ∀ e ls, L e = some ls -> (∀ t ∈ ls, t ∈ S) -> ∀ cs' (y : DataW H × List MemPlace), DataW.trod enc P w base spare held n e cs' = some y -> ∃ ds, ds.length = cs'.length /\ TyRow P ls ds /\ ∀ (j : Nat) d u, ds[j]? = some d -> cs'[j]? = some u -> RepD (imOf w) w d u) :
  ∀ {fs : List Field} {off : Nat} {ls : List TypeId}, leafsFs P L off fs = some ls -> (∀ t ∈ ls, t ∈ S) -> (∀ f ∈ fs, ∃ y : DataW H × List MemPlace, DataW.trod enc P w base spare held n f.type ((cs.drop f.offset).take (P.cellsOf f.type)) = some y) -> off + ls.length <= cs.length ->
   ∃ ds, ds.length = ls.length /\ TyRow P ls ds /\ ∀ (j : Nat) d u, ds[j]? = some d -> cs[off + j]? = some u -> RepD (imOf w) w d u
 | [], off, ls, h, _, _, _ => by
  simp [leafsFs] at h; subst h
  exact ⟨[], rfl, trivial, fun j d u h => by simp at h⟩
 | f :: fs, off, ls, h, hs, ht, hle => by
  simp only [leafsFs] at h
  split at h
  ·rename_i l hl
   split at h
   ·rename_i hoc
    simp only [Option.map_eq_some_iff] at h
    obtain ⟨ls', h1, rfl⟩ := h
    obtain ⟨y, hy⟩ := ht f (by simp)
    simp only [List.length_append] at hle
    obtain ⟨ds, h2, h3, h4⟩ := ih f.type l hl (fun t h => hs t (by simp [h])) _ y hy
    obtain ⟨ds', h5, h6, h7⟩ := fields_of_leafs ih h1 (fun t h => hs t (by simp [h])) (fun f' h => ht f' (by simp [h])) (by omega)
    have hlen : ds.length = l.length := TyRow.len h3
    refine ⟨ds ++ ds', by simp [hlen, h5], TyRow.append h3 h6, fun j d u h8 h9 => ?_⟩
    by_cases hj : j < ds.length
    ·rw [List.getElem?_append_left hj] at h8
     refine h4 j d u h8 ?_
     rw [hoc.1, hoc.2, List.getElem?_take, if_pos (by omega), List.getElem?_drop]
     exact h9
    ·rw [List.getElem?_append_right (by omega)] at h8
     refine h7 (j - ds.length) d u h8 ?_
     rw [<- h9]; congr 1; omega
   ·simp at h
  ·simp at h

theorem row_of_leafsN {S : List TypeId} {N : Nat} (ih : ∀ fuel, fuel < N -> ∀ t, t ∈ S -> ∀ cs x, DataW.trod enc P w base spare held fuel t cs = some x -> ∃ u d, cs = [u] /\ RepD (imOf w) w d u /\ TyD P t d) :
  ∀ (k fuel : Nat), fuel < N -> ∀ (e : TypeId) (ls : List TypeId), leafsN P k e = some ls -> (∀ t ∈ ls, t ∈ S) -> ∀ (cs : List Value) (y : DataW H × List MemPlace), DataW.trod enc P w base spare held fuel e cs = some y ->
  ∃ ds, ds.length = cs.length /\ TyRow P ls ds /\ ∀ (j : Nat) d u, ds[j]? = some d -> cs[j]? = some u -> RepD (imOf w) w d u
 | 0, _, _, e, ls, hl, _, _, _, _ => by simp [leafsN] at hl
 | k + 1, fuel, hN, e, ls, hl, hs, cs, y, h => by
  have one : ls = [e] -> ∃ ds, ds.length = cs.length /\ TyRow P ls ds /\ ∀ (j : Nat) d u, ds[j]? = some d -> cs[j]? = some u -> RepD (imOf w) w d u := by
   intro he
   subst he
   obtain ⟨u, d, rfl, h1, h2⟩ := ih fuel hN e (hs e (by simp)) cs y h
   refine ⟨[d], rfl, ⟨h2, trivial⟩, fun j d' u' h3 h4 => ?_⟩
   cases j with
   | zero => simp at h3 h4; subst h3; subst h4; exact h1
   | succ j => simp at h3
  unfold leafsN at hl
  split at hl
  ·rename_i fs hu
   split at hl
   ·rename_i ls' hl'
    split at hl
    ·rename_i hsz
     simp only [Option.some.injEq] at hl
     subst hl
     obtain ⟨xs, n, rfl, rfl, hcl, hxl, hf⟩ := DataW.trod_struct hu h
     obtain ⟨ds, h1, h2, h3⟩ := fields_of_leafs (S := S) (L := leafsN P k) (n := n) (cs := cs) (enc := enc) (base := base) (spare := spare) (held := held) (fun e ls hl hs cs' y hy => row_of_leafsN ih k n (by omega) e ls hl hs cs' y hy) hl' hs (fun f hf' => by
      obtain ⟨i, hi⟩ := List.getElem?_of_mem hf'
      have h6 := hf i f (Array.getElem?_toList.symm.trans hi)
      have hix : i < xs.length := by
       rw [hxl, <- Array.length_toList]
       exact (List.getElem?_eq_some_iff.1 hi).1
      rw [List.getElem?_eq_getElem hix] at h6
      exact ⟨_, h6⟩) (by omega)
     exact ⟨ds, by omega, h2, fun j d u h4 h5 => h3 j d u h4 (by rw [Nat.zero_add]; exact h5)⟩
    ·simp at hl
   ·simp at hl
  ·split at hl
   ·simp at hl; exact one hl.symm
   ·simp at hl
  ·split at hl
   ·simp at hl; exact one hl.symm
   ·simp at hl
  ·split at hl
   ·simp at hl; exact one hl.symm
   ·simp at hl
  ·split at hl
   ·simp at hl; exact one hl.symm
   ·simp at hl
  ·simp at hl

theorem row_of_leafs {S : List TypeId} {N : Nat} (ih : ∀ fuel, fuel < N -> ∀ t, t ∈ S -> ∀ cs x, DataW.trod enc P w base spare held fuel t cs = some x -> ∃ u d, cs = [u] /\ RepD (imOf w) w d u /\ TyD P t d) {fuel : Nat} (hN : fuel < N)
  {e : TypeId} {ls : List TypeId} (hl : leafs P e = some ls) (hs : ∀ t ∈ ls, t ∈ S) {cs : List Value} {y : DataW H × List MemPlace} (h : DataW.trod enc P w base spare held fuel e cs = some y) :
  ∃ ds, ds.length = cs.length /\ TyRow P ls ds /\ ∀ (j : Nat) d u, ds[j]? = some d -> cs[j]? = some u -> RepD (imOf w) w d u := row_of_leafsN ih 8 fuel hN e ls hl hs cs y h

theorem addr_add_add (a : Addr) (i j : Nat) : (a.add i).add j = a.add (i + j) := by
 unfold Addr.add
 by_cases hi : i = 0 <;> by_cases hj : j = 0 <;> simp [hi, hj, Nat.add_assoc]

theorem leaf_of_trod {S : List TypeId} (hS : plainS P S = true) : ∀ (fuel : Nat) (t : TypeId), t ∈ S -> ∀ cs x, DataW.trod enc P w base spare held fuel t cs = some x -> ∃ u d, cs = [u] /\ RepD (imOf w) w d u /\ TyD P t d := by
 intro fuel
 induction fuel using Nat.strongRecOn with
 | _ fuel ih =>
  intro t ht cs x h
  have hk := List.all_eq_true.1 hS t ht
  split at hk
  ·rename_i hu
   obtain ⟨b, rfl, _⟩ := DataW.trod_bool hu h
   exact ⟨_, .bool b, rfl, rfl, hu⟩
  ·rename_i k hu
   obtain ⟨n, rfl, _, hw⟩ := DataW.trod_int hu h
   exact ⟨_, .int k n, rfl, rfl, hu, hw⟩
  ·rename_i hu
   obtain ⟨s, rfl, _, hw⟩ := DataW.trod_string hu h
   refine ⟨_, .str s.data.toList, rfl, ?_, hu, ?_⟩
   ·obtain ⟨⟨l⟩⟩ := s
    rfl
   ·exact hw
  ·rename_i e hu
   split at hk
   ·rename_i ls hl
    simp only [Bool.and_eq_true, List.all_eq_true, beq_iff_eq, List.contains_iff_mem, decide_eq_true_eq] at hk
    rcases DataW.trod_slice hu h with ⟨rfl, _⟩ | ⟨a, len, cap, elems, rest, n, rfl, rfl, _, _, hle, hm, hel, hx, _, _⟩
    ·refine ⟨_, .sl [], rfl, ?_, e, ls, hu, hl, by simp, trivial⟩
     simp only [RepD]
     exact ⟨none, 0, rfl, Nat.le_refl _, .inl trivial⟩
    ·have hrow : ∀ i, i < len -> ∃ ds, ds.length = P.cellsOf e /\ TyRow P ls ds /\ ∀ (j : Nat) d, ds[j]? = some d -> ∃ u, w.cell? (a.add (i * P.cellsOf e + j)) = some u /\ RepD (imOf w) w d u := by
      intro i hi
      have h1 := hx i hi
      rw [List.getElem?_eq_getElem (by omega)] at h1
      obtain ⟨cs', h2, h3⟩ := Option.bind_eq_some_iff.1 h1
      obtain ⟨_, h4, h5⟩ := World.cells?_some h2
      obtain ⟨ds, h6, h7, h8⟩ := row_of_leafs (S := S) (N := n + 1) (fun f hf t' ht' cs x hx' => ih f (by omega) t' ht' cs x hx') (Nat.lt_succ_self n) hl hk.1.1 h3
      refine ⟨ds, by omega, h7, fun j d hj => ?_⟩
      have hjl : j < cs'.length := by have := (List.getElem?_eq_some_iff.1 hj).1; omega
      have h9 := h5 j (by omega)
      rw [addr_add_add, List.getElem?_eq_getElem hjl] at h9
      exact ⟨_, h9, h8 j d _ hj (List.getElem?_eq_getElem hjl)⟩
     obtain ⟨rows, hrl, hr⟩ := choose_list len hrow
     refine ⟨_, .sl rows, rfl, ?_, e, ls, hu, hl, by omega, TyRows.mk fun r hr' => ?_⟩
     ·simp only [RepD]
      refine ⟨some a, cap, by rw [hrl], by omega, ?_⟩
      by_cases h0 : rows = []
      ·exact .inl h0
      right
      have hlen0 : 0 < len := by
       cases rows with
       | nil => exact absurd rfl h0
       | cons r rs => simp at hrl; omega
      have hat : ∀ i j, i < len -> j < P.cellsOf e -> ∃ u, w.cell? (a.add (i * P.cellsOf e + j)) = some u := by
       intro i j hi hj
       obtain ⟨ds, h1, h2, h3⟩ := hrow i hi
       obtain ⟨u, h4, _⟩ := h3 j _ (List.getElem?_eq_getElem (show j < ds.length by omega))
       exact ⟨u, h4⟩
      have hpos : 0 < P.cellsOf e := by omega
      have hspot : a.spot = none := by
       obtain ⟨u, h4⟩ := hat 0 0 hlen0 hpos
       have := (imOf_cell h4).1
       simpa [Addr.add] using this
      have hadd : ∀ k, a.add k = ⟨a.block, a.off + k, none⟩ := by
       intro k
       obtain ⟨b, o, sp⟩ := a
       simp only at hspot
       subst hspot
       unfold Addr.add
       by_cases hk0 : k = 0 <;> simp [hk0]
      refine ⟨a.block, a.off, P.cellsOf e, congrArg some (hadd 0), ?_, RepRows.mk fun i r hi => ?_⟩
      ·obtain ⟨u, h4⟩ := hat (len - 1) (P.cellsOf e - 1) (by omega) (by omega)
       have h5 := (imOf_cell h4).2
       rw [hadd] at h5
       simp only at h5
       have h6 : rows.length * P.cellsOf e = (len - 1) * P.cellsOf e + P.cellsOf e := by
        rw [hrl, <- Nat.succ_mul]
        congr 1; omega
       omega
      ·obtain ⟨h1, h2, h3⟩ := hr i r hi
       refine ⟨h1, RepRow.mk fun j x hj => ?_⟩
       obtain ⟨u, h4, h5⟩ := h3 j x hj
       rw [hadd] at h4
       exact ⟨u, by rw [<- h4]; congr 2; omega, h5⟩
     ·obtain ⟨i, hi⟩ := List.getElem?_of_mem hr'
      exact (hr i r hi).2.1
   ·simp at hk
  ·simp at hk

def TyV (P : Program) (t : TypeId) : AV -> Prop
 | .c (.d x) => agD ((P.underlying t).getD .bool) = false /\ TyD P t x
 | .agg xs => agD ((P.underlying t).getD .bool) = true /\ ∃ ls ds, leafs P t = some ls /\ xs = ds.map CV.d /\ TyRow P ls ds
 | _ => False

def TyVs (P : Program) : List TypeId -> List AV -> Prop
 | [], [] => True
 | t :: ts, x :: xs => TyV P t x /\ TyVs P ts xs
 | _, _ => False

def plainP (P : Program) (S : List TypeId) (t : TypeId) : Bool :=
 match P.underlying t with
 | some (.struct _) => match leafs P t with
  | some ls => ls.all S.contains
  | none => false
 | some .bool | some (.int _) | some .string | some (.slice _) => S.contains t
 | _ => false

def roGh (w : World) : Gh := ⟨[], [], imOf w⟩

theorem inv_start (w : World) : Inv (roGh w) w [] [] := by
 refine ⟨rfl, rfl, fun l row b h => by simp at h, fun k r v h => by simp at h, fun l l' b h => by simp [roGh] at h, fun k k' v v' b h => by simp [roGh] at h, fun l k v b h => by simp [roGh] at h, fun b hb => ?_⟩
 simp only [roGh, imOf]
 rw [Array.getElem?_eq_none hb]

theorem val_of_trod {S : List TypeId} (hS : plainS P S = true) {t : TypeId} (hp : plainP P S t = true) {r : Reach} {b0 : Nat} {v : Value} {d : DataW H} {ps : List MemPlace} (hv : Value.okWide P w r b0 t v)
  (h : DataW.Trod enc P w base spare held t v d ps) : ∃ x, RepV (roGh w) w [] x v /\ TyV P t x := by
 obtain ⟨fuel, h⟩ := h
 have leaf : t ∈ S -> agD ((P.underlying t).getD .bool) = false -> v.cells = #[v] -> ∃ x, RepV (roGh w) w [] x v /\ TyV P t x := by
  intro ht ha hc
  rw [hc] at h
  obtain ⟨u, d, h1, h2, h3⟩ := leaf_of_trod hS fuel t ht _ _ h
  simp only [List.cons.injEq, and_true] at h1
  subst h1
  exact ⟨.c (.d d), h2, ha, h3⟩
 unfold plainP at hp
 split at hp
 ·rename_i fs hu
  split at hp
  ·rename_i ls hl
   obtain ⟨cs, rfl, _⟩ := okWide_struct hu hv
   simp only [List.all_eq_true, List.contains_iff_mem] at hp
   obtain ⟨ds, h1, h2, h3⟩ := row_of_leafs (S := S) (N := fuel + 1) (fun f _ t' ht' cs x hx' => leaf_of_trod hS f t' ht' cs x hx') (Nat.lt_succ_self _) hl hp h
   refine ⟨.agg (ds.map CV.d), ⟨cs.toList, rfl, by simpa [Value.cells] using h1.symm, fun i x u h4 h5 => ?_⟩, by simp [hu, agD], ls, ds, hl, rfl, h2⟩
   simp only [List.getElem?_map, Option.map_eq_some_iff] at h4
   obtain ⟨d', h6, rfl⟩ := h4
   exact h3 i d' u h6 h5
  ·simp at hp
 ·rename_i hu
  obtain ⟨b, rfl⟩ := okWide_bool hu hv
  exact leaf (by simpa using hp) (by simp [hu, agD]) rfl
 ·rename_i k hu
  obtain ⟨b, rfl⟩ := okWide_int hu hv
  exact leaf (by simpa using hp) (by simp [hu, agD]) rfl
 ·rename_i hu
  obtain ⟨b, rfl⟩ := okWide_string hu hv
  exact leaf (by simpa using hp) (by simp [hu, agD]) rfl
 ·rename_i e hu
  obtain ⟨a, l, c, rfl⟩ := okWide_slice hu hv
  exact leaf (by simpa using hp) (by simp [hu, agD]) rfl
 ·simp at hp

theorem vals_of_trod {S : List TypeId} (hS : plainS P S = true) {r : Reach} {b0 : Nat} : ∀ {ts : List TypeId} {vs : List Value} {ds : List (DataW H)} {ps : List MemPlace}, (∀ t ∈ ts, plainP P S t = true) ->
  (∀ (j : Nat) t v, ts[j]? = some t -> vs[j]? = some v -> Value.okWide P w r b0 t v) -> DataW.TrodAll enc P w base spare held ts vs ds ps ->
  ∃ xs : List AV, vs.length = xs.length /\ TyVs P ts xs /\ ∀ (i : Nat) x u, xs[i]? = some x -> vs[i]? = some u -> RepV (roGh w) w [] x u
 | [], vs, ds, ps, _, _, h => by
  obtain ⟨rfl, rfl, rfl⟩ := trodAll_nil h
  exact ⟨[], rfl, trivial, fun i x u h => by simp at h⟩
 | t :: ts, vs, ds, ps, hp, hv, h => by
  obtain ⟨v, vs1, d, ds1, a, b, rfl, rfl, rfl, h1, h2⟩ := trodAll_cons h
  obtain ⟨x, hx1, hx2⟩ := val_of_trod hS (hp t (by simp)) (hv 0 t v rfl rfl) h1
  obtain ⟨xs, h3, h4, h5⟩ := vals_of_trod hS (fun t' ht => hp t' (by simp [ht])) (fun j t' v' h6 h7 => hv (j + 1) t' v' (by simpa using h6) (by simpa using h7)) h2
  refine ⟨x :: xs, by simp [h3], ⟨hx2, h4⟩, fun i y u h6 h7 => ?_⟩
  cases i with
  | zero => simp at h6 h7; subst h6; subst h7; exact hx1
  | succ i => simp at h6 h7; exact h5 i y u h6 h7

theorem trodAll_below (hl : laidOutB P = true) {W W' : World} (hb : Below W.heap.size W W') : ∀ {ts : List TypeId} {vs : List Value} {ds : List (DataW H)} {ps : List MemPlace}, (∀ t ∈ ts, P.readableRec t = true /\ t < P.types.size) ->
  (∀ x ∈ ps, x.block < W.heap.size) -> DataW.TrodAll enc P W 0 (fun _ => true) true ts vs ds ps -> DataW.TrodAll enc P W' 0 (fun b => decide (b < W.heap.size)) true ts vs ds ps
 | [], vs, ds, ps, _, _, h => by
  obtain ⟨rfl, rfl, rfl⟩ := trodAll_nil h
  exact trodAll_mk0
 | t :: ts, vs, ds, ps, hp, hlt, h => by
  obtain ⟨v, vs1, d, ds1, a, b, rfl, rfl, rfl, h1, h2⟩ := trodAll_cons h
  have h3 := Below.trod hl (hp t (by simp)).1 (hp t (by simp)).2 h1 hb (fun x hx => hlt x (by simp [hx]))
  exact ⟨a, b, h3, trodAll_below hl hb (fun t' ht => hp t' (by simp [ht])) (fun x hx => hlt x (by simp [hx])) h2, rfl⟩

theorem contract_of_acallsT {f : FuncId} {fn : Func} {s : ChangeSpec} {S : List TypeId} (hS : plainS P S = true) (hl : laidOutB P = true) (hpar : fn.params.toList.all (fun t => plainP P S t && P.readableRec t && decide (t < P.types.size)) = true)
  {tb : TypeId} (hres : fn.resultTypes = #[tb]) (htb : P.underlying tb = some .bool) (hvars : s.vars = [])
  (hs : ∀ ds : List (DataW H), ds.length = fn.params.size -> s.fn H (ds ++ []) = { results := [.lit (.bool true)], args := ds })
  {W : World} {b0 : Nat} {args : Array Value} {ds gs : List (DataW H)} {before : List MemPlace}
  (hcall : ∀ xs, TyVs P fn.params.toList xs -> ACalls P f xs [] (.c (.d (.bool true))) [] [])
  (hval : ∀ (j : Nat) t v, fn.params[j]? = some t -> args[j]? = some v -> Value.okWide P W .any b0 t v)
  (hW : DataW.Whole enc P fn.params.toList s.vars false W args.toList ds gs before) (htab : Tab W (roGh W)) :
  Calls P f args W fun e W' => ∃ v, e = .returned v /\ s.post enc P fn false true false false W args v W' := by
 have hlt := hW.lt
 have hW0 := hW
 obtain ⟨p, q, hA, hV, rfl, hfz, hnd⟩ := hW
 rw [hvars] at hV
 obtain ⟨rfl, rfl⟩ := trodVars_none hV
 simp only [List.all_eq_true, Bool.and_eq_true, decide_eq_true_eq] at hpar
 obtain ⟨xs, h1, h2, h3⟩ := vals_of_trod hS (fun t ht => (hpar t ht).1.1) (fun j t v h4 h5 => hval j t v (by simpa using h4) (by simpa using h5)) hA
 obtain ⟨_, _, hc⟩ := hcall xs h2
 refine (hc (roGh W) W args rfl (inv_start W) htab (by simpa using h1) (fun i x u h4 h5 => h3 i x u h4 (by simpa using h5))).mono ?_
 rintro e W' ⟨v, g', rfl, hr, hI, hF⟩
 simp only [RepV, RepE, RepC, RepD] at hr
 subst hr
 have hb : Below W.heap.size W W' := ⟨hF.os, hF.tape, hF.output, hF.size, fun k hk => hF.blk k hk (by simp [roGh]) (by simp [Gh.arb, roGh])⟩
 have hdl : ds.length = fn.params.size := by
  have : ∀ {ts : List TypeId} {vs : List Value} {ds : List (DataW H)} {ps : List MemPlace}, DataW.TrodAll enc P W 0 (fun _ => true) true ts vs ds ps -> ds.length = ts.length := by
   intro ts
   induction ts with
   | nil => intro vs ds ps h; obtain ⟨_, rfl, _⟩ := trodAll_nil h; rfl
   | cons t ts ih => intro vs ds ps h; obtain ⟨v, vs1, d, ds1, a, b, rfl, rfl, rfl, h1, h2⟩ := trodAll_cons h; simp [ih h2]
  simpa using this hA
 have hsp := hs ds hdl
 refine ⟨.bool true, rfl, ds, [], _, [], p, [], hW0, ?_, ?_, ?_, hb.frame _, fun h => by simp at h⟩
 ·rw [hsp, hres]
  exact trodAll_mk1 (shut_bool htb true)
 ·rw [hsp]
  exact trodAll_below hl hb (fun t ht => ⟨(hpar t ht).1.2, (hpar t ht).2⟩) (fun x hx => hlt x (by simp [hx])) hA
 ·rw [hsp, hvars]
  rfl
end
end Go.Av
