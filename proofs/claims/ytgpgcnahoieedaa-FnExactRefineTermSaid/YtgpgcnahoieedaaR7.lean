/- A part of the library of this seat. -/
import Derived.Test.YtgpgcnahoieedaaR6
set_option linter.unusedVariables false
set_option linter.unusedSimpArgs false
namespace Go.Av
open Go
section
variable {P : Program} {n : Nat} {Q : Exit -> St -> Prop} {s : St}
theorem T.seal {c : Code} (t k n' : Nat) {r : Arr} (ht : look s.fr t = some (.c (.own k n'))) (hk : s.A[k]? = some r) (hn : n' = r.rows.length) (h : T P n c Q ⟨(t, .c (.d (.sl r.rows))) :: s.fr, s.V, s.A.set k { r with wr := false }⟩) : T P n c Q s := by
 intro hok w0 g0 g a w hR
 obtain ⟨u, hu, hru⟩ := hR.slot t _ ht
 have hd : toD s.A (.own k n') = some (.sl r.rows) := by simp [toD, hk, hn]
 obtain ⟨g', hI, hx, hF, _, _, hrd⟩ := seal_one hR.inv hR.fr (show RepC g w s.A (.own k n') u from hru) hd
 have hs : sealA s.A (.own k n') = s.A.set k { r with wr := false } := by simp [sealA, hk]
 rw [hs] at hI hx
 refine h hok w0 g0 g' a w ⟨hI, hF, hR.size, hR.defers, fun t' x hx' => ?_⟩
 simp only [look] at hx'
 by_cases e : t' = t
 ·subst e
  simp at hx'; subst hx'
  exact ⟨u, hu, hrd⟩
 ·rw [if_neg e] at hx'
  obtain ⟨u', h1, h2⟩ := hR.slot t' x hx'
  exact ⟨u', h1, RepV.ext hx h2⟩
end
section
variable {P : Program} {s : St}
theorem Done.gt {fn : Func} {e : Exit} {m : Nat} {a b : AV} {ys : List AV} {V' : List (List CV)} (he : e = .normal \/ e = .ret) (hr : (ares P s fn.results.toList).bind (resAs s.A (List.range m) []) = some (a :: b :: ys))
  (hV : resVs s.A s.V (List.range m) [] (List.range m) = some V') : Done P fn m (.tup (a :: b :: ys)) V' [] e s := Done.g he hr rfl hV
theorem Done.g1 {fn : Func} {e : Exit} {m : Nat} {r : AV} {V' : List (List CV)} (he : e = .normal \/ e = .ret) (hr : (ares P s fn.results.toList).bind (resAs s.A (List.range m) []) = some [r])
  (hV : resVs s.A s.V (List.range m) [] (List.range m) = some V') : Done P fn m r V' [] e s := Done.g he hr rfl hV
end
end Go.Av

namespace Go.Av
open Go
section
attribute [-simp] astep wpo gdo onv aval avals oval slow shigh alen rowsOf look cvOf St.put cellsAt mkV splice abin aun abinS abinB cEq AV.plain AV.cells CV.isUndef toD toDs toRows sealA sealAs innAs AV.inn CV.inn inns AV.outn CV.outn argCells aparts arows afill isS ares ares1 AV.res1 CV.res ress pos? poss Then InBlock Sub subL argFr
attribute [-simp] freeStep exV keepL ups innVs putBack objCells back resVs one

def exA (ex : List Nat) (rs : Nat -> Arr) (V : List Arr) : List Arr := ex.foldl (fun W i => W.set i (rs i)) V

theorem exA_same (V : List Arr) : ∀ (ex : List Nat), exA ex (fun i => V.getD i arr0) V = V
 | [] => rfl
 | i :: ex => by
  have h : V.set i (V.getD i arr0) = V := by
   apply List.ext_getElem?
   intro j
   rw [List.getElem?_set]
   split
   ·rename_i e
    subst e
    split
    ·rename_i h; simp [List.getD, h]
    ·rename_i h; simp [Nat.le_of_not_lt h]
   ·rfl
  show exA ex _ (V.set i (V.getD i arr0)) = V
  rw [h]; exact exA_same V ex

def freeStepG (P : Program) (s : St) (ow : Bool) (o : Oper) (ex exa : List Nat) (V0 : List (List CV)) (A0 : List Arr) (x : AV) : Prop :=
 ∀ (rs : Nat -> List CV) (ra : Nat -> Arr) GV GA, astep P ⟨s.fr, exV ex rs V0 ++ GV, exA exa ra A0 ++ GA⟩ ow o fun y V' A' => y = x /\ V' = exV ex rs V0 ++ GV /\ A' = exA exa ra A0 ++ GA

def aopsG (P : Program) (all : Array Oper) (ow : Nat -> Bool) (ws fs : List Nat) (m : Nat) (ex exa : List Nat) (V0 : List (List CV)) (A0 : List Arr) (K : St -> Prop) : Nat -> List Oper -> St -> Prop
 | _, [], s => K s
 | i, o :: rest, s => gdo all s o (astep P s (ow i) o fun x V A => (i ∈ ws \/ (V = s.V /\ A = s.A)) /\ (i ∈ ws -> i < m -> V.take V0.length = exV ex (fun i => V.getD i []) V0 /\ A.take A0.length = exA exa (fun i => A.getD i arr0) A0) /\ (i ∈ fs -> freeStepG P s (ow i) o ex exa V0 A0 x) /\
   aopsG P all ow ws fs m ex exa V0 A0 K (i + 1) rest (s.put o.dst x V A)) (aopsG P all ow ws fs m ex exa V0 A0 K (i + 1) rest (s.put o.dst (.c .undef) s.V s.A))

section
variable {P : Program} {n : Nat} {Q Q' : Exit -> St -> Prop} {s s' : St} {w0 : World} {g0 g g' : Gh} {a : Act} {w w' : World} {V : List (List CV)} {A A' : List Arr}

def StpG (P : Program) (all : Array Oper) (ow : Bool) (fs : List Nat) (j : Nat) (ex exa : List Nat) (V0 : List (List CV)) (A0 : List Arr) (o : Oper) (s s' : St) : Prop :=
 gdo all s o True True /\ ((gw all s o = true /\ ∃ x V A, s' = s.put o.dst x V A /\ (∀ K : AV -> List (List CV) -> List Arr -> Prop, K x V A -> astep P s ow o K) /\ (j ∈ fs -> freeStepG P s ow o ex exa V0 A0 x)) \/ (gw all s o = false /\ s' = s.put o.dst (.c .undef) s.V s.A))

def PreG (ex exa : List Nat) (V0 : List (List CV)) (A0 : List Arr) (s : St) : Prop := s.V.take V0.length = exV ex (fun i => s.V.getD i []) V0 /\ s.A.take A0.length = exA exa (fun i => s.A.getD i arr0) A0

theorem aopsG_trace {all : Array Oper} {ow : Nat -> Bool} {ws fs : List Nat} {m : Nat} {ex exa : List Nat} {V0 : List (List CV)} {A0 : List Arr} {K : St -> Prop} : ∀ (ops : List Oper) (i : Nat) (s : St), aopsG P all ow ws fs m ex exa V0 A0 K i ops s ->
  ∃ σ : Nat -> St, σ 0 = s /\ K (σ ops.length) /\ ∀ (j : Nat) o, ops[j]? = some o -> StpG P all (ow (i + j)) fs (i + j) ex exa V0 A0 o (σ j) (σ (j + 1)) /\ (i + j ∈ ws \/ ((σ (j + 1)).V = (σ j).V /\ (σ (j + 1)).A = (σ j).A)) /\
   (i + j < m -> PreG ex exa V0 A0 (σ (j + 1)) \/ ((σ (j + 1)).V = (σ j).V /\ (σ (j + 1)).A = (σ j).A))
 | [], i, s, h => ⟨fun _ => s, rfl, h, fun j o h => by simp at h⟩
 | o :: rest, i, s, h => by
  simp only [aopsG] at h
  obtain ⟨h0, hg⟩ := gdo_mono h
  rcases h0 with ⟨h1, h2⟩ | ⟨h1, h2⟩
  ·obtain ⟨x, V, A, ⟨h3, h3p, h3f, h4⟩, h5⟩ := astep_det h2
   obtain ⟨σ, k1, k2, k3⟩ := aopsG_trace rest (i + 1) _ h4
   refine ⟨fun j => match j with | 0 => s | j + 1 => σ j, rfl, k2, fun j o' ho => ?_⟩
   cases j with
   | zero =>
    simp at ho; subst ho
    refine ⟨⟨hg, .inl ⟨h1, x, V, A, k1, h5, h3f⟩⟩, ?_, fun hm => ?_⟩
    ·rcases h3 with h3 | ⟨h3, h3'⟩
     ·exact .inl h3
     ·exact .inr (by simp only [k1]; exact ⟨h3, h3'⟩)
    ·rcases h3 with h3 | ⟨h3, h3'⟩
     ·exact .inl (by simp only [k1]; exact h3p h3 hm)
     ·exact .inr (by simp only [k1]; exact ⟨h3, h3'⟩)
   | succ j =>
    simp at ho
    have := k3 j o' ho
    rwa [show i + 1 + j = i + (j + 1) by omega] at this
  ·obtain ⟨σ, k1, k2, k3⟩ := aopsG_trace rest (i + 1) _ h2
   refine ⟨fun j => match j with | 0 => s | j + 1 => σ j, rfl, k2, fun j o' ho => ?_⟩
   cases j with
   | zero =>
    simp at ho; subst ho
    exact ⟨⟨hg, .inr ⟨h1, k1⟩⟩, .inr (by simp only [k1]; exact ⟨rfl, rfl⟩), fun _ => .inr (by simp only [k1]; exact ⟨rfl, rfl⟩)⟩
   | succ j =>
    simp at ho
    have := k3 j o' ho
    rwa [show i + 1 + j = i + (j + 1) by omega] at this

set_option maxHeartbeats 2000000 in
theorem drawG_sound {all : Array Oper} {ow : Nat -> Bool} {ws fs : List Nat} {m : Nat} {ex exa : List Nat} {V0 : List (List CV)} {A0 : List Arr} {σ : Nat -> St} {K : St -> Prop} {Q : Exit -> Act -> World -> Prop} (hd : drawOkF all ws fs m = true) (hdst : dstsOk n all.toList = true)
  (htr : ∀ (j : Nat) o, all[j]? = some o -> StpG P all (ow j) fs j ex exa V0 A0 o (σ j) (σ (j + 1)) /\ (j ∈ ws \/ ((σ (j + 1)).V = (σ j).V /\ (σ (j + 1)).A = (σ j).A)) /\ (j < m -> PreG ex exa V0 A0 (σ (j + 1)) \/ ((σ (j + 1)).V = (σ j).V /\ (σ (j + 1)).A = (σ j).A))) (h00 : (σ 0).V = V0 /\ (σ 0).A = A0)
  (hK : K (σ all.size)) (hQ : ∀ s' g' a' w', K s' -> Rp n w0 g0 s' g' a' w' -> Q .normal a' w') :
  ∀ (fuel : Nat) (listed : Array Bool) (k0 : Nat) (g : Gh) (a : Act) (w : World), ((List.range all.size).filter fun i => !listed.getD i true).length <= fuel -> DSF all ws σ n w0 g0 listed k0 g a w -> wpAny P .any all Q fuel listed a w := by
 simp only [drawOkF, Bool.and_eq_true, List.all_eq_true] at hd
 obtain ⟨⟨⟨⟨hd1, hd2⟩, hd3⟩, hd4⟩, hd5⟩ := hd
 -- the checks, read
 have hmem : ∀ (j : Nat) o, all[j]? = some o -> (o, j) ∈ all.toList.zipIdx := fun j o h => by
  rw [List.mem_iff_getElem?]
  exact ⟨j, by simp [List.getElem?_zipIdx, h]⟩
 have hedge : ∀ (j : Nat) o, all[j]? = some o -> ∀ e ∈ o.after, Region.binds .any e = true -> e.on < j := fun j o h e he hb => by
  have := hd1 _ (hmem j o h) e (Array.mem_toList_iff.2 he)
  simpa [hb] using this
 have hpairF : ∀ (i j : Nat) oi oj, all[i]? = some oi -> all[j]? = some oj -> i < j -> pairOkF all ws fs m (masks all.toList []) oi oj i j = true := fun i j oi oj h1 h2 hlt => by
  have := hd2 _ (hmem j oj h2) _ (hmem i oi h1)
  simpa [hlt] using this
 have hpair : ∀ (i j : Nat) oi oj, all[i]? = some oi -> all[j]? = some oj -> i < j -> i ∉ fs -> j ∉ fs -> pairOk all ws (masks all.toList []) oi oj i j = true := fun i j oi oj h1 h2 hlt hi hj => by
  have := hpairF i j oi oj h1 h2 hlt
  simpa [pairOkF, pairOk, hi, hj] using this
 have hwf : ∀ i, i ∈ ws -> i ∉ fs := fun i hi hf => by
  have := hd4 i hf
  simp [hi] at this
 have hpre : ∀ k, k <= m -> k <= all.size -> PreG ex exa V0 A0 (σ k) := by
  intro k
  induction k with
  | zero =>
   intro _ _
   refine ⟨?_, ?_⟩
   ·rw [h00.1, exV_same]; simp
   ·rw [h00.2, exA_same]; simp
  | succ k ih =>
   intro h1 h2
   have ho : all[k]? = some all[k] := Array.getElem?_eq_getElem (by omega)
   rcases (htr k _ ho).2.2 (by omega) with h3 | ⟨h3, h4⟩
   ·exact h3
   ·have := ih (by omega) (by omega)
    exact ⟨by rw [h3]; exact this.1, by rw [h4]; exact this.2⟩
 have hws : ∀ (j : Nat) o, all[j]? = some o -> j ∈ ws -> isS o.op = false := fun j o h hj => by
  have := hd3 _ (hmem j o h)
  simpa [hj] using this
 have hdne : ∀ (i j : Nat) oi oj d, all[i]? = some oi -> all[j]? = some oj -> i < j -> oi.dst = some d -> oj.dst ≠ some d := fun i j oi oj d h1 h2 hlt h3 h4 => by
  have := hpairF i j oi oj h1 h2 hlt
  simp [pairOkF, h3, h4] at this
 have hdu : ∀ (i j : Nat) oi oj d, all[i]? = some oi -> all[j]? = some oj -> oi.dst = some d -> oj.dst = some d -> i = j := fun i j oi oj d h1 h2 h3 h4 => by
  rcases Nat.lt_trichotomy i j with h | h | h
  ·exact absurd h4 (hdne i j oi oj d h1 h2 h h3)
  ·exact h
  ·exact absurd h3 (hdne j i oj oi d h2 h1 h h4)
 have hdn : ∀ (j : Nat) o d, all[j]? = some o -> o.dst = some d -> d < n := fun j o d h1 h2 => by
  have := List.all_eq_true.1 hdst o (by rw [Array.mem_toList_iff]; exact Array.mem_of_getElem? h1)
  simpa [h2] using this
 obtain ⟨hml, _, hms⟩ := masks_spec all.toList []
 -- the order that the edges force
 have hbit : ∀ {listed : Array Bool}, (∀ (i : Nat) o, all[i]? = some o -> listed[i]? = some true -> ∀ e ∈ o.after, Region.binds .any e = true -> listed[e.on]? = some true) ->
   ∀ (i : Nat) o, all[i]? = some o -> (∀ e ∈ o.after, Region.binds .any e = true -> listed[e.on]? = some true) -> ∀ k, ((masks all.toList []).getD i 0).testBit k = true -> listed[k]? = some true := by
  intro listed hcl i
  induction i using Nat.strongRecOn with
  | _ i ih =>
   intro o ho hafter k hk
   obtain ⟨pre, h1, h2, h3⟩ := hms i o (by simpa using ho)
   simp only [List.length_nil, Nat.zero_add] at h1 h3
   have h4 : (masks all.toList []).getD i 0 = mask1 pre o := by simp [List.getD, h3]
   rw [h4] at hk
   obtain ⟨e, he, hb, h5⟩ := mask1_spec hk
   have he1 := hafter e he hb
   rcases h5 with rfl | h5
   ·exact he1
   ·have hlt := hedge i o ho e he hb
    have h6 : pre.getD e.on 0 = (masks all.toList []).getD e.on 0 := by simp only [List.getD, h2 e.on (by omega)]
    rw [h6] at h5
    have hsz : e.on < all.size := by have := (Array.getElem?_eq_some_iff.1 ho).1; omega
    have hoe : all[e.on]? = some all[e.on] := Array.getElem?_eq_getElem hsz
    exact ih e.on hlt _ hoe (hcl e.on _ hoe he1) k h5
 -- frames
 have hstep : ∀ (j : Nat) o t, all[j]? = some o -> o.dst ≠ some t -> look (σ (j + 1)).fr t = look (σ j).fr t := fun j o t h1 h2 => by
  obtain ⟨⟨_, h3⟩, _⟩ := htr j o h1
  have hput : ∀ (x : AV) V A, look ((σ j).put o.dst x V A).fr t = look (σ j).fr t := fun x V A => by
   simp only [St.put]
   cases hdd : o.dst with
   | none => rfl
   | some d => simp only [look]; rw [if_neg (fun e => h2 (by rw [hdd, e]))]
  rcases h3 with ⟨_, x, V, A, h4, _, _⟩ | ⟨_, h4⟩
  ·rw [h4]; exact hput x V A
  ·rw [h4]; exact hput _ _ _
 have hfrB : ∀ (j t : Nat), j <= all.size -> (∀ (i : Nat) o, i < j -> all[i]? = some o -> o.dst ≠ some t) -> look (σ j).fr t = look (σ 0).fr t := by
  intro j
  induction j with
  | zero => intro t _ _; rfl
  | succ j ih =>
   intro t hj hno
   have ho : all[j]? = some all[j] := Array.getElem?_eq_getElem (by omega)
   rw [hstep j _ t ho (hno j _ (by omega) ho)]
   exact ih t (by omega) (fun i o hi => hno i o (by omega))
 have hfrA : ∀ (j i : Nat) oi t, j <= all.size -> i < j -> all[i]? = some oi -> oi.dst = some t -> look (σ j).fr t = look (σ (i + 1)).fr t := by
  intro j
  induction j with
  | zero => intro i oi t _ h; omega
  | succ j ih =>
   intro i oi t hj hij hoi hdt
   by_cases e : i = j
   ·subst e; rfl
   ·have ho : all[j]? = some all[j] := Array.getElem?_eq_getElem (by omega)
    rw [hstep j _ t ho (hdne i j oi _ t hoi ho (by omega) hdt)]
    exact ih i oi t (by omega) (by omega) hoi hdt
 have hVA : ∀ (b a : Nat), a <= b -> b <= all.size -> (∀ i, a <= i -> i < b -> i ∉ ws) -> (σ b).V = (σ a).V /\ (σ b).A = (σ a).A := by
  intro b
  induction b with
  | zero =>
   intro a h _ _
   obtain rfl : a = 0 := by omega
   exact ⟨rfl, rfl⟩
  | succ b ih =>
   intro a hab hb hno
   by_cases e : a = b + 1
   ·subst e; exact ⟨rfl, rfl⟩
   ·have ho : all[b]? = some all[b] := Array.getElem?_eq_getElem (by omega)
    obtain ⟨h1, h2⟩ := ih a (by omega) (by omega) (fun i hi hi' => hno i hi (by omega))
    rcases (htr b _ ho).2.1 with h3 | ⟨h3, h4⟩
    ·exact absurd h3 (hno b (by omega) (by omega))
    ·exact ⟨h3.trans h1, h4.trans h2⟩
 -- at the end
 have hend : ∀ {listed : Array Bool} {k0 : Nat} {g : Gh} {a : Act} {w : World}, DSF all ws σ n w0 g0 listed k0 g a w -> Region.ready .any all listed = [] -> Q .normal a w := by
  intro listed k0 g a w hD hr
  have hall : ∀ i, i < all.size -> listed[i]? = some true := by
   intro i
   induction i using Nat.strongRecOn with
   | _ i ih =>
    intro hi
    have ho : all[i]? = some all[i] := Array.getElem?_eq_getElem hi
    have hli : i < listed.size := by rw [hD.lsize]; exact hi
    cases hl : listed[i] with
    | true => rw [Array.getElem?_eq_getElem hli, hl]
    | false =>
     exfalso
     have : i ∈ Region.ready .any all listed := mem_ready.2 ⟨by simp [hli, hl], _, ho, fun e he hb => listed_iff.2 (ih e.on (hedge i _ ho e he hb) (by have := hedge i _ ho e he hb; omega))⟩
     rw [hr] at this; simp at this
  have hva := hVA all.size k0 hD.kle (Nat.le_refl _) (fun i h1 h2 h3 => by have := (hD.wprog i h3 h2).1 (hall i h2); omega)
  refine hQ _ g a w hK ⟨by rw [hva.1, hva.2]; exact hD.inv, hD.fr, hD.size, hD.defers, fun t x hx => ?_⟩
  rw [hva.2]
  by_cases hex : ∃ (i : Nat) (o : Oper), all[i]? = some o /\ o.dst = some t
  ·obtain ⟨i, o, ho, hdt⟩ := hex
   have hi := (Array.getElem?_eq_some_iff.1 ho).1
   rw [hfrA all.size i o t (Nat.le_refl _) hi ho hdt] at hx
   exact hD.slot1 i o t x ho (hall i hi) hdt hx
  ·rw [hfrB all.size t (Nat.le_refl _) (fun i o _ ho hdt => hex ⟨i, o, ho, hdt⟩)] at hx
   exact hD.slot0 t x (fun i o ho _ hdt => hex ⟨i, o, ho, hdt⟩) hx
 -- one operation
 intro fuel
 induction fuel with
 | zero =>
  intro listed k0 g a w hf hD
  have hnil : Region.ready .any all listed = [] := by
   have h0 : ((List.range all.size).filter fun i => !listed.getD i true) = [] := List.eq_nil_of_length_eq_zero (by omega)
   rcases hr : Region.ready .any all listed with _ | ⟨j, r⟩
   ·rfl
   ·have hj : j ∈ Region.ready .any all listed := by rw [hr]; simp
    obtain ⟨h1, o, h2, _⟩ := mem_ready.1 hj
    have : j ∈ ((List.range all.size).filter fun i => !listed.getD i true) := by
     rw [List.mem_filter, List.mem_range]
     exact ⟨(Array.getElem?_eq_some_iff.1 h2).1, by simp [h1]⟩
    rw [h0] at this; simp at this
  exact ⟨hnil, hend hD hnil⟩
 | succ fuel ih =>
  intro listed k0 g a w hf hD
  refine ⟨fun hr => hend hD hr, fun j hj => ?_⟩
  obtain ⟨hun, o, ho, hafter⟩ := mem_ready.1 hj
  have hju := unlisted_of hun
  have hjn : j < all.size := (Array.getElem?_eq_some_iff.1 ho).1
  have hjl : j < listed.size := by rw [hD.lsize]; exact hjn
  have hafter' : ∀ e ∈ o.after, Region.binds .any e = true -> listed[e.on]? = some true := fun e he hb => listed_iff.1 (hafter e he hb)
  have hbefore : ∀ k, ((masks all.toList []).getD j 0).testBit k = true -> listed[k]? = some true := hbit hD.closed j o ho hafter'
  have hbehind : ∀ (i : Nat) oi, all[i]? = some oi -> listed[i]? = some true -> ((masks all.toList []).getD i 0).testBit j = false := fun i oi hoi hli => by
   cases hb : ((masks all.toList []).getD i 0).testBit j with
   | false => rfl
   | true => have := hbit hD.closed i oi hoi (hD.closed i oi hoi hli) j hb; rw [hju] at this; simp at this
  -- what the operation looks at
  have hlooks : ∀ t ∈ o.looksAt all, ∀ x, look (σ j).fr t = some x -> ∃ u, a.tmps[t]? = some u /\ RepV g w (σ k0).A x u := by
   intro t ht x hx
   by_cases hex : ∃ (i : Nat) (oi : Oper), i < j /\ all[i]? = some oi /\ oi.dst = some t
   ·obtain ⟨i, oi, hij, hoi, hdt⟩ := hex
    rw [hfrA j i oi t (by omega) hij hoi hdt] at hx
    have hp := hpairF i j oi o hoi ho hij
    have htc : touch all oi o = true := by simp only [touch, hdt]; simpa using ht
    simp only [pairOkF, htc, Bool.and_eq_true, Bool.or_eq_true] at hp
    have hb : ((masks all.toList []).getD j 0).testBit i = true := by simpa using hp.2
    exact hD.slot1 i oi t x hoi (hbefore i hb) hdt hx
   ·rw [hfrB j t (by omega) (fun i oi hij hoi hdt => hex ⟨i, oi, hij, hoi, hdt⟩)] at hx
    refine hD.slot0 t x (fun i oi hoi hli hdt => ?_) hx
    rcases Nat.lt_trichotomy i j with h | h | h
    ·exact hex ⟨i, oi, h, hoi, hdt⟩
    ·subst h; rw [hju] at hli; simp at hli
    ·have hp := hpairF j i o oi ho hoi h
     have htc : touch all oi o = true := by simp only [touch, hdt]; simpa using ht
     have hb := hbehind i oi hoi hli
     simp only [pairOkF, htc, hb, Bool.and_eq_true, Bool.or_eq_true] at hp
     simp at hp
  let fr' := (σ j).fr.filter fun p => (o.looksAt all).contains p.1
  have hlk : ∀ t, look fr' t = if (o.looksAt all).contains t then look (σ j).fr t else none := fun t => look_filter (fun t => (o.looksAt all).contains t) (σ j).fr t
  have hS : ∀ (V : List (List CV)), Slots g w ⟨fr', V, (σ k0).A⟩ a := fun V t x hx => by
   simp only [hlk] at hx
   split at hx
   ·rename_i hc; exact hlooks t (by simpa using hc) x hx
   ·cases hx
  have hop : ∀ (V V' : List (List CV)) (A A' : List Arr), ∀ x ∈ o.op.operands.toList, aval ⟨fr', V, A⟩ x = aval ⟨(σ j).fr, V', A'⟩ x := fun V V' A A' x hx => by
   cases x with
   | tmp t =>
    simp only [aval, hlk]
    rw [if_pos]
    simp only [Oper.looksAt, List.contains_eq_mem, decide_eq_true_eq, List.mem_append, List.mem_filterMap]
    exact .inl ⟨.tmp t, hx, rfl⟩
   | _ => rfl
  have hRr : Rp n w0 g0 ⟨fr', (σ k0).V, (σ k0).A⟩ g a w := ⟨hD.inv, hD.fr, hD.size, hD.defers, hS _⟩
  -- the guard
  obtain ⟨⟨hgd, hst⟩, hor, _⟩ := htr j o ho
  have hgd' : gdo all ⟨fr', (σ k0).V, (σ k0).A⟩ o True True /\ gw all ⟨fr', (σ k0).V, (σ k0).A⟩ o = gw all (σ j) o := by
   unfold gdo gw at *
   cases hgg : o.guard with
   | none => simp
   | some jw =>
    obtain ⟨q, want⟩ := jw
    simp only [hgg] at hgd ⊢
    obtain ⟨oq, h1, h2⟩ := onv_some hgd
    obtain ⟨t, h3, h4⟩ := onv_some h2
    have : look fr' t = look (σ j).fr t := by
     rw [hlk, if_pos]
     simp only [Oper.looksAt, hgg, List.contains_eq_mem, decide_eq_true_eq, List.mem_append]
     exact .inr (by simp [h1, h3])
    simp only [h1, onv, h3, Option.bind_some, this] at h4 ⊢
    exact ⟨h4, trivial⟩
  have hwant : Region.wanted o (yielded all a.tmps) = gw all (σ j) o := by
   rw [<- hgd'.2]
   have h0 := gdo_mono hgd'.1
   -- both say the same
   have h1 := hgd'.1
   unfold gdo at h1
   unfold gw
   cases hgg : o.guard with
   | none => simp [Region.wanted, hgg]
   | some jw =>
    obtain ⟨q, want⟩ := jw
    simp only [hgg] at h1 ⊢
    obtain ⟨oq, h2, h3⟩ := onv_some h1
    obtain ⟨t, h4, h5⟩ := onv_some h3
    obtain ⟨x, h6, h7⟩ := onv_some h5
    obtain ⟨h8, h9⟩ := yielded_of hRr h2 h4 h6
    simp only [h2, Option.bind_some, h4, h6]
    split at h7
    ·rename_i b; simp [Region.wanted, hgg, h8 b rfl]
    ·simp [Region.wanted, hgg, h9 rfl]
    ·exact h7.elim
  -- the state behind it
  have hset : ∀ i, (listed.setIfInBounds j true)[i]? = if i = j then some true else listed[i]? := fun i => by
   by_cases e : i = j
   ·subst e; simp [hjl]
   ·rw [if_neg e, Array.getElem?_setIfInBounds_ne (fun h => e h.symm)]
  have hcount : ((List.range all.size).filter fun i => !(listed.setIfInBounds j true).getD i true).length <= fuel := by
   have hlt : ((List.range all.size).filter fun i => !(listed.setIfInBounds j true).getD i true).length < ((List.range all.size).filter fun i => !listed.getD i true).length := by
    have hsub : ∀ i, (!(listed.setIfInBounds j true).getD i true) = true -> (!listed.getD i true) = true := fun i h => by
     by_cases e : i = j
     ·subst e; simp [hjl] at h
     ·have : (listed.setIfInBounds j true).getD i true = listed.getD i true := by
       simp only [Array.getD_eq_getD_getElem?, hset, if_neg e]
      rwa [this] at h
    exact filter_lt hsub (List.mem_range.2 hjn) (by simp [hun]) (by simp [hjl])
   omega
  have hnext : ∀ (k1 : Nat) (x : AV) (v : Value) (w' : World) (g' : Gh), look (σ (j + 1)).fr = look ((σ j).put o.dst x [] []).fr -> RepV g' w' (σ k1).A x v -> Inv g' w' (σ k1).V (σ k1).A -> Ext g w (σ k0).A g' w' (σ k1).A -> Fr w0 g0 w' g' -> k1 <= all.size -> (k1 = 0 \/ ∃ i ∈ ws, k1 = i + 1) ->
    (∀ i ∈ ws, i < all.size -> ((listed.setIfInBounds j true)[i]? = some true ↔ i < k1)) -> DSF all ws σ n w0 g0 (listed.setIfInBounds j true) k1 g' (a.put o.dst v) w' := by
   intro k1 x v w' g' hfr hrv hI hx hF hk hkw hwp
   have hputs : ∀ t u, o.dst ≠ some t -> a.tmps[t]? = some u -> (a.put o.dst v).tmps[t]? = some u := fun t u hne hu => by
    cases hdd : o.dst with
    | none => exact hu
    | some d =>
     simp only [Act.put]
     rw [Array.getElem?_setIfInBounds_ne (fun e => hne (by rw [hdd, e]))]; exact hu
   refine ⟨hI, hF, ?_, ?_, by simp [hD.lsize], fun i oi t y hoi hli hdt hy => ?_, fun t y hno hy => ?_, hwp, hk, hkw, fun i oi hoi hli e he hb => ?_⟩
   ·cases o.dst <;> simp [Act.put, hD.size]
   ·cases o.dst <;> simp [Act.put, hD.defers]
   ·rw [hset] at hli
    by_cases e : i = j
    ·subst e
     obtain rfl : o = oi := by rw [ho] at hoi; exact Option.some.inj hoi
     rw [hfr] at hy
     simp only [St.put, hdt, look, if_true] at hy
     cases hy
     refine ⟨v, ?_, hrv⟩
     have : t < a.tmps.size := by rw [hD.size]; exact hdn i o t ho hdt
     simp [Act.put, hdt, this]
    ·rw [if_neg e] at hli
     obtain ⟨u, h1, h2⟩ := hD.slot1 i oi t y hoi hli hdt hy
     exact ⟨u, hputs t u (fun h => e (hdu i j oi o t hoi ho hdt h)) h1, RepV.ext hx h2⟩
   ·have hne : o.dst ≠ some t := hno j o ho (by rw [hset, if_pos rfl])
    obtain ⟨u, h1, h2⟩ := hD.slot0 t y (fun i oi hoi hli => hno i oi hoi (by
     rw [hset]
     by_cases e : i = j
     ·rw [if_pos e]
     ·rw [if_neg e]; exact hli)) hy
    exact ⟨u, hputs t u hne h1, RepV.ext hx h2⟩
   ·rw [hset] at hli ⊢
    have : listed[e.on]? = some true := by
     by_cases e' : i = j
     ·subst e'
      obtain rfl : o = oi := by rw [ho] at hoi; exact Option.some.inj hoi
      exact hafter' e he hb
     ·rw [if_neg e'] at hli
      exact hD.closed i oi hoi hli e he hb
    by_cases e' : e.on = j
    ·rw [if_pos e']
    ·rw [if_neg e']; exact this
  have hwp0 : j ∉ ws -> ∀ i ∈ ws, i < all.size -> ((listed.setIfInBounds j true)[i]? = some true ↔ i < k0) := fun hjw i hi hin => by
   rw [hset, if_neg (fun e => hjw (by rw [<- e]; exact hi))]
   exact hD.wprog i hi hin
  have hva : isS o.op = false -> j ∉ fs -> (σ j).V = (σ k0).V /\ (σ j).A = (σ k0).A := by
   intro hns hjf
   rcases Nat.le_total j k0 with h | h
   ·have := hVA k0 j h hD.kle (fun i h1 h2 h3 => by
     have hin : i < all.size := by have := hD.kle; omega
     have hli := (hD.wprog i h3 hin).2 h2
     have hoi : all[i]? = some all[i] := Array.getElem?_eq_getElem hin
     rcases Nat.lt_or_ge j i with h4 | h4
     ·have hp := hpair j i o _ ho hoi h4 hjf (hwf i h3)
      have hb := hbehind i _ hoi hli
      simp only [pairOk, hb, Bool.and_eq_true, Bool.or_eq_true] at hp
      simp [h3, hns] at hp
     ·obtain rfl : i = j := by omega
      rw [hju] at hli; simp at hli)
    exact ⟨this.1.symm, this.2.symm⟩
   ·exact hVA j k0 h (by omega) (fun i h1 h2 h3 => by
     have hin : i < all.size := by omega
     have hoi : all[i]? = some all[i] := Array.getElem?_eq_getElem hin
     have hp := hpair i j _ o hoi ho h2 (hwf i h3) hjf
     simp only [pairOk, Bool.and_eq_true, Bool.or_eq_true] at hp
     have hb : ((masks all.toList []).getD j 0).testBit i = true := by
      rcases hp.2 with h4 | h4
      ·simp [h3, hns] at h4
      ·exact h4
     have := (hD.wprog i h3 hin).1 (hbefore i hb)
     omega)
  -- carried out, or passed over
  unfold wpOp
  simp only [ho]
  rcases hst with ⟨h1, x, V, A, h2, h3, h3f⟩ | ⟨h1, h2⟩
  ·rw [if_pos (by rw [hwant, h1])]
   refine .inl ?_
   by_cases hs : isS o.op = true
   ·-- slots alone
    have hjw : j ∉ ws := fun h => by have := hws j o ho h; rw [hs] at this; simp at this
    have h4 : astep P ⟨fr', (σ k0).V, (σ k0).A⟩ (ow j) o (fun y V' A' => y = x /\ V' = (σ k0).V /\ A' = (σ k0).A) := astep_S (s := σ j) (s' := ⟨fr', (σ k0).V, (σ k0).A⟩) hs (hop _ _ _ _) h3 ⟨rfl, rfl, rfl⟩
    obtain ⟨y, V', A', ⟨rfl, rfl, rfl⟩, h5⟩ := astep_wp hRr.inv hRr.fr hRr.slot h4
    refine h5 _ _ fun v w' g' h6 h7 h8 h9 => ih _ k0 g' _ w' hcount (hnext k0 y v w' g' (by rw [h2]; rfl) h6 h7 h8 h9 hD.kle hD.kw (hwp0 hjw))
   ·have hns : isS o.op = false := by simpa using hs
    by_cases hjf : j ∈ fs
    ·have hjw : j ∉ ws := fun h => hwf j h hjf
     have hk0m : k0 <= m := by
      rcases hD.kw with h | ⟨i, hi, hk⟩
      ·omega
      ·rcases Nat.lt_or_ge i m with h | h
       ·omega
       ·exfalso
        have hin : i < all.size := by have := hD.kle; omega
        have hoi : all[i]? = some all[i] := Array.getElem?_eq_getElem hin
        have hli := (hD.wprog i hi hin).2 (by omega)
        have hji : j < i := by
         have := hd5 j hjf i hi
         simp at this; omega
        have hp := hpairF j i o _ ho hoi hji
        have hb := hbehind i _ hoi hli
        have hnm : ¬ i < m := by omega
        simp only [pairOkF, hb, Bool.and_eq_true, Bool.or_eq_true] at hp
        simp [hi, hns, hnm, hjf, hjw] at hp
     obtain ⟨hp1, hp2⟩ := hpre k0 hk0m hD.kle
     have h4 : astep P ⟨fr', (σ k0).V, (σ k0).A⟩ (ow j) o (fun y V' A' => y = x /\ V' = (σ k0).V /\ A' = (σ k0).A) := by
      have h5 := h3f hjf (fun i => (σ k0).V.getD i []) (fun i => (σ k0).A.getD i arr0) ((σ k0).V.drop V0.length) ((σ k0).A.drop A0.length)
      have e1 : exV ex (fun i => (σ k0).V.getD i []) V0 ++ (σ k0).V.drop V0.length = (σ k0).V := by
       rw [<- hp1]; exact List.take_append_drop _ _
      have e2 : exA exa (fun i => (σ k0).A.getD i arr0) A0 ++ (σ k0).A.drop A0.length = (σ k0).A := by
       rw [<- hp2]; exact List.take_append_drop _ _
      rw [e1, e2] at h5
      exact astep_congr (fr := (σ j).fr) (hop _ _ _ _) h5
     obtain ⟨y, V', A', ⟨rfl, rfl, rfl⟩, h5⟩ := astep_wp hRr.inv hRr.fr hRr.slot h4
     exact h5 _ _ fun v w' g' h6 h7 h8 h9 => ih _ k0 g' _ w' hcount (hnext k0 y v w' g' (by rw [h2]; rfl) h6 h7 h8 h9 hD.kle hD.kw (hwp0 hjw))
    obtain ⟨hv1, hv2⟩ := hva hns hjf
    have h4 : astep P ⟨fr', (σ k0).V, (σ k0).A⟩ (ow j) o (fun y V' A' => y = x /\ V' = V /\ A' = A) := by
     rw [<- hv1, <- hv2]
     exact astep_congr (fr := (σ j).fr) (hop _ _ _ _) (h3 _ ⟨rfl, rfl, rfl⟩)
    obtain ⟨y, V', A', ⟨rfl, rfl, rfl⟩, h5⟩ := astep_wp hRr.inv hRr.fr hRr.slot h4
    have hVj : (σ (j + 1)).V = V' := by rw [h2]; rfl
    have hAj : (σ (j + 1)).A = A' := by rw [h2]; rfl
    by_cases hjw : j ∈ ws
    ·refine h5 _ _ fun v w' g' h6 h7 h8 h9 => ih _ (j + 1) g' _ w' hcount (hnext (j + 1) y v w' g' (by rw [h2]; rfl) (by rw [hAj]; exact h6) (by rw [hVj, hAj]; exact h7) (by rw [hAj]; exact h8) h9 (by omega) (.inr ⟨j, hjw, rfl⟩) (fun i hi hin => ?_))
     have hoi : all[i]? = some all[i] := Array.getElem?_eq_getElem hin
     rw [hset]
     by_cases e : i = j
     ·subst e; simp
     ·rw [if_neg e]
      constructor
      ·intro hli
       rcases Nat.lt_or_ge j i with h | h
       ·have hp := hpair j i o _ ho hoi h (hwf j hjw) (hwf i hi)
        have hb := hbehind i _ hoi hli
        simp only [pairOk, hb, Bool.and_eq_true, Bool.or_eq_true] at hp
        simp [hi, hns] at hp
       ·omega
      ·intro hlt
       have hp := hpair i j _ o hoi ho (by omega) (hwf i hi) (hwf j hjw)
       simp only [pairOk, Bool.and_eq_true, Bool.or_eq_true] at hp
       rcases hp.2 with h | h
       ·simp [hi, hns] at h
       ·exact hbefore i h
    ·rcases hor with hor | ⟨ho1, ho2⟩
     ·exact absurd hor hjw
     ·refine h5 _ _ fun v w' g' h6 h7 h8 h9 => ih _ k0 g' _ w' hcount (hnext k0 y v w' g' (by rw [h2]; rfl) ?_ ?_ ?_ h9 hD.kle hD.kw (hwp0 hjw))
      ·rw [<- hv2, <- ho2, hAj]; exact h6
      ·rw [<- hv1, <- hv2, <- ho1, <- ho2, hVj, hAj]; exact h7
      ·have e1 : (σ k0).A = A' := by rw [<- hv2, <- ho2, hAj]
       rw [e1] at h8 ⊢; exact h8
  ·rw [if_neg (by rw [hwant, h1]; simp)]
   have hVj : (σ (j + 1)).V = (σ j).V := by rw [h2]; rfl
   have hAj : (σ (j + 1)).A = (σ j).A := by rw [h2]; rfl
   by_cases hjw : j ∈ ws
   ·have hns := hws j o ho hjw
    obtain ⟨hv1, hv2⟩ := hva hns (hwf j hjw)
    refine ih _ (j + 1) g _ w hcount (hnext (j + 1) (.c .undef) undef w g (by rw [h2]; rfl) rfl ?_ ?_ hD.fr (by omega) (.inr ⟨j, hjw, rfl⟩) (fun i hi hin => ?_))
    ·rw [hVj, hAj, hv1, hv2]; exact hD.inv
    ·rw [hAj, hv2]; exact .refl _ _ _
    ·have hoi : all[i]? = some all[i] := Array.getElem?_eq_getElem hin
     rw [hset]
     by_cases e : i = j
     ·subst e; simp
     ·rw [if_neg e]
      constructor
      ·intro hli
       rcases Nat.lt_or_ge j i with h | h
       ·have hp := hpair j i o _ ho hoi h (hwf j hjw) (hwf i hi)
        have hb := hbehind i _ hoi hli
        simp only [pairOk, hb, Bool.and_eq_true, Bool.or_eq_true] at hp
        simp [hi, hns] at hp
       ·omega
      ·intro hlt
       have hp := hpair i j _ o hoi ho (by omega) (hwf i hi) (hwf j hjw)
       simp only [pairOk, Bool.and_eq_true, Bool.or_eq_true] at hp
       rcases hp.2 with h | h
       ·simp [hi, hns] at h
       ·exact hbefore i h
   ·exact ih _ k0 g _ w hcount (hnext k0 (.c .undef) undef w g (by rw [h2]; rfl) rfl hD.inv (.refl _ _ _) hD.fr hD.kle hD.kw (hwp0 hjw))

theorem T.region_drawG {id : Nat} {ops : Array Oper} (hm : P.follows .mixedOrders = true) (ow : Nat -> Bool) (ws fs : List Nat) (m : Nat) (ex exa : List Nat) (hd : drawOkF ops ws fs m = true) (h : aopsG P ops ow ws fs m ex exa s.V s.A (fun s' => Q .normal s') 0 ops.toList s) : T P n (.region id ops true) Q s := by
 intro hok w0 g0 g a w hR
 obtain ⟨σ, h0, hK, htr⟩ := aopsG_trace ops.toList 0 s h
 obtain ⟨hI, hx⟩ := hR.inv.heap (w' := { w with drawn := w.drawn + 1 }) rfl
 refine wp_region_any hm (drawG_sound (ex := ex) (exa := exa) (K := fun s' => Q .normal s') (w0 := w0) (g0 := g0) (n := n) (σ := σ) (ow := ow) hd hok (fun j o ho => ?_) ⟨by rw [h0], by rw [h0]⟩ ?_ (fun s' g' a' w' h1 h2 => ⟨s', g', h1, h2⟩) ops.size (Array.replicate ops.size false) 0 g a _ ?_ ?_)
 ·have := htr j o (by simpa using ho)
  simpa only [Nat.zero_add] using this
 ·simpa using hK
 ·exact Nat.le_trans (List.length_filter_le _ _) (by simp)
 ·refine ⟨by rw [h0]; exact hI, hR.fr.heap rfl rfl rfl rfl, hR.size, hR.defers, by simp, fun i o t x ho hl => ?_, fun t x _ hx' => ?_, fun i _ hin => ?_, Nat.zero_le _, .inl rfl, fun i o ho hl => ?_⟩
  ·have hi := (Array.getElem?_eq_some_iff.1 ho).1
   simp [hi] at hl
  ·rw [h0] at hx' ⊢
   obtain ⟨u, h1, h2⟩ := hR.slot t x hx'
   exact ⟨u, h1, RepV.ext hx h2⟩
  ·simp [hin]
  ·have hi := (Array.getElem?_eq_some_iff.1 ho).1
   simp [hi] at hl
end
section
variable {P : Program} {n : Nat} {Q : Exit -> St -> Prop} {s s' : St} {y : Code}
structure OpsG (P : Program) (all : Array Oper) (ow : Nat -> Bool) (ws fs : List Nat) (m : Nat) (ex exa : List Nat) (V0 : List (List CV)) (A0 : List Arr) (K : St -> Prop) (i : Nat) (ops : List Oper) (s : St) : Prop where
 mk ::
 run : aopsG P all ow ws fs m ex exa V0 A0 K i ops s

theorem aopsG_go {all : Array Oper} {ow : Nat -> Bool} {ws fs : List Nat} {m : Nat} {ex exa : List Nat} {V0 : List (List CV)} {A0 : List Arr} {K : St -> Prop} {i : Nat} {o : Oper} {rest : List Oper}
  (h : gdo all s o (astep P s (ow i) o fun x V A => (i ∈ ws \/ (V = s.V /\ A = s.A)) /\ (i ∈ ws -> i < m -> V.take V0.length = exV ex (fun i => V.getD i []) V0 /\ A.take A0.length = exA exa (fun i => A.getD i arr0) A0) /\ (i ∈ fs -> freeStepG P s (ow i) o ex exa V0 A0 x) /\ OpsG P all ow ws fs m ex exa V0 A0 K (i + 1) rest (s.put o.dst x V A)) (OpsG P all ow ws fs m ex exa V0 A0 K (i + 1) rest (s.put o.dst (.c .undef) s.V s.A))) : OpsG P all ow ws fs m ex exa V0 A0 K i (o :: rest) s :=
 ⟨gdo_map (fun h => astep_map (fun _ _ _ h => ⟨h.1, h.2.1, h.2.2.1, h.2.2.2.run⟩) h) (fun h => h.run) h⟩
theorem aopsG_end {all : Array Oper} {ow : Nat -> Bool} {ws fs : List Nat} {m : Nat} {ex exa : List Nat} {V0 : List (List CV)} {A0 : List Arr} {K : St -> Prop} {i : Nat} (h : K s) : OpsG P all ow ws fs m ex exa V0 A0 K i [] s := ⟨h⟩

theorem T.rdG {id : Nat} {l : List Oper} (hm : P.follows .mixedOrders = true) (ow : Nat -> Bool) (ws fs : List Nat) (m : Nat) (ex exa : List Nat) (hd : drawOkF l.toArray ws fs m = true) (h : ∀ K : St -> Prop, (∀ s', T P n y Q s' -> K s') -> OpsG P l.toArray ow ws fs m ex exa s.V s.A K 0 l s) : T P n (.seq (.region id l.toArray true) y) Q s :=
 T.seq (T.region_drawG hm ow ws fs m ex exa hd (h _ fun _ h => h).run)
theorem T.rdG1 {id : Nat} {l : List Oper} (hm : P.follows .mixedOrders = true) (ow : Nat -> Bool) (ws fs : List Nat) (m : Nat) (ex exa : List Nat) (hd : drawOkF l.toArray ws fs m = true) (h : ∀ K : St -> Prop, (∀ s', Q .normal s' -> K s') -> OpsG P l.toArray ow ws fs m ex exa s.V s.A K 0 l s) : T P n (.region id l.toArray true) Q s :=
 T.region_drawG hm ow ws fs m ex exa hd (h _ fun _ h => h).run

@[congr] theorem aopsG_cong {all : Array Oper} {ow : Nat -> Bool} {ws fs : List Nat} {m : Nat} {ex exa : List Nat} {V0 : List (List CV)} {A0 : List Arr} {K : St -> Prop} {i i' : Nat} {ops : List Oper} (hi : i = i') (h : s = s') : OpsG P all ow ws fs m ex exa V0 A0 K i ops s = OpsG P all ow ws fs m ex exa V0 A0 K i' ops s' := by rw [h, hi]

theorem OpsG.gen {all : Array Oper} {ow : Nat -> Bool} {ws fs : List Nat} {m : Nat} {ex exa : List Nat} {V0 : List (List CV)} {A0 : List Arr} {K : St -> Prop} {i : Nat} {ops : List Oper} {d : Nat} {b : Bool} {fr : List (Nat × AV)} {V : List (List CV)} {A : List Arr}
  (h : ∀ q : Bool, b = q -> OpsG P all ow ws fs m ex exa V0 A0 K i ops ⟨(d, .c (.d (.bool q))) :: fr, V, A⟩) : OpsG P all ow ws fs m ex exa V0 A0 K i ops ⟨(d, .c (.d (.bool b))) :: fr, V, A⟩ := h b rfl
end
end
attribute [simp] freeStepG exA
end Go.Av
