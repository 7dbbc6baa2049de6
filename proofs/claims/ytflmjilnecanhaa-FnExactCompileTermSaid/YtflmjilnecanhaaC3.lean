/- A part of the library of this seat. -/
import Derived.Test.YtflmjilnecanhaaC2
set_option linter.unusedVariables false
set_option linter.unusedSimpArgs false
namespace Go.Av
attribute [-simp] Go.Av.astep Go.Av.wpo Go.Av.gdo Go.Av.onv Go.Av.aval Go.Av.avals Go.Av.oval Go.Av.slow Go.Av.shigh Go.Av.alen Go.Av.rowsOf Go.Av.look Go.Av.cvOf Go.Av.St.put Go.Av.cellsAt Go.Av.mkV Go.Av.splice Go.Av.abin Go.Av.aun Go.Av.abinS Go.Av.abinB Go.Av.cEq Go.Av.AV.plain Go.Av.AV.cells Go.Av.CV.isUndef Go.Av.toD Go.Av.toDs Go.Av.toRows Go.Av.sealA Go.Av.sealAs Go.Av.innAs Go.Av.AV.inn Go.Av.CV.inn Go.Av.inns Go.Av.AV.outn Go.Av.CV.outn Go.Av.argCells Go.Av.aparts Go.Av.arows Go.Av.afill Go.Av.isS Go.Av.ares Go.Av.ares1 Go.Av.AV.res1 Go.Av.CV.res Go.Av.ress Go.Av.pos? Go.Av.poss Go.Av.Then Go.Av.InBlock Go.Av.Sub Go.Av.subL Go.Av.argFr Go.Av.get_app_len Go.Av.get_app_len0 Go.Av.set_app_len Go.Av.set_app_len0 Go.Av.MTy.kind_mk Go.Av.MTy.kids_mk Go.Av.MTm.kind_mk Go.Av.MTm.name_mk Go.Av.MTm.num_mk Go.Av.MTm.ty_mk Go.Av.MTm.fr_mk Go.Av.MTm.label_mk Go.Av.MTm.kids_mk Go.Av.freeStep Go.Av.exV Go.Av.keepL Go.Av.ups Go.Av.take_app_len
open Go

def isA : Op -> Bool
 | .buildSlice _ _ _ => true
 | .call { callee := .builtin .append, .. } => true
 | _ => false

def pairOkH (all : Array Oper) (wv wa fs : List Nat) (m : Nat) (ms : List Nat) (oi oj : Oper) (i j : Nat) : Bool :=
 (oi.dst.isNone || oi.dst != oj.dst) && ((!touch all oi oj && !touch all oj oi &&
  !((wv.contains i || wa.contains i) && !isS oj.op && !(fs.contains j && decide (i < m)) && !(wv.contains i && wa.contains j) && !(wa.contains i && wv.contains j)) &&
  !((wv.contains j || wa.contains j) && !isS oi.op && !(fs.contains i && decide (j < m)) && !(wv.contains j && wa.contains i) && !(wa.contains j && wv.contains i))) || (ms.getD j 0).testBit i)

def drawOkH (all : Array Oper) (wv wa fs : List Nat) (m : Nat) : Bool :=
 let l := all.toList.zipIdx
 let ms := masks all.toList []
 (l.all fun (o, j) => o.after.toList.all fun e => !Region.binds .any e || decide (e.on < j)) &&
 (l.all fun (oj, j) => l.all fun (oi, i) => !(decide (i < j)) || pairOkH all wv wa fs m ms oi oj i j) &&
 (l.all fun (o, j) => (!wv.contains j || !isS o.op) && (!wa.contains j || isA o.op)) && (fs.all fun j => !wv.contains j && !wa.contains j) &&
 (fs.all fun j => (wv ++ wa).all fun i => decide (i < m) || decide (j < i)) && (wv.all fun j => !wa.contains j)

def aopsH (P : Program) (all : Array Oper) (ow : Nat -> Bool) (wv wa fs : List Nat) (m : Nat) (ex : List Nat) (V0 : List (List CV)) (A0 : List Arr) (K : St -> Prop) : Nat -> List Oper -> St -> Prop
 | _, [], s => K s
 | i, o :: rest, s => gdo all s o (astep P s (ow i) o fun x V A => ((i ∈ wv \/ V = s.V) /\ (i ∈ wa \/ A = s.A)) /\ (i ∈ wv \/ i ∈ wa -> i < m -> V.take V0.length = exV ex (fun i => V.getD i []) V0 /\ A.take A0.length = A0) /\ (i ∈ fs -> freeStep P s (ow i) o ex V0 A0 x) /\
   (i ∈ wv -> ∀ A2, astep P ⟨s.fr, s.V, A2⟩ (ow i) o fun y V' A' => y = x /\ V' = V /\ A' = A2) /\ aopsH P all ow wv wa fs m ex V0 A0 K (i + 1) rest (s.put o.dst x V A)) (aopsH P all ow wv wa fs m ex V0 A0 K (i + 1) rest (s.put o.dst (.c .undef) s.V s.A))

section
variable {P : Program} {n : Nat} {Q Q' : Exit -> St -> Prop} {s s' : St} {w0 : World} {g0 g g' : Gh} {a : Act} {w w' : World} {V : List (List CV)} {A A' : List Arr}

def StpH (P : Program) (all : Array Oper) (ow : Bool) (wv fs : List Nat) (j : Nat) (ex : List Nat) (V0 : List (List CV)) (A0 : List Arr) (o : Oper) (s s' : St) : Prop :=
 gdo all s o True True /\ ((gw all s o = true /\ ∃ x V A, s' = s.put o.dst x V A /\ (∀ K : AV -> List (List CV) -> List Arr -> Prop, K x V A -> astep P s ow o K) /\ (j ∈ fs -> freeStep P s ow o ex V0 A0 x) /\
  (j ∈ wv -> ∀ A2, astep P ⟨s.fr, s.V, A2⟩ ow o fun y V' A' => y = x /\ V' = V /\ A' = A2)) \/ (gw all s o = false /\ s' = s.put o.dst (.c .undef) s.V s.A))

structure DSH (all : Array Oper) (wv wa : List Nat) (σ : Nat -> St) (n : Nat) (w0 : World) (g0 : Gh) (listed : Array Bool) (kv ka : Nat) (g : Gh) (a : Act) (w : World) : Prop where
 inv : Inv g w (σ kv).V (σ ka).A
 fr : Fr w0 g0 w g
 size : a.tmps.size = n
 defers : a.defers = []
 lsize : listed.size = all.size
 slot1 : ∀ (i : Nat) o t x, all[i]? = some o -> listed[i]? = some true -> o.dst = some t -> look (σ (i + 1)).fr t = some x -> ∃ u, a.tmps[t]? = some u /\ RepV g w (σ ka).A x u
 slot0 : ∀ t x, (∀ (i : Nat) o, all[i]? = some o -> listed[i]? = some true -> o.dst ≠ some t) -> look (σ 0).fr t = some x -> ∃ u, a.tmps[t]? = some u /\ RepV g w (σ ka).A x u
 vprog : ∀ i ∈ wv, i < all.size -> (listed[i]? = some true ↔ i < kv)
 aprog : ∀ i ∈ wa, i < all.size -> (listed[i]? = some true ↔ i < ka)
 vle : kv <= all.size
 ale : ka <= all.size
 vw : kv = 0 \/ ∃ i ∈ wv, kv = i + 1
 aw : ka = 0 \/ ∃ i ∈ wa, ka = i + 1
 closed : ∀ (i : Nat) o, all[i]? = some o -> listed[i]? = some true -> ∀ e ∈ o.after, Region.binds .any e = true -> listed[e.on]? = some true

end
end Go.Av

namespace Go.Av
attribute [-simp] Go.Av.take_app_len
open Go

def pairOkL (all : Array Oper) (ws fs : List Nat) (m q : Nat) (ms : List Nat) (oi oj : Oper) (i j : Nat) : Bool :=
 if j = q then oi.dst.isNone || oi.dst != oj.dst else pairOkF all ws fs m ms oi oj i j && (!(decide (i <= q) && decide (q < j)) || (ms.getD j 0).testBit i)

def drawOkL (all : Array Oper) (ws fs : List Nat) (m q : Nat) : Bool :=
 let l := all.toList.zipIdx
 let ms := masks all.toList []
 (l.all fun (o, j) => o.after.toList.all fun e => !Region.binds .any e || decide (e.on < j)) &&
 (l.all fun (oj, j) => l.all fun (oi, i) => !(decide (i < j)) || pairOkL all ws fs m q ms oi oj i j) &&
 (l.all fun (o, j) => !ws.contains j || !isS o.op) && (fs.all fun j => !ws.contains j) && (fs.all fun j => ws.all fun i => decide (i < m) || decide (j < i)) && ws.contains q

section
variable {P : Program} {n : Nat} {Q Q' : Exit -> St -> Prop} {s s' : St} {w0 : World} {g0 g g' : Gh} {a : Act} {w w' : World} {V : List (List CV)} {A A' : List Arr}

theorem Fr.trans (h : Fr w0 g0 w g) (k : Fr w g w' g') : Fr w0 g0 w' g' := by
 have notOb : ∀ b, b < w0.heap.size -> b ∉ g0.ob -> b ∉ g.ob := fun b hb h1 hm => by
  obtain ⟨new, e, hn⟩ := h.ob
  rw [e] at hm
  rcases List.mem_append.1 hm with q | q
  ·exact h1 q
  ·exact absurd (hn b q) (by omega)
 have notArb : ∀ b, b < w0.heap.size -> b ∉ g0.arb -> b ∉ g.arb := fun b hb h1 hm => by
  obtain ⟨k, v, q1, q2⟩ := Gh.mem_arb hm
  rcases h.ar k v b q1 q2 with q | q
  ·omega
  ·exact h1 q
 refine ⟨k.os.trans h.os, k.tape.trans h.tape, k.output.trans h.output, Nat.le_trans h.size k.size, fun b h1 h2 h3 => ?_, fun b h1 h2 => ?_, ?_, fun i v b h1 h2 => ?_, fun i v h1 => ?_, h.tab⟩
 ·rw [k.blk b (Nat.lt_of_lt_of_le h1 h.size) (notOb b h1 h2) (notArb b h1 h3)]; exact h.blk b h1 h2 h3
 ·rw [k.imeq b (Nat.lt_of_lt_of_le h1 h.size) (notArb b h1 h2)]; exact h.imeq b h1 h2
 ·obtain ⟨new, e, hn⟩ := h.ob
  obtain ⟨new', e', hn'⟩ := k.ob
  refine ⟨new ++ new', by rw [e', e, List.append_assoc], fun b hb => ?_⟩
  rcases List.mem_append.1 hb with q | q
  ·exact hn b q
  ·exact Nat.le_trans h.size (hn' b q)
 ·rcases k.ar i v b h1 h2 with q | q
  ·exact .inl (Nat.le_trans h.size q)
  ·obtain ⟨j, v', q1, q2⟩ := Gh.mem_arb q
   exact h.ar j v' b q1 q2
 ·obtain ⟨v1, q1, q2, q3⟩ := h.arx i v h1
  obtain ⟨v2, q4, q5, q6⟩ := k.arx i v1 q1
  exact ⟨v2, q4, Nat.le_trans q2 q5, fun e => (q6 (by omega)).trans (q3 (by omega))⟩
set_option maxHeartbeats 2000000 in
theorem drawL_one {all : Array Oper} {ow : Nat -> Bool} {ws fs : List Nat} {m q : Nat} {ex : List Nat} {V0 : List (List CV)} {A0 : List Arr} {σ : Nat -> St} (hd : drawOkL all ws fs m q = true) (hdst : dstsOk n all.toList = true)
  (htr : ∀ (j : Nat) o, all[j]? = some o -> StpF P all (ow j) fs j ex V0 A0 o (σ j) (σ (j + 1)) /\ (j ∈ ws \/ ((σ (j + 1)).V = (σ j).V /\ (σ (j + 1)).A = (σ j).A)) /\ (j < m -> Pre ex V0 A0 (σ (j + 1)) \/ ((σ (j + 1)).V = (σ j).V /\ (σ (j + 1)).A = (σ j).A))) (h00 : (σ 0).V = V0 /\ (σ 0).A = A0)
  {listed : Array Bool} {k0 : Nat} (hD : DSF all ws σ n w0 g0 listed k0 g a w) (hL : listed[q]? = some true -> ∀ i, i < q -> listed[i]? = some true) {j : Nat} (hj : j ∈ Region.ready .any all listed) (hq : j = q -> ∀ i, i < q -> listed[i]? = some true)
  {next : Act -> World -> Prop} {Q : Exit -> Act -> World -> Prop} (ih : ∀ k1 o g' a' w', all[j]? = some o -> (∀ t, o.dst ≠ some t -> a'.tmps[t]? = a.tmps[t]?) -> DSF all ws σ n w0 g0 (listed.setIfInBounds j true) k1 g' a' w' -> Fr w g w' g' -> next a' w') : wpOp P all Q j next a w := by
 simp only [drawOkL, Bool.and_eq_true, List.all_eq_true] at hd
 obtain ⟨⟨⟨⟨⟨hd1, hd2⟩, hd3⟩, hd4⟩, hd5⟩, hqw⟩ := hd
 have hqw : q ∈ ws := by simpa using hqw
 -- the checks, read
 have hmem : ∀ (j : Nat) o, all[j]? = some o -> (o, j) ∈ all.toList.zipIdx := fun j o h => by
  rw [List.mem_iff_getElem?]
  exact ⟨j, by simp [List.getElem?_zipIdx, h]⟩
 have hedge : ∀ (j : Nat) o, all[j]? = some o -> ∀ e ∈ o.after, Region.binds .any e = true -> e.on < j := fun j o h e he hb => by
  have := hd1 _ (hmem j o h) e (Array.mem_toList_iff.2 he)
  simpa [hb] using this
 have hpairL : ∀ (i j : Nat) oi oj, all[i]? = some oi -> all[j]? = some oj -> i < j -> pairOkL all ws fs m q (masks all.toList []) oi oj i j = true := fun i j oi oj h1 h2 hlt => by
  have := hd2 _ (hmem j oj h2) _ (hmem i oi h1)
  simpa [hlt] using this
 have hpairF : ∀ (i j : Nat) oi oj, all[i]? = some oi -> all[j]? = some oj -> i < j -> j ≠ q -> pairOkF all ws fs m (masks all.toList []) oi oj i j = true := fun i j oi oj h1 h2 hlt hne => by
  have := hpairL i j oi oj h1 h2 hlt
  simp only [pairOkL, if_neg hne, Bool.and_eq_true] at this
  exact this.1
 have hpair : ∀ (i j : Nat) oi oj, all[i]? = some oi -> all[j]? = some oj -> i < j -> j ≠ q -> i ∉ fs -> j ∉ fs -> pairOk all ws (masks all.toList []) oi oj i j = true := fun i j oi oj h1 h2 hlt hne hi hj => by
  have := hpairF i j oi oj h1 h2 hlt hne
  simpa [pairOkF, pairOk, hi, hj] using this
 have hwf : ∀ i, i ∈ ws -> i ∉ fs := fun i hi hf => by
  have := hd4 i hf
  simp [hi] at this
 have hpre : ∀ k, k <= m -> k <= all.size -> Pre ex V0 A0 (σ k) := by
  intro k
  induction k with
  | zero =>
   intro _ _
   refine ⟨?_, by rw [h00.2]; simp⟩
   rw [h00.1, exV_same]; simp
  | succ k ih =>
   intro h1 h2
   have ho : all[k]? = some all[k] := Array.getElem?_eq_getElem (by omega)
   rcases (htr k _ ho).2.2 (by omega) with h3 | ⟨h3, h4⟩
   ·exact h3
   ·have := ih (by omega) (by omega)
    exact ⟨by rw [h3]; exact this.1, by rw [h4]; exact this.2⟩
 have hws : ∀ (j : Nat) o, all[j]? = some o -> j ∈ ws -> isS o.op = false := fun j o h hj => by
  have := hd3 _ (hmem j o h)
  simpa [hj] using this
 have hdne : ∀ (i j : Nat) oi oj d, all[i]? = some oi -> all[j]? = some oj -> i < j -> oi.dst = some d -> oj.dst ≠ some d := fun i j oi oj d h1 h2 hlt h3 h4 => by
  have := hpairL i j oi oj h1 h2 hlt
  simp only [pairOkL, pairOkF, h3, h4] at this
  split at this <;> simp at this
 have hdu : ∀ (i j : Nat) oi oj d, all[i]? = some oi -> all[j]? = some oj -> oi.dst = some d -> oj.dst = some d -> i = j := fun i j oi oj d h1 h2 h3 h4 => by
  rcases Nat.lt_trichotomy i j with h | h | h
  ·exact absurd h4 (hdne i j oi oj d h1 h2 h h3)
  ·exact h
  ·exact absurd h3 (hdne j i oj oi d h2 h1 h h4)
 have hdn : ∀ (j : Nat) o d, all[j]? = some o -> o.dst = some d -> d < n := fun j o d h1 h2 => by
  have := List.all_eq_true.1 hdst o (by rw [Array.mem_toList_iff]; exact Array.mem_of_getElem? h1)
  simpa [h2] using this
 obtain ⟨hml, _, hms⟩ := masks_spec all.toList []
 -- the order that the edges force
 have hbit : ∀ {listed : Array Bool}, (∀ (i : Nat) o, all[i]? = some o -> listed[i]? = some true -> ∀ e ∈ o.after, Region.binds .any e = true -> listed[e.on]? = some true) ->
   ∀ (i : Nat) o, all[i]? = some o -> (∀ e ∈ o.after, Region.binds .any e = true -> listed[e.on]? = some true) -> ∀ k, ((masks all.toList []).getD i 0).testBit k = true -> listed[k]? = some true := by
  intro listed hcl i
  induction i using Nat.strongRecOn with
  | _ i ih =>
   intro o ho hafter k hk
   obtain ⟨pre, h1, h2, h3⟩ := hms i o (by simpa using ho)
   simp only [List.length_nil, Nat.zero_add] at h1 h3
   have h4 : (masks all.toList []).getD i 0 = mask1 pre o := by simp [List.getD, h3]
   rw [h4] at hk
   obtain ⟨e, he, hb, h5⟩ := mask1_spec hk
   have he1 := hafter e he hb
   rcases h5 with rfl | h5
   ·exact he1
   ·have hlt := hedge i o ho e he hb
    have h6 : pre.getD e.on 0 = (masks all.toList []).getD e.on 0 := by simp only [List.getD, h2 e.on (by omega)]
    rw [h6] at h5
    have hsz : e.on < all.size := by have := (Array.getElem?_eq_some_iff.1 ho).1; omega
    have hoe : all[e.on]? = some all[e.on] := Array.getElem?_eq_getElem hsz
    exact ih e.on hlt _ hoe (hcl e.on _ hoe he1) k h5
 -- frames
 have hstep : ∀ (j : Nat) o t, all[j]? = some o -> o.dst ≠ some t -> look (σ (j + 1)).fr t = look (σ j).fr t := fun j o t h1 h2 => by
  obtain ⟨⟨_, h3⟩, _⟩ := htr j o h1
  have hput : ∀ (x : AV) V A, look ((σ j).put o.dst x V A).fr t = look (σ j).fr t := fun x V A => by
   simp only [St.put]
   cases hdd : o.dst with
   | none => rfl
   | some d => simp only [look]; rw [if_neg (fun e => h2 (by rw [hdd, e]))]
  rcases h3 with ⟨_, x, V, A, h4, _, _⟩ | ⟨_, h4⟩
  ·rw [h4]; exact hput x V A
  ·rw [h4]; exact hput _ _ _
 have hfrB : ∀ (j t : Nat), j <= all.size -> (∀ (i : Nat) o, i < j -> all[i]? = some o -> o.dst ≠ some t) -> look (σ j).fr t = look (σ 0).fr t := by
  intro j
  induction j with
  | zero => intro t _ _; rfl
  | succ j ih =>
   intro t hj hno
   have ho : all[j]? = some all[j] := Array.getElem?_eq_getElem (by omega)
   rw [hstep j _ t ho (hno j _ (by omega) ho)]
   exact ih t (by omega) (fun i o hi => hno i o (by omega))
 have hfrA : ∀ (j i : Nat) oi t, j <= all.size -> i < j -> all[i]? = some oi -> oi.dst = some t -> look (σ j).fr t = look (σ (i + 1)).fr t := by
  intro j
  induction j with
  | zero => intro i oi t _ h; omega
  | succ j ih =>
   intro i oi t hj hij hoi hdt
   by_cases e : i = j
   ·subst e; rfl
   ·have ho : all[j]? = some all[j] := Array.getElem?_eq_getElem (by omega)
    rw [hstep j _ t ho (hdne i j oi _ t hoi ho (by omega) hdt)]
    exact ih i oi t (by omega) (by omega) hoi hdt
 have hVA : ∀ (b a : Nat), a <= b -> b <= all.size -> (∀ i, a <= i -> i < b -> i ∉ ws) -> (σ b).V = (σ a).V /\ (σ b).A = (σ a).A := by
  intro b
  induction b with
  | zero =>
   intro a h _ _
   obtain rfl : a = 0 := by omega
   exact ⟨rfl, rfl⟩
  | succ b ih =>
   intro a hab hb hno
   by_cases e : a = b + 1
   ·subst e; exact ⟨rfl, rfl⟩
   ·have ho : all[b]? = some all[b] := Array.getElem?_eq_getElem (by omega)
    obtain ⟨h1, h2⟩ := ih a (by omega) (by omega) (fun i hi hi' => hno i hi (by omega))
    rcases (htr b _ ho).2.1 with h3 | ⟨h3, h4⟩
    ·exact absurd h3 (hno b (by omega) (by omega))
    ·exact ⟨h3.trans h1, h4.trans h2⟩
 -- one operation
 obtain ⟨hun, o, ho, hafter⟩ := mem_ready.1 hj
 have hju := unlisted_of hun
 have hjn : j < all.size := (Array.getElem?_eq_some_iff.1 ho).1
 have hjl : j < listed.size := by rw [hD.lsize]; exact hjn
 have hne : ∀ i, j < i -> listed[i]? = some true -> i ≠ q := fun i h hl e => by
  subst e
  have := hL hl j h
  rw [hju] at this; simp at this
 have hafter' : ∀ e ∈ o.after, Region.binds .any e = true -> listed[e.on]? = some true := fun e he hb => listed_iff.1 (hafter e he hb)
 have hbefore : ∀ k, ((masks all.toList []).getD j 0).testBit k = true -> listed[k]? = some true := hbit hD.closed j o ho hafter'
 have hbehind : ∀ (i : Nat) oi, all[i]? = some oi -> listed[i]? = some true -> ((masks all.toList []).getD i 0).testBit j = false := fun i oi hoi hli => by
  cases hb : ((masks all.toList []).getD i 0).testBit j with
  | false => rfl
  | true => have := hbit hD.closed i oi hoi (hD.closed i oi hoi hli) j hb; rw [hju] at this; simp at this
 -- what the operation looks at
 have hlooks : ∀ t ∈ o.looksAt all, ∀ x, look (σ j).fr t = some x -> ∃ u, a.tmps[t]? = some u /\ RepV g w (σ k0).A x u := by
  intro t ht x hx
  by_cases hex : ∃ (i : Nat) (oi : Oper), i < j /\ all[i]? = some oi /\ oi.dst = some t
  ·obtain ⟨i, oi, hij, hoi, hdt⟩ := hex
   rw [hfrA j i oi t (by omega) hij hoi hdt] at hx
   have hli : listed[i]? = some true := by
    by_cases e : j = q
    ·exact hq e i (by omega)
    ·have hp := hpairF i j oi o hoi ho hij e
     have htc : touch all oi o = true := by simp only [touch, hdt]; simpa using ht
     simp only [pairOkF, htc, Bool.and_eq_true, Bool.or_eq_true] at hp
     have hb : ((masks all.toList []).getD j 0).testBit i = true := by simpa using hp.2
     exact hbefore i hb
   exact hD.slot1 i oi t x hoi hli hdt hx
  ·rw [hfrB j t (by omega) (fun i oi hij hoi hdt => hex ⟨i, oi, hij, hoi, hdt⟩)] at hx
   refine hD.slot0 t x (fun i oi hoi hli hdt => ?_) hx
   rcases Nat.lt_trichotomy i j with h | h | h
   ·exact hex ⟨i, oi, h, hoi, hdt⟩
   ·subst h; rw [hju] at hli; simp at hli
   ·have hp := hpairF j i o oi ho hoi h (hne i h hli)
    have htc : touch all oi o = true := by simp only [touch, hdt]; simpa using ht
    have hb := hbehind i oi hoi hli
    simp only [pairOkF, htc, hb, Bool.and_eq_true, Bool.or_eq_true] at hp
    simp at hp
 let fr' := (σ j).fr.filter fun p => (o.looksAt all).contains p.1
 have hlk : ∀ t, look fr' t = if (o.looksAt all).contains t then look (σ j).fr t else none := fun t => look_filter (fun t => (o.looksAt all).contains t) (σ j).fr t
 have hS : ∀ (V : List (List CV)), Slots g w ⟨fr', V, (σ k0).A⟩ a := fun V t x hx => by
  simp only [hlk] at hx
  split at hx
  ·rename_i hc; exact hlooks t (by simpa using hc) x hx
  ·cases hx
 have hop : ∀ (V V' : List (List CV)) (A A' : List Arr), ∀ x ∈ o.op.operands.toList, aval ⟨fr', V, A⟩ x = aval ⟨(σ j).fr, V', A'⟩ x := fun V V' A A' x hx => by
  cases x with
  | tmp t =>
   simp only [aval, hlk]
   rw [if_pos]
   simp only [Oper.looksAt, List.contains_eq_mem, decide_eq_true_eq, List.mem_append, List.mem_filterMap]
   exact .inl ⟨.tmp t, hx, rfl⟩
  | _ => rfl
 have hRr : Rp n w0 g0 ⟨fr', (σ k0).V, (σ k0).A⟩ g a w := ⟨hD.inv, hD.fr, hD.size, hD.defers, hS _⟩
 -- the guard
 obtain ⟨⟨hgd, hst⟩, hor, _⟩ := htr j o ho
 have hgd' : gdo all ⟨fr', (σ k0).V, (σ k0).A⟩ o True True /\ gw all ⟨fr', (σ k0).V, (σ k0).A⟩ o = gw all (σ j) o := by
  unfold gdo gw at *
  cases hgg : o.guard with
  | none => simp
  | some jw =>
   obtain ⟨q, want⟩ := jw
   simp only [hgg] at hgd ⊢
   obtain ⟨oq, h1, h2⟩ := onv_some hgd
   obtain ⟨t, h3, h4⟩ := onv_some h2
   have : look fr' t = look (σ j).fr t := by
    rw [hlk, if_pos]
    simp only [Oper.looksAt, hgg, List.contains_eq_mem, decide_eq_true_eq, List.mem_append]
    exact .inr (by simp [h1, h3])
   simp only [h1, onv, h3, Option.bind_some, this] at h4 ⊢
   exact ⟨h4, trivial⟩
 have hwant : Region.wanted o (yielded all a.tmps) = gw all (σ j) o := by
  rw [<- hgd'.2]
  have h0 := gdo_mono hgd'.1
  -- both say the same
  have h1 := hgd'.1
  unfold gdo at h1
  unfold gw
  cases hgg : o.guard with
  | none => simp [Region.wanted, hgg]
  | some jw =>
   obtain ⟨q, want⟩ := jw
   simp only [hgg] at h1 ⊢
   obtain ⟨oq, h2, h3⟩ := onv_some h1
   obtain ⟨t, h4, h5⟩ := onv_some h3
   obtain ⟨x, h6, h7⟩ := onv_some h5
   obtain ⟨h8, h9⟩ := yielded_of hRr h2 h4 h6
   simp only [h2, Option.bind_some, h4, h6]
   split at h7
   ·rename_i b; simp [Region.wanted, hgg, h8 b rfl]
   ·simp [Region.wanted, hgg, h9 rfl]
   ·exact h7.elim
 -- the state behind it
 have hset : ∀ i, (listed.setIfInBounds j true)[i]? = if i = j then some true else listed[i]? := fun i => by
  by_cases e : i = j
  ·subst e; simp [hjl]
  ·rw [if_neg e, Array.getElem?_setIfInBounds_ne (fun h => e h.symm)]
 have hoth : ∀ (v : Value) (t : Nat), o.dst ≠ some t -> (a.put o.dst v).tmps[t]? = a.tmps[t]? := fun v t hne => by
  cases hdd : o.dst with
  | none => rfl
  | some d =>
   simp only [Act.put]
   rw [Array.getElem?_setIfInBounds_ne (fun e => hne (by rw [hdd, e]))]
 have hnext : ∀ (k1 : Nat) (x : AV) (v : Value) (w' : World) (g' : Gh), look (σ (j + 1)).fr = look ((σ j).put o.dst x [] []).fr -> RepV g' w' (σ k1).A x v -> Inv g' w' (σ k1).V (σ k1).A -> Ext g w (σ k0).A g' w' (σ k1).A -> Fr w0 g0 w' g' -> k1 <= all.size -> (k1 = 0 \/ ∃ i ∈ ws, k1 = i + 1) ->
   (∀ i ∈ ws, i < all.size -> ((listed.setIfInBounds j true)[i]? = some true ↔ i < k1)) -> DSF all ws σ n w0 g0 (listed.setIfInBounds j true) k1 g' (a.put o.dst v) w' := by
  intro k1 x v w' g' hfr hrv hI hx hF hk hkw hwp
  have hputs : ∀ t u, o.dst ≠ some t -> a.tmps[t]? = some u -> (a.put o.dst v).tmps[t]? = some u := fun t u hne hu => by
   cases hdd : o.dst with
   | none => exact hu
   | some d =>
    simp only [Act.put]
    rw [Array.getElem?_setIfInBounds_ne (fun e => hne (by rw [hdd, e]))]; exact hu
  refine ⟨hI, hF, ?_, ?_, by simp [hD.lsize], fun i oi t y hoi hli hdt hy => ?_, fun t y hno hy => ?_, hwp, hk, hkw, fun i oi hoi hli e he hb => ?_⟩
  ·cases o.dst <;> simp [Act.put, hD.size]
  ·cases o.dst <;> simp [Act.put, hD.defers]
  ·rw [hset] at hli
   by_cases e : i = j
   ·subst e
    obtain rfl : o = oi := by rw [ho] at hoi; exact Option.some.inj hoi
    rw [hfr] at hy
    simp only [St.put, hdt, look, if_true] at hy
    cases hy
    refine ⟨v, ?_, hrv⟩
    have : t < a.tmps.size := by rw [hD.size]; exact hdn i o t ho hdt
    simp [Act.put, hdt, this]
   ·rw [if_neg e] at hli
    obtain ⟨u, h1, h2⟩ := hD.slot1 i oi t y hoi hli hdt hy
    exact ⟨u, hputs t u (fun h => e (hdu i j oi o t hoi ho hdt h)) h1, RepV.ext hx h2⟩
  ·have hne : o.dst ≠ some t := hno j o ho (by rw [hset, if_pos rfl])
   obtain ⟨u, h1, h2⟩ := hD.slot0 t y (fun i oi hoi hli => hno i oi hoi (by
    rw [hset]
    by_cases e : i = j
    ·rw [if_pos e]
    ·rw [if_neg e]; exact hli)) hy
   exact ⟨u, hputs t u hne h1, RepV.ext hx h2⟩
  ·rw [hset] at hli ⊢
   have : listed[e.on]? = some true := by
    by_cases e' : i = j
    ·subst e'
     obtain rfl : o = oi := by rw [ho] at hoi; exact Option.some.inj hoi
     exact hafter' e he hb
    ·rw [if_neg e'] at hli
     exact hD.closed i oi hoi hli e he hb
   by_cases e' : e.on = j
   ·rw [if_pos e']
   ·rw [if_neg e']; exact this
 have hwp0 : j ∉ ws -> ∀ i ∈ ws, i < all.size -> ((listed.setIfInBounds j true)[i]? = some true ↔ i < k0) := fun hjw i hi hin => by
  rw [hset, if_neg (fun e => hjw (by rw [<- e]; exact hi))]
  exact hD.wprog i hi hin
 have hva : isS o.op = false -> j ∉ fs -> (σ j).V = (σ k0).V /\ (σ j).A = (σ k0).A := by
  intro hns hjf
  rcases Nat.le_total j k0 with h | h
  ·have := hVA k0 j h hD.kle (fun i h1 h2 h3 => by
    have hin : i < all.size := by have := hD.kle; omega
    have hli := (hD.wprog i h3 hin).2 h2
    have hoi : all[i]? = some all[i] := Array.getElem?_eq_getElem hin
    rcases Nat.lt_or_ge j i with h4 | h4
    ·have hp := hpair j i o _ ho hoi h4 (hne i h4 hli) hjf (hwf i h3)
     have hb := hbehind i _ hoi hli
     simp only [pairOk, hb, Bool.and_eq_true, Bool.or_eq_true] at hp
     simp [h3, hns, -isS] at hp
    ·obtain rfl : i = j := by omega
     rw [hju] at hli; simp at hli)
   exact ⟨this.1.symm, this.2.symm⟩
  ·exact hVA j k0 h (by omega) (fun i h1 h2 h3 => by
    have hin : i < all.size := by omega
    have hoi : all[i]? = some all[i] := Array.getElem?_eq_getElem hin
    have hli : listed[i]? = some true := by
     by_cases e : j = q
     ·exact hq e i (by omega)
     ·have hp := hpair i j _ o hoi ho h2 e (hwf i h3) hjf
      simp only [pairOk, Bool.and_eq_true, Bool.or_eq_true] at hp
      rcases hp.2 with h4 | h4
      ·simp [h3, hns, -isS] at h4
      ·exact hbefore i h4
    have := (hD.wprog i h3 hin).1 hli
    omega)
 -- carried out, or passed over
 unfold wpOp
 simp only [ho]
 rcases hst with ⟨h1, x, V, A, h2, h3, h3f⟩ | ⟨h1, h2⟩
 ·rw [if_pos (by rw [hwant, h1])]
  refine .inl ?_
  by_cases hs : isS o.op = true
  ·-- slots alone
   have hjw : j ∉ ws := fun h => by have := hws j o ho h; rw [hs] at this; simp at this
   have h4 : astep P ⟨fr', (σ k0).V, (σ k0).A⟩ (ow j) o (fun y V' A' => y = x /\ V' = (σ k0).V /\ A' = (σ k0).A) := astep_S (s := σ j) (s' := ⟨fr', (σ k0).V, (σ k0).A⟩) hs (hop _ _ _ _) h3 ⟨rfl, rfl, rfl⟩
   obtain ⟨y, V', A', ⟨rfl, rfl, rfl⟩, h5⟩ := astep_wp hRr.inv (Fr.refl hRr.fr.now) hRr.slot h4
   refine h5 _ _ fun v w' g' h6 h7 h8 h9 => ih k0 o g' _ w' ho (hoth v) (hnext k0 y v w' g' (by rw [h2]; rfl) h6 h7 h8 (hD.fr.trans h9) hD.kle hD.kw (hwp0 hjw)) h9
  ·have hns : isS o.op = false := by simpa using hs
   by_cases hjf : j ∈ fs
   ·have hjw : j ∉ ws := fun h => hwf j h hjf
    have hk0m : k0 <= m := by
     rcases hD.kw with h | ⟨i, hi, hk⟩
     ·omega
     ·rcases Nat.lt_or_ge i m with h | h
      ·omega
      ·exfalso
       have hin : i < all.size := by have := hD.kle; omega
       have hoi : all[i]? = some all[i] := Array.getElem?_eq_getElem hin
       have hli := (hD.wprog i hi hin).2 (by omega)
       have hji : j < i := by
        have := hd5 j hjf i hi
        simp at this; omega
       have hp := hpairF j i o _ ho hoi hji (hne i hji hli)
       have hb := hbehind i _ hoi hli
       have hnm : ¬ i < m := by omega
       simp only [pairOkF, hb, Bool.and_eq_true, Bool.or_eq_true] at hp
       simp [-isS, hi, hns, hnm, hjf, hjw] at hp
    obtain ⟨hp1, hp2⟩ := hpre k0 hk0m hD.kle
    have h4 : astep P ⟨fr', (σ k0).V, (σ k0).A⟩ (ow j) o (fun y V' A' => y = x /\ V' = (σ k0).V /\ A' = (σ k0).A) := by
     have h5 := h3f hjf (fun i => (σ k0).V.getD i []) ((σ k0).V.drop V0.length) ((σ k0).A.drop A0.length)
     have e1 : exV ex (fun i => (σ k0).V.getD i []) V0 ++ (σ k0).V.drop V0.length = (σ k0).V := by
      rw [<- hp1]; exact List.take_append_drop _ _
     have e2 : A0 ++ (σ k0).A.drop A0.length = (σ k0).A := by conv => lhs; arg 1; rw [<- hp2]
                                                              exact List.take_append_drop _ _
     rw [e1, e2] at h5
     exact astep_congr (fr := (σ j).fr) (hop _ _ _ _) h5
    obtain ⟨y, V', A', ⟨rfl, rfl, rfl⟩, h5⟩ := astep_wp hRr.inv (Fr.refl hRr.fr.now) hRr.slot h4
    exact h5 _ _ fun v w' g' h6 h7 h8 h9 => ih k0 o g' _ w' ho (hoth v) (hnext k0 y v w' g' (by rw [h2]; rfl) h6 h7 h8 (hD.fr.trans h9) hD.kle hD.kw (hwp0 hjw)) h9
   obtain ⟨hv1, hv2⟩ := hva hns hjf
   have h4 : astep P ⟨fr', (σ k0).V, (σ k0).A⟩ (ow j) o (fun y V' A' => y = x /\ V' = V /\ A' = A) := by
    rw [<- hv1, <- hv2]
    exact astep_congr (fr := (σ j).fr) (hop _ _ _ _) (h3 _ ⟨rfl, rfl, rfl⟩)
   obtain ⟨y, V', A', ⟨rfl, rfl, rfl⟩, h5⟩ := astep_wp hRr.inv (Fr.refl hRr.fr.now) hRr.slot h4
   have hVj : (σ (j + 1)).V = V' := by rw [h2]; rfl
   have hAj : (σ (j + 1)).A = A' := by rw [h2]; rfl
   by_cases hjw : j ∈ ws
   ·refine h5 _ _ fun v w' g' h6 h7 h8 h9 => ih (j + 1) o g' _ w' ho (hoth v) (hnext (j + 1) y v w' g' (by rw [h2]; rfl) (by rw [hAj]; exact h6) (by rw [hVj, hAj]; exact h7) (by rw [hAj]; exact h8) (hD.fr.trans h9) (by omega) (.inr ⟨j, hjw, rfl⟩) (fun i hi hin => ?_)) h9
    have hoi : all[i]? = some all[i] := Array.getElem?_eq_getElem hin
    rw [hset]
    by_cases e : i = j
    ·subst e; simp
    ·rw [if_neg e]
     constructor
     ·intro hli
      rcases Nat.lt_or_ge j i with h | h
      ·have hp := hpair j i o _ ho hoi h (hne i h hli) (hwf j hjw) (hwf i hi)
       have hb := hbehind i _ hoi hli
       simp only [pairOk, hb, Bool.and_eq_true, Bool.or_eq_true] at hp
       simp [hi, hns, -isS] at hp
      ·omega
     ·intro hlt
      by_cases e : j = q
      ·exact hq e i (by omega)
      have hp := hpair i j _ o hoi ho (by omega) e (hwf i hi) (hwf j hjw)
      simp only [pairOk, Bool.and_eq_true, Bool.or_eq_true] at hp
      rcases hp.2 with h | h
      ·simp [hi, hns, -isS] at h
      ·exact hbefore i h
   ·rcases hor with hor | ⟨ho1, ho2⟩
    ·exact absurd hor hjw
    ·refine h5 _ _ fun v w' g' h6 h7 h8 h9 => ih k0 o g' _ w' ho (hoth v) (hnext k0 y v w' g' (by rw [h2]; rfl) ?_ ?_ ?_ (hD.fr.trans h9) hD.kle hD.kw (hwp0 hjw)) h9
     ·rw [<- hv2, <- ho2, hAj]; exact h6
     ·rw [<- hv1, <- hv2, <- ho1, <- ho2, hVj, hAj]; exact h7
     ·have e1 : (σ k0).A = A' := by rw [<- hv2, <- ho2, hAj]
      rw [e1] at h8 ⊢; exact h8
 ·rw [if_neg (by rw [hwant, h1]; simp)]
  have hVj : (σ (j + 1)).V = (σ j).V := by rw [h2]; rfl
  have hAj : (σ (j + 1)).A = (σ j).A := by rw [h2]; rfl
  by_cases hjw : j ∈ ws
  ·have hns := hws j o ho hjw
   obtain ⟨hv1, hv2⟩ := hva hns (hwf j hjw)
   refine ih (j + 1) o g _ w ho (hoth undef) (hnext (j + 1) (.c .undef) undef w g (by rw [h2]; rfl) rfl ?_ ?_ hD.fr (by omega) (.inr ⟨j, hjw, rfl⟩) (fun i hi hin => ?_)) (.refl hD.fr.now)
   ·rw [hVj, hAj, hv1, hv2]; exact hD.inv
   ·rw [hAj, hv2]; exact .refl _ _ _
   ·have hoi : all[i]? = some all[i] := Array.getElem?_eq_getElem hin
    rw [hset]
    by_cases e : i = j
    ·subst e; simp
    ·rw [if_neg e]
     constructor
     ·intro hli
      rcases Nat.lt_or_ge j i with h | h
      ·have hp := hpair j i o _ ho hoi h (hne i h hli) (hwf j hjw) (hwf i hi)
       have hb := hbehind i _ hoi hli
       simp only [pairOk, hb, Bool.and_eq_true, Bool.or_eq_true] at hp
       simp [hi, hns, -isS] at hp
      ·omega
     ·intro hlt
      by_cases e : j = q
      ·exact hq e i (by omega)
      have hp := hpair i j _ o hoi ho (by omega) e (hwf i hi) (hwf j hjw)
      simp only [pairOk, Bool.and_eq_true, Bool.or_eq_true] at hp
      rcases hp.2 with h | h
      ·simp [hi, hns, -isS] at h
      ·exact hbefore i h
  ·exact ih k0 o g _ w ho (hoth undef) (hnext k0 (.c .undef) undef w g (by rw [h2]; rfl) rfl hD.inv (.refl _ _ _) hD.fr hD.kle hD.kw (hwp0 hjw)) (.refl hD.fr.now)

structure Late (all : Array Oper) (ws : List Nat) (σ : Nat -> St) (n : Nat) (w0 : World) (g0 : Gh) (q d : Nat) (row : List CV) (cs : Array Value) (ty : TypeId) (listed : Array Bool) (k0 : Nat) (b : Nat) (g : Gh) (a : Act) (w : World) : Prop where
 got : listed[q]? = some true
 base : DSF all ws σ n w0 g0 (listed.setIfInBounds q false) k0 g a w
 slot : a.tmps[d]? = some (.pointer (some ⟨b, 0, none⟩))
 mem : w.heap[b]? = some (.cells cs ty)
 ob : b ∉ g.ob
 arb : b ∉ g.arb
 im : g.im b = 0
 new : w0.heap.size <= b
 lt : b < w.heap.size
 closed : ∀ (i : Nat) o, all[i]? = some o -> listed[i]? = some true -> ∀ e ∈ o.after, Region.binds .any e = true -> listed[e.on]? = some true

theorem Late.step {all : Array Oper} {ws : List Nat} {σ : Nat -> St} {q d : Nat} {row : List CV} {cs : Array Value} {ty : TypeId} {listed : Array Bool} {k0 k1 b : Nat} {a' : Act} (h : Late all ws σ n w0 g0 q d row cs ty listed k0 b g a w) {j : Nat} (hjq : j ≠ q) (ha : a'.tmps[d]? = a.tmps[d]?)
  (hD : DSF all ws σ n w0 g0 ((listed.setIfInBounds q false).setIfInBounds j true) k1 g' a' w') (hF : Fr w g w' g') (hcl : ∀ (i : Nat) o, all[i]? = some o -> (listed.setIfInBounds j true)[i]? = some true -> ∀ e ∈ o.after, Region.binds .any e = true -> (listed.setIfInBounds j true)[e.on]? = some true) : Late all ws σ n w0 g0 q d row cs ty (listed.setIfInBounds j true) k1 b g' a' w' := by
 refine ⟨by rw [Array.getElem?_setIfInBounds_ne hjq]; exact h.got, ?_, by rw [ha]; exact h.slot, by rw [hF.blk b h.lt h.ob h.arb]; exact h.mem, fun hm => ?_, fun hm => ?_, by rw [hF.imeq b h.lt h.arb]; exact h.im, h.new, Nat.lt_of_lt_of_le h.lt hF.size, hcl⟩
 ·rw [Array.setIfInBounds_comm _ _ hjq]; exact hD
 ·obtain ⟨new, e, hn⟩ := hF.ob
  rw [e] at hm
  rcases List.mem_append.1 hm with p | p
  ·exact h.ob p
  ·have := hn b p; have := h.lt; omega
 ·obtain ⟨k, v, q1, q2⟩ := Gh.mem_arb hm
  rcases hF.ar k v b q1 q2 with p | p
  ·have := h.lt; omega
  ·exact h.arb p

structure LateOk (P : Program) (all : Array Oper) (ow : Nat -> Bool) (σ : Nat -> St) (q d : Nat) (row : List CV) (cs : Array Value) (ty : TypeId) (oq : Oper) : Prop where
 at_ : all[q]? = some oq
 guard : oq.guard = none
 dst : oq.dst = some d
 s0 : look (σ 0).fr d = none
 size : cs.size = row.length
 cells : ∀ (j : Nat) c u, row[j]? = some c -> cs[j]? = some u -> ∀ g w A, RepC g w A c u
 next : σ (q + 1) = (σ q).put (some d) (.c (.ptr (σ q).V.length 0)) ((σ q).V ++ [row]) (σ q).A
 run : ∀ (a : Act) (w : World), (execOp a.eval oq).run P w = .ok (.value (.pointer (some ⟨w.heap.size, 0, none⟩))) (w.alloc (.cells cs ty))

theorem bit_listed {all : Array Oper} (hedge : ∀ (j : Nat) o, all[j]? = some o -> ∀ e ∈ o.after, Region.binds .any e = true -> e.on < j) {listed : Array Bool} (hcl : ∀ (i : Nat) o, all[i]? = some o -> listed[i]? = some true -> ∀ e ∈ o.after, Region.binds .any e = true -> listed[e.on]? = some true) :
  ∀ (i : Nat) o, all[i]? = some o -> (∀ e ∈ o.after, Region.binds .any e = true -> listed[e.on]? = some true) -> ∀ k, ((masks all.toList []).getD i 0).testBit k = true -> listed[k]? = some true := by
 obtain ⟨hml, _, hms⟩ := masks_spec all.toList []
 intro i
 induction i using Nat.strongRecOn with
 | _ i ih =>
  intro o ho hafter k hk
  obtain ⟨pre, h1, h2, h3⟩ := hms i o (by simpa using ho)
  simp only [List.length_nil, Nat.zero_add] at h1 h3
  have h4 : (masks all.toList []).getD i 0 = mask1 pre o := by simp [List.getD, h3]
  rw [h4] at hk
  obtain ⟨e, he, hb, h5⟩ := mask1_spec hk
  have he1 := hafter e he hb
  rcases h5 with rfl | h5
  ·exact he1
  ·have hlt := hedge i o ho e he hb
   have h6 : pre.getD e.on 0 = (masks all.toList []).getD e.on 0 := by simp only [List.getD, h2 e.on (by omega)]
   rw [h6] at h5
   have hsz : e.on < all.size := by have := (Array.getElem?_eq_some_iff.1 ho).1; omega
   have hoe : all[e.on]? = some all[e.on] := Array.getElem?_eq_getElem hsz
   exact ih e.on hlt _ hoe (hcl e.on _ hoe he1) k h5

end
end Go.Av
