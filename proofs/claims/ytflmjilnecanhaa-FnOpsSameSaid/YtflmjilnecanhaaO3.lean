/- A part of the library of this seat. -/
import Derived.Test.YtflmjilnecanhaaO2
set_option linter.unusedVariables false
set_option linter.unusedSimpArgs false
namespace Go.Av
attribute [-simp] Go.Av.astep Go.Av.wpo Go.Av.gdo Go.Av.onv Go.Av.aval Go.Av.avals Go.Av.oval Go.Av.slow Go.Av.shigh Go.Av.alen Go.Av.rowsOf Go.Av.look Go.Av.cvOf Go.Av.St.put Go.Av.cellsAt Go.Av.mkV Go.Av.splice Go.Av.abin Go.Av.aun Go.Av.abinS Go.Av.abinB Go.Av.cEq Go.Av.AV.plain Go.Av.AV.cells Go.Av.CV.isUndef Go.Av.toD Go.Av.toDs Go.Av.toRows Go.Av.sealA Go.Av.sealAs Go.Av.innAs Go.Av.AV.inn Go.Av.CV.inn Go.Av.inns Go.Av.AV.outn Go.Av.CV.outn Go.Av.argCells Go.Av.aparts Go.Av.arows Go.Av.afill Go.Av.isS Go.Av.ares Go.Av.ares1 Go.Av.AV.res1 Go.Av.CV.res Go.Av.ress Go.Av.pos? Go.Av.poss Go.Av.Then Go.Av.InBlock Go.Av.Sub Go.Av.subL Go.Av.argFr Go.Av.get_app_len Go.Av.get_app_len0 Go.Av.set_app_len Go.Av.set_app_len0 Go.Av.MTy.kind_mk Go.Av.MTy.kids_mk Go.Av.MTm.kind_mk Go.Av.MTm.name_mk Go.Av.MTm.num_mk Go.Av.MTm.ty_mk Go.Av.MTm.fr_mk Go.Av.MTm.label_mk Go.Av.MTm.kids_mk Go.Av.freeStep Go.Av.exV Go.Av.keepL Go.Av.ups Go.Av.take_app_len
open Go

def isA : Op -> Bool
 | .buildSlice _ _ _ => true
 | .call { callee := .builtin .append, .. } => true
 | _ => false

def pairOkH (all : Array Oper) (wv wa fs : List Nat) (m : Nat) (ms : List Nat) (oi oj : Oper) (i j : Nat) : Bool :=
 (oi.dst.isNone || oi.dst != oj.dst) && ((!touch all oi oj && !touch all oj oi &&
  !((wv.contains i || wa.contains i) && !isS oj.op && !(fs.contains j && decide (i < m)) && !(wv.contains i && wa.contains j) && !(wa.contains i && wv.contains j)) &&
  !((wv.contains j || wa.contains j) && !isS oi.op && !(fs.contains i && decide (j < m)) && !(wv.contains j && wa.contains i) && !(wa.contains j && wv.contains i))) || (ms.getD j 0).testBit i)

def drawOkH (all : Array Oper) (wv wa fs : List Nat) (m : Nat) : Bool :=
 let l := all.toList.zipIdx
 let ms := masks all.toList []
 (l.all fun (o, j) => o.after.toList.all fun e => !Region.binds .any e || decide (e.on < j)) &&
 (l.all fun (oj, j) => l.all fun (oi, i) => !(decide (i < j)) || pairOkH all wv wa fs m ms oi oj i j) &&
 (l.all fun (o, j) => (!wv.contains j || !isS o.op) && (!wa.contains j || isA o.op)) && (fs.all fun j => !wv.contains j && !wa.contains j) &&
 (fs.all fun j => (wv ++ wa).all fun i => decide (i < m) || decide (j < i)) && (wv.all fun j => !wa.contains j)

def aopsH (P : Program) (all : Array Oper) (ow : Nat -> Bool) (wv wa fs : List Nat) (m : Nat) (ex : List Nat) (V0 : List (List CV)) (A0 : List Arr) (K : St -> Prop) : Nat -> List Oper -> St -> Prop
 | _, [], s => K s
 | i, o :: rest, s => gdo all s o (astep P s (ow i) o fun x V A => ((i ∈ wv \/ V = s.V) /\ (i ∈ wa \/ A = s.A)) /\ (i ∈ wv \/ i ∈ wa -> i < m -> V.take V0.length = exV ex (fun i => V.getD i []) V0 /\ A.take A0.length = A0) /\ (i ∈ fs -> freeStep P s (ow i) o ex V0 A0 x) /\
   (i ∈ wv -> ∀ A2, astep P ⟨s.fr, s.V, A2⟩ (ow i) o fun y V' A' => y = x /\ V' = V /\ A' = A2) /\ aopsH P all ow wv wa fs m ex V0 A0 K (i + 1) rest (s.put o.dst x V A)) (aopsH P all ow wv wa fs m ex V0 A0 K (i + 1) rest (s.put o.dst (.c .undef) s.V s.A))

section
variable {P : Program} {n : Nat} {Q Q' : Exit -> St -> Prop} {s s' : St} {w0 : World} {g0 g g' : Gh} {a : Act} {w w' : World} {V : List (List CV)} {A A' : List Arr}

def StpH (P : Program) (all : Array Oper) (ow : Bool) (wv fs : List Nat) (j : Nat) (ex : List Nat) (V0 : List (List CV)) (A0 : List Arr) (o : Oper) (s s' : St) : Prop :=
 gdo all s o True True /\ ((gw all s o = true /\ ∃ x V A, s' = s.put o.dst x V A /\ (∀ K : AV -> List (List CV) -> List Arr -> Prop, K x V A -> astep P s ow o K) /\ (j ∈ fs -> freeStep P s ow o ex V0 A0 x) /\
  (j ∈ wv -> ∀ A2, astep P ⟨s.fr, s.V, A2⟩ ow o fun y V' A' => y = x /\ V' = V /\ A' = A2)) \/ (gw all s o = false /\ s' = s.put o.dst (.c .undef) s.V s.A))

structure DSH (all : Array Oper) (wv wa : List Nat) (σ : Nat -> St) (n : Nat) (w0 : World) (g0 : Gh) (listed : Array Bool) (kv ka : Nat) (g : Gh) (a : Act) (w : World) : Prop where
 inv : Inv g w (σ kv).V (σ ka).A
 fr : Fr w0 g0 w g
 size : a.tmps.size = n
 defers : a.defers = []
 lsize : listed.size = all.size
 slot1 : ∀ (i : Nat) o t x, all[i]? = some o -> listed[i]? = some true -> o.dst = some t -> look (σ (i + 1)).fr t = some x -> ∃ u, a.tmps[t]? = some u /\ RepV g w (σ ka).A x u
 slot0 : ∀ t x, (∀ (i : Nat) o, all[i]? = some o -> listed[i]? = some true -> o.dst ≠ some t) -> look (σ 0).fr t = some x -> ∃ u, a.tmps[t]? = some u /\ RepV g w (σ ka).A x u
 vprog : ∀ i ∈ wv, i < all.size -> (listed[i]? = some true ↔ i < kv)
 aprog : ∀ i ∈ wa, i < all.size -> (listed[i]? = some true ↔ i < ka)
 vle : kv <= all.size
 ale : ka <= all.size
 vw : kv = 0 \/ ∃ i ∈ wv, kv = i + 1
 aw : ka = 0 \/ ∃ i ∈ wa, ka = i + 1
 closed : ∀ (i : Nat) o, all[i]? = some o -> listed[i]? = some true -> ∀ e ∈ o.after, Region.binds .any e = true -> listed[e.on]? = some true

end
end Go.Av

namespace Go.Av
attribute [-simp] Go.Av.take_app_len
open Go

def pairOkL (all : Array Oper) (ws fs : List Nat) (m q : Nat) (ms : List Nat) (oi oj : Oper) (i j : Nat) : Bool :=
 if j = q then oi.dst.isNone || oi.dst != oj.dst else pairOkF all ws fs m ms oi oj i j && (!(decide (i <= q) && decide (q < j)) || (ms.getD j 0).testBit i)

def drawOkL (all : Array Oper) (ws fs : List Nat) (m q : Nat) : Bool :=
 let l := all.toList.zipIdx
 let ms := masks all.toList []
 (l.all fun (o, j) => o.after.toList.all fun e => !Region.binds .any e || decide (e.on < j)) &&
 (l.all fun (oj, j) => l.all fun (oi, i) => !(decide (i < j)) || pairOkL all ws fs m q ms oi oj i j) &&
 (l.all fun (o, j) => !ws.contains j || !isS o.op) && (fs.all fun j => !ws.contains j) && (fs.all fun j => ws.all fun i => decide (i < m) || decide (j < i)) && ws.contains q

section
variable {P : Program} {n : Nat} {Q Q' : Exit -> St -> Prop} {s s' : St} {w0 : World} {g0 g g' : Gh} {a : Act} {w w' : World} {V : List (List CV)} {A A' : List Arr}

theorem Fr.trans (h : Fr w0 g0 w g) (k : Fr w g w' g') : Fr w0 g0 w' g' := by
 have notOb : ∀ b, b < w0.heap.size -> b ∉ g0.ob -> b ∉ g.ob := fun b hb h1 hm => by
  obtain ⟨new, e, hn⟩ := h.ob
  rw [e] at hm
  rcases List.mem_append.1 hm with q | q
  ·exact h1 q
  ·exact absurd (hn b q) (by omega)
 have notArb : ∀ b, b < w0.heap.size -> b ∉ g0.arb -> b ∉ g.arb := fun b hb h1 hm => by
  obtain ⟨k, v, q1, q2⟩ := Gh.mem_arb hm
  rcases h.ar k v b q1 q2 with q | q
  ·omega
  ·exact h1 q
 refine ⟨k.os.trans h.os, k.tape.trans h.tape, k.output.trans h.output, Nat.le_trans h.size k.size, fun b h1 h2 h3 => ?_, fun b h1 h2 => ?_, ?_, fun i v b h1 h2 => ?_, fun i v h1 => ?_, h.tab⟩
 ·rw [k.blk b (Nat.lt_of_lt_of_le h1 h.size) (notOb b h1 h2) (notArb b h1 h3)]; exact h.blk b h1 h2 h3
 ·rw [k.imeq b (Nat.lt_of_lt_of_le h1 h.size) (notArb b h1 h2)]; exact h.imeq b h1 h2
 ·obtain ⟨new, e, hn⟩ := h.ob
  obtain ⟨new', e', hn'⟩ := k.ob
  refine ⟨new ++ new', by rw [e', e, List.append_assoc], fun b hb => ?_⟩
  rcases List.mem_append.1 hb with q | q
  ·exact hn b q
  ·exact Nat.le_trans h.size (hn' b q)
 ·rcases k.ar i v b h1 h2 with q | q
  ·exact .inl (Nat.le_trans h.size q)
  ·obtain ⟨j, v', q1, q2⟩ := Gh.mem_arb q
   exact h.ar j v' b q1 q2
 ·obtain ⟨v1, q1, q2, q3⟩ := h.arx i v h1
  obtain ⟨v2, q4, q5, q6⟩ := k.arx i v1 q1
  exact ⟨v2, q4, Nat.le_trans q2 q5, fun e => (q6 (by omega)).trans (q3 (by omega))⟩
structure Late (all : Array Oper) (ws : List Nat) (σ : Nat -> St) (n : Nat) (w0 : World) (g0 : Gh) (q d : Nat) (row : List CV) (cs : Array Value) (ty : TypeId) (listed : Array Bool) (k0 : Nat) (b : Nat) (g : Gh) (a : Act) (w : World) : Prop where
 got : listed[q]? = some true
 base : DSF all ws σ n w0 g0 (listed.setIfInBounds q false) k0 g a w
 slot : a.tmps[d]? = some (.pointer (some ⟨b, 0, none⟩))
 mem : w.heap[b]? = some (.cells cs ty)
 ob : b ∉ g.ob
 arb : b ∉ g.arb
 im : g.im b = 0
 new : w0.heap.size <= b
 lt : b < w.heap.size
 closed : ∀ (i : Nat) o, all[i]? = some o -> listed[i]? = some true -> ∀ e ∈ o.after, Region.binds .any e = true -> listed[e.on]? = some true

theorem Late.step {all : Array Oper} {ws : List Nat} {σ : Nat -> St} {q d : Nat} {row : List CV} {cs : Array Value} {ty : TypeId} {listed : Array Bool} {k0 k1 b : Nat} {a' : Act} (h : Late all ws σ n w0 g0 q d row cs ty listed k0 b g a w) {j : Nat} (hjq : j ≠ q) (ha : a'.tmps[d]? = a.tmps[d]?)
  (hD : DSF all ws σ n w0 g0 ((listed.setIfInBounds q false).setIfInBounds j true) k1 g' a' w') (hF : Fr w g w' g') (hcl : ∀ (i : Nat) o, all[i]? = some o -> (listed.setIfInBounds j true)[i]? = some true -> ∀ e ∈ o.after, Region.binds .any e = true -> (listed.setIfInBounds j true)[e.on]? = some true) : Late all ws σ n w0 g0 q d row cs ty (listed.setIfInBounds j true) k1 b g' a' w' := by
 refine ⟨by rw [Array.getElem?_setIfInBounds_ne hjq]; exact h.got, ?_, by rw [ha]; exact h.slot, by rw [hF.blk b h.lt h.ob h.arb]; exact h.mem, fun hm => ?_, fun hm => ?_, by rw [hF.imeq b h.lt h.arb]; exact h.im, h.new, Nat.lt_of_lt_of_le h.lt hF.size, hcl⟩
 ·rw [Array.setIfInBounds_comm _ _ hjq]; exact hD
 ·obtain ⟨new, e, hn⟩ := hF.ob
  rw [e] at hm
  rcases List.mem_append.1 hm with p | p
  ·exact h.ob p
  ·have := hn b p; have := h.lt; omega
 ·obtain ⟨k, v, q1, q2⟩ := Gh.mem_arb hm
  rcases hF.ar k v b q1 q2 with p | p
  ·have := h.lt; omega
  ·exact h.arb p

structure LateOk (P : Program) (all : Array Oper) (ow : Nat -> Bool) (σ : Nat -> St) (q d : Nat) (row : List CV) (cs : Array Value) (ty : TypeId) (oq : Oper) : Prop where
 at_ : all[q]? = some oq
 guard : oq.guard = none
 dst : oq.dst = some d
 s0 : look (σ 0).fr d = none
 size : cs.size = row.length
 cells : ∀ (j : Nat) c u, row[j]? = some c -> cs[j]? = some u -> ∀ g w A, RepC g w A c u
 next : σ (q + 1) = (σ q).put (some d) (.c (.ptr (σ q).V.length 0)) ((σ q).V ++ [row]) (σ q).A
 run : ∀ (a : Act) (w : World), (execOp a.eval oq).run P w = .ok (.value (.pointer (some ⟨w.heap.size, 0, none⟩))) (w.alloc (.cells cs ty))

end
end Go.Av
