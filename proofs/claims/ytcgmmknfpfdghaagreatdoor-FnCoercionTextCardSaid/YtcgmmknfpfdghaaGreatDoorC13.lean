/- A part of the library of this seat. -/
import Derived.Test.YtcgmmknfpfdghaaGreatDoorC12
import Derived.LaidEql
set_option linter.unusedVariables false
set_option linter.unusedSimpArgs false
namespace Go.Av
attribute [-simp] Go.Av.MCo.kind_mk Go.Av.MCo.tag_mk Go.Av.MCo.label_mk Go.Av.MCo.kids_mk Go.Av.astepJ Go.Av.relC Go.Av.relL Go.Av.relV Go.Av.relVs Go.Av.callJ
open Go

def fp : Value -> Nat -> Value
 | .pointer (some ⟨b, o, k⟩), off => .pointer (some ⟨b, o + off, k⟩)
 | v, _ => v
def cvD : CV -> Option DV
 | .d x => if x.scal = true then some x else none
 | .np => some (.raw (.pointer none))
 | .nil => some (.raw (.slice none 0 0))
 | _ => none
def cvDs : List CV -> Option (List DV)
 | [] => some []
 | c :: r => match cvD c, cvDs r with
  | some x, some l => some (x :: l)
  | _, _ => none
theorem cvD_rep {g : Gh} {w : World} {A : List Arr} {im : Nat -> Nat} {w' : World} {c : CV} {x : DV} {u : Value} (h : cvD c = some x) (hr : RepC g w A c u) : RepD im w' x u := by
 cases c with
 | d y =>
  simp only [cvD] at h
  split at h
  ·rename_i hs; simp at h; subst h; exact DV.scal_rep hs hr
  ·simp at h
 | np => simp only [cvD, Option.some.injEq] at h; subst h; exact ⟨hr, by simp only [RepC] at hr; subst hr; rfl⟩
 | nil => simp only [cvD, Option.some.injEq] at h; subst h; exact ⟨hr, by simp only [RepC] at hr; subst hr; rfl⟩
 | _ => simp [cvD] at h
theorem cvDs_len : ∀ {cs : List CV} {ds : List DV}, cvDs cs = some ds -> ds.length = cs.length
 | [], ds, h => by simp [cvDs] at h; subst h; rfl
 | c :: r, ds, h => by
  simp only [cvDs] at h
  split at h
  ·rename_i x l h1 h2; simp at h; subst h; simp [cvDs_len h2]
  ·simp at h
theorem cvDs_at : ∀ {cs : List CV} {ds : List DV}, cvDs cs = some ds -> ∀ {j : Nat} {c x}, cs[j]? = some c -> ds[j]? = some x -> cvD c = some x
 | [], ds, h, j, c, x, h1, _ => by simp at h1
 | y :: r, ds, h, j, c, x, h1, h2 => by
  simp only [cvDs] at h
  split at h
  ·rename_i a l h3 h4
   simp at h; subst h
   cases j with
   | zero => simp at h1 h2; subst h1; subst h2; exact h3
   | succ j => exact cvDs_at h4 (by simpa using h1) (by simpa using h2)
  ·simp at h

section
variable {P : Program} {n : Nat} {s : St} {L L2 : Ts} {all : Array Oper} {ow : Nat -> Bool} {K : St -> Ts -> Prop} {i : Nat} {o : Oper} {rest : List Oper}

theorem Trs.node {w : World} {T : TypeId} {row : List DV} {pv : Value} {S : List Nat} (h : Trs w L S) (hm : (.n T row, pv) ∈ L) :
  ∃ b xs, pv = .pointer (some ⟨b, 0, none⟩) /\ b ∈ S /\ w.heap[b]? = some (.cells xs T (0, 0)) /\ xs.size = row.length /\ ∀ (j : Nat) x u, row[j]? = some x -> xs[j]? = some u -> RepD (fun _ => 0) w x u := by
 obtain ⟨S', h1, h2⟩ := h.at_ hm
 simp only [Tr] at h1
 obtain ⟨b, xs, rfl, h3, h4, h5, rfl⟩ := h1
 exact ⟨b, xs, rfl, h2 b (by simp), h3, h4, h5⟩

theorem aopsJ_store {t : TypeId} {d : TD} {x y : Operand} {off : Nat} {T : TypeId} {row : List DV} {pv : Value} {c : CV} {e : DV} (hg : o.guard = none) (ho : o.op = .store t x y) (hd : td P t = some d) (hsz : d.sz = 1)
  (hx : aval s x = some (.c (.d (.raw (fp pv off))))) (hy : aval s y = some (.c c)) (hc : cvD c = some e) (hp : L.Perm ((.n T row, pv) :: L2)) (hoff : off < row.length)
  (hK : OpsJ P n all ow K (i + 1) rest (s.put o.dst (.c .undef) s.V s.A) ((.n T (row.set off e), pv) :: L2)) : OpsJ P n all ow K i (o :: rest) s L := by
 refine ⟨fun hds w0 g0 X S g a w Q hR hQ => ?_⟩
 simp only [dstsOk, List.all_cons, Bool.and_eq_true] at hds
 have hdst : ∀ d, o.dst = some d -> d < n := fun d e => by have := hds.1; rw [e] at this; simpa using this
 obtain ⟨S0, hS0, hT0⟩ := hR.trs.perm hp
 obtain ⟨S1, S2, rfl, htr, hT2⟩ := hT0
 simp only [Tr] at htr
 obtain ⟨b, xs, rfl, hh, hxl, hr, rfl⟩ := htr
 have hnd := hS0.nodup_iff.1 hR.nd
 have hout := fun b hb => hR.out b (hS0.mem_iff.2 hb)
 obtain ⟨hb1, hb2, hb3, hb4, hb5⟩ := hout b (by simp)
 have hv := aval_sound hR.slot hx
 simp only [RepV, RepE, RepC, RepD] at hv
 have hu := aval_sound hR.slot hy
 simp only [RepV, RepE] at hu
 have heD := cvD_rep (im := fun _ => 0) (w' := w) hc hu
 have h1c : (a.eval y).oneCell' = true := heD.oneCell
 have hcells : (a.eval y).cells = #[a.eval y] := by
  cases hq : a.eval y <;> first | rfl | (rw [hq] at h1c; simp [Value.oneCell'] at h1c)
 have hrun := run_storeAt_av (P := P) hd (v := a.eval y) (by rw [hcells, hsz]; rfl) hh (off := off) (by rw [hsz]; omega) (fun u hu => by rw [hcells] at hu; simp at hu; subst hu; exact h1c)
 have hsp : (splice xs.toList off (a.eval y).cells.toList).toArray = xs.setIfInBounds off (a.eval y) := by
  rw [hcells]
  apply Array.ext'
  simp only [Array.toList_setIfInBounds]
  apply List.ext_getElem?
  intro j
  rw [splice_at (by simp; omega), List.getElem?_set]
  simp only [List.length_cons, List.length_nil, Nat.zero_add, Array.length_toList]
  by_cases hj : off = j
  ·subst hj
   rw [if_pos ⟨Nat.le_refl _, by omega⟩, if_pos rfl, if_pos (by omega), Nat.sub_self]; rfl
  ·rw [if_neg (by omega), if_neg hj]
 rw [hsp] at hrun
 have hblt : b < w.heap.size := (Array.getElem?_eq_some_iff.1 hh).1
 unfold wpList
 rw [if_pos (by simp [Region.wanted, hg])]
 refine .inl ?_
 unfold Oper.wp
 have hrun2 : (execOp a.eval o).run P w = .ok .skip (w.setRow b (xs.setIfInBounds off (a.eval y))) := by
  rw [execOp, ho]
  refine run_skip ?_
  rw [hv.1, show fp (.pointer (some ⟨b, 0, none⟩)) off = .pointer (some ⟨b, off, none⟩) by simp [fp]]
  exact hrun
 rw [hrun2]
 have hoth : ∀ b', b' ≠ b -> (w.setRow b (xs.setIfInBounds off (a.eval y))).heap[b']? = w.heap[b']? := fun b' hb' => heap_setRow_other w b b' _ hb'
 have hnew : (w.setRow b (xs.setIfInBounds off (a.eval y))).heap[b]? = some (.cells (xs.setIfInBounds off (a.eval y)) T (0, 0)) := setRow_heap w b xs _ T (0, 0) hh
 have hszw : (w.setRow b (xs.setIfInBounds off (a.eval y))).heap.size = w.heap.size := by simp
 have hgr : Grows g.im w g.im (w.setRow b (xs.setIfInBounds off (a.eval y))) := ⟨fun _ => Nat.le_refl _, fun b' o' hlo => by
  have hne : b' ≠ b := fun e => by subst e; omega
  exact World.cell?_of_block (a := ⟨b', o', none⟩) (hoth b' hne)⟩
 have hxt : Ext g w s.A g (w.setRow b (xs.setIfInBounds off (a.eval y))) s.A := ⟨fun _ _ h => h, hgr, fun _ r h => ⟨r, h, rfl, Nat.le_refl _, fun _ => rfl⟩⟩
 have hIv : Inv g (w.setRow b (xs.setIfInBounds off (a.eval y))) s.V s.A := by
  refine ⟨hR.inv.obl, hR.inv.arl, fun l row' b' h3 h4 => ?_, fun k r u h3 h4 => ?_, hR.inv.obob, hR.inv.arar, hR.inv.obar, fun b' hb' => hR.inv.fresh b' (by omega)⟩
  ·exact hR.inv.objKeep hxt h3 h4 (hoth b' (fun e => by subst e; exact hb2 (List.mem_of_getElem? h4))) (hR.inv.obj l row' b' h3 h4).1
  ·exact hR.inv.arrKeep hxt h3 h4 (fun b' hb' => hoth b' (fun e => by subst e; exact hb3 (Gh.arb_mem h4 hb'))) (fun _ _ => rfl)
 have hFr : FrX w0 g0 X (w.setRow b (xs.setIfInBounds off (a.eval y))) g := by
  refine ⟨hR.fr.os, hR.fr.tape, hR.fr.output, by rw [hszw]; exact hR.fr.size, fun b' q1 q2 q3 q4 => ?_, hR.fr.imeq, hR.fr.ob, hR.fr.ar, hR.fr.arx, hR.fr.tab, hR.fr.tabx⟩
  rw [hoth b' (fun e => by
   subst e
   rcases hb5 with q | q
   ·omega
   ·exact q4 q)]
  exact hR.fr.blk b' q1 q2 q3 q4
 have hnS2 : b ∉ S2 := fun hm => (List.nodup_cons.1 hnd).1 hm
 refine hK.run hds.2 w0 g0 X (b :: S2) g _ _ Q (hR.put hdst (x := .c .undef) (v := undef) rfl hIv hxt hFr ⟨[b], S2, rfl, ?_, hT2.keep fun b' hb' => hoth b' (fun e => by subst e; exact hnS2 hb')⟩ hnd hout) hQ
 simp only [Tr]
 refine ⟨b, _, rfl, hnew, by simp [hxl], fun j x' u h3 h4 => ?_, rfl⟩
 rw [List.getElem?_set] at h3
 rw [Array.getElem?_setIfInBounds] at h4
 by_cases hj : off = j
 ·rw [if_pos hj, if_pos hoff] at h3
  rw [if_pos hj, if_pos (by omega)] at h4
  simp at h3 h4; subst h3; subst h4
  exact heD.zero
 ·rw [if_neg hj] at h3
  rw [if_neg hj] at h4
  exact (hr j x' u h3 h4).zero

def ptrOf : AV -> Option Value
 | .c (.d (.raw v)) => some v
 | .c .np => some (.pointer none)
 | _ => none
def Held (L : Ts) (T : TypeId) (v : Value) : Prop := v = .pointer none \/ ∃ row, (.n T row, v) ∈ L
end
end Go.Av

namespace Go.Av
attribute [-simp] Go.Av.MCo.kind_mk Go.Av.MCo.tag_mk Go.Av.MCo.label_mk Go.Av.MCo.kids_mk Go.Av.astepJ Go.Av.relC Go.Av.relL Go.Av.relV Go.Av.relVs Go.Av.callJ
open Go

section
variable {P : Program} {n : Nat} {s : St} {L L2 : Ts} {all : Array Oper} {ow : Nat -> Bool} {K : St -> Ts -> Prop} {i : Nat} {o : Oper} {rest : List Oper}

end
end Go.Av

namespace Go.Av
attribute [-simp] Go.Av.MCo.kind_mk Go.Av.MCo.tag_mk Go.Av.MCo.label_mk Go.Av.MCo.kids_mk
open Go

section
variable {P : Program} {n : Nat} {w0 w w' : World} {g0 g g' : Gh} {X S S' : List Nat} {s s' : St} {L L' : Ts} {a a' : Act} {x y : Code} {all : Array Oper} {ws : List Nat}

def Agr (o : Oper) (fr' : List (Nat × AV)) (V : List (List CV)) (A : List Arr) (s : St) : Prop := ∀ x ∈ o.op.operands.toList, aval ⟨fr', V, A⟩ x = aval s x
def TreS (P : Program) (s : St) (L : Ts) (o : Oper) (K : AV -> Ts -> Prop) : Prop :=
 ∀ (fr' : List (Nat × AV)) (V : List (List CV)) (A : List Arr), Agr o fr' V A s -> ∀ (n : Nat) (w0 : World) (g0 : Gh) (X S : List Nat) (g : Gh) (a : Act) (w : World), RpJ n w0 g0 X ⟨fr', V, A⟩ L S g a w -> ∀ (next : Act -> World -> Prop) (Q : Exit -> Act -> World -> Prop),
  (∀ x L' S' v w' g', K x L' -> RepV g' w' A x v -> Inv g' w' V A -> Ext g w A g' w' A -> FrX w0 g0 X w' g' -> Trs w' L' S' -> S'.Nodup -> (∀ b ∈ S', g'.im b = 0 /\ b ∉ g'.ob /\ b ∉ g'.arb /\ ¬ tabAt b /\ (w0.heap.size <= b \/ b ∈ X)) -> next (a.put o.dst v) w') -> o.wp P a w next Q
def LkS (P : Program) (s : St) (L : Ts) (o : Oper) (x : AV) : Prop :=
 ∀ (fr' : List (Nat × AV)) (V : List (List CV)) (A : List Arr), Agr o fr' V A s -> ∀ (g : Gh) (a : Act) (w : World) (S : List Nat), Slots g w ⟨fr', V, A⟩ a -> Trs w L S -> S.Nodup -> ∃ v, RepV g w A x v /\ (execOp a.eval o).run P w = .ok (.value v) w
theorem TreS.map {o : Oper} {K K' : AV -> Ts -> Prop} (hk : ∀ x L, K x L -> K' x L) (h : TreS P s L o K) : TreS P s L o K' :=
 fun fr' V A hA n w0 g0 X S g a w hR next Q hn => h fr' V A hA n w0 g0 X S g a w hR next Q fun x L' S' v w' g' h1 => hn x L' S' v w' g' (hk _ _ h1)
theorem LkS.wp {o : Oper} {x : AV} (h : LkS P s L o x) {fr' : List (Nat × AV)} {V : List (List CV)} {A : List Arr} (hA : Agr o fr' V A s) (hS : Slots g w ⟨fr', V, A⟩ a) (hT : Trs w L S) (hn : S.Nodup) {next : Act -> World -> Prop} {Q : Exit -> Act -> World -> Prop} (hx : ∀ v, RepV g w A x v -> next (a.put o.dst v) w) : o.wp P a w next Q := by
 obtain ⟨v, h1, h2⟩ := h fr' V A hA g a w S hS hT hn
 unfold Oper.wp
 rw [h2]
 exact hx v h1

def aopsR (P : Program) (all : Array Oper) (ow : Nat -> Bool) (ws cs ns : List Nat) (K : St -> Ts -> Prop) : Nat -> List Oper -> St -> Ts -> Prop
 | _, [], s, L => K s L
 | i, o :: rest, s, L => gdo all s o
   ((i ∈ cs /\ TreS P s L o fun x L' => aopsR P all ow ws cs ns K (i + 1) rest (s.put o.dst x s.V s.A) L') \/
   (i ∉ cs /\ i ∈ ns /\ ∃ x, LkS P s L o x /\ aopsR P all ow ws cs ns K (i + 1) rest (s.put o.dst x s.V s.A) L) \/
   (i ∉ cs /\ i ∉ ns /\ astep P s (ow i) o fun x V A => (i ∈ ws \/ (V = s.V /\ A = s.A)) /\ aopsR P all ow ws cs ns K (i + 1) rest (s.put o.dst x V A) L))
   (aopsR P all ow ws cs ns K (i + 1) rest (s.put o.dst (.c .undef) s.V s.A) L)

def DetR (P : Program) (all : Array Oper) (ow : Bool) (ns : List Nat) (L : Ts) (j : Nat) (o : Oper) (s s' : St) : Prop :=
 gdo all s o True True /\ ((gw all s o = true /\ ((j ∈ ns /\ ∃ x, s' = s.put o.dst x s.V s.A /\ LkS P s L o x) \/ (j ∉ ns /\ DetS P ow o s s'))) \/ (gw all s o = false /\ s' = s.put o.dst (.c .undef) s.V s.A))

def callsOkR (all : Array Oper) (ws cs ns : List Nat) : Bool :=
 let l := all.toList.zipIdx
 let ms := masks all.toList []
 (cs.all fun c => !ws.contains c && (l.all fun (_, j) => !(decide (c < j)) || (ms.getD j 0).testBit c) && (ns.all fun j => !(decide (j < c)) || (ms.getD c 0).testBit j)) && (l.all fun (o, j) => !cs.contains j || !isS o.op)

structure OpsR (P : Program) (all : Array Oper) (ow : Nat -> Bool) (ws cs ns : List Nat) (K : St -> Ts -> Prop) (i : Nat) (ops : List Oper) (s : St) (L : Ts) : Prop where
 mk ::
 run : aopsR P all ow ws cs ns K i ops s L
variable {ow : Nat -> Bool} {cs ns : List Nat} {K : St -> Ts -> Prop} {i : Nat} {o : Oper} {rest : List Oper}
theorem gdo_yes {y z : Prop} (hg : gdo all s o True False) (h : y) : gdo all s o y z := gdo_map (fun _ => h) False.elim hg
@[congr] theorem aopsR_cong {i i' : Nat} {ops : List Oper} (hi : i = i') (h : s = s') : OpsR P all ow ws cs ns K i ops s L = OpsR P all ow ws cs ns K i' ops s' L := by rw [h, hi]

theorem aopsJ_lk {all : Array Oper} {x : AV} (hg : gdo all s o True False) (h : LkS P s L o x) (hK : OpsJ P n all ow K (i + 1) rest (s.put o.dst x s.V s.A) L) : OpsJ P n all ow K i (o :: rest) s L := by
 refine ⟨fun hd w0 g0 X S g a w Q hR hQ => ?_⟩
 simp only [dstsOk, List.all_cons, Bool.and_eq_true] at hd
 have hdst : ∀ d, o.dst = some d -> d < n := fun d e => by have := hd.1; rw [e] at this; simpa using this
 unfold wpList
 rcases gdo_sound hR.rp hg with ⟨h1, _⟩ | ⟨_, h2⟩
 ·rw [if_pos h1]
  exact .inl (h.wp (fun x _ => rfl) hR.slot hR.trs hR.nd fun v hv => hK.run hd.2 w0 g0 X S g _ w Q (hR.put hdst hv hR.inv (.refl _ _ _) hR.fr hR.trs hR.nd hR.out) hQ)
 ·exact h2.elim
theorem aopsJ_skip {all : Array Oper} (hg : gdo all s o False True) (hK : OpsJ P n all ow K (i + 1) rest (s.put o.dst (.c .undef) s.V s.A) L) : OpsJ P n all ow K i (o :: rest) s L :=
 aopsJ_go (gdo_map False.elim (fun _ => hK) hg)

theorem LkS.field {t : TypeId} {d : TD} {x : Operand} {f off sz : Nat} {T : TypeId} {row : List DV} {pv : Value} (ho : o.op = .fieldAddr t x f) (hd : td P t = some d) (hf : d.fl[f]? = some (off, sz)) (hsz : sz ≠ 0)
  (hx : aval s x = some (.c (.d (.raw pv)))) (hm : (.n T row, pv) ∈ L) : LkS P s L o (.c (.d (.raw (fp pv off)))) := by
 intro fr' V A hA g a w S hS hT _
 have hx' : aval ⟨fr', V, A⟩ x = some (.c (.d (.raw pv))) := (hA x (by simp [ho, Op.operands])).trans hx
 have hv := aval_sound hS hx'
 simp only [RepV, RepE, RepC, RepD] at hv
 obtain ⟨b, xs, rfl, _⟩ := hT.node hm
 refine ⟨.pointer (some ⟨b, 0 + off, none⟩), ⟨rfl, rfl⟩, ?_⟩
 rw [execOp, ho]
 exact run_value (by rw [hv.1]; exact run_fieldAt_av hd hf hsz b 0)
theorem LkS.nilCheck {x : Operand} {T : TypeId} {row : List DV} {pv : Value} (ho : o.op = .nilCheck x) (hx : aval s x = some (.c (.d (.raw pv)))) (hm : (.n T row, pv) ∈ L) : LkS P s L o (.c (.d (.raw pv))) := by
 intro fr' V A hA g a w S hS hT _
 have hx' : aval ⟨fr', V, A⟩ x = some (.c (.d (.raw pv))) := (hA x (by simp [ho, Op.operands])).trans hx
 have hv := aval_sound hS hx'
 simp only [RepV, RepE, RepC, RepD] at hv
 obtain ⟨b, xs, rfl, _⟩ := hT.node hm
 refine ⟨.pointer (some ⟨b, 0, none⟩), ⟨rfl, rfl⟩, ?_⟩
 simp [execOp, ho, hv.1]
theorem LkS.load {t : TypeId} {d : TD} {x : Operand} {off : Nat} {T : TypeId} {row : List DV} {pv : Value} {y : DV} (ho : o.op = .load t x) (hd : td P t = some d) (hsz : d.sz = 1) (hag : d.ag = false)
  (hx : aval s x = some (.c (.d (.raw (fp pv off))))) (hm : (.n T row, pv) ∈ L) (hy : row[off]? = some y) : LkS P s L o (.c (.d y)) := by
 intro fr' V A hA g a w S hS hT _
 have hx' : aval ⟨fr', V, A⟩ x = some (.c (.d (.raw (fp pv off)))) := (hA x (by simp [ho, Op.operands])).trans hx
 have hv := aval_sound hS hx'
 simp only [RepV, RepE, RepC, RepD] at hv
 obtain ⟨b, xs, rfl, _, hh, hxl, hr⟩ := hT.node hm
 have hj : off < xs.size := by rw [hxl]; exact (List.getElem?_eq_some_iff.1 hy).1
 have hu : xs[off]? = some xs[off] := Array.getElem?_eq_getElem hj
 refine ⟨xs[off], (hr off y _ hy hu).zero, ?_⟩
 obtain ⟨_, h2⟩ := run_loadAt_av (P := P) (w := w) hd (b := b) (off := off) (vs := [xs[off]]) (fun j u hj' => by
  cases j with
  | zero => simp at hj'; subst hj'; simp [World.cell?, hh]
  | succ j => simp at hj') (by simp [hsz])
 rw [execOp, ho]
 refine run_value ?_
 rw [hv.1, show fp (.pointer (some ⟨b, 0, none⟩)) off = .pointer (some ⟨b, off, none⟩) by simp [fp]]
 exact h2 hag _ rfl

theorem TreS.box {T : TypeId} {x : Operand} {cells : List CV} {row : List DV} {k : AV -> Ts -> Prop} (ho : o.op = .box T x) (hx : aval s x = some (.agg cells)) (hrow : cvDs cells = some row) (hK : ∀ pv, k (.c (.d (.raw pv))) ((.n T row, pv) :: L)) : TreS P s L o k := by
 intro fr' V A hA n w0 g0 X S g a w hR next Q hn
 have hx' : aval ⟨fr', V, A⟩ x = some (.agg cells) := (hA x (by simp [ho, Op.operands])).trans hx
 obtain ⟨vs, hv, hl, hc⟩ := aval_sound hR.slot hx'
 have hrun : (execOp a.eval o).run P w = .ok (.value (.pointer (some ⟨w.heap.size, 0, none⟩))) (w.alloc (.cells vs.toArray T)) := by
  simp [execOp, ho, hv, Instr.box, newVar, newRow_run, Value.cells]
 unfold Oper.wp
 rw [hrun]
 obtain ⟨g1, hg1, hI1, hx1⟩ := hR.inv.newBlock (.cells vs.toArray T) 0
 have hF1 := (Fr.refl hR.fr.now).newBlock (.cells vs.toArray T) 0
 rw [<- hg1] at hF1
 have hkeep := hR.keepS hF1
 have hlt : ∀ b ∈ S, b < w.heap.size := hR.trs.lt
 refine hn _ _ (w.heap.size :: S) _ _ g1 (hK (.pointer (some ⟨w.heap.size, 0, none⟩))) ⟨rfl, rfl⟩ hI1 hx1 (hR.fr.fr hF1) ⟨[w.heap.size], S, rfl, ?_, hkeep.1⟩ (List.nodup_cons.2 ⟨fun h => absurd (hlt _ h) (by omega), hR.nd⟩) fun b hb => ?_
 ·simp only [Tr]
  refine ⟨_, vs.toArray, rfl, heap_alloc_new w _, ?_, fun j y u h1 h2 => ?_, rfl⟩
  ·have h2 := cvDs_len hrow
   simp; omega
  ·have h2' : vs[j]? = some u := by simpa using h2
   have hjl : j < cells.length := by
    have := cvDs_len hrow
    have := (List.getElem?_eq_some_iff.1 h1).1
    omega
   have hzj : cells[j]? = some cells[j] := List.getElem?_eq_getElem hjl
   exact cvD_rep (cvDs_at hrow hzj h1) (hc j _ u hzj h2')
 ·rcases List.mem_cons.1 hb with rfl | hb
  ·refine ⟨by rw [hg1]; simp, fun hm => ?_, fun hm => ?_, fun hm => ?_, .inl hR.fr.size⟩
   ·rw [hg1] at hm
    obtain ⟨l, hl⟩ := List.getElem?_of_mem hm
    have := hR.inv.obLt hl
    omega
   ·rw [hg1] at hm
    obtain ⟨k, v', q1, q2⟩ := Gh.mem_arb (g := g) (by simpa [Gh.arb] using hm)
    have := hR.inv.arLt q1 q2
    omega
   ·have := (hR.fr.now _ hm).1
    omega
  ·exact hkeep.2 b hb
theorem aopsJ_tre {all : Array Oper} (hg : gdo all s o True False) (h : TreS P s L o fun x L' => OpsJ P n all ow K (i + 1) rest (s.put o.dst x s.V s.A) L') : OpsJ P n all ow K i (o :: rest) s L := by
 refine ⟨fun hd w0 g0 X S g a w Q hR hQ => ?_⟩
 simp only [dstsOk, List.all_cons, Bool.and_eq_true] at hd
 have hdst : ∀ d, o.dst = some d -> d < n := fun d e => by have := hd.1; rw [e] at this; simpa using this
 unfold wpList
 rcases gdo_sound hR.rp hg with ⟨h1, _⟩ | ⟨_, h2⟩
 ·rw [if_pos h1]
  exact .inl (h _ _ _ (fun x _ => rfl) n w0 g0 X S g a w hR _ _ fun x L' S' v w' g' h3 h4 h5 h6 h7 h8 h9 h10 => h3.run hd.2 w0 g0 X S' g' _ w' Q (hR.put hdst h4 h5 h6 h7 h8 h9 h10) hQ)
 ·exact h2.elim
end
end Go.Av

namespace Go.Av
attribute [-simp] Go.Av.MCo.kind_mk Go.Av.MCo.tag_mk Go.Av.MCo.label_mk Go.Av.MCo.kids_mk
open Go
section
variable {P : Program} {n : Nat} {s : St} {L L2 : Ts} {all : Array Oper} {ow : Nat -> Bool} {K : St -> Ts -> Prop} {i : Nat} {o : Oper} {rest : List Oper}
end
end Go.Av

namespace Go.Av
attribute [-simp] Go.Av.MCo.kind_mk Go.Av.MCo.tag_mk Go.Av.MCo.label_mk Go.Av.MCo.kids_mk
open Go

section
variable {P : Program} {n : Nat} {w0 w w' : World} {g0 g g' : Gh} {X S S' : List Nat} {s s' : St} {L L' L2 : Ts} {a a' : Act} {x y : Code} {all : Array Oper} {ws : List Nat}

def aopsQ (P : Program) (all : Array Oper) (ow : Nat -> Bool) (ws cs ns fs : List Nat) (K : St -> Ts -> Prop) : Nat -> List Oper -> St -> Ts -> Prop
 | _, [], s, L => K s L
 | i, o :: rest, s, L => gdo all s o
   ((i ∈ cs /\ TreS P s L o fun x L' => aopsQ P all ow ws cs ns fs K (i + 1) rest (s.put o.dst x s.V s.A) L') \/
   (i ∉ cs /\ i ∈ ns /\ ∃ x, LkS P s L o x /\ (i ∈ fs -> ∀ L', LkS P s L' o x) /\ aopsQ P all ow ws cs ns fs K (i + 1) rest (s.put o.dst x s.V s.A) L) \/
   (i ∉ cs /\ i ∉ ns /\ astep P s (ow i) o fun x V A => (i ∈ ws \/ (V = s.V /\ A = s.A)) /\ aopsQ P all ow ws cs ns fs K (i + 1) rest (s.put o.dst x V A) L))
   (aopsQ P all ow ws cs ns fs K (i + 1) rest (s.put o.dst (.c .undef) s.V s.A) L)

def DetQ (P : Program) (all : Array Oper) (ow : Bool) (ns fs : List Nat) (L : Ts) (j : Nat) (o : Oper) (s s' : St) : Prop :=
 gdo all s o True True /\ ((gw all s o = true /\ ((j ∈ ns /\ ∃ x, s' = s.put o.dst x s.V s.A /\ LkS P s L o x /\ (j ∈ fs -> ∀ L', LkS P s L' o x)) \/ (j ∉ ns /\ DetS P ow o s s'))) \/ (gw all s o = false /\ s' = s.put o.dst (.c .undef) s.V s.A))

theorem aopsQ_trace {ow : Nat -> Bool} {cs ns fs : List Nat} {K : St -> Ts -> Prop} : ∀ (ops : List Oper) (i : Nat) (s : St) (L : Ts), aopsQ P all ow ws cs ns fs K i ops s L ->
  ∃ (τ : Nat -> St) (m : Nat), m <= ops.length /\ τ 0 = s /\ (∀ (j : Nat) o, j < m -> ops[j]? = some o -> DetQ P all (ow (i + j)) ns fs L (i + j) o (τ j) (τ (j + 1)) /\ Frs ws (i + j) o (τ j) (τ (j + 1))) /\
   ((m = ops.length /\ K (τ m) L) \/ (i + m ∈ cs /\ ∃ o, ops[m]? = some o /\ gdo all (τ m) o True True /\ gw all (τ m) o = true /\ TreS P (τ m) L o fun x L' => aopsQ P all ow ws cs ns fs K (i + m + 1) (ops.drop (m + 1)) ((τ m).put o.dst x (τ m).V (τ m).A) L'))
 | [], i, s, L, h => ⟨fun _ => s, 0, Nat.le_refl _, rfl, fun j o hj => by omega, .inl ⟨rfl, h⟩⟩
 | o :: rest, i, s, L, h => by
  have step : ∀ s', DetQ P all (ow i) ns fs L i o s s' -> Frs ws i o s s' -> aopsQ P all ow ws cs ns fs K (i + 1) rest s' L -> ∃ (τ : Nat -> St) (m : Nat), m <= (o :: rest).length /\ τ 0 = s /\ (∀ (j : Nat) o', j < m -> (o :: rest)[j]? = some o' -> DetQ P all (ow (i + j)) ns fs L (i + j) o' (τ j) (τ (j + 1)) /\ Frs ws (i + j) o' (τ j) (τ (j + 1))) /\
   ((m = (o :: rest).length /\ K (τ m) L) \/ (i + m ∈ cs /\ ∃ o', (o :: rest)[m]? = some o' /\ gdo all (τ m) o' True True /\ gw all (τ m) o' = true /\ TreS P (τ m) L o' fun x L' => aopsQ P all ow ws cs ns fs K (i + m + 1) ((o :: rest).drop (m + 1)) ((τ m).put o'.dst x (τ m).V (τ m).A) L')) := by
   intro s' h1 h2 h3
   obtain ⟨τ, m, k1, k2, k3, k4⟩ := aopsQ_trace rest (i + 1) _ L h3
   refine ⟨fun j => match j with | 0 => s | j + 1 => τ j, m + 1, by simp; omega, rfl, fun j o' hj ho => ?_, ?_⟩
   ·cases j with
    | zero =>
     simp at ho; subst ho
     show DetQ P all (ow (i + 0)) ns fs L (i + 0) o s (τ 0) /\ Frs ws (i + 0) o s (τ 0)
     rw [k2]
     exact ⟨h1, h2⟩
    | succ j =>
     simp at ho
     have := k3 j o' (by omega) ho
     rwa [show i + 1 + j = i + (j + 1) by omega] at this
   ·rcases k4 with ⟨k5, k6⟩ | ⟨k5, o', k6, k7, k8, k9⟩
    ·exact .inl ⟨by simp [k5], k6⟩
    ·refine .inr ⟨by rw [show i + (m + 1) = i + 1 + m by omega]; exact k5, o', by simpa using k6, k7, k8, ?_⟩
     rw [show i + (m + 1) + 1 = i + 1 + m + 1 by omega]
     exact k9
  obtain ⟨hg, hgt⟩ := gdo_mono h
  rcases hg with ⟨g1, h | h | h⟩ | ⟨g1, h⟩
  ·obtain ⟨h1, h2⟩ := h
   exact ⟨fun _ => s, 0, by simp, rfl, fun j o hj => by omega, .inr ⟨h1, o, rfl, hgt, g1, h2⟩⟩
  ·obtain ⟨h1, h2, x, h3, h5, h4⟩ := h
   exact step _ ⟨hgt, .inl ⟨g1, .inl ⟨h2, x, rfl, h3, h5⟩⟩⟩ ⟨x, _, _, rfl, .inr ⟨rfl, rfl⟩⟩ h4
  ·obtain ⟨h1, h2, h3⟩ := h
   obtain ⟨x, V, A, ⟨h3, h4⟩, h5⟩ := astep_det h3
   exact step _ ⟨hgt, .inl ⟨g1, .inr ⟨h2, x, V, A, rfl, h5⟩⟩⟩ ⟨x, V, A, rfl, h3⟩ h4
  ·exact step _ ⟨hgt, .inr ⟨g1, rfl⟩⟩ ⟨_, _, _, rfl, .inr ⟨rfl, rfl⟩⟩ h

set_option maxHeartbeats 2000000 in
theorem drawQ_one {ns fs : List Nat} {ow : Nat -> Bool} (hd : drawOk all ws = true) (hdst : dstsOk n all.toList = true) {σ : Nat -> St} {c : Nat} (hT : Trc all ws σ c) {listed : Array Bool} {k0 : Nat} (hD : DS all ws σ n w g listed k0 g a w) (hk0 : k0 <= c) (hlc : ∀ i, listed[i]? = some true -> i < c)
  {j : Nat} (hj : j ∈ Region.ready .any all listed) (hjc : j <= c) {o : Oper} (ho : all[j]? = some o) {next : Act -> World -> Prop} {Q : Exit -> Act -> World -> Prop} :
  (j < c -> Jb w0 g0 X L S g w -> DetQ P all (ow j) ns fs L j o (σ j) (σ (j + 1)) -> (∀ k1 v g' w', k1 <= c -> DS all ws σ n w' g' (listed.setIfInBounds j true) k1 g' (a.put o.dst v) w' -> Fr w g w' g' -> next (a.put o.dst v) w') -> wpOp P all Q j next a w) /\
  (j = c -> isS o.op = false -> j ∉ ws -> Jb w0 g0 X L S g w -> gdo all (σ j) o True True -> gw all (σ j) o = true -> (∀ K : AV -> Ts -> Prop, TreS P (σ j) L o K -> (∀ x L' S' v g' w', K x L' -> (∀ σ' : Nat -> St, (∀ i, i <= c -> σ' i = σ i) -> σ' (c + 1) = (σ c).put o.dst x (σ c).V (σ c).A -> DS all ws σ' n w' g' (listed.setIfInBounds j true) k0 g' (a.put o.dst v) w') -> Jb w0 g0 X L' S' g' w' -> next (a.put o.dst v) w') -> wpOp P all Q j next a w)) := by
 simp only [drawOk, Bool.and_eq_true, List.all_eq_true] at hd
 obtain ⟨⟨hd1, hd2⟩, hd3⟩ := hd
 -- the checks, read
 have hmem : ∀ (j : Nat) o, all[j]? = some o -> (o, j) ∈ all.toList.zipIdx := fun j o h => by
  rw [List.mem_iff_getElem?]
  exact ⟨j, by simp [List.getElem?_zipIdx, h]⟩
 have hedge : ∀ (j : Nat) o, all[j]? = some o -> ∀ e ∈ o.after, Region.binds .any e = true -> e.on < j := fun j o h e he hb => by
  have := hd1 _ (hmem j o h) e (Array.mem_toList_iff.2 he)
  simpa [hb] using this
 have hpair : ∀ (i j : Nat) oi oj, all[i]? = some oi -> all[j]? = some oj -> i < j -> pairOk all ws (masks all.toList []) oi oj i j = true := fun i j oi oj h1 h2 hlt => by
  have := hd2 _ (hmem j oj h2) _ (hmem i oi h1)
  simpa [hlt] using this
 have hws : ∀ (j : Nat) o, all[j]? = some o -> j ∈ ws -> isS o.op = false := fun j o h hj => by
  have := hd3 _ (hmem j o h)
  simpa [hj] using this
 have hdne : ∀ (i j : Nat) oi oj d, all[i]? = some oi -> all[j]? = some oj -> i < j -> oi.dst = some d -> oj.dst ≠ some d := fun i j oi oj d h1 h2 hlt h3 h4 => by
  have := hpair i j oi oj h1 h2 hlt
  simp [pairOk, h3, h4] at this
 have hdu : ∀ (i j : Nat) oi oj d, all[i]? = some oi -> all[j]? = some oj -> oi.dst = some d -> oj.dst = some d -> i = j := fun i j oi oj d h1 h2 h3 h4 => by
  rcases Nat.lt_trichotomy i j with h | h | h
  ·exact absurd h4 (hdne i j oi oj d h1 h2 h h3)
  ·exact h
  ·exact absurd h3 (hdne j i oj oi d h2 h1 h h4)
 have hdn : ∀ (j : Nat) o d, all[j]? = some o -> o.dst = some d -> d < n := fun j o d h1 h2 => by
  have := List.all_eq_true.1 hdst o (by rw [Array.mem_toList_iff]; exact Array.mem_of_getElem? h1)
  simpa [h2] using this
 obtain ⟨hml, _, hms⟩ := masks_spec all.toList []
 -- the order that the edges force
 have hbit : ∀ {listed : Array Bool}, (∀ (i : Nat) o, all[i]? = some o -> listed[i]? = some true -> ∀ e ∈ o.after, Region.binds .any e = true -> listed[e.on]? = some true) ->
   ∀ (i : Nat) o, all[i]? = some o -> (∀ e ∈ o.after, Region.binds .any e = true -> listed[e.on]? = some true) -> ∀ k, ((masks all.toList []).getD i 0).testBit k = true -> listed[k]? = some true := by
  intro listed hcl i
  induction i using Nat.strongRecOn with
  | _ i ih =>
   intro o ho hafter k hk
   obtain ⟨pre, h1, h2, h3⟩ := hms i o (by simpa using ho)
   simp only [List.length_nil, Nat.zero_add] at h1 h3
   have h4 : (masks all.toList []).getD i 0 = mask1 pre o := by simp [List.getD, h3]
   rw [h4] at hk
   obtain ⟨e, he, hb, h5⟩ := mask1_spec hk
   have he1 := hafter e he hb
   rcases h5 with rfl | h5
   ·exact he1
   ·have hlt := hedge i o ho e he hb
    have h6 : pre.getD e.on 0 = (masks all.toList []).getD e.on 0 := by simp only [List.getD, h2 e.on (by omega)]
    rw [h6] at h5
    have hsz : e.on < all.size := by have := (Array.getElem?_eq_some_iff.1 ho).1; omega
    have hoe : all[e.on]? = some all[e.on] := Array.getElem?_eq_getElem hsz
    exact ih e.on hlt _ hoe (hcl e.on _ hoe he1) k h5
 have hT0 := hT.le
 have hfrB := hT.frB
 have hfrA := hT.frA hdu
 have hVA := hT.VA
 obtain ⟨hun, o2, ho2, hafter⟩ := mem_ready.1 hj
 obtain rfl : o = o2 := by rw [ho] at ho2; exact Option.some.inj ho2
 have hju := unlisted_of hun
 have hjn : j < all.size := (Array.getElem?_eq_some_iff.1 ho).1
 have hjl : j < listed.size := by rw [hD.lsize]; exact hjn
 have hafter' : ∀ e ∈ o.after, Region.binds .any e = true -> listed[e.on]? = some true := fun e he hb => listed_iff.1 (hafter e he hb)
 have hbefore : ∀ k, ((masks all.toList []).getD j 0).testBit k = true -> listed[k]? = some true := hbit hD.closed j o ho hafter'
 have hbehind : ∀ (i : Nat) oi, all[i]? = some oi -> listed[i]? = some true -> ((masks all.toList []).getD i 0).testBit j = false := fun i oi hoi hli => by
  cases hb : ((masks all.toList []).getD i 0).testBit j with
  | false => rfl
  | true => have := hbit hD.closed i oi hoi (hD.closed i oi hoi hli) j hb; rw [hju] at this; simp at this
 -- what the operation looks at
 have hlooks : ∀ t ∈ o.looksAt all, ∀ x, look (σ j).fr t = some x -> ∃ u, a.tmps[t]? = some u /\ RepV g w (σ k0).A x u := by
  intro t ht x hx
  by_cases hex : ∃ (i : Nat) (oi : Oper), i < j /\ all[i]? = some oi /\ oi.dst = some t
  ·obtain ⟨i, oi, hij, hoi, hdt⟩ := hex
   rw [hfrA j i oi t (by omega) hij hoi hdt] at hx
   have hp := hpair i j oi o hoi ho hij
   have htc : touch all oi o = true := by simp only [touch, hdt]; simpa using ht
   simp only [pairOk, htc, Bool.and_eq_true, Bool.or_eq_true] at hp
   have hb : ((masks all.toList []).getD j 0).testBit i = true := by simpa using hp.2
   exact hD.slot1 i oi t x hoi (hbefore i hb) hdt hx
  ·rw [hfrB j t (by omega) (fun i oi hij hoi hdt => hex ⟨i, oi, hij, hoi, hdt⟩)] at hx
   refine hD.slot0 t x (fun i oi hoi hli hdt => ?_) hx
   rcases Nat.lt_trichotomy i j with h | h | h
   ·exact hex ⟨i, oi, h, hoi, hdt⟩
   ·subst h; rw [hju] at hli; simp at hli
   ·have hp := hpair j i o oi ho hoi h
    have htc : touch all oi o = true := by simp only [touch, hdt]; simpa using ht
    have hb := hbehind i oi hoi hli
    simp only [pairOk, htc, hb, Bool.and_eq_true, Bool.or_eq_true] at hp
    simp at hp
 let fr' := (σ j).fr.filter fun p => (o.looksAt all).contains p.1
 have hlk : ∀ t, look fr' t = if (o.looksAt all).contains t then look (σ j).fr t else none := fun t => look_filter (fun t => (o.looksAt all).contains t) (σ j).fr t
 have hS : ∀ (V : List (List CV)), Slots g w ⟨fr', V, (σ k0).A⟩ a := fun V t x hx => by
  simp only [hlk] at hx
  split at hx
  ·rename_i hc; exact hlooks t (by simpa using hc) x hx
  ·cases hx
 have hop : ∀ (V V' : List (List CV)) (A A' : List Arr), ∀ x ∈ o.op.operands.toList, aval ⟨fr', V, A⟩ x = aval ⟨(σ j).fr, V', A'⟩ x := fun V V' A A' x hx => by
  cases x with
  | tmp t =>
   simp only [aval, hlk]
   rw [if_pos]
   simp only [Oper.looksAt, List.contains_eq_mem, decide_eq_true_eq, List.mem_append, List.mem_filterMap]
   exact .inl ⟨.tmp t, hx, rfl⟩
  | _ => rfl
 have hRr : Rp n w g ⟨fr', (σ k0).V, (σ k0).A⟩ g a w := ⟨hD.inv, hD.fr, hD.size, hD.defers, hS _⟩
 have hwantG : gdo all (σ j) o True True -> Region.wanted o (yielded all a.tmps) = gw all (σ j) o := by
  intro hgd
  have hgd' : gdo all ⟨fr', (σ k0).V, (σ k0).A⟩ o True True /\ gw all ⟨fr', (σ k0).V, (σ k0).A⟩ o = gw all (σ j) o := by
   unfold gdo gw at *
   cases hgg : o.guard with
   | none => simp
   | some jw =>
    obtain ⟨q, want⟩ := jw
    simp only [hgg] at hgd ⊢
    obtain ⟨oq, h1, h2⟩ := onv_some hgd
    obtain ⟨t, h3, h4⟩ := onv_some h2
    have : look fr' t = look (σ j).fr t := by
     rw [hlk, if_pos]
     simp only [Oper.looksAt, hgg, List.contains_eq_mem, decide_eq_true_eq, List.mem_append]
     exact .inr (by simp [h1, h3])
    simp only [h1, onv, h3, Option.bind_some, this] at h4 ⊢
    exact ⟨h4, trivial⟩
  rw [<- hgd'.2]
  have h1 := hgd'.1
  unfold gdo at h1
  unfold gw
  cases hgg : o.guard with
  | none => simp [Region.wanted, hgg]
  | some jw =>
   obtain ⟨q, want⟩ := jw
   simp only [hgg] at h1 ⊢
   obtain ⟨oq, h2, h3⟩ := onv_some h1
   obtain ⟨t, h4, h5⟩ := onv_some h3
   obtain ⟨x, h6, h7⟩ := onv_some h5
   obtain ⟨h8, h9⟩ := yielded_of hRr h2 h4 h6
   simp only [h2, Option.bind_some, h4, h6]
   split at h7
   ·rename_i b; simp [Region.wanted, hgg, h8 b rfl]
   ·simp [Region.wanted, hgg, h9 rfl]
   ·exact h7.elim
 -- the state behind it
 have hset : ∀ i, (listed.setIfInBounds j true)[i]? = if i = j then some true else listed[i]? := fun i => by
  by_cases e : i = j
  ·subst e; simp [hjl]
  ·rw [if_neg e, Array.getElem?_setIfInBounds_ne (fun h => e h.symm)]
 have hnext : ∀ (σ' : Nat -> St) (k1 : Nat) (x : AV) (v : Value) (w' : World) (g' : Gh), (∀ i, i <= c -> σ' i = σ i) -> look (σ' (j + 1)).fr = look ((σ j).put o.dst x [] []).fr -> RepV g' w' (σ k1).A x v -> Inv g' w' (σ k1).V (σ k1).A -> Ext g w (σ k0).A g' w' (σ k1).A -> Tab w' g' -> k1 <= c ->
   (∀ i ∈ ws, i < all.size -> ((listed.setIfInBounds j true)[i]? = some true ↔ i < k1)) -> DS all ws σ' n w' g' (listed.setIfInBounds j true) k1 g' (a.put o.dst v) w' := by
  intro σ' k1 x v w' g' hσ hfr hrv hI hx hF hk hwp
  have hputs : ∀ t u, o.dst ≠ some t -> a.tmps[t]? = some u -> (a.put o.dst v).tmps[t]? = some u := fun t u hne hu => by
   cases hdd : o.dst with
   | none => exact hu
   | some d =>
    simp only [Act.put]
    rw [Array.getElem?_setIfInBounds_ne (fun e => hne (by rw [hdd, e]))]; exact hu
  refine ⟨by rw [hσ k1 hk]; exact hI, .refl hF, ?_, ?_, by simp [hD.lsize], fun i oi t y hoi hli hdt hy => ?_, fun t y hno hy => ?_, hwp, by omega, fun i oi hoi hli e he hb => ?_⟩
  ·cases o.dst <;> simp [Act.put, hD.size]
  ·cases o.dst <;> simp [Act.put, hD.defers]
  ·rw [hσ k1 hk]
   rw [hset] at hli
   by_cases e : i = j
   ·subst e
    obtain rfl : o = oi := by rw [ho] at hoi; exact Option.some.inj hoi
    rw [hfr] at hy
    simp only [St.put, hdt, look, if_true] at hy
    cases hy
    refine ⟨v, ?_, hrv⟩
    have : t < a.tmps.size := by rw [hD.size]; exact hdn i o t ho hdt
    simp [Act.put, hdt, this]
   ·rw [if_neg e] at hli
    rw [hσ (i + 1) (hlc i hli)] at hy
    obtain ⟨u, h1, h2⟩ := hD.slot1 i oi t y hoi hli hdt hy
    exact ⟨u, hputs t u (fun h => e (hdu i j oi o t hoi ho hdt h)) h1, RepV.ext hx h2⟩
  ·rw [hσ k1 hk]
   rw [hσ 0 (Nat.zero_le _)] at hy
   have hne : o.dst ≠ some t := hno j o ho (by rw [hset, if_pos rfl])
   obtain ⟨u, h1, h2⟩ := hD.slot0 t y (fun i oi hoi hli => hno i oi hoi (by
    rw [hset]
    by_cases e : i = j
    ·rw [if_pos e]
    ·rw [if_neg e]; exact hli)) hy
   exact ⟨u, hputs t u hne h1, RepV.ext hx h2⟩
  ·rw [hset] at hli ⊢
   have : listed[e.on]? = some true := by
    by_cases e' : i = j
    ·subst e'
     obtain rfl : o = oi := by rw [ho] at hoi; exact Option.some.inj hoi
     exact hafter' e he hb
    ·rw [if_neg e'] at hli
     exact hD.closed i oi hoi hli e he hb
   by_cases e' : e.on = j
   ·rw [if_pos e']
   ·rw [if_neg e']; exact this
 have hwp0 : j ∉ ws -> ∀ i ∈ ws, i < all.size -> ((listed.setIfInBounds j true)[i]? = some true ↔ i < k0) := fun hjw i hi hin => by
  rw [hset, if_neg (fun e => hjw (by rw [<- e]; exact hi))]
  exact hD.wprog i hi hin
 have hva : isS o.op = false -> (σ j).V = (σ k0).V /\ (σ j).A = (σ k0).A := by
  intro hns
  rcases Nat.le_total j k0 with h | h
  ·have := hVA k0 j h hk0 (fun i h1 h2 h3 => by
    have hin : i < all.size := by omega
    have hli := (hD.wprog i h3 hin).2 h2
    have hoi : all[i]? = some all[i] := Array.getElem?_eq_getElem hin
    rcases Nat.lt_or_ge j i with h4 | h4
    ·have hp := hpair j i o _ ho hoi h4
     have hb := hbehind i _ hoi hli
     simp only [pairOk, hb, Bool.and_eq_true, Bool.or_eq_true] at hp
     simp [h3, hns, -isS] at hp
    ·obtain rfl : i = j := by omega
     rw [hju] at hli; simp at hli)
   exact ⟨this.1.symm, this.2.symm⟩
  ·exact hVA j k0 h hjc (fun i h1 h2 h3 => by
    have hin : i < all.size := by omega
    have hoi : all[i]? = some all[i] := Array.getElem?_eq_getElem hin
    have hp := hpair i j _ o hoi ho h2
    simp only [pairOk, Bool.and_eq_true, Bool.or_eq_true] at hp
    have hb : ((masks all.toList []).getD j 0).testBit i = true := by
     rcases hp.2 with h4 | h4
     ·simp [h3, hns, -isS] at h4
     ·exact h4
    have := (hD.wprog i h3 hin).1 (hbefore i hb)
    omega)
 unfold wpOp
 simp only [ho]
 refine ⟨fun hjc' hJ hst ih => ?_, fun hjc' hns hjw hJ hgd hgt K hcall ih => ?_⟩
 ·obtain ⟨hgd, hst⟩ := hst
  obtain ⟨x2, V2, A2, q1, q2⟩ := hT.tr j o hjc' ho
  rcases hst with ⟨hgt, hst | ⟨hjn', hst⟩⟩ | ⟨hgf, hst⟩
  ·-- a look
   obtain ⟨hjn', x, h2, h3⟩ := hst
   rw [hwantG hgd, if_pos hgt]
   have hfrj : look (σ (j + 1)).fr = look ((σ j).put o.dst x [] []).fr := by rw [h2]; rfl
   by_cases hjw : j ∈ ws
   ·refine .inl (h3.1.wp (V := (σ k0).V) (hop _ _ _ _) (hS _) hJ.trs hJ.nd fun v h6 => ?_)
    by_cases hs : isS o.op = true
    ·have := hws j o ho hjw; rw [hs] at this; simp at this
    ·have hns : isS o.op = false := by simpa [-isS] using hs
     obtain ⟨hv1, hv2⟩ := hva hns
     have e1 : (σ (j + 1)).V = (σ k0).V := by rw [h2]; exact hv1
     have e2 : (σ (j + 1)).A = (σ k0).A := by rw [h2]; exact hv2
     refine ih (j + 1) v g w hjc' (hnext σ (j + 1) x v w g (fun _ _ => rfl) hfrj (by rw [e2]; exact h6) (by rw [e1, e2]; exact hD.inv) (by rw [e2]; exact .refl _ _ _) hD.fr.now hjc' (fun i hi hin => ?_)) (.refl hD.fr.now)
     have hoi : all[i]? = some all[i] := Array.getElem?_eq_getElem hin
     rw [hset]
     by_cases e : i = j
     ·subst e; simp
     ·rw [if_neg e]
      constructor
      ·intro hli
       rcases Nat.lt_or_ge j i with h | h
       ·have hp := hpair j i o _ ho hoi h
        have hb := hbehind i _ hoi hli
        simp only [pairOk, hb, Bool.and_eq_true, Bool.or_eq_true] at hp
        simp [hi, hns, -isS] at hp
       ·omega
      ·intro hlt
       have hp := hpair i j _ o hoi ho (by omega)
       simp only [pairOk, Bool.and_eq_true, Bool.or_eq_true] at hp
       rcases hp.2 with h | h
       ·simp [hi, hns, -isS] at h
       ·exact hbefore i h
   ·refine .inl (h3.1.wp (V := (σ k0).V) (hop _ _ _ _) (hS _) hJ.trs hJ.nd fun v h6 => ?_)
    exact ih k0 v g w hk0 (hnext σ k0 x v w g (fun _ _ => rfl) hfrj h6 hD.inv (.refl _ _ _) hD.fr.now hk0 (hwp0 hjw)) (.refl hD.fr.now)
  ·rw [hwantG hgd, if_pos hgt]
   refine .inl ?_
   obtain ⟨x, V, A, h2, h3⟩ := hst
   have hfrj : look (σ (j + 1)).fr = look ((σ j).put o.dst x [] []).fr := by rw [h2]; rfl
   by_cases hs : isS o.op = true
   ·-- slots alone
    have hjw : j ∉ ws := fun h => by have := hws j o ho h; rw [hs] at this; simp at this
    have h4 : astep P ⟨fr', (σ k0).V, (σ k0).A⟩ (ow j) o (fun y V' A' => y = x /\ V' = (σ k0).V /\ A' = (σ k0).A) := astep_S (s := σ j) (s' := ⟨fr', (σ k0).V, (σ k0).A⟩) hs (hop _ _ _ _) h3 ⟨rfl, rfl, rfl⟩
    obtain ⟨y, V', A', ⟨rfl, rfl, rfl⟩, h5⟩ := astep_wp hRr.inv hRr.fr hRr.slot h4
    exact h5 _ _ fun v w' g' h6 h7 h8 h9 => ih k0 v g' w' hk0 (hnext σ k0 y v w' g' (fun _ _ => rfl) hfrj h6 h7 h8 h9.now hk0 (hwp0 hjw)) h9
   ·have hns : isS o.op = false := by simpa [-isS] using hs
    obtain ⟨hv1, hv2⟩ := hva hns
    have h4 : astep P ⟨fr', (σ k0).V, (σ k0).A⟩ (ow j) o (fun y V' A' => y = x /\ V' = V /\ A' = A) := by
     rw [<- hv1, <- hv2]
     exact astep_congr (fr := (σ j).fr) (hop _ _ _ _) (h3 _ ⟨rfl, rfl, rfl⟩)
    obtain ⟨y, V', A', ⟨rfl, rfl, rfl⟩, h5⟩ := astep_wp hRr.inv hRr.fr hRr.slot h4
    have hVj : (σ (j + 1)).V = V' := by rw [h2]; rfl
    have hAj : (σ (j + 1)).A = A' := by rw [h2]; rfl
    by_cases hjw : j ∈ ws
    ·refine h5 _ _ fun v w' g' h6 h7 h8 h9 => ih (j + 1) v g' w' hjc' (hnext σ (j + 1) y v w' g' (fun _ _ => rfl) hfrj (by rw [hAj]; exact h6) (by rw [hVj, hAj]; exact h7) (by rw [hAj]; exact h8) h9.now hjc' (fun i hi hin => ?_)) h9
     have hoi : all[i]? = some all[i] := Array.getElem?_eq_getElem hin
     rw [hset]
     by_cases e : i = j
     ·subst e; simp
     ·rw [if_neg e]
      constructor
      ·intro hli
       rcases Nat.lt_or_ge j i with h | h
       ·have hp := hpair j i o _ ho hoi h
        have hb := hbehind i _ hoi hli
        simp only [pairOk, hb, Bool.and_eq_true, Bool.or_eq_true] at hp
        simp [hi, hns, -isS] at hp
       ·omega
      ·intro hlt
       have hp := hpair i j _ o hoi ho (by omega)
       simp only [pairOk, Bool.and_eq_true, Bool.or_eq_true] at hp
       rcases hp.2 with h | h
       ·simp [hi, hns, -isS] at h
       ·exact hbefore i h
    ·obtain ⟨x2, V2, A2, q1, q2⟩ := hT.tr j o hjc' ho
     rcases q2 with q2 | ⟨q2, q3⟩
     ·exact absurd q2 hjw
     have ho1 : (σ (j + 1)).V = (σ j).V := by rw [q1]; exact q2
     have ho2 : (σ (j + 1)).A = (σ j).A := by rw [q1]; exact q3
     refine h5 _ _ fun v w' g' h6 h7 h8 h9 => ih k0 v g' w' hk0 (hnext σ k0 y v w' g' (fun _ _ => rfl) hfrj ?_ ?_ ?_ h9.now hk0 (hwp0 hjw)) h9
     ·rw [<- hv2, <- ho2, hAj]; exact h6
     ·rw [<- hv1, <- hv2, <- ho1, <- ho2, hVj, hAj]; exact h7
     ·have e1 : (σ k0).A = A' := by rw [<- hv2, <- ho2, hAj]
      rw [e1] at h8 ⊢; exact h8
  ·rw [hwantG hgd, if_neg (by rw [hgf]; simp)]
   have hfrj : look (σ (j + 1)).fr = look ((σ j).put o.dst (.c .undef) [] []).fr := by rw [hst]; rfl
   by_cases hjw : j ∈ ws
   ·by_cases hs : isS o.op = true
    ·have := hws j o ho hjw; rw [hs] at this; simp at this
    ·have hns : isS o.op = false := by simpa [-isS] using hs
     obtain ⟨hv1, hv2⟩ := hva hns
     have e1 : (σ (j + 1)).V = (σ k0).V := by rw [hst]; exact hv1
     have e2 : (σ (j + 1)).A = (σ k0).A := by rw [hst]; exact hv2
     refine ih (j + 1) undef g w hjc' (hnext σ (j + 1) (.c .undef) undef w g (fun _ _ => rfl) hfrj rfl (by rw [e1, e2]; exact hD.inv) (by rw [e2]; exact .refl _ _ _) hD.fr.now hjc' (fun i hi hin => ?_)) (.refl hD.fr.now)
     have hoi : all[i]? = some all[i] := Array.getElem?_eq_getElem hin
     rw [hset]
     by_cases e : i = j
     ·subst e; simp
     ·rw [if_neg e]
      constructor
      ·intro hli
       rcases Nat.lt_or_ge j i with h | h
       ·have hp := hpair j i o _ ho hoi h
        have hb := hbehind i _ hoi hli
        simp only [pairOk, hb, Bool.and_eq_true, Bool.or_eq_true] at hp
        simp [hi, hns, -isS] at hp
       ·omega
      ·intro hlt
       have hp := hpair i j _ o hoi ho (by omega)
       simp only [pairOk, Bool.and_eq_true, Bool.or_eq_true] at hp
       rcases hp.2 with h | h
       ·simp [hi, hns, -isS] at h
       ·exact hbefore i h
   ·exact ih k0 undef g w hk0 (hnext σ k0 (.c .undef) undef w g (fun _ _ => rfl) hfrj rfl hD.inv (.refl _ _ _) hD.fr.now hk0 (hwp0 hjw)) (.refl hD.fr.now)
 ·rw [hwantG hgd, if_pos hgt]
  refine .inl ?_
  subst hjc'
  have hRJ : RpJ n w0 g0 X ⟨fr', (σ k0).V, (σ k0).A⟩ L S g a w := ⟨hD.inv, hJ.fr, hD.size, hD.defers, hS _, hJ.trs, hJ.nd, hJ.out⟩
  obtain ⟨hv1, hv2⟩ := hva hns
  refine hcall fr' _ _ (hop _ _ _ _) n w0 g0 X S g a w hRJ _ _ ?_
  rintro x L' S' v w' g' hk h6 h7 h8 h9 h10 h11 h12
  refine ih x L' S' v g' w' hk (fun σ' hσ hn => hnext σ' k0 x v w' g' hσ (by rw [hn]; rfl) h6 h7 h8 h9.now hk0 (hwp0 hjw)) ⟨h9, h10, h11, h12⟩

def callsOkQ (all : Array Oper) (ws cs ns fs : List Nat) : Bool :=
 let l := all.toList.zipIdx
 let ms := masks all.toList []
 (cs.all fun c => !ws.contains c && (l.all fun (_, j) => !(decide (c < j)) || (ms.getD j 0).testBit c) && (ns.all fun j => fs.contains j || !(decide (j < c)) || (ms.getD c 0).testBit j)) && (l.all fun (o, j) => !cs.contains j || !isS o.op)

set_option maxHeartbeats 2000000 in
theorem drawQ_sound {cs ns fs : List Nat} {ow : Nat -> Bool} {K : St -> Ts -> Prop} {Q : Exit -> Act -> World -> Prop} (hd : drawOk all ws = true) (hc : callsOkQ all ws cs ns fs = true) (hdst : dstsOk n all.toList = true)
  (hQ : ∀ s' L' S' g' a' w', K s' L' -> RpJ n w0 g0 X s' L' S' g' a' w' -> Q .normal a' w') :
  ∀ (fuel : Nat) (σ : Nat -> St) (c : Nat) (L : Ts) (S : List Nat) (listed : Array Bool) (k0 : Nat) (g : Gh) (a : Act) (w : World), ((List.range all.size).filter fun i => !listed.getD i true).length <= fuel -> Trc all ws σ c -> k0 <= c ->
   (∀ (j : Nat) o, j < c -> all[j]? = some o -> listed[j]? ≠ some true -> DetQ P all (ow j) ns fs L j o (σ j) (σ (j + 1))) -> (∀ i, listed[i]? = some true -> i < c) ->
   ((c = all.size /\ K (σ c) L) \/ (c ∈ cs /\ ∃ o, all[c]? = some o /\ gdo all (σ c) o True True /\ gw all (σ c) o = true /\ TreS P (σ c) L o fun x L' => aopsQ P all ow ws cs ns fs K (c + 1) (all.toList.drop (c + 1)) ((σ c).put o.dst x (σ c).V (σ c).A) L')) ->
   DS all ws σ n w g listed k0 g a w -> Jb w0 g0 X L S g w -> wpAny P .any all Q fuel listed a w := by
 have hd0 := hd
 simp only [drawOk, Bool.and_eq_true, List.all_eq_true] at hd
 obtain ⟨⟨hd1, hd2⟩, hd3⟩ := hd
 -- the checks, read
 have hmem : ∀ (j : Nat) o, all[j]? = some o -> (o, j) ∈ all.toList.zipIdx := fun j o h => by
  rw [List.mem_iff_getElem?]
  exact ⟨j, by simp [List.getElem?_zipIdx, h]⟩
 have hedge : ∀ (j : Nat) o, all[j]? = some o -> ∀ e ∈ o.after, Region.binds .any e = true -> e.on < j := fun j o h e he hb => by
  have := hd1 _ (hmem j o h) e (Array.mem_toList_iff.2 he)
  simpa [hb] using this
 have hpair : ∀ (i j : Nat) oi oj, all[i]? = some oi -> all[j]? = some oj -> i < j -> pairOk all ws (masks all.toList []) oi oj i j = true := fun i j oi oj h1 h2 hlt => by
  have := hd2 _ (hmem j oj h2) _ (hmem i oi h1)
  simpa [hlt] using this
 have hws : ∀ (j : Nat) o, all[j]? = some o -> j ∈ ws -> isS o.op = false := fun j o h hj => by
  have := hd3 _ (hmem j o h)
  simpa [hj] using this
 have hdne : ∀ (i j : Nat) oi oj d, all[i]? = some oi -> all[j]? = some oj -> i < j -> oi.dst = some d -> oj.dst ≠ some d := fun i j oi oj d h1 h2 hlt h3 h4 => by
  have := hpair i j oi oj h1 h2 hlt
  simp [pairOk, h3, h4] at this
 have hdu : ∀ (i j : Nat) oi oj d, all[i]? = some oi -> all[j]? = some oj -> oi.dst = some d -> oj.dst = some d -> i = j := fun i j oi oj d h1 h2 h3 h4 => by
  rcases Nat.lt_trichotomy i j with h | h | h
  ·exact absurd h4 (hdne i j oi oj d h1 h2 h h3)
  ·exact h
  ·exact absurd h3 (hdne j i oj oi d h2 h1 h h4)
 simp only [callsOkQ, Bool.and_eq_true, List.all_eq_true] at hc
 obtain ⟨hc1, hc3⟩ := hc
 have hcw : ∀ c ∈ cs, c ∉ ws := fun c h => by simpa using (hc1 c h).1.1
 have hcS : ∀ c ∈ cs, ∀ o, all[c]? = some o -> isS o.op = false := fun c h o ho => by
  have := hc3 _ (hmem c o ho)
  simpa [h, -isS] using this
 have hcb : ∀ c ∈ cs, ∀ (j : Nat) o, all[j]? = some o -> c < j -> ((masks all.toList []).getD j 0).testBit c = true := fun c h j o ho hlt => by
  have := (hc1 c h).1.2 _ (hmem j o ho)
  simpa [hlt] using this
 have hcn : ∀ c ∈ cs, ∀ j ∈ ns, j ∉ fs -> j < c -> ((masks all.toList []).getD c 0).testBit j = true := fun c h j hj hnf hlt => by
  have := (hc1 c h).2 j hj
  simpa [hlt, hnf] using this
 have hready : ∀ {listed : Array Bool}, Region.ready .any all listed = [] -> listed.size = all.size -> ∀ i, i < all.size -> listed[i]? = some true := by
  intro listed hr hls i
  induction i using Nat.strongRecOn with
  | _ i ih =>
   intro hi
   have ho : all[i]? = some all[i] := Array.getElem?_eq_getElem hi
   have hli : i < listed.size := by omega
   cases hl : listed[i] with
   | true => rw [Array.getElem?_eq_getElem hli, hl]
   | false =>
    exfalso
    have : i ∈ Region.ready .any all listed := mem_ready.2 ⟨by simp [hli, hl], _, ho, fun e he hb => listed_iff.2 (ih e.on (hedge i _ ho e he hb) (by have := hedge i _ ho e he hb; omega))⟩
    rw [hr] at this; simp at this
 have hend : ∀ {σ : Nat -> St} {c : Nat} {L : Ts} {S : List Nat} {listed : Array Bool} {k0 : Nat} {g : Gh} {a : Act} {w : World}, Trc all ws σ c -> (∀ i, listed[i]? = some true -> i < c) ->
   ((c = all.size /\ K (σ c) L) \/ (c ∈ cs /\ ∃ o, all[c]? = some o /\ gdo all (σ c) o True True /\ gw all (σ c) o = true /\ TreS P (σ c) L o fun x L' => aopsQ P all ow ws cs ns fs K (c + 1) (all.toList.drop (c + 1)) ((σ c).put o.dst x (σ c).V (σ c).A) L')) ->
   DS all ws σ n w g listed k0 g a w -> Jb w0 g0 X L S g w -> Region.ready .any all listed = [] -> Q .normal a w := by
  intro σ c L S listed k0 g a w hT hlc hK hD hJ hr
  have hall := hready hr hD.lsize
  rcases hK with ⟨rfl, hK⟩ | ⟨hcc, o, ho, _⟩
  ·exact hQ _ _ _ _ _ _ hK (drawP_end hd0 hT hD hall hJ)
  ·have hin := (Array.getElem?_eq_some_iff.1 ho).1
   have := hlc c (hall c hin)
   omega
 intro fuel
 induction fuel with
 | zero =>
  intro σ c L S listed k0 g a w hf hT hk0 hdet hlc hK hD hJ
  have hnil : Region.ready .any all listed = [] := by
   have h0 : ((List.range all.size).filter fun i => !listed.getD i true) = [] := List.eq_nil_of_length_eq_zero (by omega)
   rcases hr : Region.ready .any all listed with _ | ⟨j, r⟩
   ·rfl
   ·have hj : j ∈ Region.ready .any all listed := by rw [hr]; simp
    obtain ⟨h1, o, h2, _⟩ := mem_ready.1 hj
    have : j ∈ ((List.range all.size).filter fun i => !listed.getD i true) := by
     rw [List.mem_filter, List.mem_range]
     exact ⟨(Array.getElem?_eq_some_iff.1 h2).1, by simp [h1]⟩
    rw [h0] at this; simp at this
  exact ⟨hnil, hend hT hlc hK hD hJ hnil⟩
 | succ fuel ih =>
  intro σ c L S listed k0 g a w hf hT hk0 hdet hlc hK hD hJ
  refine ⟨fun hr => hend hT hlc hK hD hJ hr, fun j hj => ?_⟩
  obtain ⟨hun, o, ho, hafter⟩ := mem_ready.1 hj
  have hju := unlisted_of hun
  have hjn : j < all.size := (Array.getElem?_eq_some_iff.1 ho).1
  have hjl : j < listed.size := by rw [hD.lsize]; exact hjn
  have hafter' : ∀ e ∈ o.after, Region.binds .any e = true -> listed[e.on]? = some true := fun e he hb => listed_iff.1 (hafter e he hb)
  have hset : ∀ i, (listed.setIfInBounds j true)[i]? = if i = j then some true else listed[i]? := fun i => by
   by_cases e : i = j
   ·subst e; simp [hjl]
   ·rw [if_neg e, Array.getElem?_setIfInBounds_ne (fun h => e h.symm)]
  have hcount : ((List.range all.size).filter fun i => !(listed.setIfInBounds j true).getD i true).length <= fuel := by
   have hlt : ((List.range all.size).filter fun i => !(listed.setIfInBounds j true).getD i true).length < ((List.range all.size).filter fun i => !listed.getD i true).length := by
    have hsub : ∀ i, (!(listed.setIfInBounds j true).getD i true) = true -> (!listed.getD i true) = true := fun i h => by
     by_cases e : i = j
     ·subst e; simp [hjl] at h
     ·have : (listed.setIfInBounds j true).getD i true = listed.getD i true := by
       simp only [Array.getD_eq_getD_getElem?, hset, if_neg e]
      rwa [this] at h
    exact filter_lt hsub (List.mem_range.2 hjn) (by simp [hun]) (by simp [hjl])
   omega
  have hjc : j <= c := by
   rcases hK with ⟨rfl, _⟩ | ⟨hcc, oc, hoc, _⟩
   ·omega
   ·rcases Nat.lt_or_ge c j with h | h
    ·have := hlc c (bit_listed hedge hD.closed j o ho hafter' c (hcb c hcc j o ho h))
     omega
    ·exact h
  obtain ⟨one1, one2⟩ := drawQ_one (ns := ns) (fs := fs) (w0 := w0) (g0 := g0) (X := X) (L := L) (S := S) (ow := ow) hd0 hdst hT hD hk0 hlc hj hjc ho (next := wpAny P .any all Q fuel (listed.setIfInBounds j true)) (Q := Q)
  rcases Nat.lt_or_eq_of_le hjc with hlt | rfl
  ·refine one1 hlt hJ (hdet j o hlt ho (by rw [hju]; simp)) fun k1 v g' w' hk1 hD' hF => ih σ c L S _ k1 g' _ w' hcount hT hk1 (fun i oi hi hoi hli => hdet i oi hi hoi fun h => hli ?_) (fun i hi => ?_) hK hD' (hJ.fr' hF)
   ·rw [hset]
    by_cases e : i = j
    ·rw [if_pos e]
    ·rw [if_neg e]; exact h
   ·rw [hset] at hi
    by_cases e : i = j
    ·subst e; exact hlt
    ·rw [if_neg e] at hi; exact hlc i hi
  ·rcases hK with ⟨h, _⟩ | ⟨hcc, oc, hoc, hcg, hcw2, hcall⟩
   ·omega
   obtain rfl : o = oc := by rw [ho] at hoc; exact Option.some.inj hoc
   refine one2 rfl (hcS j hcc o ho) (hcw j hcc) hJ hcg hcw2 _ hcall fun x L' S' v g' w' hk hDS hJ' => ?_
   obtain ⟨τ, m, k1, k2, k3, k4⟩ := aopsQ_trace _ _ _ _ hk
   have hlen : (all.toList.drop (j + 1)).length = all.size - (j + 1) := by simp
   let σ' : Nat -> St := fun i => if i <= j then σ i else τ (i - (j + 1))
   have e1 : ∀ i, i <= j -> σ' i = σ i := fun i hi => by simp only [σ', if_pos hi]
   have e2 : ∀ i, σ' (j + 1 + i) = τ i := fun i => by simp only [σ', if_neg (show ¬ j + 1 + i <= j by omega)]; congr 1; omega
   have e3 : ∀ i, (all.toList.drop (j + 1))[i]? = all[j + 1 + i]? := fun i => by simp
   have hput : σ' (j + 1) = (σ j).put o.dst x (σ j).V (σ j).A := by rw [<- k2]; exact e2 0
   refine ih σ' (j + 1 + m) L' S' _ k0 g' _ w' hcount ⟨by omega, fun i oi hi hoi => ?_⟩ (by omega) (fun i oi hi hoi hli => ?_) (fun i hi => ?_) ?_ (hDS σ' e1 hput) hJ'
   ·rcases Nat.lt_trichotomy i j with h | h | h
    ·rw [e1 i (by omega), e1 (i + 1) (by omega)]; exact hT.tr i oi h hoi
    ·subst h
     obtain rfl : o = oi := by rw [ho] at hoi; exact Option.some.inj hoi
     rw [e1 i (by omega), hput]
     exact ⟨x, _, _, rfl, .inr ⟨rfl, rfl⟩⟩
    ·obtain ⟨q, rfl⟩ : ∃ q, i = j + 1 + q := ⟨i - (j + 1), by omega⟩
     rw [e2 q, show j + 1 + q + 1 = j + 1 + (q + 1) by omega, e2 (q + 1)]
     exact (k3 q oi (by omega) (by rw [e3]; exact hoi)).2
   ·rw [hset] at hli
    by_cases e : i = j
    ·rw [if_pos e] at hli; simp at hli
    ·rw [if_neg e] at hli
     rcases Nat.lt_or_ge i j with h | h
     ·rw [e1 i (by omega), e1 (i + 1) (by omega)]
      obtain ⟨d1, d2⟩ := hdet i oi h hoi hli
      refine ⟨d1, ?_⟩
      rcases d2 with ⟨d3, ⟨d4, x, d5, d6, d7⟩ | d4⟩ | d2
      ·by_cases hf : i ∈ fs
       ·exact .inl ⟨d3, .inl ⟨d4, x, d5, d7 hf L', fun _ => d7 hf⟩⟩
       ·exact absurd (bit_listed hedge hD.closed j o ho hafter' i (hcn j hcc i d4 hf h)) hli
      ·exact .inl ⟨d3, .inr d4⟩
      ·exact .inr d2
     ·obtain ⟨q, rfl⟩ : ∃ q, i = j + 1 + q := ⟨i - (j + 1), by omega⟩
      rw [e2 q, show j + 1 + q + 1 = j + 1 + (q + 1) by omega, e2 (q + 1)]
      exact (k3 q oi (by omega) (by rw [e3]; exact hoi)).1
   ·rw [hset] at hi
    by_cases e : i = j
    ·omega
    ·rw [if_neg e] at hi
     have := hlc i hi
     omega
   ·rcases k4 with ⟨h1, h2⟩ | ⟨h1, oc, h2, h4, h5, h3⟩
    ·exact .inl ⟨by omega, by rw [e2]; exact h2⟩
    ·refine .inr ⟨h1, oc, by rw [<- e3]; exact h2, ?_⟩
     rw [e2]
     rw [List.drop_drop, show j + 1 + (m + 1) = j + 1 + m + 1 by omega] at h3
     exact ⟨h4, h5, h3⟩

theorem TJ.region_drawQ {Q : Exit -> St -> Ts -> Prop} {id : Nat} {l : List Oper} (hm : P.follows .mixedOrders = true) (ow : Nat -> Bool) (ws cs ns fs : List Nat) (hd : drawOk l.toArray ws = true) (hc : callsOkQ l.toArray ws cs ns fs = true)
  (h : aopsQ P l.toArray ow ws cs ns fs (fun s' L' => Q .normal s' L') 0 l s L) : TJ P n (.region id l.toArray true) Q s L := by
 intro hok w0 g0 X S g a w hR
 have hok' : dstsOk n l.toArray.toList = true := by simpa [codeOk] using hok
 obtain ⟨τ, m, k1, k2, k3, k4⟩ := aopsQ_trace l 0 s L h
 obtain ⟨hI, hx⟩ := hR.inv.heap (w' := { w with drawn := w.drawn + 1 }) rfl
 have hF : Fr w g { w with drawn := w.drawn + 1 } g := (Fr.refl hR.fr.now).heap rfl rfl rfl rfl
 have hJ : Jb w0 g0 X L S g { w with drawn := w.drawn + 1 } := (Jb.mk hR.fr hR.trs hR.nd hR.out).fr' hF
 have hat : ∀ (i : Nat), l.toArray[i]? = l[i]? := fun i => by simp
 refine wp_region_any hm (drawQ_sound (K := fun s' L' => Q .normal s' L') (ow := ow) hd hc hok' (fun s' L' S' g' a' w' h1 h2 => ⟨s', g', L', S', h1, h2⟩) _ τ m L S (Array.replicate l.toArray.size false) 0 g a _ ?_ ?_ (Nat.zero_le _) ?_ ?_ ?_ ?_ hJ)
 ·refine Nat.le_trans (List.length_filter_le _ _) (by simp)
 ·refine ⟨by simpa using k1, fun j o hj ho => ?_⟩
  have := (k3 j o hj (by rw [hat] at ho; exact ho)).2
  simpa only [Nat.zero_add] using this
 ·intro j o hj ho _
  have := (k3 j o hj (by rw [hat] at ho; exact ho)).1
  simpa only [Nat.zero_add] using this
 ·intro i hi
  have hil := (Array.getElem?_eq_some_iff.1 hi).1
  simp at hil
  simp [hil] at hi
 ·rcases k4 with ⟨h1, h2⟩ | ⟨h1, oc, h2, h4, h5, h3⟩
  ·exact .inl ⟨by rw [h1]; simp, h2⟩
  ·refine .inr ⟨by simpa using h1, oc, by rw [hat]; exact h2, h4, h5, ?_⟩
   simp only [Nat.zero_add] at h3
   exact h3
 ·refine ⟨by rw [k2]; exact hI, .refl hF.now, hR.size, hR.defers, by simp, fun i o t x ho hl => ?_, fun t x _ hx' => ?_, fun i _ hin => ?_, Nat.zero_le _, fun i o ho hl => ?_⟩
  ·have hi := (Array.getElem?_eq_some_iff.1 hl).1
   simp at hi
   simp [hi] at hl
  ·rw [k2] at hx' ⊢
   obtain ⟨u, h1, h2⟩ := hR.slot t x hx'
   exact ⟨u, h1, RepV.ext hx h2⟩
  ·simp at hin
   simp [hin]
  ·have hi := (Array.getElem?_eq_some_iff.1 hl).1
   simp at hi
   simp [hi] at hl

structure OpsQ (P : Program) (all : Array Oper) (ow : Nat -> Bool) (ws cs ns fs : List Nat) (K : St -> Ts -> Prop) (i : Nat) (ops : List Oper) (s : St) (L : Ts) : Prop where
 mk ::
 run : aopsQ P all ow ws cs ns fs K i ops s L
theorem TJ.rdQ1 {Q : Exit -> St -> Ts -> Prop} {id : Nat} {l : List Oper} (hm : P.follows .mixedOrders = true) (ow : Nat -> Bool) (ws cs ns fs : List Nat) (hd : drawOk l.toArray ws = true) (hc : callsOkQ l.toArray ws cs ns fs = true)
  (h : ∀ K : St -> Ts -> Prop, (∀ s' L', Q .normal s' L' -> K s' L') -> OpsQ P l.toArray ow ws cs ns fs K 0 l s L) : TJ P n (.region id l.toArray true) Q s L :=
 TJ.region_drawQ hm ow ws cs ns fs hd hc (h _ fun _ _ h => h).run

variable {ow : Nat -> Bool} {cs ns fs : List Nat} {K : St -> Ts -> Prop} {i : Nat} {o : Oper} {rest : List Oper}
theorem aopsQ_go (hi : cs.contains i = false) (hn : ns.contains i = false) (h : gdo all s o (astep P s (ow i) o fun x V A => (i ∈ ws \/ (V = s.V /\ A = s.A)) /\ OpsQ P all ow ws cs ns fs K (i + 1) rest (s.put o.dst x V A) L) (OpsQ P all ow ws cs ns fs K (i + 1) rest (s.put o.dst (.c .undef) s.V s.A) L)) : OpsQ P all ow ws cs ns fs K i (o :: rest) s L :=
 ⟨gdo_map (fun h => .inr (.inr ⟨by simpa using hi, by simpa using hn, astep_map (fun x V A h => ⟨h.1, h.2.run⟩) h⟩)) (fun h => h.run) h⟩
theorem aopsQ_skip (hg : gdo all s o False True) (h : OpsQ P all ow ws cs ns fs K (i + 1) rest (s.put o.dst (.c .undef) s.V s.A) L) : OpsQ P all ow ws cs ns fs K i (o :: rest) s L :=
 ⟨gdo_map False.elim (fun _ => h.run) hg⟩
theorem aopsQ_end (h : K s L) : OpsQ P all ow ws cs ns fs K i [] s L := ⟨h⟩
@[congr] theorem aopsQ_cong {i i' : Nat} {ops : List Oper} (hi : i = i') (h : s = s') : OpsQ P all ow ws cs ns fs K i ops s L = OpsQ P all ow ws cs ns fs K i' ops s' L := by rw [h, hi]

theorem aopsQ_look {x : AV} (hi : cs.contains i = false) (hn : ns.contains i = true) (hf : fs.contains i = false) (hg : gdo all s o True False) (h : LkS P s L o x) (hK : OpsQ P all ow ws cs ns fs K (i + 1) rest (s.put o.dst x s.V s.A) L) : OpsQ P all ow ws cs ns fs K i (o :: rest) s L :=
 ⟨gdo_yes hg (.inr (.inl ⟨by simpa using hi, by simpa using hn, x, h, fun q => absurd q (by simpa using hf), hK.run⟩))⟩
theorem aopsQ_lookA {x : AV} (hi : cs.contains i = false) (hn : ns.contains i = true) (hg : gdo all s o True False) (h : ∀ L, LkS P s L o x) (hK : OpsQ P all ow ws cs ns fs K (i + 1) rest (s.put o.dst x s.V s.A) L) : OpsQ P all ow ws cs ns fs K i (o :: rest) s L :=
 ⟨gdo_yes hg (.inr (.inl ⟨by simpa using hi, by simpa using hn, x, h L, fun _ => h, hK.run⟩))⟩
theorem aopsQ_tre (hi : cs.contains i = true) (hg : gdo all s o True False) (h : TreS P s L o fun x L' => OpsQ P all ow ws cs ns fs K (i + 1) rest (s.put o.dst x s.V s.A) L') : OpsQ P all ow ws cs ns fs K i (o :: rest) s L :=
 ⟨gdo_yes hg (.inl ⟨by simpa using hi, h.map fun x L' h => h.run⟩)⟩

theorem TreS.store {t : TypeId} {d : TD} {x y : Operand} {off : Nat} {T : TypeId} {row : List DV} {pv : Value} {c : CV} {e : DV} (ho : o.op = .store t x y) (hd : td P t = some d) (hsz : d.sz = 1)
  (hx : aval s x = some (.c (.d (.raw (fp pv off))))) (hy : aval s y = some (.c c)) (hc : cvD c = some e) (hp : L.Perm ((.n T row, pv) :: L2)) (hoff : off < row.length)
  {k : AV -> Ts -> Prop} (hK : k (.c .undef) ((.n T (row.set off e), pv) :: L2)) : TreS P s L o k := by
 intro fr' V A hA n w0 g0 X S g a w hR next Q hn
 have hx : aval ⟨fr', V, A⟩ x = some (.c (.d (.raw (fp pv off)))) := (hA x (by simp [ho, Op.operands])).trans hx
 have hy : aval ⟨fr', V, A⟩ y = some (.c c) := (hA y (by simp [ho, Op.operands])).trans hy
 obtain ⟨S0, hS0, hT0⟩ := hR.trs.perm hp
 obtain ⟨S1, S2, rfl, htr, hT2⟩ := hT0
 simp only [Tr] at htr
 obtain ⟨b, xs, rfl, hh, hxl, hr, rfl⟩ := htr
 have hnd := hS0.nodup_iff.1 hR.nd
 have hout := fun b hb => hR.out b (hS0.mem_iff.2 hb)
 obtain ⟨hb1, hb2, hb3, hb4, hb5⟩ := hout b (by simp)
 have hv := aval_sound hR.slot hx
 simp only [RepV, RepE, RepC, RepD] at hv
 have hu := aval_sound hR.slot hy
 simp only [RepV, RepE] at hu
 have heD := cvD_rep (im := fun _ => 0) (w' := w) hc hu
 have h1c : (a.eval y).oneCell' = true := heD.oneCell
 have hcells : (a.eval y).cells = #[a.eval y] := by
  cases hq : a.eval y <;> first | rfl | (rw [hq] at h1c; simp [Value.oneCell'] at h1c)
 have hrun := run_storeAt_av (P := P) hd (v := a.eval y) (by rw [hcells, hsz]; rfl) hh (off := off) (by rw [hsz]; omega) (fun u hu => by rw [hcells] at hu; simp at hu; subst hu; exact h1c)
 have hsp : (splice xs.toList off (a.eval y).cells.toList).toArray = xs.setIfInBounds off (a.eval y) := by
  rw [hcells]
  apply Array.ext'
  simp only [Array.toList_setIfInBounds]
  apply List.ext_getElem?
  intro j
  rw [splice_at (by simp; omega), List.getElem?_set]
  simp only [List.length_cons, List.length_nil, Nat.zero_add, Array.length_toList]
  by_cases hj : off = j
  ·subst hj
   rw [if_pos ⟨Nat.le_refl _, by omega⟩, if_pos rfl, if_pos (by omega), Nat.sub_self]; rfl
  ·rw [if_neg (by omega), if_neg hj]
 rw [hsp] at hrun
 have hblt : b < w.heap.size := (Array.getElem?_eq_some_iff.1 hh).1
 unfold Oper.wp
 have hrun2 : (execOp a.eval o).run P w = .ok .skip (w.setRow b (xs.setIfInBounds off (a.eval y))) := by
  rw [execOp, ho]
  refine run_skip ?_
  rw [hv.1, show fp (.pointer (some ⟨b, 0, none⟩)) off = .pointer (some ⟨b, off, none⟩) by simp [fp]]
  exact hrun
 rw [hrun2]
 have hoth : ∀ b', b' ≠ b -> (w.setRow b (xs.setIfInBounds off (a.eval y))).heap[b']? = w.heap[b']? := fun b' hb' => heap_setRow_other w b b' _ hb'
 have hnew : (w.setRow b (xs.setIfInBounds off (a.eval y))).heap[b]? = some (.cells (xs.setIfInBounds off (a.eval y)) T (0, 0)) := setRow_heap w b xs _ T (0, 0) hh
 have hszw : (w.setRow b (xs.setIfInBounds off (a.eval y))).heap.size = w.heap.size := by simp
 have hgr : Grows g.im w g.im (w.setRow b (xs.setIfInBounds off (a.eval y))) := ⟨fun _ => Nat.le_refl _, fun b' o' hlo => by
  have hne : b' ≠ b := fun e => by subst e; omega
  exact World.cell?_of_block (a := ⟨b', o', none⟩) (hoth b' hne)⟩
 have hxt : Ext g w A g (w.setRow b (xs.setIfInBounds off (a.eval y))) A := ⟨fun _ _ h => h, hgr, fun _ r h => ⟨r, h, rfl, Nat.le_refl _, fun _ => rfl⟩⟩
 have hIv : Inv g (w.setRow b (xs.setIfInBounds off (a.eval y))) V A := by
  refine ⟨hR.inv.obl, hR.inv.arl, fun l row' b' h3 h4 => ?_, fun k r u h3 h4 => ?_, hR.inv.obob, hR.inv.arar, hR.inv.obar, fun b' hb' => hR.inv.fresh b' (by omega)⟩
  ·exact hR.inv.objKeep hxt h3 h4 (hoth b' (fun e => by subst e; exact hb2 (List.mem_of_getElem? h4))) (hR.inv.obj l row' b' h3 h4).1
  ·exact hR.inv.arrKeep hxt h3 h4 (fun b' hb' => hoth b' (fun e => by subst e; exact hb3 (Gh.arb_mem h4 hb'))) (fun _ _ => rfl)
 have hFr : FrX w0 g0 X (w.setRow b (xs.setIfInBounds off (a.eval y))) g := by
  refine ⟨hR.fr.os, hR.fr.tape, hR.fr.output, by rw [hszw]; exact hR.fr.size, fun b' q1 q2 q3 q4 => ?_, hR.fr.imeq, hR.fr.ob, hR.fr.ar, hR.fr.arx, hR.fr.tab, hR.fr.tabx⟩
  rw [hoth b' (fun e => by
   subst e
   rcases hb5 with q | q
   ·omega
   ·exact q4 q)]
  exact hR.fr.blk b' q1 q2 q3 q4
 have hnS2 : b ∉ S2 := fun hm => (List.nodup_cons.1 hnd).1 hm
 refine hn _ _ (b :: S2) undef _ g hK rfl hIv hxt hFr ⟨[b], S2, rfl, ?_, hT2.keep fun b' hb' => hoth b' (fun e => by subst e; exact hnS2 hb')⟩ hnd hout
 simp only [Tr]
 refine ⟨b, _, rfl, hnew, by simp [hxl], fun j x' u h3 h4 => ?_, rfl⟩
 rw [List.getElem?_set] at h3
 rw [Array.getElem?_setIfInBounds] at h4
 by_cases hj : off = j
 ·rw [if_pos hj, if_pos hoff] at h3
  rw [if_pos hj, if_pos (by omega)] at h4
  simp at h3 h4; subst h3; subst h4
  exact heD.zero
 ·rw [if_neg hj] at h3
  rw [if_neg hj] at h4
  exact (hr j x' u h3 h4).zero

theorem LkS.nilE {tp tb : TypeId} {x y : Operand} {v : Value} {q : Bool} {L : Ts} {ms} (ho : o.op = .binOp .neq tp x y tb) (hx : aval s x = some (.c (.d (.raw v)))) (hy : y = .const .nilIface) (htp : P.underlying tp = some (.interface ms))
  (hq : (q = false /\ v = .nilIface) \/ (q = true /\ ∃ t p, v = .iface t p)) : LkS P s L o (.c (.d (.bool q))) := by
 intro fr' V A hA g a w S hS hT _
 have hx' := (hA x (by simp [ho, Op.operands])).trans hx
 refine ⟨_, rfl, ?_⟩
 have e1 : a.eval x = v := by
  have := aval_sound hS hx'
  simp only [RepV, RepE, RepC, RepD] at this
  exact this.1.symm ▸ rfl
 have e2 : a.eval y = .nilIface := by rw [hy]; rfl
 have hg : (eqGuard .neq tp x y v .nilIface).run P w = .ok () w := by
  rcases hq with ⟨_, rfl⟩ | ⟨_, t, p, rfl⟩ <;> simp [eqGuard, hy]
 have heq : ∀ k : Nat, (Op.equalIn (k + 1) tp v .nilIface).run P w = .ok (!q) w := fun k => by
  rcases hq with ⟨rfl, rfl⟩ | ⟨rfl, t, p, rfl⟩ <;> simp [Op.equalIn, run_underlying htp]
 have heq2 : (Op.equal tp v .nilIface).run P w = .ok (!q) w := heq 9999
 rw [execOp, ho]
 refine run_value ?_
 rw [e1, e2, Sem.run_bind, hg]
 simp only [Result.andThen_ok]
 rcases hq with ⟨rfl, rfl⟩ | ⟨rfl, t, p, rfl⟩
 ·simp only [binOp]
  rw [Sem.run_bind, heq2]
  rfl
 ·simp only [binOp]
  rw [Sem.run_bind, heq2]
  rfl
end
end Go.Av
