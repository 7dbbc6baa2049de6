/- A part of the library of this seat. -/
import Derived.Test.YtcgmmknfpfdghaaDoorA16
import Derived.LaidEql
set_option linter.unusedVariables false
set_option linter.unusedSimpArgs false
namespace Go.Av
attribute [-simp] Go.Av.MCo.kind_mk Go.Av.MCo.tag_mk Go.Av.MCo.label_mk Go.Av.MCo.kids_mk Go.Av.astepJ Go.Av.relC Go.Av.relL Go.Av.relV Go.Av.relVs Go.Av.callJ
open Go

def fp : Value -> Nat -> Value
 | .pointer (some ⟨b, o, k⟩), off => .pointer (some ⟨b, o + off, k⟩)
 | v, _ => v
def cvD : CV -> Option DV
 | .d x => if x.scal = true then some x else none
 | .np => some (.raw (.pointer none))
 | .nil => some (.raw (.slice none 0 0))
 | _ => none
def cvDs : List CV -> Option (List DV)
 | [] => some []
 | c :: r => match cvD c, cvDs r with
  | some x, some l => some (x :: l)
  | _, _ => none
theorem cvD_rep {g : Gh} {w : World} {A : List Arr} {im : Nat -> Nat} {w' : World} {c : CV} {x : DV} {u : Value} (h : cvD c = some x) (hr : RepC g w A c u) : RepD im w' x u := by
 cases c with
 | d y =>
  simp only [cvD] at h
  split at h
  ·rename_i hs; simp at h; subst h; exact DV.scal_rep hs hr
  ·simp at h
 | np => simp only [cvD, Option.some.injEq] at h; subst h; exact ⟨hr, by simp only [RepC] at hr; subst hr; rfl⟩
 | nil => simp only [cvD, Option.some.injEq] at h; subst h; exact ⟨hr, by simp only [RepC] at hr; subst hr; rfl⟩
 | _ => simp [cvD] at h
theorem cvDs_len : ∀ {cs : List CV} {ds : List DV}, cvDs cs = some ds -> ds.length = cs.length
 | [], ds, h => by simp [cvDs] at h; subst h; rfl
 | c :: r, ds, h => by
  simp only [cvDs] at h
  split at h
  ·rename_i x l h1 h2; simp at h; subst h; simp [cvDs_len h2]
  ·simp at h
theorem cvDs_at : ∀ {cs : List CV} {ds : List DV}, cvDs cs = some ds -> ∀ {j : Nat} {c x}, cs[j]? = some c -> ds[j]? = some x -> cvD c = some x
 | [], ds, h, j, c, x, h1, _ => by simp at h1
 | y :: r, ds, h, j, c, x, h1, h2 => by
  simp only [cvDs] at h
  split at h
  ·rename_i a l h3 h4
   simp at h; subst h
   cases j with
   | zero => simp at h1 h2; subst h1; subst h2; exact h3
   | succ j => exact cvDs_at h4 (by simpa using h1) (by simpa using h2)
  ·simp at h

section
variable {P : Program} {n : Nat} {s : St} {L L2 : Ts} {all : Array Oper} {ow : Nat -> Bool} {K : St -> Ts -> Prop} {i : Nat} {o : Oper} {rest : List Oper}

theorem Trs.node {w : World} {T : TypeId} {row : List DV} {pv : Value} {S : List Nat} (h : Trs w L S) (hm : (.n T row, pv) ∈ L) :
  ∃ b xs, pv = .pointer (some ⟨b, 0, none⟩) /\ b ∈ S /\ w.heap[b]? = some (.cells xs T (0, 0)) /\ xs.size = row.length /\ ∀ (j : Nat) x u, row[j]? = some x -> xs[j]? = some u -> RepD (fun _ => 0) w x u := by
 obtain ⟨S', h1, h2⟩ := h.at_ hm
 simp only [Tr] at h1
 obtain ⟨b, xs, rfl, h3, h4, h5, rfl⟩ := h1
 exact ⟨b, xs, rfl, h2 b (by simp), h3, h4, h5⟩

theorem aopsJ_store {t : TypeId} {d : TD} {x y : Operand} {off : Nat} {T : TypeId} {row : List DV} {pv : Value} {c : CV} {e : DV} (hg : o.guard = none) (ho : o.op = .store t x y) (hd : td P t = some d) (hsz : d.sz = 1)
  (hx : aval s x = some (.c (.d (.raw (fp pv off))))) (hy : aval s y = some (.c c)) (hc : cvD c = some e) (hp : L.Perm ((.n T row, pv) :: L2)) (hoff : off < row.length)
  (hK : OpsJ P n all ow K (i + 1) rest (s.put o.dst (.c .undef) s.V s.A) ((.n T (row.set off e), pv) :: L2)) : OpsJ P n all ow K i (o :: rest) s L := by
 refine ⟨fun hds w0 g0 X S g a w Q hR hQ => ?_⟩
 simp only [dstsOk, List.all_cons, Bool.and_eq_true] at hds
 have hdst : ∀ d, o.dst = some d -> d < n := fun d e => by have := hds.1; rw [e] at this; simpa using this
 obtain ⟨S0, hS0, hT0⟩ := hR.trs.perm hp
 obtain ⟨S1, S2, rfl, htr, hT2⟩ := hT0
 simp only [Tr] at htr
 obtain ⟨b, xs, rfl, hh, hxl, hr, rfl⟩ := htr
 have hnd := hS0.nodup_iff.1 hR.nd
 have hout := fun b hb => hR.out b (hS0.mem_iff.2 hb)
 obtain ⟨hb1, hb2, hb3, hb4, hb5⟩ := hout b (by simp)
 have hv := aval_sound hR.slot hx
 simp only [RepV, RepE, RepC, RepD] at hv
 have hu := aval_sound hR.slot hy
 simp only [RepV, RepE] at hu
 have heD := cvD_rep (im := fun _ => 0) (w' := w) hc hu
 have h1c : (a.eval y).oneCell' = true := heD.oneCell
 have hcells : (a.eval y).cells = #[a.eval y] := by
  cases hq : a.eval y <;> first | rfl | (rw [hq] at h1c; simp [Value.oneCell'] at h1c)
 have hrun := run_storeAt_av (P := P) hd (v := a.eval y) (by rw [hcells, hsz]; rfl) hh (off := off) (by rw [hsz]; omega) (fun u hu => by rw [hcells] at hu; simp at hu; subst hu; exact h1c)
 have hsp : (splice xs.toList off (a.eval y).cells.toList).toArray = xs.setIfInBounds off (a.eval y) := by
  rw [hcells]
  apply Array.ext'
  simp only [Array.toList_setIfInBounds]
  apply List.ext_getElem?
  intro j
  rw [splice_at (by simp; omega), List.getElem?_set]
  simp only [List.length_cons, List.length_nil, Nat.zero_add, Array.length_toList]
  by_cases hj : off = j
  ·subst hj
   rw [if_pos ⟨Nat.le_refl _, by omega⟩, if_pos rfl, if_pos (by omega), Nat.sub_self]; rfl
  ·rw [if_neg (by omega), if_neg hj]
 rw [hsp] at hrun
 have hblt : b < w.heap.size := (Array.getElem?_eq_some_iff.1 hh).1
 unfold wpList
 rw [if_pos (by simp [Region.wanted, hg])]
 refine .inl ?_
 unfold Oper.wp
 have hrun2 : (execOp a.eval o).run P w = .ok .skip (w.setRow b (xs.setIfInBounds off (a.eval y))) := by
  rw [execOp, ho]
  refine run_skip ?_
  rw [hv.1, show fp (.pointer (some ⟨b, 0, none⟩)) off = .pointer (some ⟨b, off, none⟩) by simp [fp]]
  exact hrun
 rw [hrun2]
 have hoth : ∀ b', b' ≠ b -> (w.setRow b (xs.setIfInBounds off (a.eval y))).heap[b']? = w.heap[b']? := fun b' hb' => heap_setRow_other w b b' _ hb'
 have hnew : (w.setRow b (xs.setIfInBounds off (a.eval y))).heap[b]? = some (.cells (xs.setIfInBounds off (a.eval y)) T (0, 0)) := setRow_heap w b xs _ T (0, 0) hh
 have hszw : (w.setRow b (xs.setIfInBounds off (a.eval y))).heap.size = w.heap.size := by simp
 have hgr : Grows g.im w g.im (w.setRow b (xs.setIfInBounds off (a.eval y))) := ⟨fun _ => Nat.le_refl _, fun b' o' hlo => by
  have hne : b' ≠ b := fun e => by subst e; omega
  exact World.cell?_of_block (a := ⟨b', o', none⟩) (hoth b' hne)⟩
 have hxt : Ext g w s.A g (w.setRow b (xs.setIfInBounds off (a.eval y))) s.A := ⟨fun _ _ h => h, hgr, fun _ r h => ⟨r, h, rfl, Nat.le_refl _, fun _ => rfl⟩⟩
 have hIv : Inv g (w.setRow b (xs.setIfInBounds off (a.eval y))) s.V s.A := by
  refine ⟨hR.inv.obl, hR.inv.arl, fun l row' b' h3 h4 => ?_, fun k r u h3 h4 => ?_, hR.inv.obob, hR.inv.arar, hR.inv.obar, fun b' hb' => hR.inv.fresh b' (by omega)⟩
  ·exact hR.inv.objKeep hxt h3 h4 (hoth b' (fun e => by subst e; exact hb2 (List.mem_of_getElem? h4))) (hR.inv.obj l row' b' h3 h4).1
  ·exact hR.inv.arrKeep hxt h3 h4 (fun b' hb' => hoth b' (fun e => by subst e; exact hb3 (Gh.arb_mem h4 hb'))) (fun _ _ => rfl)
 have hFr : FrX w0 g0 X (w.setRow b (xs.setIfInBounds off (a.eval y))) g := by
  refine ⟨hR.fr.os, hR.fr.tape, hR.fr.output, by rw [hszw]; exact hR.fr.size, fun b' q1 q2 q3 q4 => ?_, hR.fr.imeq, hR.fr.ob, hR.fr.ar, hR.fr.arx, hR.fr.tab, hR.fr.tabx⟩
  rw [hoth b' (fun e => by
   subst e
   rcases hb5 with q | q
   ·omega
   ·exact q4 q)]
  exact hR.fr.blk b' q1 q2 q3 q4
 have hnS2 : b ∉ S2 := fun hm => (List.nodup_cons.1 hnd).1 hm
 refine hK.run hds.2 w0 g0 X (b :: S2) g _ _ Q (hR.put hdst (x := .c .undef) (v := undef) rfl hIv hxt hFr ⟨[b], S2, rfl, ?_, hT2.keep fun b' hb' => hoth b' (fun e => by subst e; exact hnS2 hb')⟩ hnd hout) hQ
 simp only [Tr]
 refine ⟨b, _, rfl, hnew, by simp [hxl], fun j x' u h3 h4 => ?_, rfl⟩
 rw [List.getElem?_set] at h3
 rw [Array.getElem?_setIfInBounds] at h4
 by_cases hj : off = j
 ·rw [if_pos hj, if_pos hoff] at h3
  rw [if_pos hj, if_pos (by omega)] at h4
  simp at h3 h4; subst h3; subst h4
  exact heD.zero
 ·rw [if_neg hj] at h3
  rw [if_neg hj] at h4
  exact (hr j x' u h3 h4).zero

def ptrOf : AV -> Option Value
 | .c (.d (.raw v)) => some v
 | .c .np => some (.pointer none)
 | _ => none
def Held (L : Ts) (T : TypeId) (v : Value) : Prop := v = .pointer none \/ ∃ row, (.n T row, v) ∈ L
end
end Go.Av

namespace Go.Av
attribute [-simp] Go.Av.MCo.kind_mk Go.Av.MCo.tag_mk Go.Av.MCo.label_mk Go.Av.MCo.kids_mk Go.Av.astepJ Go.Av.relC Go.Av.relL Go.Av.relV Go.Av.relVs Go.Av.callJ
open Go

section
variable {P : Program} {n : Nat} {s : St} {L L2 : Ts} {all : Array Oper} {ow : Nat -> Bool} {K : St -> Ts -> Prop} {i : Nat} {o : Oper} {rest : List Oper}

end
end Go.Av

namespace Go.Av
attribute [-simp] Go.Av.MCo.kind_mk Go.Av.MCo.tag_mk Go.Av.MCo.label_mk Go.Av.MCo.kids_mk
open Go

section
variable {P : Program} {n : Nat} {w0 w w' : World} {g0 g g' : Gh} {X S S' : List Nat} {s s' : St} {L L' : Ts} {a a' : Act} {x y : Code} {all : Array Oper} {ws : List Nat}

def Agr (o : Oper) (fr' : List (Nat × AV)) (V : List (List CV)) (A : List Arr) (s : St) : Prop := ∀ x ∈ o.op.operands.toList, aval ⟨fr', V, A⟩ x = aval s x
def TreS (P : Program) (s : St) (L : Ts) (o : Oper) (K : AV -> Ts -> Prop) : Prop :=
 ∀ (fr' : List (Nat × AV)) (V : List (List CV)) (A : List Arr), Agr o fr' V A s -> ∀ (n : Nat) (w0 : World) (g0 : Gh) (X S : List Nat) (g : Gh) (a : Act) (w : World), RpJ n w0 g0 X ⟨fr', V, A⟩ L S g a w -> ∀ (next : Act -> World -> Prop) (Q : Exit -> Act -> World -> Prop),
  (∀ x L' S' v w' g', K x L' -> RepV g' w' A x v -> Inv g' w' V A -> Ext g w A g' w' A -> FrX w0 g0 X w' g' -> Trs w' L' S' -> S'.Nodup -> (∀ b ∈ S', g'.im b = 0 /\ b ∉ g'.ob /\ b ∉ g'.arb /\ ¬ tabAt b /\ (w0.heap.size <= b \/ b ∈ X)) -> next (a.put o.dst v) w') -> o.wp P a w next Q
def LkS (P : Program) (s : St) (L : Ts) (o : Oper) (x : AV) : Prop :=
 ∀ (fr' : List (Nat × AV)) (V : List (List CV)) (A : List Arr), Agr o fr' V A s -> ∀ (g : Gh) (a : Act) (w : World) (S : List Nat), Slots g w ⟨fr', V, A⟩ a -> Trs w L S -> S.Nodup -> ∃ v, RepV g w A x v /\ (execOp a.eval o).run P w = .ok (.value v) w
theorem TreS.map {o : Oper} {K K' : AV -> Ts -> Prop} (hk : ∀ x L, K x L -> K' x L) (h : TreS P s L o K) : TreS P s L o K' :=
 fun fr' V A hA n w0 g0 X S g a w hR next Q hn => h fr' V A hA n w0 g0 X S g a w hR next Q fun x L' S' v w' g' h1 => hn x L' S' v w' g' (hk _ _ h1)
theorem LkS.wp {o : Oper} {x : AV} (h : LkS P s L o x) {fr' : List (Nat × AV)} {V : List (List CV)} {A : List Arr} (hA : Agr o fr' V A s) (hS : Slots g w ⟨fr', V, A⟩ a) (hT : Trs w L S) (hn : S.Nodup) {next : Act -> World -> Prop} {Q : Exit -> Act -> World -> Prop} (hx : ∀ v, RepV g w A x v -> next (a.put o.dst v) w) : o.wp P a w next Q := by
 obtain ⟨v, h1, h2⟩ := h fr' V A hA g a w S hS hT hn
 unfold Oper.wp
 rw [h2]
 exact hx v h1

def aopsR (P : Program) (all : Array Oper) (ow : Nat -> Bool) (ws cs ns : List Nat) (K : St -> Ts -> Prop) : Nat -> List Oper -> St -> Ts -> Prop
 | _, [], s, L => K s L
 | i, o :: rest, s, L => gdo all s o
   ((i ∈ cs /\ TreS P s L o fun x L' => aopsR P all ow ws cs ns K (i + 1) rest (s.put o.dst x s.V s.A) L') \/
   (i ∉ cs /\ i ∈ ns /\ ∃ x, LkS P s L o x /\ aopsR P all ow ws cs ns K (i + 1) rest (s.put o.dst x s.V s.A) L) \/
   (i ∉ cs /\ i ∉ ns /\ astep P s (ow i) o fun x V A => (i ∈ ws \/ (V = s.V /\ A = s.A)) /\ aopsR P all ow ws cs ns K (i + 1) rest (s.put o.dst x V A) L))
   (aopsR P all ow ws cs ns K (i + 1) rest (s.put o.dst (.c .undef) s.V s.A) L)

def DetR (P : Program) (all : Array Oper) (ow : Bool) (ns : List Nat) (L : Ts) (j : Nat) (o : Oper) (s s' : St) : Prop :=
 gdo all s o True True /\ ((gw all s o = true /\ ((j ∈ ns /\ ∃ x, s' = s.put o.dst x s.V s.A /\ LkS P s L o x) \/ (j ∉ ns /\ DetS P ow o s s'))) \/ (gw all s o = false /\ s' = s.put o.dst (.c .undef) s.V s.A))

def callsOkR (all : Array Oper) (ws cs ns : List Nat) : Bool :=
 let l := all.toList.zipIdx
 let ms := masks all.toList []
 (cs.all fun c => !ws.contains c && (l.all fun (_, j) => !(decide (c < j)) || (ms.getD j 0).testBit c) && (ns.all fun j => !(decide (j < c)) || (ms.getD c 0).testBit j)) && (l.all fun (o, j) => !cs.contains j || !isS o.op)

structure OpsR (P : Program) (all : Array Oper) (ow : Nat -> Bool) (ws cs ns : List Nat) (K : St -> Ts -> Prop) (i : Nat) (ops : List Oper) (s : St) (L : Ts) : Prop where
 mk ::
 run : aopsR P all ow ws cs ns K i ops s L
variable {ow : Nat -> Bool} {cs ns : List Nat} {K : St -> Ts -> Prop} {i : Nat} {o : Oper} {rest : List Oper}
theorem gdo_yes {y z : Prop} (hg : gdo all s o True False) (h : y) : gdo all s o y z := gdo_map (fun _ => h) False.elim hg
@[congr] theorem aopsR_cong {i i' : Nat} {ops : List Oper} (hi : i = i') (h : s = s') : OpsR P all ow ws cs ns K i ops s L = OpsR P all ow ws cs ns K i' ops s' L := by rw [h, hi]

theorem aopsJ_lk {all : Array Oper} {x : AV} (hg : gdo all s o True False) (h : LkS P s L o x) (hK : OpsJ P n all ow K (i + 1) rest (s.put o.dst x s.V s.A) L) : OpsJ P n all ow K i (o :: rest) s L := by
 refine ⟨fun hd w0 g0 X S g a w Q hR hQ => ?_⟩
 simp only [dstsOk, List.all_cons, Bool.and_eq_true] at hd
 have hdst : ∀ d, o.dst = some d -> d < n := fun d e => by have := hd.1; rw [e] at this; simpa using this
 unfold wpList
 rcases gdo_sound hR.rp hg with ⟨h1, _⟩ | ⟨_, h2⟩
 ·rw [if_pos h1]
  exact .inl (h.wp (fun x _ => rfl) hR.slot hR.trs hR.nd fun v hv => hK.run hd.2 w0 g0 X S g _ w Q (hR.put hdst hv hR.inv (.refl _ _ _) hR.fr hR.trs hR.nd hR.out) hQ)
 ·exact h2.elim
theorem aopsJ_skip {all : Array Oper} (hg : gdo all s o False True) (hK : OpsJ P n all ow K (i + 1) rest (s.put o.dst (.c .undef) s.V s.A) L) : OpsJ P n all ow K i (o :: rest) s L :=
 aopsJ_go (gdo_map False.elim (fun _ => hK) hg)

theorem LkS.field {t : TypeId} {d : TD} {x : Operand} {f off sz : Nat} {T : TypeId} {row : List DV} {pv : Value} (ho : o.op = .fieldAddr t x f) (hd : td P t = some d) (hf : d.fl[f]? = some (off, sz)) (hsz : sz ≠ 0)
  (hx : aval s x = some (.c (.d (.raw pv)))) (hm : (.n T row, pv) ∈ L) : LkS P s L o (.c (.d (.raw (fp pv off)))) := by
 intro fr' V A hA g a w S hS hT _
 have hx' : aval ⟨fr', V, A⟩ x = some (.c (.d (.raw pv))) := (hA x (by simp [ho, Op.operands])).trans hx
 have hv := aval_sound hS hx'
 simp only [RepV, RepE, RepC, RepD] at hv
 obtain ⟨b, xs, rfl, _⟩ := hT.node hm
 refine ⟨.pointer (some ⟨b, 0 + off, none⟩), ⟨rfl, rfl⟩, ?_⟩
 rw [execOp, ho]
 exact run_value (by rw [hv.1]; exact run_fieldAt_av hd hf hsz b 0)
theorem LkS.nilCheck {x : Operand} {T : TypeId} {row : List DV} {pv : Value} (ho : o.op = .nilCheck x) (hx : aval s x = some (.c (.d (.raw pv)))) (hm : (.n T row, pv) ∈ L) : LkS P s L o (.c (.d (.raw pv))) := by
 intro fr' V A hA g a w S hS hT _
 have hx' : aval ⟨fr', V, A⟩ x = some (.c (.d (.raw pv))) := (hA x (by simp [ho, Op.operands])).trans hx
 have hv := aval_sound hS hx'
 simp only [RepV, RepE, RepC, RepD] at hv
 obtain ⟨b, xs, rfl, _⟩ := hT.node hm
 refine ⟨.pointer (some ⟨b, 0, none⟩), ⟨rfl, rfl⟩, ?_⟩
 simp [execOp, ho, hv.1]
theorem LkS.load {t : TypeId} {d : TD} {x : Operand} {off : Nat} {T : TypeId} {row : List DV} {pv : Value} {y : DV} (ho : o.op = .load t x) (hd : td P t = some d) (hsz : d.sz = 1) (hag : d.ag = false)
  (hx : aval s x = some (.c (.d (.raw (fp pv off))))) (hm : (.n T row, pv) ∈ L) (hy : row[off]? = some y) : LkS P s L o (.c (.d y)) := by
 intro fr' V A hA g a w S hS hT _
 have hx' : aval ⟨fr', V, A⟩ x = some (.c (.d (.raw (fp pv off)))) := (hA x (by simp [ho, Op.operands])).trans hx
 have hv := aval_sound hS hx'
 simp only [RepV, RepE, RepC, RepD] at hv
 obtain ⟨b, xs, rfl, _, hh, hxl, hr⟩ := hT.node hm
 have hj : off < xs.size := by rw [hxl]; exact (List.getElem?_eq_some_iff.1 hy).1
 have hu : xs[off]? = some xs[off] := Array.getElem?_eq_getElem hj
 refine ⟨xs[off], (hr off y _ hy hu).zero, ?_⟩
 obtain ⟨_, h2⟩ := run_loadAt_av (P := P) (w := w) hd (b := b) (off := off) (vs := [xs[off]]) (fun j u hj' => by
  cases j with
  | zero => simp at hj'; subst hj'; simp [World.cell?, hh]
  | succ j => simp at hj') (by simp [hsz])
 rw [execOp, ho]
 refine run_value ?_
 rw [hv.1, show fp (.pointer (some ⟨b, 0, none⟩)) off = .pointer (some ⟨b, off, none⟩) by simp [fp]]
 exact h2 hag _ rfl

theorem TreS.box {T : TypeId} {x : Operand} {cells : List CV} {row : List DV} {k : AV -> Ts -> Prop} (ho : o.op = .box T x) (hx : aval s x = some (.agg cells)) (hrow : cvDs cells = some row) (hK : ∀ pv, k (.c (.d (.raw pv))) ((.n T row, pv) :: L)) : TreS P s L o k := by
 intro fr' V A hA n w0 g0 X S g a w hR next Q hn
 have hx' : aval ⟨fr', V, A⟩ x = some (.agg cells) := (hA x (by simp [ho, Op.operands])).trans hx
 obtain ⟨vs, hv, hl, hc⟩ := aval_sound hR.slot hx'
 have hrun : (execOp a.eval o).run P w = .ok (.value (.pointer (some ⟨w.heap.size, 0, none⟩))) (w.alloc (.cells vs.toArray T)) := by
  simp [execOp, ho, hv, Instr.box, newVar, newRow_run, Value.cells]
 unfold Oper.wp
 rw [hrun]
 obtain ⟨g1, hg1, hI1, hx1⟩ := hR.inv.newBlock (.cells vs.toArray T) 0
 have hF1 := (Fr.refl hR.fr.now).newBlock (.cells vs.toArray T) 0
 rw [<- hg1] at hF1
 have hkeep := hR.keepS hF1
 have hlt : ∀ b ∈ S, b < w.heap.size := hR.trs.lt
 refine hn _ _ (w.heap.size :: S) _ _ g1 (hK (.pointer (some ⟨w.heap.size, 0, none⟩))) ⟨rfl, rfl⟩ hI1 hx1 (hR.fr.fr hF1) ⟨[w.heap.size], S, rfl, ?_, hkeep.1⟩ (List.nodup_cons.2 ⟨fun h => absurd (hlt _ h) (by omega), hR.nd⟩) fun b hb => ?_
 ·simp only [Tr]
  refine ⟨_, vs.toArray, rfl, heap_alloc_new w _, ?_, fun j y u h1 h2 => ?_, rfl⟩
  ·have h2 := cvDs_len hrow
   simp; omega
  ·have h2' : vs[j]? = some u := by simpa using h2
   have hjl : j < cells.length := by
    have := cvDs_len hrow
    have := (List.getElem?_eq_some_iff.1 h1).1
    omega
   have hzj : cells[j]? = some cells[j] := List.getElem?_eq_getElem hjl
   exact cvD_rep (cvDs_at hrow hzj h1) (hc j _ u hzj h2')
 ·rcases List.mem_cons.1 hb with rfl | hb
  ·refine ⟨by rw [hg1]; simp, fun hm => ?_, fun hm => ?_, fun hm => ?_, .inl hR.fr.size⟩
   ·rw [hg1] at hm
    obtain ⟨l, hl⟩ := List.getElem?_of_mem hm
    have := hR.inv.obLt hl
    omega
   ·rw [hg1] at hm
    obtain ⟨k, v', q1, q2⟩ := Gh.mem_arb (g := g) (by simpa [Gh.arb] using hm)
    have := hR.inv.arLt q1 q2
    omega
   ·have := (hR.fr.now _ hm).1
    omega
  ·exact hkeep.2 b hb
theorem aopsJ_tre {all : Array Oper} (hg : gdo all s o True False) (h : TreS P s L o fun x L' => OpsJ P n all ow K (i + 1) rest (s.put o.dst x s.V s.A) L') : OpsJ P n all ow K i (o :: rest) s L := by
 refine ⟨fun hd w0 g0 X S g a w Q hR hQ => ?_⟩
 simp only [dstsOk, List.all_cons, Bool.and_eq_true] at hd
 have hdst : ∀ d, o.dst = some d -> d < n := fun d e => by have := hd.1; rw [e] at this; simpa using this
 unfold wpList
 rcases gdo_sound hR.rp hg with ⟨h1, _⟩ | ⟨_, h2⟩
 ·rw [if_pos h1]
  exact .inl (h _ _ _ (fun x _ => rfl) n w0 g0 X S g a w hR _ _ fun x L' S' v w' g' h3 h4 h5 h6 h7 h8 h9 h10 => h3.run hd.2 w0 g0 X S' g' _ w' Q (hR.put hdst h4 h5 h6 h7 h8 h9 h10) hQ)
 ·exact h2.elim
end
end Go.Av

namespace Go.Av
attribute [-simp] Go.Av.MCo.kind_mk Go.Av.MCo.tag_mk Go.Av.MCo.label_mk Go.Av.MCo.kids_mk
open Go
section
variable {P : Program} {n : Nat} {s : St} {L L2 : Ts} {all : Array Oper} {ow : Nat -> Bool} {K : St -> Ts -> Prop} {i : Nat} {o : Oper} {rest : List Oper}
end
end Go.Av
