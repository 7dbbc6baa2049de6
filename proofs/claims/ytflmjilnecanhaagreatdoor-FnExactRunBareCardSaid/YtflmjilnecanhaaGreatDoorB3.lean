/- A part of the library of this seat. -/
import Derived.Test.YtflmjilnecanhaaGreatDoorB2
import Derived.Laws.Cover3
set_option linter.unusedVariables false
set_option linter.unusedSimpArgs false
namespace Go.Av
open Go
section
variable {P : Program} {n : Nat} {ι : Type} {Q : Exit -> St -> Prop} {QX : ι -> Exit -> St -> Prop} {s s' : St} {y : Code}
theorem T.eqNil {id : Nat} {src a b : Nat} {ty ty2 e : TypeId} {d : TD} {o1 o2 : Oper} {rows : List (List DV)} (h1 : o1.op = .move (.tmp src)) (d1 : o1.dst = some a) (g1 : o1.guard = none)
  (h2 : o2.op = .binOp .eql ty (.tmp a) (.const (.slice none 0 0)) ty2) (d2 : o2.dst = some b) (g2 : o2.guard = none) (ht : td P ty = some d) (hel : d.el = some e) (hs : look s.fr src = some (.c (.d (.sl rows))))
  (h : ∀ bb : Bool, (bb = true -> rows = []) -> T P n y Q ⟨(b, .c (.d (.bool bb))) :: (a, .c (.d (.sl rows))) :: s.fr, s.V, s.A⟩) : T P n (.seq (.region id #[o1, o2] false) y) Q s := by
 refine T.seq ?_
 intro hok w0 g0 g A w hR
 refine wp_region_list ?_
 have hd : dstsOk n [o1, o2] = true := hok
 simp only [dstsOk, List.all_cons, List.all_nil, Bool.and_true, Bool.and_eq_true, d1, d2, decide_eq_true_eq] at hd
 have w1 : Region.wanted o1 (yielded #[o1, o2] A.tmps) = true := by simp [Region.wanted, g1]
 have w2 : ∀ A' : Act, Region.wanted o2 (yielded #[o1, o2] A'.tmps) = true := fun A' => by simp [Region.wanted, g2]
 unfold wpList
 rw [if_pos w1]
 have hst : astep P s false o1 fun x V' A' => x = .c (.d (.sl rows)) /\ V' = s.V /\ A' = s.A := by
  unfold astep; rw [h1]; simp [wpo, aval, hs, onv]
 obtain ⟨x, V', A', ⟨rfl, rfl, rfl⟩, hk⟩ := astep_wp hR.inv hR.fr hR.slot hst
 refine .inl (hk _ _ fun v w' g' h5 h6 h7 h8 => ?_)
 have hR1 := hR.put (dst := o1.dst) (fun d e => by rw [d1] at e; cases e; exact hd.1) h5 h6 h7 h8
 unfold wpList
 rw [if_pos (w2 _)]
 have hv := h5
 simp only [RepV, RepE, RepC, RepD] at hv
 obtain ⟨ad, cap, rfl, hcap, hrr⟩ := hv
 have hslot := hR1.slot a (.c (.d (.sl rows))) (by simp [St.put, d1, look])
 obtain ⟨u, hu, hru⟩ := hslot
 have hu' : (A.put o1.dst (.slice ad rows.length cap)).tmps[a]? = some u := hu
 have hlt : a < A.tmps.size := by rw [hR.size]; exact hd.1
 have : u = .slice ad rows.length cap := by
  rw [d1] at hu'
  simp [Act.put, hlt] at hu'
  exact hu'.symm
 subst this
 have hev : (A.put o1.dst (.slice ad rows.length cap)).eval (.tmp a) = .slice ad rows.length cap := by
  simp only [Act.eval]
  rw [Array.getD_eq_getD_getElem?, hu']; rfl
 have hrun : (execOp (A.put o1.dst (.slice ad rows.length cap)).eval o2).run P w' = .ok (.value (.bool ad.isNone)) w' := by
  simp only [execOp, h2, hev]
  refine run_value (w' := w') ?_
  rw [Sem.run_bind]
  rw [show (eqGuard .eql ty (.tmp a) (.const (.slice none 0 0)) (.slice ad rows.length cap) ((A.put o1.dst (.slice ad rows.length cap)).eval (.const (.slice none 0 0)))).run P w' = .ok () w' by simp [eqGuard, Act.eval]]
  simp only [Result.andThen_ok, Act.eval]
  simp [binOp, run_equal_slice_nil w' ty e ad rows.length cap (td_el ht hel)]
 refine .inl ?_
 unfold Oper.wp
 rw [hrun]
 have hR2 := hR1.put (dst := o2.dst) (x := .c (.d (.bool ad.isNone))) (v := .bool ad.isNone) (fun d e => by rw [d2] at e; cases e; exact hd.2) rfl hR1.inv (.refl _ _ _) hR1.fr
 refine ⟨_, _, ?_, hR2⟩
 show T P n y Q _
 rw [d1, d2]
 refine h ad.isNone fun hn => ?_
 cases hrr with
 | inl h => exact h
 | inr h => obtain ⟨_, _, _, rfl, _⟩ := h; simp at hn
end
section
variable {P : Program} {s : St} {f : FuncId} {xs as : List AV} {K : AV -> List (List CV) -> List Arr -> Prop}
theorem Done.g {fn : Func} {e : Exit} {m : Nat} {r : AV} {V' : List (List CV)} (he : e = .normal \/ e = .ret) {ys : List AV} (hr : (ares P s fn.results.toList).bind (resAs s.A (List.range m) []) = some ys) (h1 : one ys = r)
  (hV : resVs s.A s.V (List.range m) [] (List.range m) = some V') : Done P fn m r V' [] e s := by
 cases hx : ares P s fn.results.toList with
 | none => rw [hx] at hr; simp at hr
 | some xs => rw [hx] at hr; exact ⟨he, [], [], xs, ys, hx, List.nodup_nil, List.nodup_nil, by simp, by simpa using hr, h1.symm, by simpa using hV, rfl⟩
end
attribute [simp] innVs putBack objCells back resVs one
end Go.Av

namespace Go.Av
open Go

abbrev aBd (b : MBd) : AV := .agg [.d (.str b.name), .d (.i b.ty.kind), .d (.sl (b.ty.kids.map eTy))]
abbrev zeroE : MTm := .mk 0 [] 0 zeroT zeroT 0 []
abbrev elRes : Option (MTm × MTy) -> List AV
 | some (e, t) => [aTm e, aTy t, .b true]
 | none => [aTm zeroE, aTy zeroT, .b false]

mutual
def sameTm : MTm -> MTm -> Bool
 | .mk k s n t f b l, .mk k' s' n' t' f' b' l' => decide (k = k') && (decide (s = s') && (decide (n = n') && (sameTy t t' && (sameTy f f' && (decide (b = b') && sameTmS l l')))))
def sameTmS : List MTm -> List MTm -> Bool
 | [], [] => true
 | x :: xs, y :: ys => sameTm x y && sameTmS xs ys
 | _, _ => false
end
mutual
theorem sameTm_eq : ∀ (a b : MTm), sameTm a b = true -> a = b
 | .mk k s n t f b l, .mk k' s' n' t' f' b' l', h => by
  simp only [sameTm, Bool.and_eq_true, decide_eq_true_eq] at h
  obtain ⟨rfl, rfl, rfl, h1, h2, rfl, h3⟩ := h
  rw [sameTy_eq t t' h1, sameTy_eq f f' h2, sameTmS_eq l l' h3]
theorem sameTmS_eq : ∀ (l m : List MTm), sameTmS l m = true -> l = m
 | [], [], _ => rfl
 | x :: xs, y :: ys, h => by
  simp only [sameTmS, Bool.and_eq_true] at h
  rw [sameTm_eq x y h.1, sameTmS_eq xs ys h.2]
 | [], _ :: _, h => by simp [sameTmS] at h
 | _ :: _, [], h => by simp [sameTmS] at h
end
mutual
theorem sameTm_refl : ∀ (a : MTm), sameTm a a = true
 | .mk k s n t f b l => by simp [sameTm, sameTy_refl, sameTmS_refl l]
theorem sameTmS_refl : ∀ (l : List MTm), sameTmS l l = true
 | [] => rfl
 | x :: xs => by simp [sameTmS, sameTm_refl x, sameTmS_refl xs]
end
mutual
def mapM (g : MTm -> MTm) : MTm -> MTm
 | .mk k s n t f b l => g (.mk k s n t f b (mapS g l))
def mapS (g : MTm -> MTm) : List MTm -> List MTm
 | [] => []
 | e :: r => mapM g e :: mapS g r
end
theorem mapS_map (g : MTm -> MTm) : ∀ (l : List MTm), mapS g l = l.map (mapM g)
 | [] => rfl
 | e :: r => by simp [mapS, mapS_map g r]
theorem mapM_def (g : MTm -> MTm) (e : MTm) : mapM g e = g (.mk e.kind e.name e.num e.ty e.fr e.label (e.kids.map (mapM g))) := by
 cases e; simp only [mapM, mapS_map]; rfl
theorem mapM_id : ∀ (e : MTm), mapM (fun x => x) e = e := by
 intro e
 induction e using MTm.ind with
 | h e ih =>
  rw [mapM_def]
  have : e.kids.map (mapM fun x => x) = e.kids := by
   refine List.ext_getElem? fun i => ?_
   rw [List.getElem?_map]
   cases h : e.kids[i]? with
   | none => rfl
   | some u => rw [Option.map_some, ih u (List.mem_of_getElem? h)]
  rw [this]; cases e; rfl
end Go.Av

namespace Go.Av
open Go
section
variable {P : Program} {n : Nat} {Q : Exit -> St -> Prop} {s : St}
theorem T.seal {c : Code} (t k n' : Nat) {r : Arr} (ht : look s.fr t = some (.c (.own k n'))) (hk : s.A[k]? = some r) (hn : n' = r.rows.length) (h : T P n c Q ⟨(t, .c (.d (.sl r.rows))) :: s.fr, s.V, s.A.set k { r with wr := false }⟩) : T P n c Q s := by
 intro hok w0 g0 g a w hR
 obtain ⟨u, hu, hru⟩ := hR.slot t _ ht
 have hd : toD s.A (.own k n') = some (.sl r.rows) := by simp [toD, hk, hn]
 obtain ⟨g', hI, hx, hF, _, _, hrd⟩ := seal_one hR.inv hR.fr (show RepC g w s.A (.own k n') u from hru) hd
 have hs : sealA s.A (.own k n') = s.A.set k { r with wr := false } := by simp [sealA, hk]
 rw [hs] at hI hx
 refine h hok w0 g0 g' a w ⟨hI, hF, hR.size, hR.defers, fun t' x hx' => ?_⟩
 simp only [look] at hx'
 by_cases e : t' = t
 ·subst e
  simp at hx'; subst hx'
  exact ⟨u, hu, hrd⟩
 ·rw [if_neg e] at hx'
  obtain ⟨u', h1, h2⟩ := hR.slot t' x hx'
  exact ⟨u', h1, RepV.ext hx h2⟩
end
section
variable {P : Program} {s : St}
theorem Done.g1 {fn : Func} {e : Exit} {m : Nat} {r : AV} {V' : List (List CV)} (he : e = .normal \/ e = .ret) (hr : (ares P s fn.results.toList).bind (resAs s.A (List.range m) []) = some [r])
  (hV : resVs s.A s.V (List.range m) [] (List.range m) = some V') : Done P fn m r V' [] e s := Done.g he hr rfl hV
end
end Go.Av

namespace Go.Av
open Go
section
attribute [-simp] astep wpo gdo onv aval avals oval slow shigh alen rowsOf look cvOf St.put cellsAt mkV splice abin aun abinS abinB cEq AV.plain AV.cells CV.isUndef toD toDs toRows sealA sealAs innAs AV.inn CV.inn inns AV.outn CV.outn argCells aparts arows afill isS ares ares1 AV.res1 CV.res ress pos? poss Then InBlock Sub subL argFr
attribute [-simp] freeStep exV keepL ups innVs putBack objCells back resVs one

def exA (ex : List Nat) (rs : Nat -> Arr) (V : List Arr) : List Arr := ex.foldl (fun W i => W.set i (rs i)) V

def freeStepG (P : Program) (s : St) (ow : Bool) (o : Oper) (ex exa : List Nat) (V0 : List (List CV)) (A0 : List Arr) (x : AV) : Prop :=
 ∀ (rs : Nat -> List CV) (ra : Nat -> Arr) GV GA, astep P ⟨s.fr, exV ex rs V0 ++ GV, exA exa ra A0 ++ GA⟩ ow o fun y V' A' => y = x /\ V' = exV ex rs V0 ++ GV /\ A' = exA exa ra A0 ++ GA

def aopsG (P : Program) (all : Array Oper) (ow : Nat -> Bool) (ws fs : List Nat) (m : Nat) (ex exa : List Nat) (V0 : List (List CV)) (A0 : List Arr) (K : St -> Prop) : Nat -> List Oper -> St -> Prop
 | _, [], s => K s
 | i, o :: rest, s => gdo all s o (astep P s (ow i) o fun x V A => (i ∈ ws \/ (V = s.V /\ A = s.A)) /\ (i ∈ ws -> i < m -> V.take V0.length = exV ex (fun i => V.getD i []) V0 /\ A.take A0.length = exA exa (fun i => A.getD i arr0) A0) /\ (i ∈ fs -> freeStepG P s (ow i) o ex exa V0 A0 x) /\
   aopsG P all ow ws fs m ex exa V0 A0 K (i + 1) rest (s.put o.dst x V A)) (aopsG P all ow ws fs m ex exa V0 A0 K (i + 1) rest (s.put o.dst (.c .undef) s.V s.A))

section
variable {P : Program} {n : Nat} {Q Q' : Exit -> St -> Prop} {s s' : St} {w0 : World} {g0 g g' : Gh} {a : Act} {w w' : World} {V : List (List CV)} {A A' : List Arr}

def StpG (P : Program) (all : Array Oper) (ow : Bool) (fs : List Nat) (j : Nat) (ex exa : List Nat) (V0 : List (List CV)) (A0 : List Arr) (o : Oper) (s s' : St) : Prop :=
 gdo all s o True True /\ ((gw all s o = true /\ ∃ x V A, s' = s.put o.dst x V A /\ (∀ K : AV -> List (List CV) -> List Arr -> Prop, K x V A -> astep P s ow o K) /\ (j ∈ fs -> freeStepG P s ow o ex exa V0 A0 x)) \/ (gw all s o = false /\ s' = s.put o.dst (.c .undef) s.V s.A))

def PreG (ex exa : List Nat) (V0 : List (List CV)) (A0 : List Arr) (s : St) : Prop := s.V.take V0.length = exV ex (fun i => s.V.getD i []) V0 /\ s.A.take A0.length = exA exa (fun i => s.A.getD i arr0) A0

end
section
variable {P : Program} {n : Nat} {Q : Exit -> St -> Prop} {s s' : St} {y : Code}
structure OpsG (P : Program) (all : Array Oper) (ow : Nat -> Bool) (ws fs : List Nat) (m : Nat) (ex exa : List Nat) (V0 : List (List CV)) (A0 : List Arr) (K : St -> Prop) (i : Nat) (ops : List Oper) (s : St) : Prop where
 mk ::
 run : aopsG P all ow ws fs m ex exa V0 A0 K i ops s

@[congr] theorem aopsG_cong {all : Array Oper} {ow : Nat -> Bool} {ws fs : List Nat} {m : Nat} {ex exa : List Nat} {V0 : List (List CV)} {A0 : List Arr} {K : St -> Prop} {i i' : Nat} {ops : List Oper} (hi : i = i') (h : s = s') : OpsG P all ow ws fs m ex exa V0 A0 K i ops s = OpsG P all ow ws fs m ex exa V0 A0 K i' ops s' := by rw [h, hi]

theorem OpsG.gen {all : Array Oper} {ow : Nat -> Bool} {ws fs : List Nat} {m : Nat} {ex exa : List Nat} {V0 : List (List CV)} {A0 : List Arr} {K : St -> Prop} {i : Nat} {ops : List Oper} {d : Nat} {b : Bool} {fr : List (Nat × AV)} {V : List (List CV)} {A : List Arr}
  (h : ∀ q : Bool, b = q -> OpsG P all ow ws fs m ex exa V0 A0 K i ops ⟨(d, .c (.d (.bool q))) :: fr, V, A⟩) : OpsG P all ow ws fs m ex exa V0 A0 K i ops ⟨(d, .c (.d (.bool b))) :: fr, V, A⟩ := h b rfl
end
end
attribute [simp] freeStepG exA
end Go.Av

namespace Go.Av
open Go
theorem Some_.elim {P : Program} {f : FuncId} {as : List AV} {α : Type} {enc : α -> AV} {arr : α -> List Arr} {good : α -> Prop} (h : Some_ P f as (RV enc arr good)) : ∃ x, good x /\ ACalls P f as [] (enc x) [] (arr x) := by
 obtain ⟨v, V, A, ⟨rfl, x, ⟨rfl, rfl⟩, hg⟩, hc⟩ := h
 exact ⟨x, hg, hc⟩

end Go.Av

namespace Go.Av
open Go
section
variable {P : Program} {s : St} {f : FuncId} {xs as : List AV} {K : AV -> List (List CV) -> List Arr -> Prop} {r : AV}
theorem DoneG.g {fn : Func} {e : Exit} {m a : Nat} {V' : List (List CV)} {A' : List Arr} {ys : List AV} (he : e = .normal \/ e = .ret) (hr : (ares P s fn.results.toList).bind (resAs s.A (List.range m) (List.range a)) = some ys) (h1 : one ys = r)
  (hV : resVs s.A s.V (List.range m) (List.range a) (List.range m) = some V') (hA : getAs s.A (List.range a) = some A') : DoneG P fn m a r V' A' e s := by
 obtain ⟨xs, hxs, hys⟩ := Option.bind_eq_some_iff.1 hr
 exact ⟨he, [], List.range a, xs, ys, ⟨[], by simp⟩, hxs, List.nodup_range, by simp, by simp, by simpa using hys, h1.symm, by simpa using hV, hA⟩
theorem DoneG.one {fn : Func} {e : Exit} {A' : Arr} (he : e = .normal \/ e = .ret) (hr : (ares P s fn.results.toList).bind (resAs s.A [] [0]) = some [r]) (hA : s.A[0]? = some A') : DoneG P fn 0 1 r [] [A'] e s :=
 DoneG.g he hr rfl rfl (by simp [getAs, hA, List.range_succ])
end
attribute [simp] innAsH AV.innH CV.innH innHs AV.outnH CV.outnH
end Go.Av

namespace Go.Av
open Go

section
variable {P : Program} {n : Nat} {Q : Exit -> St -> Prop} {s s' : St} {y : Code}

structure OpsH (P : Program) (all : Array Oper) (ow : Nat -> Bool) (wv wa fs : List Nat) (m : Nat) (ex : List Nat) (V0 : List (List CV)) (A0 : List Arr) (K : St -> Prop) (i : Nat) (ops : List Oper) (s : St) : Prop where
 mk ::
 run : aopsH P all ow wv wa fs m ex V0 A0 K i ops s

@[congr] theorem aopsH_cong {all : Array Oper} {ow : Nat -> Bool} {wv wa fs : List Nat} {m : Nat} {ex : List Nat} {V0 : List (List CV)} {A0 : List Arr} {K : St -> Prop} {i i' : Nat} {ops : List Oper} (hi : i = i') (h : s = s') : OpsH P all ow wv wa fs m ex V0 A0 K i ops s = OpsH P all ow wv wa fs m ex V0 A0 K i' ops s' := by rw [h, hi]

theorem OpsH.gen {all : Array Oper} {ow : Nat -> Bool} {wv wa fs : List Nat} {m : Nat} {ex : List Nat} {V0 : List (List CV)} {A0 : List Arr} {K : St -> Prop} {i : Nat} {ops : List Oper} {d : Nat} {b : Bool} {fr : List (Nat × AV)} {V : List (List CV)} {A : List Arr}
  (h : ∀ q : Bool, b = q -> OpsH P all ow wv wa fs m ex V0 A0 K i ops ⟨(d, .c (.d (.bool q))) :: fr, V, A⟩) : OpsH P all ow wv wa fs m ex V0 A0 K i ops ⟨(d, .c (.d (.bool b))) :: fr, V, A⟩ := h b rfl
end
end Go.Av

namespace Go.Av
open Go
theorem ACalls.sealed {P : Program} {f : FuncId} {as : List AV} {n : Nat} {a : Arr} (h : ACalls P f as [] (.c (.own 0 n)) [] [a]) (hn : n = a.rows.length) : ACalls P f as [] (.c (.d (.sl a.rows))) [] [] := by
 obtain ⟨h1, h2, h3⟩ := h
 refine ⟨h1, h2, fun g w vs har hI hT hs hr => (h3 g w vs har hI hT hs hr).mono ?_⟩
 rintro e w' ⟨v, g', rfl, hv, hI', hF⟩
 have hd : toD [a] (.own 0 n) = some (.sl a.rows) := by simp [toD, hn]
 obtain ⟨g2, i1, i2, i3, i4, i5, i6⟩ := seal_one hI' hF (show RepC g' w' [a] (.own 0 n) v from hv) hd
 refine ⟨v, { g2 with ar := [] }, rfl, i6, ⟨i1.obl, rfl, fun l row b h => by simp at h, fun k r v h => by simp at h, i1.obob, fun k k' v v' b h => by simp at h, fun l k v b _ h => by simp at h, i1.fresh⟩,
  ⟨i3.os, i3.tape, i3.output, i3.size, i3.blk, i3.imeq, i3.ob, fun k v b h => by simp at h, fun k v h => by rw [har] at h; simp at h, i3.tab⟩⟩
end Go.Av

namespace Go.Av
open Go
section
variable {P : Program} {g g' g0 : Gh} {w w' w0 : World} {V V' : List (List CV)} {A A' : List Arr}
end
end Go.Av

namespace Go.Av
attribute [-simp] Go.Av.freeStepG Go.Av.exA Go.Av.innAsH Go.Av.AV.innH Go.Av.CV.innH Go.Av.innHs Go.Av.AV.outnH Go.Av.CV.outnH
open Go

mutual
def nodesM : MTm -> Nat
 | .mk _ _ _ _ _ _ l => 1 + nodesS l
def nodesS : List MTm -> Nat
 | [] => 0
 | e :: r => nodesM e + nodesS r
end
theorem nodesS_sum : ∀ (l : List MTm), nodesS l = (l.map nodesM).sum
 | [] => rfl
 | e :: r => by simp [nodesS, nodesS_sum r]
theorem nodesM_def (e : MTm) : nodesM e = 1 + (e.kids.map nodesM).sum := by cases e; simp only [nodesM, nodesS_sum]; rfl
theorem nodesM_pos (e : MTm) : 1 <= nodesM e := by rw [nodesM_def]; omega
theorem count_nodes {nt : Int} : ∀ {d : Nat} {e : MTm}, shapeTm nt d e = true -> ∀ {n : Nat}, d <= n -> countTm n e = nodesM e
 | 0, e, h, _, _ => by simp [shapeTm] at h
 | d + 1, e, h, n, hn => by
  obtain ⟨n, rfl⟩ : ∃ j, n = j + 1 := ⟨n - 1, by omega⟩
  simp only [shapeTm, Bool.and_eq_true, List.all_eq_true] at h
  rw [nodesM_def]
  simp only [countTm]
  congr 2
  refine List.map_congr_left fun u hu => count_nodes (h.2 u hu) (by omega)

theorem termValidM_iff {e : MTm} : termValidM e = true ↔ TmV 14 12 e /\ nodesM e <= 30 := by
 simp only [termValidM, Bool.and_eq_true, decide_eq_true_eq]
 refine ⟨fun h => ⟨TmV.of h.1, ?_⟩, fun h => ⟨h.1.shape, ?_⟩⟩
 ·rw [<- count_nodes h.1 (Nat.le_refl _)]; exact h.2
 ·rw [count_nodes h.1.shape (Nat.le_refl _)]; exact h.2
theorem castValidM_iff {e : MTm} : castValidM e = true ↔ TmV 13 40 e /\ nodesM e <= 200 := by
 simp only [castValidM, Bool.and_eq_true, decide_eq_true_eq]
 refine ⟨fun h => ⟨TmV.of h.1, ?_⟩, fun h => ⟨h.1.shape, ?_⟩⟩
 ·rw [<- count_nodes h.1 (Nat.le_refl _)]; exact h.2
 ·rw [count_nodes h.1.shape (Nat.le_refl _)]; exact h.2
theorem nodesM_kid {e u : MTm} (hu : u ∈ e.kids) : nodesM u < nodesM e := by
 rw [nodesM_def e]
 have : ∀ l : List MTm, u ∈ l -> nodesM u <= (l.map nodesM).sum := by
  intro l
  induction l with
  | nil => intro h; simp at h
  | cons x r ih => intro h; simp only [List.mem_cons] at h; rcases h with rfl | h <;> simp only [List.map_cons, List.sum_cons]; omega; have := ih h; omega
 have := this _ hu
 omega
inductive CaV (n : Int) (e : MTm) (f t : MTy) : MTm -> Int -> Prop
 | same : f = t -> CaV n e f t e n
 | cast : f ≠ t -> CaV n e f t (tCast e f t (n + 1)) (n + 1)
theorem CaV.of (n : Int) (e : MTm) (f t : MTy) : CaV n e f t (castM n e f t).1 (castM n e f t).2 := by
 simp only [castM]
 by_cases h : sameTy f t = true
 ·rw [if_pos h]; exact .same (sameTy_iff.1 h)
 ·rw [if_neg h]; exact .cast fun e => h (sameTy_iff.2 e)

inductive EV : List MBd -> MTm -> Int -> MTm -> MTy -> Int -> Prop
 | var {c : List MBd} {s : List UInt8} {t : MTy} {n : Int} : lookM c s = some t -> EV c (tVar s) n (tVar s) t n
 | num {c : List MBd} {k n : Int} : EV c (tNum k) n (tNum k) intT n
 | tru {c : List MBd} {n : Int} : EV c tTrue n tTrue boolT n
 | fls {c : List MBd} {n : Int} : EV c tFalse n tFalse boolT n
 | lam {c : List MBd} {s : List UInt8} {u t : MTy} {b b' : MTm} {n m : Int} : EV (c ++ [⟨s, u⟩]) b n b' t m -> shapeTy 4 (.mk 4 [u, t]) = true -> EV c (tLam s u b) n (tLam s u b') (.mk 4 [u, t]) m
 | app {c : List MBd} {a b a' b' a2 b2 : MTm} {ta tb x y : MTy} {n n1 n2 n3 n4 : Int} : EV c a n a' ta n1 -> EV c b n1 b' tb n2 -> matchM 4 ta = some (x, y) -> consTy tb x = true ->
   CaV n2 a' ta (.mk 4 [x, y]) a2 n3 -> CaV n3 b' tb x b2 n4 -> EV c (tN2 6 a b) n (tN2 6 a2 b2) y n4
 | op {c : List MBd} {k : Int} {a b a' b' a2 b2 : MTm} {ta tb t : MTy} {n n1 n2 n3 n4 : Int} : (k = 7 /\ t = intT \/ k = 8 /\ t = boolT) -> EV c a n a' ta n1 -> EV c b n1 b' tb n2 -> consTy ta intT = true -> consTy tb intT = true ->
   CaV n2 a' ta intT a2 n3 -> CaV n3 b' tb intT b2 n4 -> EV c (tN2 k a b) n (tN2 k a2 b2) t n4
 | ite {c : List MBd} {p a b p' a' b' p2 a2 b2 : MTm} {tp ta tb : MTy} {n n1 n2 n3 n4 n5 n6 : Int} : EV c p n p' tp n1 -> EV c a n1 a' ta n2 -> EV c b n2 b' tb n3 -> consTy tp boolT = true -> consTy ta tb = true ->
   CaV n3 p' tp boolT p2 n4 -> CaV n4 a' ta (meetTy ta tb) a2 n5 -> CaV n5 b' tb (meetTy ta tb) b2 n6 -> EV c (tIf p a b) n (tIf p2 a2 b2) (meetTy ta tb) n6
 | pair {c : List MBd} {a b a' b' : MTm} {ta tb : MTy} {n n1 n2 : Int} : EV c a n a' ta n1 -> EV c b n1 b' tb n2 -> shapeTy 4 (.mk 5 [ta, tb]) = true -> EV c (tN2 10 a b) n (tN2 10 a' b') (.mk 5 [ta, tb]) n2
 | sel {c : List MBd} {k : Int} {a a' a2 : MTm} {ta x y t : MTy} {n n1 n2 : Int} : (k = 11 /\ t = x \/ k = 12 /\ t = y) -> EV c a n a' ta n1 -> matchM 5 ta = some (x, y) -> CaV n1 a' ta (.mk 5 [x, y]) a2 n2 -> EV c (tN1 k a) n (tN1 k a2) t n2
 | asc {c : List MBd} {a a' a2 : MTm} {ta t : MTy} {n n1 n2 : Int} : EV c a n a' ta n1 -> consTy ta t = true -> CaV n1 a' ta t a2 n2 -> EV c (tAs a t) n a2 t n2

theorem elabS_one {c : List MBd} {a : MTm} {n m : Int} {es : List MTm} {ts : List MTy} (h : elabS c [a] n = (some (es, ts), m)) : ∃ a' ta, elabM c a n = (some (a', ta), m) /\ es = [a'] /\ ts = [ta] := by
 simp only [elabS] at h
 cases he : elabM c a n with
 | mk o k =>
  rw [he] at h
  cases o with
  | none => simp [consE] at h
  | some p => obtain ⟨x, t⟩ := p; simp [consE] at h; obtain ⟨⟨rfl, rfl⟩, rfl⟩ := h; exact ⟨x, t, rfl, rfl, rfl⟩
theorem elabS_cons {c : List MBd} {a : MTm} {r : List MTm} {n m : Int} {es : List MTm} {ts : List MTy} (h : elabS c (a :: r) n = (some (es, ts), m)) :
  ∃ a' ta k es' ts', elabM c a n = (some (a', ta), k) /\ elabS c r k = (some (es', ts'), m) /\ es = a' :: es' /\ ts = ta :: ts' := by
 rw [elabS] at h
 cases he : elabM c a n with
 | mk o k =>
  rw [he] at h
  cases o with
  | none => simp [consE] at h
  | some p =>
   obtain ⟨x, t⟩ := p
   simp only [consE] at h
   cases hr : elabS c r k with
   | mk o2 k2 =>
    rw [hr] at h
    cases o2 with
    | none => simp at h
    | some q => obtain ⟨xs, us⟩ := q; simp at h; obtain ⟨⟨rfl, rfl⟩, rfl⟩ := h; exact ⟨x, t, k, xs, us, rfl, hr, rfl, rfl⟩

theorem finM_some {c : List MBd} {k : Int} {s : List UInt8} {i : Int} {ty fr : MTy} {lb : Int} {o : Option (List MTm × List MTy) × Int} {e' : MTm} {t : MTy} {m : Int} (h : finM c k s i ty fr lb o = (some (e', t), m)) :
  ∃ es ts n ws, o = (some (es, ts), n) /\ wantM c k s ty ts = some (ws, t) /\ shapeTy 4 t = true /\ m = (castS n es ts ws).2 /\ (k ≠ 13 -> e' = .mk k s i ty fr lb (castS n es ts ws).1) /\ (k = 13 -> (castS n es ts ws).1.head? = some e') := by
 obtain ⟨o, n⟩ := o
 cases o with
 | none => simp [finM] at h
 | some p =>
  obtain ⟨es, ts⟩ := p
  simp only [finM] at h
  cases hw : wantM c k s ty ts with
  | none => rw [hw] at h; simp at h
  | some q =>
   obtain ⟨ws, t'⟩ := q
   rw [hw] at h
   simp only at h
   by_cases hs : shapeTy 4 t' = true
   ·rw [if_pos hs] at h
    by_cases h13 : k = 13
    ·rw [if_pos h13] at h
     simp only [Prod.mk.injEq, Option.map_eq_some_iff] at h
     obtain ⟨⟨x, hx, rfl, rfl⟩, rfl⟩ := h
     exact ⟨es, ts, n, ws, rfl, hw, hs, rfl, fun h => absurd h13 h, fun _ => hx⟩
    ·rw [if_neg h13] at h
     simp only [Prod.mk.injEq, Option.some.injEq] at h
     obtain ⟨⟨rfl, rfl⟩, rfl⟩ := h
     exact ⟨es, ts, n, ws, rfl, hw, hs, rfl, fun _ => rfl, fun h => absurd h h13⟩
   ·rw [if_neg hs] at h; simp at h

theorem EV.of {d : Nat} {e : MTm} (hv : TmV 14 d e) : ∀ {c : List MBd} {n : Int} {e' : MTm} {t : MTy} {m : Int}, elabM c e n = (some (e', t), m) -> EV c e n e' t m := by
 induction hv with
 | @var d s _ hs =>
  intro c n e' t m h
  simp only [elabM, elabS] at h
  obtain ⟨es, ts, n', ws, ho, hw, hst, rfl, h1, _⟩ := finM_some h
  simp at ho; obtain ⟨⟨rfl, rfl⟩, rfl⟩ := ho
  simp only [wantM, if_true, Option.map_eq_some_iff, Prod.mk.injEq] at hw
  obtain ⟨t', hl, rfl, rfl⟩ := hw
  rw [h1 (by omega)]
  exact .var hl
 | num _ _ _ =>
  intro c n e' t m h
  simp only [elabM, elabS] at h
  obtain ⟨es, ts, n', ws, ho, hw, hst, rfl, h1, _⟩ := finM_some h
  simp at ho; obtain ⟨⟨rfl, rfl⟩, rfl⟩ := ho
  simp [wantM] at hw; obtain ⟨rfl, rfl⟩ := hw
  rw [h1 (by omega)]
  exact .num
 | tru _ =>
  intro c n e' t m h
  simp only [elabM, elabS] at h
  obtain ⟨es, ts, n', ws, ho, hw, hst, rfl, h1, _⟩ := finM_some h
  simp at ho; obtain ⟨⟨rfl, rfl⟩, rfl⟩ := ho
  simp [wantM] at hw; obtain ⟨rfl, rfl⟩ := hw
  rw [h1 (by omega)]
  exact .tru
 | fls _ =>
  intro c n e' t m h
  simp only [elabM, elabS] at h
  obtain ⟨es, ts, n', ws, ho, hw, hst, rfl, h1, _⟩ := finM_some h
  simp at ho; obtain ⟨⟨rfl, rfl⟩, rfl⟩ := ho
  simp [wantM] at hw; obtain ⟨rfl, rfl⟩ := hw
  rw [h1 (by omega)]
  exact .fls
 | @lam d s u b _ hs hu hb ih =>
  intro c n e' t m h
  simp only [elabM, if_true] at h
  obtain ⟨es, ts, n', ws, ho, hw, hst, rfl, h1, _⟩ := finM_some h
  obtain ⟨b', tb, hb', rfl, rfl⟩ := elabS_one ho
  simp [wantM] at hw; obtain ⟨rfl, rfl⟩ := hw
  rw [h1 (by omega)]
  exact .lam (ih hb') hst
 | @n2 d k a b _ hk ha hb iha ihb =>
  intro c n e' t m h
  have h5 : k ≠ 5 := by omega
  simp only [elabM, if_neg h5] at h
  obtain ⟨es, ts, n', ws, ho, hw, hst, rfl, h1, _⟩ := finM_some h
  obtain ⟨a', ta, k1, es', ts', ha', hr, rfl, rfl⟩ := elabS_cons ho
  obtain ⟨b', tb, hb', rfl, rfl⟩ := elabS_one hr
  have h1' := h1 (by omega)
  have e1 := iha ha'
  have e2 := ihb hb'
  rcases hk with rfl | rfl | rfl | rfl
  ·simp only [wantM] at hw
   simp only [show ¬ ((6 : Int) = 1) by omega, show ¬ ((6 : Int) = 2) by omega, show ¬ ((6 : Int) = 3 \/ (6 : Int) = 4) by omega, if_false, if_true] at hw
   cases hm : matchM 4 ta with
   | none => rw [hm] at hw; simp at hw
   | some p =>
    obtain ⟨x, y⟩ := p
    rw [hm] at hw
    simp only at hw
    by_cases hq : consTy tb x = true
    ·rw [if_pos hq] at hw
     simp at hw; obtain ⟨rfl, rfl⟩ := hw
     rw [h1']
     exact .app e1 e2 hm hq (CaV.of ..) (CaV.of ..)
    ·rw [if_neg hq] at hw; simp at hw
  ·simp [wantM] at hw
   obtain ⟨⟨q1, q2⟩, rfl, rfl⟩ := hw
   rw [h1']
   exact .op (.inl ⟨rfl, rfl⟩) e1 e2 q1 q2 (CaV.of ..) (CaV.of ..)
  ·simp [wantM] at hw
   obtain ⟨⟨q1, q2⟩, rfl, rfl⟩ := hw
   rw [h1']
   exact .op (.inr ⟨rfl, rfl⟩) e1 e2 q1 q2 (CaV.of ..) (CaV.of ..)
  ·simp [wantM] at hw
   obtain ⟨rfl, rfl⟩ := hw
   rw [h1']
   exact .pair e1 e2 hst
 | @ite d p a b _ hp ha hb ihp iha ihb =>
  intro c n e' t m h
  simp only [elabM, show ¬ ((9 : Int) = 5) by omega, if_false] at h
  obtain ⟨es, ts, n', ws, ho, hw, hst, rfl, h1, _⟩ := finM_some h
  obtain ⟨p', tp, k1, es1, ts1, hp', hr1, rfl, rfl⟩ := elabS_cons ho
  obtain ⟨a', ta, k2, es2, ts2, ha', hr2, rfl, rfl⟩ := elabS_cons hr1
  obtain ⟨b', tb, hb', rfl, rfl⟩ := elabS_one hr2
  simp [wantM] at hw
  obtain ⟨⟨q1, q2⟩, rfl, rfl⟩ := hw
  rw [h1 (by omega)]
  exact .ite (ihp hp') (iha ha') (ihb hb') q1 q2 (CaV.of ..) (CaV.of ..) (CaV.of ..)
 | @n1 d k a _ hk ha ih =>
  intro c n e' t m h
  have h5 : k ≠ 5 := by omega
  simp only [elabM, if_neg h5] at h
  obtain ⟨es, ts, n', ws, ho, hw, hst, rfl, h1, _⟩ := finM_some h
  obtain ⟨a', ta, ha', rfl, rfl⟩ := elabS_one ho
  rw [h1 (by omega)]
  cases hm : matchM 5 ta with
  | none => rcases hk with rfl | rfl <;> simp [wantM, hm] at hw
  | some p =>
   obtain ⟨x, y⟩ := p
   rcases hk with rfl | rfl
   ·simp [wantM, hm] at hw
    obtain ⟨rfl, rfl⟩ := hw
    exact .sel (.inl ⟨rfl, rfl⟩) (ih ha') hm (CaV.of ..)
   ·simp [wantM, hm] at hw
    obtain ⟨rfl, rfl⟩ := hw
    exact .sel (.inr ⟨rfl, rfl⟩) (ih ha') hm (CaV.of ..)
 | @asc d ty a _ hty ha ih =>
  intro c n e' t m h
  simp only [elabM, show ¬ ((13 : Int) = 5) by omega, if_false] at h
  obtain ⟨es, ts, n', ws, ho, hw, hst, rfl, _, h1⟩ := finM_some h
  obtain ⟨a', ta, ha', rfl, rfl⟩ := elabS_one ho
  simp [wantM] at hw
  obtain ⟨q, rfl, rfl⟩ := hw
  have := h1 rfl
  simp [castS] at this
  subst this
  exact .asc (ih ha') q (CaV.of ..)
 | cast h1 _ _ _ _ _ _ => exact absurd rfl h1

def bareG (e : MTm) : MTm := if e.kind = 13 \/ e.kind = 14 then match e.kids with
  | x :: _ => x
  | [] => e
 else if e.kind = 5 then .mk 5 e.name e.num anyT e.fr e.label e.kids else e
theorem CaV.bare {n m : Int} {e e2 : MTm} {f t : MTy} (h : CaV n e f t e2 m) : mapM bareG e2 = mapM bareG e := by
 cases h with
 | same _ => rfl
 | cast _ => simp [mapM, mapS, bareG]
theorem EV.bare {c : List MBd} {e e' : MTm} {n m : Int} {t : MTy} (h : EV c e n e' t m) : mapM bareG e' = mapM bareG e := by
 induction h with
 | var _ => rfl
 | num => rfl
 | tru => rfl
 | fls => rfl
 | lam _ _ ih => simp [mapM, mapS, bareG, ih]
 | app _ _ _ _ h1 h2 iha ihb => simp [mapM, mapS, bareG, h1.bare, h2.bare, iha, ihb]
 | op hk _ _ _ _ h1 h2 iha ihb => rcases hk with ⟨rfl, rfl⟩ | ⟨rfl, rfl⟩ <;> simp [mapM, mapS, bareG, h1.bare, h2.bare, iha, ihb]
 | ite _ _ _ _ _ h1 h2 h3 ihp iha ihb => simp [mapM, mapS, bareG, h1.bare, h2.bare, h3.bare, ihp, iha, ihb]
 | pair _ _ _ iha ihb => simp [mapM, mapS, bareG, iha, ihb]
 | sel hk _ _ h1 ih => rcases hk with ⟨rfl, rfl⟩ | ⟨rfl, rfl⟩ <;> simp [mapM, mapS, bareG, h1.bare, ih]
 | asc _ _ h1 ih => simp [mapM, mapS, bareG, h1.bare, ih]

theorem bare_valid {nt : Int} {d : Nat} {e : MTm} (h : TmV nt d e) (h5 : nt = 13 \/ nt = 14) : TmV 14 d (mapM bareG e) /\ TmV 13 d (mapM bareG e) /\ nodesM (mapM bareG e) <= nodesM e := by
 induction h with
 | @var d s _ hs => exact ⟨by simpa [mapM, mapS, bareG] using .var (by omega) hs, by simpa [mapM, mapS, bareG] using .var (by omega) hs, by simp [mapM, mapS, bareG]⟩
 | @num d k _ h1 h2 => exact ⟨by simpa [mapM, mapS, bareG] using .num (by omega) h1 h2, by simpa [mapM, mapS, bareG] using .num (by omega) h1 h2, by simp [mapM, mapS, bareG]⟩
 | tru _ => exact ⟨by simpa [mapM, mapS, bareG] using .tru (by omega), by simpa [mapM, mapS, bareG] using .tru (by omega), by simp [mapM, mapS, bareG]⟩
 | fls _ => exact ⟨by simpa [mapM, mapS, bareG] using .fls (by omega), by simpa [mapM, mapS, bareG] using .fls (by omega), by simp [mapM, mapS, bareG]⟩
 | @lam d s t b _ hs _ _ ih =>
  refine ⟨by simpa [mapM, mapS, bareG] using .lam (by omega) hs rfl ih.1, by simpa [mapM, mapS, bareG] using .lam (by omega) hs rfl ih.2.1, ?_⟩
  simp [mapM, mapS, bareG, nodesM, nodesS]; exact ih.2.2
 | @n2 d k a b _ hk _ _ iha ihb =>
  have h1 : ¬ (k = 13 \/ k = 14) := by omega
  have h2 : ¬ k = 5 := by omega
  refine ⟨by simpa [mapM, mapS, bareG, h1, h2] using .n2 (by omega) hk iha.1 ihb.1, by simpa [mapM, mapS, bareG, h1, h2] using .n2 (by omega) hk iha.2.1 ihb.2.1, ?_⟩
  have := iha.2.2; have := ihb.2.2
  simp [mapM, mapS, bareG, h1, h2, nodesM, nodesS]; omega
 | @ite d p a b _ _ _ _ ihp iha ihb =>
  refine ⟨by simpa [mapM, mapS, bareG] using .ite (by omega) ihp.1 iha.1 ihb.1, by simpa [mapM, mapS, bareG] using .ite (by omega) ihp.2.1 iha.2.1 ihb.2.1, ?_⟩
  have := ihp.2.2; have := iha.2.2; have := ihb.2.2
  simp [mapM, mapS, bareG, nodesM, nodesS]; omega
 | @n1 d k a _ hk _ ih =>
  have h1 : ¬ (k = 13 \/ k = 14) := by omega
  have h2 : ¬ k = 5 := by omega
  refine ⟨by simpa [mapM, mapS, bareG, h1, h2] using .n1 (by omega) hk ih.1, by simpa [mapM, mapS, bareG, h1, h2] using .n1 (by omega) hk ih.2.1, ?_⟩
  have := ih.2.2
  simp [mapM, mapS, bareG, h1, h2, nodesM, nodesS]; omega
 | @asc d t a _ _ _ ih =>
  have := ih.2.2
  exact ⟨by simpa [mapM, mapS, bareG] using ih.1.mono (by omega), by simpa [mapM, mapS, bareG] using ih.2.1.mono (by omega), by simp [mapM, mapS, bareG, nodesM, nodesS]; omega⟩
 | @cast d f t l a _ _ _ _ _ _ ih =>
  have := ih.2.2
  exact ⟨by simpa [mapM, mapS, bareG] using ih.1.mono (by omega), by simpa [mapM, mapS, bareG] using ih.2.1.mono (by omega), by simp [mapM, mapS, bareG, nodesM, nodesS]; omega⟩

def exactS : List MTy -> List MTy -> Bool
 | [], _ => true
 | w :: ws, h :: hs => sameTy w h && exactS ws hs
 | _ :: _, [] => false
mutual
def castTyM : List MBd -> MTm -> Option MTy
 | c, .mk k s n t f b l => match castTyS (if k = 5 then c ++ [⟨s, t⟩] else c) l with
  | none => none
  | some ts => if k = 14 then match ts with
    | x :: _ => if sameTy x f = true then some t else none
    | [] => none
   else match wantM c k s t ts with
    | none => none
    | some (ws, u) => if shapeTy 4 u = true /\ exactS ws ts = true then some u else none
def castTyS : List MBd -> List MTm -> Option (List MTy)
 | _, [] => some []
 | c, e :: r => match castTyM c e with
  | none => none
  | some t => match castTyS c r with
   | none => none
   | some ts => some (t :: ts)
end
theorem CaV.exact {c : List MBd} {n m : Int} {e e2 : MTm} {f t : MTy} (h : CaV n e f t e2 m) (he : castTyM c e = some f) : castTyM c e2 = some t := by
 cases h with
 | same h => rw [<- h]; exact he
 | cast _ => simp [castTyM, castTyS, he, sameTy_refl]

theorem CaV.valid {n m : Int} {e e2 : MTm} {f t : MTy} (h : CaV n e f t e2 m) {k : Nat} (he : TmV 13 k e) (hf : shapeTy 4 f = true) (ht : shapeTy 4 t = true) (hc : consTy f t = true) (h0 : 0 <= n) (h9 : n + 1 <= 99) :
  TmV 13 (k + 1) e2 /\ n <= m /\ m <= n + 1 /\ (nodesM e2 : Int) + n = nodesM e + m := by
 cases h with
 | same h => exact ⟨he.mono (by omega), by omega, by omega, by omega⟩
 | cast _ => exact ⟨.cast (by omega) hf ht hc (by simp [labM, inM]; omega) he, by omega, by omega, by simp [nodesM, nodesS]; omega⟩

theorem cons_refl (a : MTy) : consTy a a = true := by
 induction a using MTy.ind with
 | h a ih =>
  rw [consTy_def]
  have : ∀ l : List MTy, (∀ u ∈ l, consTy u u = true) -> all2 consTy l l = true := by
   intro l
   induction l with
   | nil => intro _; rfl
   | cons x r ihr => intro h; simp [all2, h x (by simp), ihr fun u hu => h u (by simp [hu])]
  simp [this a.kids ih]
theorem prec_cons {a b : MTy} (h : precTy a b = true) : consTy b a = true := cons_mono _ _ _ _ (cons_refl a) h (prec_refl _)
theorem matchM_two {k : Int} (hk : k ≠ 1) (x y : MTy) : matchM k (.mk k [x, y]) = some (x, y) := by simp [matchM, hk]
theorem match_cons {k : Int} (hk : k = 4 \/ k = 5) {a x y : MTy} (h : matchM k a = some (x, y)) (ha : shapeTy 4 a = true) : consTy a (.mk k [x, y]) = true /\ shapeTy 4 (.mk k [x, y]) = true := by
 have hk1 : k ≠ 1 := by omega
 cases VTy.of ha with
 | any d => 
  simp [matchM] at h; obtain ⟨rfl, rfl⟩ := h
  refine ⟨cons_any1 _, ?_⟩
  rcases hk with rfl | rfl <;> rfl
 | int d => exfalso; rcases hk with rfl | rfl <;> simp [matchM] at h
 | bool d => exfalso; rcases hk with rfl | rfl <;> simp [matchM] at h
 | @fn d p q _ _ =>
  rcases hk with rfl | rfl
  ·simp [matchM] at h; obtain ⟨rfl, rfl⟩ := h; exact ⟨cons_refl _, ha⟩
  ·simp [matchM] at h
 | @pair d p q _ _ =>
  rcases hk with rfl | rfl
  ·simp [matchM] at h
  ·simp [matchM] at h; obtain ⟨rfl, rfl⟩ := h; exact ⟨cons_refl _, ha⟩
theorem meet_self {d : Nat} {a : MTy} (h : VTy d a) : meetTy a a = a := by
 induction h with
 | any d => rfl
 | int d => rfl
 | bool d => rfl
 | fn _ _ h1 h2 => rw [meet_two (by omega), h1, h2]
 | pair _ _ h1 h2 => rw [meet_two (by omega), h1, h2]

theorem EV.law {c : List MBd} {e e' : MTm} {n m : Int} {t : MTy} (h : EV c e n e' t m) : ∀ {d : Nat}, okCtx c -> TmV 14 d e -> 0 <= n -> n + nodesM e <= 100 ->
  TmV 13 (2 * d) e' /\ shapeTy 4 t = true /\ n <= m /\ m + 1 <= n + nodesM e /\ nodesM e' + 1 <= 2 * nodesM e /\ castTyM c e' = some t := by
 induction h with
 | @var c s t n hl =>
  intro d hc hv h0 h9
  obtain ⟨b, h1, h2, _⟩ := look_mem hl
  have hst : shapeTy 4 t = true := by rw [<- h2]; exact hc b h1
  have hs := hv
  cases hs with
  | var _ hs => exact ⟨.var (by omega) hs, hst, by omega, by simp [nodesM, nodesS], by simp [nodesM, nodesS], by simp [castTyM, castTyS, wantM, hl, hst, exactS]⟩
 | @num c k n =>
  intro d hc hv h0 h9
  cases hv with
  | num _ h1 h2 => exact ⟨.num (by omega) h1 h2, rfl, by omega, by simp [nodesM, nodesS], by simp [nodesM, nodesS], by simp [castTyM, castTyS, wantM, shape_int, exactS]⟩
 | @tru c n =>
  intro d hc hv h0 h9
  cases hv with
  | tru _ => exact ⟨.tru (by omega), rfl, by omega, by simp [nodesM, nodesS], by simp [nodesM, nodesS], by simp [castTyM, castTyS, wantM, shape_bool, exactS]⟩
 | @fls c n =>
  intro d hc hv h0 h9
  cases hv with
  | fls _ => exact ⟨.fls (by omega), rfl, by omega, by simp [nodesM, nodesS], by simp [nodesM, nodesS], by simp [castTyM, castTyS, wantM, shape_bool, exactS]⟩
 | @lam c s u t b b' n m _ hs ih =>
  intro d hc hv h0 h9
  obtain ⟨d', rfl, hn, hu, hb⟩ := hv.inv_lam
  simp only [nodesM, nodesS] at h9
  obtain ⟨i1, i2, i3, i4, i5, i6⟩ := ih (hc.app hu) hb h0 (by omega)
  refine ⟨(TmV.lam (by omega) hn hu i1).mono (by omega), hs, i3, ?_, ?_, ?_⟩
  ·simp only [nodesM, nodesS]; omega
  ·simp only [nodesM, nodesS]; omega
  ·simp [castTyM, castTyS, i6, wantM, exactS, hs]
 | @app c a b a' b' a2 b2 ta tb x y n n1 n2 n3 n4 _ _ hm hq h1 h2 iha ihb =>
  intro d hc hv h0 h9
  obtain ⟨d', rfl, _, ha, hb⟩ := hv.inv_n2
  simp only [nodesM, nodesS] at h9
  have := nodesM_pos a; have := nodesM_pos b
  obtain ⟨i1, i2, i3, i4, i5, i6⟩ := iha hc ha h0 (by omega)
  obtain ⟨j1, j2, j3, j4, j5, j6⟩ := ihb hc hb (by omega) (by omega)
  obtain ⟨m1, m2⟩ := match_cons (.inl rfl) hm i2
  obtain ⟨s1, s2⟩ := match_shape hm i2
  obtain ⟨k1, k2, k3, k4⟩ := h1.valid i1 i2 m2 m1 (by omega) (by omega)
  obtain ⟨l1, l2, l3, l4⟩ := h2.valid j1 j2 s1 hq (by omega) (by omega)
  refine ⟨(TmV.n2 (by omega) (by omega) k1 l1).mono (by omega), s2, by omega, ?_, ?_, ?_⟩
  ·simp only [nodesM, nodesS]; omega
  ·simp only [nodesM, nodesS]; omega
  ·simp [castTyM, castTyS, h1.exact i6, h2.exact j6, wantM, matchM_two (show (4 : Int) ≠ 1 by omega), exactS, cons_refl, sameTy_refl, s2]
 | @op c k a b a' b' a2 b2 ta tb t n n1 n2 n3 n4 hk _ _ q1 q2 h1 h2 iha ihb =>
  intro d hc hv h0 h9
  obtain ⟨d', rfl, hk', ha, hb⟩ := hv.inv_n2
  simp only [nodesM, nodesS] at h9
  have := nodesM_pos a; have := nodesM_pos b
  obtain ⟨i1, i2, i3, i4, i5, i6⟩ := iha hc ha h0 (by omega)
  obtain ⟨j1, j2, j3, j4, j5, j6⟩ := ihb hc hb (by omega) (by omega)
  obtain ⟨k1, k2, k3, k4⟩ := h1.valid i1 i2 rfl q1 (by omega) (by omega)
  obtain ⟨l1, l2, l3, l4⟩ := h2.valid j1 j2 rfl q2 (by omega) (by omega)
  refine ⟨(TmV.n2 (by omega) hk' k1 l1).mono (by omega), by rcases hk with ⟨_, rfl⟩ | ⟨_, rfl⟩ <;> rfl, by omega, ?_, ?_, ?_⟩
  ·simp only [nodesM, nodesS]; omega
  ·simp only [nodesM, nodesS]; omega
  ·rcases hk with ⟨rfl, rfl⟩ | ⟨rfl, rfl⟩ <;> simp [castTyM, castTyS, h1.exact i6, h2.exact j6, wantM, exactS, cons_refl, sameTy_refl, shape_int, shape_bool]
 | @ite c p a b p' a' b' p2 a2 b2 tp ta tb n n1 n2 n3 n4 n5 n6 _ _ _ q1 q2 h1 h2 h3 ihp iha ihb =>
  intro d hc hv h0 h9
  obtain ⟨d', rfl, hp, ha, hb⟩ := hv.inv_if
  simp only [nodesM, nodesS] at h9
  have := nodesM_pos p; have := nodesM_pos a; have := nodesM_pos b
  obtain ⟨o1, o2, o3, o4, o5, o6⟩ := ihp hc hp h0 (by omega)
  obtain ⟨i1, i2, i3, i4, i5, i6⟩ := iha hc ha (by omega) (by omega)
  obtain ⟨j1, j2, j3, j4, j5, j6⟩ := ihb hc hb (by omega) (by omega)
  have hsm := meet_shape 4 ta tb i2 j2 q2
  obtain ⟨w1, w2⟩ := meet_low (VTy.of i2) (VTy.of j2) q2
  obtain ⟨r1, r2, r3, r4⟩ := h1.valid o1 o2 rfl q1 (by omega) (by omega)
  obtain ⟨k1, k2, k3, k4⟩ := h2.valid i1 i2 hsm (prec_cons w1) (by omega) (by omega)
  obtain ⟨l1, l2, l3, l4⟩ := h3.valid j1 j2 hsm (prec_cons w2) (by omega) (by omega)
  refine ⟨(TmV.ite (by omega) r1 k1 l1).mono (by omega), hsm, by omega, ?_, ?_, ?_⟩
  ·simp only [nodesM, nodesS]; omega
  ·simp only [nodesM, nodesS]; omega
  ·simp [castTyM, castTyS, h1.exact o6, h2.exact i6, h3.exact j6, wantM, exactS, cons_refl, sameTy_refl, meet_self (VTy.of hsm), hsm]
 | @pair c a b a' b' ta tb n n1 n2 _ _ hs iha ihb =>
  intro d hc hv h0 h9
  obtain ⟨d', rfl, _, ha, hb⟩ := hv.inv_n2
  simp only [nodesM, nodesS] at h9
  have := nodesM_pos a; have := nodesM_pos b
  obtain ⟨i1, i2, i3, i4, i5, i6⟩ := iha hc ha h0 (by omega)
  obtain ⟨j1, j2, j3, j4, j5, j6⟩ := ihb hc hb (by omega) (by omega)
  refine ⟨(TmV.n2 (by omega) (by omega) i1 j1).mono (by omega), hs, by omega, ?_, ?_, ?_⟩
  ·simp only [nodesM, nodesS]; omega
  ·simp only [nodesM, nodesS]; omega
  ·simp [castTyM, castTyS, i6, j6, wantM, exactS, hs]
 | @sel c k a a' a2 ta x y t n n1 n2 hk _ hm h1 ih =>
  intro d hc hv h0 h9
  obtain ⟨d', rfl, hk', ha⟩ := hv.inv_n1
  simp only [nodesM, nodesS] at h9
  obtain ⟨i1, i2, i3, i4, i5, i6⟩ := ih hc ha h0 (by omega)
  obtain ⟨m1, m2⟩ := match_cons (.inr rfl) hm i2
  obtain ⟨s1, s2⟩ := match_shape hm i2
  obtain ⟨k1, k2, k3, k4⟩ := h1.valid i1 i2 m2 m1 (by omega) (by omega)
  refine ⟨(TmV.n1 (by omega) hk' k1).mono (by omega), by rcases hk with ⟨_, rfl⟩ | ⟨_, rfl⟩ <;> assumption, by omega, ?_, ?_, ?_⟩
  ·simp only [nodesM, nodesS]; omega
  ·simp only [nodesM, nodesS]; omega
  ·rcases hk with ⟨rfl, rfl⟩ | ⟨rfl, rfl⟩ <;> simp [castTyM, castTyS, h1.exact i6, wantM, matchM_two (show (5 : Int) ≠ 1 by omega), exactS, sameTy_refl, s1, s2]
 | @asc c a a' a2 ta t n n1 n2 _ q h1 ih =>
  intro d hc hv h0 h9
  obtain ⟨d', rfl, ht, ha⟩ := hv.inv_as
  simp only [nodesM, nodesS] at h9
  obtain ⟨i1, i2, i3, i4, i5, i6⟩ := ih hc ha h0 (by omega)
  obtain ⟨k1, k2, k3, k4⟩ := h1.valid i1 i2 ht q (by omega) (by omega)
  refine ⟨k1.mono (by omega), ht, by omega, ?_, ?_, h1.exact i6⟩
  ·simp only [nodesM, nodesS]; omega
  ·simp only [nodesM, nodesS]; omega

theorem VTy.small {d : Nat} {t : MTy} (h : VTy d t) : nTy t + 2 <= 2 ^ (d + 1) := by
 have key : ∀ d : Nat, 2 <= 2 ^ (d + 2) := fun d => by have : 0 < 2 ^ d := Nat.pow_pos (by omega); rw [Nat.pow_add]; omega
 induction h with
 | any d => have := key d; simpa [nTy_mk, nTyS] using this
 | int d => have := key d; simpa [nTy_mk, nTyS] using this
 | bool d => have := key d; simpa [nTy_mk, nTyS] using this
 | @fn d a b _ _ h1 h2 => rw [Nat.pow_succ]; simp [nTy_mk, nTyS]; omega
 | @pair d a b _ _ h1 h2 => rw [Nat.pow_succ]; simp [nTy_mk, nTyS]; omega
theorem TmV.small {nt : Int} {d : Nat} {e : MTm} (h : TmV nt d e) : nTm e + 1 <= 300 * nodesM e := by
 have key : ∀ {t : MTy}, shapeTy 4 t = true -> nTy t <= 100 := fun h => by have := (VTy.of h).small; omega
 have hnm : ∀ {s : List UInt8}, nameM s = true -> s.length = 1 := fun {s} h => by
  match s, h with
  | [c], _ => rfl
 induction h with
 | var _ hs => have := hnm hs; simp [nTm_mk, nTmS, nTy_mk, nTyS, nodesM, nodesS]; omega
 | num _ _ _ => simp [nTm_mk, nTmS, nTy_mk, nTyS, nodesM, nodesS]
 | tru _ => simp [nTm_mk, nTmS, nTy_mk, nTyS, nodesM, nodesS]
 | fls _ => simp [nTm_mk, nTmS, nTy_mk, nTyS, nodesM, nodesS]
 | lam _ hs ht _ ih => have := hnm hs; have := key ht; simp [nTm_mk, nTmS, nTy_mk, nTyS, nodesM, nodesS]; omega
 | n2 _ _ _ _ h1 h2 => simp [nTm_mk, nTmS, nTy_mk, nTyS, nodesM, nodesS]; omega
 | ite _ _ _ _ h1 h2 h3 => simp [nTm_mk, nTmS, nTy_mk, nTyS, nodesM, nodesS]; omega
 | n1 _ _ _ ih => simp [nTm_mk, nTmS, nTy_mk, nTyS, nodesM, nodesS]; omega
 | asc _ ht _ ih => have := key ht; simp [nTm_mk, nTmS, nTy_mk, nTyS, nodesM, nodesS]; omega
 | cast _ hf ht _ _ _ ih => have := key hf; have := key ht; simp [nTm_mk, nTmS, nTy_mk, nTyS, nodesM, nodesS]; omega

end Go.Av

namespace Go.Av
attribute [-simp] Go.Av.freeStepG Go.Av.exA Go.Av.innAsH Go.Av.AV.innH Go.Av.CV.innH Go.Av.innHs Go.Av.AV.outnH Go.Av.CV.outnH
open Go
mutual
def typesM : MTm -> List MTy
 | .mk k _ _ t _ _ l => (if hasTyM k = true then [t] else []) ++ typesS l
def typesS : List MTm -> List MTy
 | [] => []
 | e :: r => typesM e ++ typesS r
end
mutual
def withM : MTm -> List MTy -> MTm
 | .mk k s n t f lb l, ts => .mk k s n (if hasTyM k = true then ts.headD t else t) f lb (withS l (if hasTyM k = true then ts.drop 1 else ts))
def withS : List MTm -> List MTy -> List MTm
 | [], _ => []
 | e :: r, ts => withM e ts :: withS r (ts.drop (typesM e).length)
end
theorem TmV.types {nt : Int} {d : Nat} {e : MTm} (h : TmV nt d e) : (∀ t ∈ typesM e, shapeTy 4 t = true) /\ (typesM e).length <= nodesM e := by
 induction h with
 | var => simp [typesM, typesS, hasTyM]
 | num => simp [typesM, typesS, hasTyM]
 | tru => simp [typesM, typesS, hasTyM]
 | fls => simp [typesM, typesS, hasTyM]
 | lam _ _ h3 _ ih =>
  obtain ⟨h1, h2⟩ := ih
  simp only [typesM, typesS, hasTyM, nodesM, nodesS]
  refine ⟨fun t ht => ?_, by simp; omega⟩
  simp at ht
  rcases ht with rfl | ht
  ·exact h3
  ·exact h1 t ht
 | asc _ h3 _ ih =>
  obtain ⟨h1, h2⟩ := ih
  simp only [typesM, typesS, hasTyM, nodesM, nodesS]
  refine ⟨fun t ht => ?_, by simp; omega⟩
  simp at ht
  rcases ht with rfl | ht
  ·exact h3
  ·exact h1 t ht
 | n2 _ hk _ _ ih1 ih2 =>
  have h5 : ∀ k : Int, k = 6 \/ k = 7 \/ k = 8 \/ k = 10 -> hasTyM k = false := fun k h => by rcases h with rfl | rfl | rfl | rfl <;> rfl
  simp only [typesM, typesS, h5 _ hk, nodesM, nodesS]
  refine ⟨fun t ht => ?_, by simp; omega⟩
  simp at ht
  rcases ht with ht | ht
  ·exact ih1.1 t ht
  ·exact ih2.1 t ht
 | ite _ _ _ _ ih1 ih2 ih3 =>
  simp only [typesM, typesS, hasTyM, nodesM, nodesS]
  refine ⟨fun t ht => ?_, by simp; omega⟩
  simp at ht
  rcases ht with ht | ht | ht
  ·exact ih1.1 t ht
  ·exact ih2.1 t ht
  ·exact ih3.1 t ht
 | n1 _ hk _ ih =>
  have h5 : ∀ k : Int, k = 11 \/ k = 12 -> hasTyM k = false := fun k h => by rcases h with rfl | rfl <;> rfl
  simp only [typesM, typesS, h5 _ hk, nodesM, nodesS]
  refine ⟨fun t ht => ?_, by simp; omega⟩
  simp at ht
  exact ih.1 t ht
 | cast _ _ _ _ _ _ ih =>
  simp only [typesM, typesS, hasTyM, nodesM, nodesS]
  refine ⟨fun t ht => ?_, by simp; omega⟩
  simp at ht
  exact ih.1 t ht
theorem headD_mem {ts : List MTy} {t : MTy} (h : shapeTy 4 t = true) (hs : ∀ u ∈ ts, shapeTy 4 u = true) : shapeTy 4 (ts.headD t) = true := by
 cases ts with
 | nil => exact h
 | cons u r => exact hs u (by simp)
theorem TmV.withM {nt : Int} {d : Nat} {e : MTm} (h : TmV nt d e) : ∀ {ts : List MTy}, (∀ u ∈ ts, shapeTy 4 u = true) -> TmV nt d (Av.withM e ts) /\ nodesM (Av.withM e ts) = nodesM e := by
 induction h with
 | var h1 h2 => intro ts _; exact ⟨.var h1 h2, rfl⟩
 | num h1 h2 h3 => intro ts _; exact ⟨.num h1 h2 h3, rfl⟩
 | tru h1 => intro ts _; exact ⟨.tru h1, rfl⟩
 | fls h1 => intro ts _; exact ⟨.fls h1, rfl⟩
 | lam h1 h2 h3 _ ih =>
  intro ts hs
  have hd : ∀ u ∈ ts.drop 1, shapeTy 4 u = true := fun u hu => hs u (List.mem_of_mem_drop hu)
  simp only [Av.withM, withS, hasTyM, nodesM, nodesS]
  exact ⟨.lam h1 h2 (headD_mem h3 hs) (ih hd).1, by have h := (ih hd).2; simp at h ⊢; exact h⟩
 | asc h1 h3 _ ih =>
  intro ts hs
  have hd : ∀ u ∈ ts.drop 1, shapeTy 4 u = true := fun u hu => hs u (List.mem_of_mem_drop hu)
  simp only [Av.withM, withS, hasTyM, nodesM, nodesS]
  exact ⟨.asc h1 (headD_mem h3 hs) (ih hd).1, by have h := (ih hd).2; simp at h ⊢; exact h⟩
 | n2 h1 hk _ _ ih1 ih2 =>
  intro ts hs
  have h5 : ∀ k : Int, k = 6 \/ k = 7 \/ k = 8 \/ k = 10 -> hasTyM k = false := fun k h => by rcases h with rfl | rfl | rfl | rfl <;> rfl
  have hd : ∀ n, ∀ u ∈ ts.drop n, shapeTy 4 u = true := fun n u hu => hs u (List.mem_of_mem_drop hu)
  simp only [Av.withM, withS, h5 _ hk, nodesM, nodesS]
  exact ⟨.n2 h1 hk (ih1 hs).1 (ih2 (hd _)).1, by simp [(ih1 hs).2, (ih2 (hd _)).2]⟩
 | ite h1 _ _ _ ih1 ih2 ih3 =>
  intro ts hs
  have hd : ∀ n, ∀ u ∈ ts.drop n, shapeTy 4 u = true := fun n u hu => hs u (List.mem_of_mem_drop hu)
  have hd2 : ∀ n m, ∀ u ∈ (ts.drop n).drop m, shapeTy 4 u = true := fun n m u hu => hd n u (List.mem_of_mem_drop hu)
  simp only [Av.withM, withS, hasTyM, nodesM, nodesS]
  exact ⟨.ite h1 (ih1 hs).1 (ih2 (hd _)).1 (ih3 (hd2 _ _)).1, by have h1 := (ih1 hs).2; have h2 := fun n => (ih2 (hd n)).2; have h3 := fun n => (ih3 (hd n)).2; simp [h1, h2, h3]⟩
 | n1 h1 hk _ ih =>
  intro ts hs
  have h5 : ∀ k : Int, k = 11 \/ k = 12 -> hasTyM k = false := fun k h => by rcases h with rfl | rfl <;> rfl
  simp only [Av.withM, withS, h5 _ hk, nodesM, nodesS]
  exact ⟨.n1 h1 hk (ih hs).1, by simp [(ih hs).2]⟩
 | cast h1 h2 h3 h4 h6 _ ih =>
  intro ts hs
  simp only [Av.withM, withS, hasTyM, nodesM, nodesS]
  exact ⟨.cast h1 h2 h3 h4 h6 (ih hs).1, by simp [(ih hs).2]⟩

def withTypesM (e : MTm) (ts : List MTy) : Option MTm := if (termValidM e && decide (ts.length = (typesM e).length) && ts.all (shapeTy 4)) = true then some (withM e ts) else none
def tmRes : Option MTm -> List AV
 | some e => [aTm e, .b true]
 | none => [aTm zeroE, .b false]
def tm0 (o : Option MTm) : MTm := o.getD zeroE
end Go.Av
