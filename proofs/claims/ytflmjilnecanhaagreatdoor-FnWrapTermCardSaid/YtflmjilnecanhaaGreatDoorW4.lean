/- A part of the library of this seat. -/
import Derived.Test.YtflmjilnecanhaaGreatDoorW3
import Derived.Laws.Cover3
set_option linter.unusedVariables false
set_option linter.unusedSimpArgs false
namespace Go.Av
open Go
section
variable {P : Program} {n : Nat} {ι : Type} {Q : Exit -> St -> Prop} {QX : ι -> Exit -> St -> Prop} {s s' : St} {y : Code}
theorem T.eqNil {id : Nat} {src a b : Nat} {ty ty2 e : TypeId} {d : TD} {o1 o2 : Oper} {rows : List (List DV)} (h1 : o1.op = .move (.tmp src)) (d1 : o1.dst = some a) (g1 : o1.guard = none)
  (h2 : o2.op = .binOp .eql ty (.tmp a) (.const (.slice none 0 0)) ty2) (d2 : o2.dst = some b) (g2 : o2.guard = none) (ht : td P ty = some d) (hel : d.el = some e) (hs : look s.fr src = some (.c (.d (.sl rows))))
  (h : ∀ bb : Bool, (bb = true -> rows = []) -> T P n y Q ⟨(b, .c (.d (.bool bb))) :: (a, .c (.d (.sl rows))) :: s.fr, s.V, s.A⟩) : T P n (.seq (.region id #[o1, o2] false) y) Q s := by
 refine T.seq ?_
 intro hok w0 g0 g A w hR
 refine wp_region_list ?_
 have hd : dstsOk n [o1, o2] = true := hok
 simp only [dstsOk, List.all_cons, List.all_nil, Bool.and_true, Bool.and_eq_true, d1, d2, decide_eq_true_eq] at hd
 have w1 : Region.wanted o1 (yielded #[o1, o2] A.tmps) = true := by simp [Region.wanted, g1]
 have w2 : ∀ A' : Act, Region.wanted o2 (yielded #[o1, o2] A'.tmps) = true := fun A' => by simp [Region.wanted, g2]
 unfold wpList
 rw [if_pos w1]
 have hst : astep P s false o1 fun x V' A' => x = .c (.d (.sl rows)) /\ V' = s.V /\ A' = s.A := by
  unfold astep; rw [h1]; simp [wpo, aval, hs, onv]
 obtain ⟨x, V', A', ⟨rfl, rfl, rfl⟩, hk⟩ := astep_wp hR.inv hR.fr hR.slot hst
 refine .inl (hk _ _ fun v w' g' h5 h6 h7 h8 => ?_)
 have hR1 := hR.put (dst := o1.dst) (fun d e => by rw [d1] at e; cases e; exact hd.1) h5 h6 h7 h8
 unfold wpList
 rw [if_pos (w2 _)]
 have hv := h5
 simp only [RepV, RepE, RepC, RepD] at hv
 obtain ⟨ad, cap, rfl, hcap, hrr⟩ := hv
 have hslot := hR1.slot a (.c (.d (.sl rows))) (by simp [St.put, d1, look])
 obtain ⟨u, hu, hru⟩ := hslot
 have hu' : (A.put o1.dst (.slice ad rows.length cap)).tmps[a]? = some u := hu
 have hlt : a < A.tmps.size := by rw [hR.size]; exact hd.1
 have : u = .slice ad rows.length cap := by
  rw [d1] at hu'
  simp [Act.put, hlt] at hu'
  exact hu'.symm
 subst this
 have hev : (A.put o1.dst (.slice ad rows.length cap)).eval (.tmp a) = .slice ad rows.length cap := by
  simp only [Act.eval]
  rw [Array.getD_eq_getD_getElem?, hu']; rfl
 have hrun : (execOp (A.put o1.dst (.slice ad rows.length cap)).eval o2).run P w' = .ok (.value (.bool ad.isNone)) w' := by
  simp only [execOp, h2, hev]
  refine run_value (w' := w') ?_
  rw [Sem.run_bind]
  rw [show (eqGuard .eql ty (.tmp a) (.const (.slice none 0 0)) (.slice ad rows.length cap) ((A.put o1.dst (.slice ad rows.length cap)).eval (.const (.slice none 0 0)))).run P w' = .ok () w' by simp [eqGuard, Act.eval]]
  simp only [Result.andThen_ok, Act.eval]
  simp [binOp, run_equal_slice_nil w' ty e ad rows.length cap (td_el ht hel)]
 refine .inl ?_
 unfold Oper.wp
 rw [hrun]
 have hR2 := hR1.put (dst := o2.dst) (x := .c (.d (.bool ad.isNone))) (v := .bool ad.isNone) (fun d e => by rw [d2] at e; cases e; exact hd.2) rfl hR1.inv (.refl _ _ _) hR1.fr
 refine ⟨_, _, ?_, hR2⟩
 show T P n y Q _
 rw [d1, d2]
 refine h ad.isNone fun hn => ?_
 cases hrr with
 | inl h => exact h
 | inr h => obtain ⟨_, _, _, rfl, _⟩ := h; simp at hn
end
section
variable {P : Program} {s : St} {f : FuncId} {xs as : List AV} {K : AV -> List (List CV) -> List Arr -> Prop}
theorem wpcall_g (ids : List Nat) {Vc Vc' : List (List CV)} {r : AV} {Ac' : List Arr} (hn : ids.Nodup) (hin : innAs s.A ids xs = some as) (hV : innVs s.A s.V ids ids = some Vc) (hc : ACalls P f as Vc r Vc' Ac')
  (hK : K (r.outn ids s.V.length s.A.length) (putBack s.A.length s.V.length ids s.V ids Vc') (sealAs s.A (argCells xs ++ objCells s.V ids) ++ Ac')) : wpcall P s f xs K :=
 .inl ⟨ids, as, Vc, r, Vc', Ac', hn, hin, hV, hc, hK⟩
theorem Done.g {fn : Func} {e : Exit} {m : Nat} {r : AV} {V' : List (List CV)} (he : e = .normal \/ e = .ret) {ys : List AV} (hr : (ares P s fn.results.toList).bind (resAs s.A (List.range m) []) = some ys) (h1 : one ys = r)
  (hV : resVs s.A s.V (List.range m) [] (List.range m) = some V') : Done P fn m r V' [] e s := by
 cases hx : ares P s fn.results.toList with
 | none => rw [hx] at hr; simp at hr
 | some xs => rw [hx] at hr; exact ⟨he, [], [], xs, ys, hx, List.nodup_nil, List.nodup_nil, by simp, by simpa using hr, h1.symm, by simpa using hV, rfl⟩
end
attribute [simp] innVs putBack objCells back resVs one
end Go.Av

namespace Go.Av
open Go

abbrev aBd (b : MBd) : AV := .agg [.d (.str b.name), .d (.i b.ty.kind), .d (.sl (b.ty.kids.map eTy))]
abbrev zeroE : MTm := .mk 0 [] 0 zeroT zeroT 0 []
abbrev elRes : Option (MTm × MTy) -> List AV
 | some (e, t) => [aTm e, aTy t, .b true]
 | none => [aTm zeroE, aTy zeroT, .b false]

theorem castM_le (n : Int) (e : MTm) (f t : MTy) : n <= (castM n e f t).2 /\ (castM n e f t).2 <= n + 1 := by
 simp only [castM]; split <;> simp <;> omega
theorem castS_le : ∀ (n : Int) (es : List MTm) (hs ws : List MTy), n <= (castS n es hs ws).2 /\ (castS n es hs ws).2 <= n + es.length
 | n, [], hs, ws => by cases hs <;> cases ws <;> simp [castS]
 | n, e :: es, [], ws => by cases ws <;> simp [castS] <;> omega
 | n, e :: es, h :: hs, [] => by simp [castS]; omega
 | n, e :: es, h :: hs, w :: ws => by
  have h1 := castM_le n e h w
  have h2 := castS_le (castM n e h w).2 es hs ws
  simp only [castS, List.length_cons]
  omega

theorem elab_le : ∀ (e : MTm) (ctx : List MBd) (n : Int), n <= (elabM ctx e n).2 /\ (elabM ctx e n).2 <= n + nTm e := by
 intro e
 induction e using MTm.ind with
 | h e ih =>
  intro ctx n
  have hS : ∀ (l : List MTm), (∀ u ∈ l, u ∈ e.kids) -> ∀ c n, n <= (elabS c l n).2 /\ (elabS c l n).2 + l.length <= n + nTmS l := by
   intro l
   induction l with
   | nil => intro _ c n; simp [elabS, nTmS]
   | cons x r ihl =>
    intro hm c n
    have h1 := ih x (hm x (by simp)) c n
    simp only [elabS, nTmS, List.length_cons]
    cases he : elabM c x n with
    | mk o m =>
     rw [he] at h1
     cases o with
     | none =>
      have h2 := nTmS_len r
      simp only [consE]; omega
     | some p =>
      obtain ⟨y, t⟩ := p
      have h2 := ihl (fun u hu => hm u (by simp [hu])) c m
      simp only [consE]
      cases hr : elabS c r m with
      | mk o2 m2 =>
       rw [hr] at h2
       cases o2 with
       | none => simp only; omega
       | some q => simp only; omega
  rw [elabM_def, nTm_def]
  have h3 := hS e.kids (fun _ h => h) (insideM ctx e) n
  cases hr : elabS (insideM ctx e) e.kids n with
  | mk o m =>
   rw [hr] at h3
   cases o with
   | none => simp only [finM]; omega
   | some p =>
    obtain ⟨es, ts⟩ := p
    have hl := elabS_len hr
    simp only [finM]
    cases wantM ctx e.kind e.name e.ty ts with
    | none => simp only; omega
    | some q =>
     obtain ⟨ws, t⟩ := q
     simp only
     have h4 := castS_le m es ts ws
     split
     ·split <;> simp only <;> omega
     ·simp only; omega

mutual
def sameTm : MTm -> MTm -> Bool
 | .mk k s n t f b l, .mk k' s' n' t' f' b' l' => decide (k = k') && (decide (s = s') && (decide (n = n') && (sameTy t t' && (sameTy f f' && (decide (b = b') && sameTmS l l')))))
def sameTmS : List MTm -> List MTm -> Bool
 | [], [] => true
 | x :: xs, y :: ys => sameTm x y && sameTmS xs ys
 | _, _ => false
end
theorem sameTmS_all2 : ∀ (l m : List MTm), sameTmS l m = all2 sameTm l m
 | [], [] => rfl
 | x :: xs, y :: ys => by simp [sameTmS, all2, sameTmS_all2 xs ys]
 | [], _ :: _ => rfl
 | _ :: _, [] => rfl
theorem sameTm_def (a b : MTm) : sameTm a b = (decide (a.kind = b.kind) && (decide (a.name = b.name) && (decide (a.num = b.num) && (sameTy a.ty b.ty && (sameTy a.fr b.fr && (decide (a.label = b.label) && all2 sameTm a.kids b.kids)))))) := by
 cases a; cases b; simp only [sameTm, sameTmS_all2]; rfl
mutual
theorem sameTm_eq : ∀ (a b : MTm), sameTm a b = true -> a = b
 | .mk k s n t f b l, .mk k' s' n' t' f' b' l', h => by
  simp only [sameTm, Bool.and_eq_true, decide_eq_true_eq] at h
  obtain ⟨rfl, rfl, rfl, h1, h2, rfl, h3⟩ := h
  rw [sameTy_eq t t' h1, sameTy_eq f f' h2, sameTmS_eq l l' h3]
theorem sameTmS_eq : ∀ (l m : List MTm), sameTmS l m = true -> l = m
 | [], [], _ => rfl
 | x :: xs, y :: ys, h => by
  simp only [sameTmS, Bool.and_eq_true] at h
  rw [sameTm_eq x y h.1, sameTmS_eq xs ys h.2]
 | [], _ :: _, h => by simp [sameTmS] at h
 | _ :: _, [], h => by simp [sameTmS] at h
end
mutual
theorem sameTm_refl : ∀ (a : MTm), sameTm a a = true
 | .mk k s n t f b l => by simp [sameTm, sameTy_refl, sameTmS_refl l]
theorem sameTmS_refl : ∀ (l : List MTm), sameTmS l l = true
 | [] => rfl
 | x :: xs => by simp [sameTmS, sameTm_refl x, sameTmS_refl xs]
end
mutual
def mapM (g : MTm -> MTm) : MTm -> MTm
 | .mk k s n t f b l => g (.mk k s n t f b (mapS g l))
def mapS (g : MTm -> MTm) : List MTm -> List MTm
 | [] => []
 | e :: r => mapM g e :: mapS g r
end
theorem mapS_map (g : MTm -> MTm) : ∀ (l : List MTm), mapS g l = l.map (mapM g)
 | [] => rfl
 | e :: r => by simp [mapS, mapS_map g r]
theorem mapM_def (g : MTm -> MTm) (e : MTm) : mapM g e = g (.mk e.kind e.name e.num e.ty e.fr e.label (e.kids.map (mapM g))) := by
 cases e; simp only [mapM, mapS_map]; rfl
theorem mapM_id : ∀ (e : MTm), mapM (fun x => x) e = e := by
 intro e
 induction e using MTm.ind with
 | h e ih =>
  rw [mapM_def]
  have : e.kids.map (mapM fun x => x) = e.kids := by
   refine List.ext_getElem? fun i => ?_
   rw [List.getElem?_map]
   cases h : e.kids[i]? with
   | none => rfl
   | some u => rw [Option.map_some, ih u (List.mem_of_getElem? h)]
  rw [this]; cases e; rfl
end Go.Av

namespace Go.Av
open Go
section
variable {P : Program} {n : Nat} {Q : Exit -> St -> Prop} {s : St}
theorem T.seal {c : Code} (t k n' : Nat) {r : Arr} (ht : look s.fr t = some (.c (.own k n'))) (hk : s.A[k]? = some r) (hn : n' = r.rows.length) (h : T P n c Q ⟨(t, .c (.d (.sl r.rows))) :: s.fr, s.V, s.A.set k { r with wr := false }⟩) : T P n c Q s := by
 intro hok w0 g0 g a w hR
 obtain ⟨u, hu, hru⟩ := hR.slot t _ ht
 have hd : toD s.A (.own k n') = some (.sl r.rows) := by simp [toD, hk, hn]
 obtain ⟨g', hI, hx, hF, _, _, hrd⟩ := seal_one hR.inv hR.fr (show RepC g w s.A (.own k n') u from hru) hd
 have hs : sealA s.A (.own k n') = s.A.set k { r with wr := false } := by simp [sealA, hk]
 rw [hs] at hI hx
 refine h hok w0 g0 g' a w ⟨hI, hF, hR.size, hR.defers, fun t' x hx' => ?_⟩
 simp only [look] at hx'
 by_cases e : t' = t
 ·subst e
  simp at hx'; subst hx'
  exact ⟨u, hu, hrd⟩
 ·rw [if_neg e] at hx'
  obtain ⟨u', h1, h2⟩ := hR.slot t' x hx'
  exact ⟨u', h1, RepV.ext hx h2⟩
end
section
variable {P : Program} {s : St}
theorem Done.gt {fn : Func} {e : Exit} {m : Nat} {a b : AV} {ys : List AV} {V' : List (List CV)} (he : e = .normal \/ e = .ret) (hr : (ares P s fn.results.toList).bind (resAs s.A (List.range m) []) = some (a :: b :: ys))
  (hV : resVs s.A s.V (List.range m) [] (List.range m) = some V') : Done P fn m (.tup (a :: b :: ys)) V' [] e s := Done.g he hr rfl hV
theorem Done.g1 {fn : Func} {e : Exit} {m : Nat} {r : AV} {V' : List (List CV)} (he : e = .normal \/ e = .ret) (hr : (ares P s fn.results.toList).bind (resAs s.A (List.range m) []) = some [r])
  (hV : resVs s.A s.V (List.range m) [] (List.range m) = some V') : Done P fn m r V' [] e s := Done.g he hr rfl hV
end
end Go.Av

namespace Go.Av
open Go
section
attribute [-simp] astep wpo gdo onv aval avals oval slow shigh alen rowsOf look cvOf St.put cellsAt mkV splice abin aun abinS abinB cEq AV.plain AV.cells CV.isUndef toD toDs toRows sealA sealAs innAs AV.inn CV.inn inns AV.outn CV.outn argCells aparts arows afill isS ares ares1 AV.res1 CV.res ress pos? poss Then InBlock Sub subL argFr
attribute [-simp] freeStep exV keepL ups innVs putBack objCells back resVs one

def exA (ex : List Nat) (rs : Nat -> Arr) (V : List Arr) : List Arr := ex.foldl (fun W i => W.set i (rs i)) V

theorem exA_same (V : List Arr) : ∀ (ex : List Nat), exA ex (fun i => V.getD i arr0) V = V
 | [] => rfl
 | i :: ex => by
  have h : V.set i (V.getD i arr0) = V := by
   apply List.ext_getElem?
   intro j
   rw [List.getElem?_set]
   split
   ·rename_i e
    subst e
    split
    ·rename_i h; simp [List.getD, h]
    ·rename_i h; simp [Nat.le_of_not_lt h]
   ·rfl
  show exA ex _ (V.set i (V.getD i arr0)) = V
  rw [h]; exact exA_same V ex

def freeStepG (P : Program) (s : St) (ow : Bool) (o : Oper) (ex exa : List Nat) (V0 : List (List CV)) (A0 : List Arr) (x : AV) : Prop :=
 ∀ (rs : Nat -> List CV) (ra : Nat -> Arr) GV GA, astep P ⟨s.fr, exV ex rs V0 ++ GV, exA exa ra A0 ++ GA⟩ ow o fun y V' A' => y = x /\ V' = exV ex rs V0 ++ GV /\ A' = exA exa ra A0 ++ GA

def aopsG (P : Program) (all : Array Oper) (ow : Nat -> Bool) (ws fs : List Nat) (m : Nat) (ex exa : List Nat) (V0 : List (List CV)) (A0 : List Arr) (K : St -> Prop) : Nat -> List Oper -> St -> Prop
 | _, [], s => K s
 | i, o :: rest, s => gdo all s o (astep P s (ow i) o fun x V A => (i ∈ ws \/ (V = s.V /\ A = s.A)) /\ (i ∈ ws -> i < m -> V.take V0.length = exV ex (fun i => V.getD i []) V0 /\ A.take A0.length = exA exa (fun i => A.getD i arr0) A0) /\ (i ∈ fs -> freeStepG P s (ow i) o ex exa V0 A0 x) /\
   aopsG P all ow ws fs m ex exa V0 A0 K (i + 1) rest (s.put o.dst x V A)) (aopsG P all ow ws fs m ex exa V0 A0 K (i + 1) rest (s.put o.dst (.c .undef) s.V s.A))

section
variable {P : Program} {n : Nat} {Q Q' : Exit -> St -> Prop} {s s' : St} {w0 : World} {g0 g g' : Gh} {a : Act} {w w' : World} {V : List (List CV)} {A A' : List Arr}

def StpG (P : Program) (all : Array Oper) (ow : Bool) (fs : List Nat) (j : Nat) (ex exa : List Nat) (V0 : List (List CV)) (A0 : List Arr) (o : Oper) (s s' : St) : Prop :=
 gdo all s o True True /\ ((gw all s o = true /\ ∃ x V A, s' = s.put o.dst x V A /\ (∀ K : AV -> List (List CV) -> List Arr -> Prop, K x V A -> astep P s ow o K) /\ (j ∈ fs -> freeStepG P s ow o ex exa V0 A0 x)) \/ (gw all s o = false /\ s' = s.put o.dst (.c .undef) s.V s.A))

def PreG (ex exa : List Nat) (V0 : List (List CV)) (A0 : List Arr) (s : St) : Prop := s.V.take V0.length = exV ex (fun i => s.V.getD i []) V0 /\ s.A.take A0.length = exA exa (fun i => s.A.getD i arr0) A0

theorem aopsG_trace {all : Array Oper} {ow : Nat -> Bool} {ws fs : List Nat} {m : Nat} {ex exa : List Nat} {V0 : List (List CV)} {A0 : List Arr} {K : St -> Prop} : ∀ (ops : List Oper) (i : Nat) (s : St), aopsG P all ow ws fs m ex exa V0 A0 K i ops s ->
  ∃ σ : Nat -> St, σ 0 = s /\ K (σ ops.length) /\ ∀ (j : Nat) o, ops[j]? = some o -> StpG P all (ow (i + j)) fs (i + j) ex exa V0 A0 o (σ j) (σ (j + 1)) /\ (i + j ∈ ws \/ ((σ (j + 1)).V = (σ j).V /\ (σ (j + 1)).A = (σ j).A)) /\
   (i + j < m -> PreG ex exa V0 A0 (σ (j + 1)) \/ ((σ (j + 1)).V = (σ j).V /\ (σ (j + 1)).A = (σ j).A))
 | [], i, s, h => ⟨fun _ => s, rfl, h, fun j o h => by simp at h⟩
 | o :: rest, i, s, h => by
  simp only [aopsG] at h
  obtain ⟨h0, hg⟩ := gdo_mono h
  rcases h0 with ⟨h1, h2⟩ | ⟨h1, h2⟩
  ·obtain ⟨x, V, A, ⟨h3, h3p, h3f, h4⟩, h5⟩ := astep_det h2
   obtain ⟨σ, k1, k2, k3⟩ := aopsG_trace rest (i + 1) _ h4
   refine ⟨fun j => match j with | 0 => s | j + 1 => σ j, rfl, k2, fun j o' ho => ?_⟩
   cases j with
   | zero =>
    simp at ho; subst ho
    refine ⟨⟨hg, .inl ⟨h1, x, V, A, k1, h5, h3f⟩⟩, ?_, fun hm => ?_⟩
    ·rcases h3 with h3 | ⟨h3, h3'⟩
     ·exact .inl h3
     ·exact .inr (by simp only [k1]; exact ⟨h3, h3'⟩)
    ·rcases h3 with h3 | ⟨h3, h3'⟩
     ·exact .inl (by simp only [k1]; exact h3p h3 hm)
     ·exact .inr (by simp only [k1]; exact ⟨h3, h3'⟩)
   | succ j =>
    simp at ho
    have := k3 j o' ho
    rwa [show i + 1 + j = i + (j + 1) by omega] at this
  ·obtain ⟨σ, k1, k2, k3⟩ := aopsG_trace rest (i + 1) _ h2
   refine ⟨fun j => match j with | 0 => s | j + 1 => σ j, rfl, k2, fun j o' ho => ?_⟩
   cases j with
   | zero =>
    simp at ho; subst ho
    exact ⟨⟨hg, .inr ⟨h1, k1⟩⟩, .inr (by simp only [k1]; exact ⟨rfl, rfl⟩), fun _ => .inr (by simp only [k1]; exact ⟨rfl, rfl⟩)⟩
   | succ j =>
    simp at ho
    have := k3 j o' ho
    rwa [show i + 1 + j = i + (j + 1) by omega] at this

set_option maxHeartbeats 2000000 in
theorem drawG_sound {all : Array Oper} {ow : Nat -> Bool} {ws fs : List Nat} {m : Nat} {ex exa : List Nat} {V0 : List (List CV)} {A0 : List Arr} {σ : Nat -> St} {K : St -> Prop} {Q : Exit -> Act -> World -> Prop} (hd : drawOkF all ws fs m = true) (hdst : dstsOk n all.toList = true)
  (htr : ∀ (j : Nat) o, all[j]? = some o -> StpG P all (ow j) fs j ex exa V0 A0 o (σ j) (σ (j + 1)) /\ (j ∈ ws \/ ((σ (j + 1)).V = (σ j).V /\ (σ (j + 1)).A = (σ j).A)) /\ (j < m -> PreG ex exa V0 A0 (σ (j + 1)) \/ ((σ (j + 1)).V = (σ j).V /\ (σ (j + 1)).A = (σ j).A))) (h00 : (σ 0).V = V0 /\ (σ 0).A = A0)
  (hK : K (σ all.size)) (hQ : ∀ s' g' a' w', K s' -> Rp n w0 g0 s' g' a' w' -> Q .normal a' w') :
  ∀ (fuel : Nat) (listed : Array Bool) (k0 : Nat) (g : Gh) (a : Act) (w : World), ((List.range all.size).filter fun i => !listed.getD i true).length <= fuel -> DSF all ws σ n w0 g0 listed k0 g a w -> wpAny P .any all Q fuel listed a w := by
 simp only [drawOkF, Bool.and_eq_true, List.all_eq_true] at hd
 obtain ⟨⟨⟨⟨hd1, hd2⟩, hd3⟩, hd4⟩, hd5⟩ := hd
 -- the checks, read
 have hmem : ∀ (j : Nat) o, all[j]? = some o -> (o, j) ∈ all.toList.zipIdx := fun j o h => by
  rw [List.mem_iff_getElem?]
  exact ⟨j, by simp [List.getElem?_zipIdx, h]⟩
 have hedge : ∀ (j : Nat) o, all[j]? = some o -> ∀ e ∈ o.after, Region.binds .any e = true -> e.on < j := fun j o h e he hb => by
  have := hd1 _ (hmem j o h) e (Array.mem_toList_iff.2 he)
  simpa [hb] using this
 have hpairF : ∀ (i j : Nat) oi oj, all[i]? = some oi -> all[j]? = some oj -> i < j -> pairOkF all ws fs m (masks all.toList []) oi oj i j = true := fun i j oi oj h1 h2 hlt => by
  have := hd2 _ (hmem j oj h2) _ (hmem i oi h1)
  simpa [hlt] using this
 have hpair : ∀ (i j : Nat) oi oj, all[i]? = some oi -> all[j]? = some oj -> i < j -> i ∉ fs -> j ∉ fs -> pairOk all ws (masks all.toList []) oi oj i j = true := fun i j oi oj h1 h2 hlt hi hj => by
  have := hpairF i j oi oj h1 h2 hlt
  simpa [pairOkF, pairOk, hi, hj] using this
 have hwf : ∀ i, i ∈ ws -> i ∉ fs := fun i hi hf => by
  have := hd4 i hf
  simp [hi] at this
 have hpre : ∀ k, k <= m -> k <= all.size -> PreG ex exa V0 A0 (σ k) := by
  intro k
  induction k with
  | zero =>
   intro _ _
   refine ⟨?_, ?_⟩
   ·rw [h00.1, exV_same]; simp
   ·rw [h00.2, exA_same]; simp
  | succ k ih =>
   intro h1 h2
   have ho : all[k]? = some all[k] := Array.getElem?_eq_getElem (by omega)
   rcases (htr k _ ho).2.2 (by omega) with h3 | ⟨h3, h4⟩
   ·exact h3
   ·have := ih (by omega) (by omega)
    exact ⟨by rw [h3]; exact this.1, by rw [h4]; exact this.2⟩
 have hws : ∀ (j : Nat) o, all[j]? = some o -> j ∈ ws -> isS o.op = false := fun j o h hj => by
  have := hd3 _ (hmem j o h)
  simpa [hj] using this
 have hdne : ∀ (i j : Nat) oi oj d, all[i]? = some oi -> all[j]? = some oj -> i < j -> oi.dst = some d -> oj.dst ≠ some d := fun i j oi oj d h1 h2 hlt h3 h4 => by
  have := hpairF i j oi oj h1 h2 hlt
  simp [pairOkF, h3, h4] at this
 have hdu : ∀ (i j : Nat) oi oj d, all[i]? = some oi -> all[j]? = some oj -> oi.dst = some d -> oj.dst = some d -> i = j := fun i j oi oj d h1 h2 h3 h4 => by
  rcases Nat.lt_trichotomy i j with h | h | h
  ·exact absurd h4 (hdne i j oi oj d h1 h2 h h3)
  ·exact h
  ·exact absurd h3 (hdne j i oj oi d h2 h1 h h4)
 have hdn : ∀ (j : Nat) o d, all[j]? = some o -> o.dst = some d -> d < n := fun j o d h1 h2 => by
  have := List.all_eq_true.1 hdst o (by rw [Array.mem_toList_iff]; exact Array.mem_of_getElem? h1)
  simpa [h2] using this
 obtain ⟨hml, _, hms⟩ := masks_spec all.toList []
 -- the order that the edges force
 have hbit : ∀ {listed : Array Bool}, (∀ (i : Nat) o, all[i]? = some o -> listed[i]? = some true -> ∀ e ∈ o.after, Region.binds .any e = true -> listed[e.on]? = some true) ->
   ∀ (i : Nat) o, all[i]? = some o -> (∀ e ∈ o.after, Region.binds .any e = true -> listed[e.on]? = some true) -> ∀ k, ((masks all.toList []).getD i 0).testBit k = true -> listed[k]? = some true := by
  intro listed hcl i
  induction i using Nat.strongRecOn with
  | _ i ih =>
   intro o ho hafter k hk
   obtain ⟨pre, h1, h2, h3⟩ := hms i o (by simpa using ho)
   simp only [List.length_nil, Nat.zero_add] at h1 h3
   have h4 : (masks all.toList []).getD i 0 = mask1 pre o := by simp [List.getD, h3]
   rw [h4] at hk
   obtain ⟨e, he, hb, h5⟩ := mask1_spec hk
   have he1 := hafter e he hb
   rcases h5 with rfl | h5
   ·exact he1
   ·have hlt := hedge i o ho e he hb
    have h6 : pre.getD e.on 0 = (masks all.toList []).getD e.on 0 := by simp only [List.getD, h2 e.on (by omega)]
    rw [h6] at h5
    have hsz : e.on < all.size := by have := (Array.getElem?_eq_some_iff.1 ho).1; omega
    have hoe : all[e.on]? = some all[e.on] := Array.getElem?_eq_getElem hsz
    exact ih e.on hlt _ hoe (hcl e.on _ hoe he1) k h5
 -- frames
 have hstep : ∀ (j : Nat) o t, all[j]? = some o -> o.dst ≠ some t -> look (σ (j + 1)).fr t = look (σ j).fr t := fun j o t h1 h2 => by
  obtain ⟨⟨_, h3⟩, _⟩ := htr j o h1
  have hput : ∀ (x : AV) V A, look ((σ j).put o.dst x V A).fr t = look (σ j).fr t := fun x V A => by
   simp only [St.put]
   cases hdd : o.dst with
   | none => rfl
   | some d => simp only [look]; rw [if_neg (fun e => h2 (by rw [hdd, e]))]
  rcases h3 with ⟨_, x, V, A, h4, _, _⟩ | ⟨_, h4⟩
  ·rw [h4]; exact hput x V A
  ·rw [h4]; exact hput _ _ _
 have hfrB : ∀ (j t : Nat), j <= all.size -> (∀ (i : Nat) o, i < j -> all[i]? = some o -> o.dst ≠ some t) -> look (σ j).fr t = look (σ 0).fr t := by
  intro j
  induction j with
  | zero => intro t _ _; rfl
  | succ j ih =>
   intro t hj hno
   have ho : all[j]? = some all[j] := Array.getElem?_eq_getElem (by omega)
   rw [hstep j _ t ho (hno j _ (by omega) ho)]
   exact ih t (by omega) (fun i o hi => hno i o (by omega))
 have hfrA : ∀ (j i : Nat) oi t, j <= all.size -> i < j -> all[i]? = some oi -> oi.dst = some t -> look (σ j).fr t = look (σ (i + 1)).fr t := by
  intro j
  induction j with
  | zero => intro i oi t _ h; omega
  | succ j ih =>
   intro i oi t hj hij hoi hdt
   by_cases e : i = j
   ·subst e; rfl
   ·have ho : all[j]? = some all[j] := Array.getElem?_eq_getElem (by omega)
    rw [hstep j _ t ho (hdne i j oi _ t hoi ho (by omega) hdt)]
    exact ih i oi t (by omega) (by omega) hoi hdt
 have hVA : ∀ (b a : Nat), a <= b -> b <= all.size -> (∀ i, a <= i -> i < b -> i ∉ ws) -> (σ b).V = (σ a).V /\ (σ b).A = (σ a).A := by
  intro b
  induction b with
  | zero =>
   intro a h _ _
   obtain rfl : a = 0 := by omega
   exact ⟨rfl, rfl⟩
  | succ b ih =>
   intro a hab hb hno
   by_cases e : a = b + 1
   ·subst e; exact ⟨rfl, rfl⟩
   ·have ho : all[b]? = some all[b] := Array.getElem?_eq_getElem (by omega)
    obtain ⟨h1, h2⟩ := ih a (by omega) (by omega) (fun i hi hi' => hno i hi (by omega))
    rcases (htr b _ ho).2.1 with h3 | ⟨h3, h4⟩
    ·exact absurd h3 (hno b (by omega) (by omega))
    ·exact ⟨h3.trans h1, h4.trans h2⟩
 -- at the end
 have hend : ∀ {listed : Array Bool} {k0 : Nat} {g : Gh} {a : Act} {w : World}, DSF all ws σ n w0 g0 listed k0 g a w -> Region.ready .any all listed = [] -> Q .normal a w := by
  intro listed k0 g a w hD hr
  have hall : ∀ i, i < all.size -> listed[i]? = some true := by
   intro i
   induction i using Nat.strongRecOn with
   | _ i ih =>
    intro hi
    have ho : all[i]? = some all[i] := Array.getElem?_eq_getElem hi
    have hli : i < listed.size := by rw [hD.lsize]; exact hi
    cases hl : listed[i] with
    | true => rw [Array.getElem?_eq_getElem hli, hl]
    | false =>
     exfalso
     have : i ∈ Region.ready .any all listed := mem_ready.2 ⟨by simp [hli, hl], _, ho, fun e he hb => listed_iff.2 (ih e.on (hedge i _ ho e he hb) (by have := hedge i _ ho e he hb; omega))⟩
     rw [hr] at this; simp at this
  have hva := hVA all.size k0 hD.kle (Nat.le_refl _) (fun i h1 h2 h3 => by have := (hD.wprog i h3 h2).1 (hall i h2); omega)
  refine hQ _ g a w hK ⟨by rw [hva.1, hva.2]; exact hD.inv, hD.fr, hD.size, hD.defers, fun t x hx => ?_⟩
  rw [hva.2]
  by_cases hex : ∃ (i : Nat) (o : Oper), all[i]? = some o /\ o.dst = some t
  ·obtain ⟨i, o, ho, hdt⟩ := hex
   have hi := (Array.getElem?_eq_some_iff.1 ho).1
   rw [hfrA all.size i o t (Nat.le_refl _) hi ho hdt] at hx
   exact hD.slot1 i o t x ho (hall i hi) hdt hx
  ·rw [hfrB all.size t (Nat.le_refl _) (fun i o _ ho hdt => hex ⟨i, o, ho, hdt⟩)] at hx
   exact hD.slot0 t x (fun i o ho _ hdt => hex ⟨i, o, ho, hdt⟩) hx
 -- one operation
 intro fuel
 induction fuel with
 | zero =>
  intro listed k0 g a w hf hD
  have hnil : Region.ready .any all listed = [] := by
   have h0 : ((List.range all.size).filter fun i => !listed.getD i true) = [] := List.eq_nil_of_length_eq_zero (by omega)
   rcases hr : Region.ready .any all listed with _ | ⟨j, r⟩
   ·rfl
   ·have hj : j ∈ Region.ready .any all listed := by rw [hr]; simp
    obtain ⟨h1, o, h2, _⟩ := mem_ready.1 hj
    have : j ∈ ((List.range all.size).filter fun i => !listed.getD i true) := by
     rw [List.mem_filter, List.mem_range]
     exact ⟨(Array.getElem?_eq_some_iff.1 h2).1, by simp [h1]⟩
    rw [h0] at this; simp at this
  exact ⟨hnil, hend hD hnil⟩
 | succ fuel ih =>
  intro listed k0 g a w hf hD
  refine ⟨fun hr => hend hD hr, fun j hj => ?_⟩
  obtain ⟨hun, o, ho, hafter⟩ := mem_ready.1 hj
  have hju := unlisted_of hun
  have hjn : j < all.size := (Array.getElem?_eq_some_iff.1 ho).1
  have hjl : j < listed.size := by rw [hD.lsize]; exact hjn
  have hafter' : ∀ e ∈ o.after, Region.binds .any e = true -> listed[e.on]? = some true := fun e he hb => listed_iff.1 (hafter e he hb)
  have hbefore : ∀ k, ((masks all.toList []).getD j 0).testBit k = true -> listed[k]? = some true := hbit hD.closed j o ho hafter'
  have hbehind : ∀ (i : Nat) oi, all[i]? = some oi -> listed[i]? = some true -> ((masks all.toList []).getD i 0).testBit j = false := fun i oi hoi hli => by
   cases hb : ((masks all.toList []).getD i 0).testBit j with
   | false => rfl
   | true => have := hbit hD.closed i oi hoi (hD.closed i oi hoi hli) j hb; rw [hju] at this; simp at this
  -- what the operation looks at
  have hlooks : ∀ t ∈ o.looksAt all, ∀ x, look (σ j).fr t = some x -> ∃ u, a.tmps[t]? = some u /\ RepV g w (σ k0).A x u := by
   intro t ht x hx
   by_cases hex : ∃ (i : Nat) (oi : Oper), i < j /\ all[i]? = some oi /\ oi.dst = some t
   ·obtain ⟨i, oi, hij, hoi, hdt⟩ := hex
    rw [hfrA j i oi t (by omega) hij hoi hdt] at hx
    have hp := hpairF i j oi o hoi ho hij
    have htc : touch all oi o = true := by simp only [touch, hdt]; simpa using ht
    simp only [pairOkF, htc, Bool.and_eq_true, Bool.or_eq_true] at hp
    have hb : ((masks all.toList []).getD j 0).testBit i = true := by simpa using hp.2
    exact hD.slot1 i oi t x hoi (hbefore i hb) hdt hx
   ·rw [hfrB j t (by omega) (fun i oi hij hoi hdt => hex ⟨i, oi, hij, hoi, hdt⟩)] at hx
    refine hD.slot0 t x (fun i oi hoi hli hdt => ?_) hx
    rcases Nat.lt_trichotomy i j with h | h | h
    ·exact hex ⟨i, oi, h, hoi, hdt⟩
    ·subst h; rw [hju] at hli; simp at hli
    ·have hp := hpairF j i o oi ho hoi h
     have htc : touch all oi o = true := by simp only [touch, hdt]; simpa using ht
     have hb := hbehind i oi hoi hli
     simp only [pairOkF, htc, hb, Bool.and_eq_true, Bool.or_eq_true] at hp
     simp at hp
  let fr' := (σ j).fr.filter fun p => (o.looksAt all).contains p.1
  have hlk : ∀ t, look fr' t = if (o.looksAt all).contains t then look (σ j).fr t else none := fun t => look_filter (fun t => (o.looksAt all).contains t) (σ j).fr t
  have hS : ∀ (V : List (List CV)), Slots g w ⟨fr', V, (σ k0).A⟩ a := fun V t x hx => by
   simp only [hlk] at hx
   split at hx
   ·rename_i hc; exact hlooks t (by simpa using hc) x hx
   ·cases hx
  have hop : ∀ (V V' : List (List CV)) (A A' : List Arr), ∀ x ∈ o.op.operands.toList, aval ⟨fr', V, A⟩ x = aval ⟨(σ j).fr, V', A'⟩ x := fun V V' A A' x hx => by
   cases x with
   | tmp t =>
    simp only [aval, hlk]
    rw [if_pos]
    simp only [Oper.looksAt, List.contains_eq_mem, decide_eq_true_eq, List.mem_append, List.mem_filterMap]
    exact .inl ⟨.tmp t, hx, rfl⟩
   | _ => rfl
  have hRr : Rp n w0 g0 ⟨fr', (σ k0).V, (σ k0).A⟩ g a w := ⟨hD.inv, hD.fr, hD.size, hD.defers, hS _⟩
  -- the guard
  obtain ⟨⟨hgd, hst⟩, hor, _⟩ := htr j o ho
  have hgd' : gdo all ⟨fr', (σ k0).V, (σ k0).A⟩ o True True /\ gw all ⟨fr', (σ k0).V, (σ k0).A⟩ o = gw all (σ j) o := by
   unfold gdo gw at *
   cases hgg : o.guard with
   | none => simp
   | some jw =>
    obtain ⟨q, want⟩ := jw
    simp only [hgg] at hgd ⊢
    obtain ⟨oq, h1, h2⟩ := onv_some hgd
    obtain ⟨t, h3, h4⟩ := onv_some h2
    have : look fr' t = look (σ j).fr t := by
     rw [hlk, if_pos]
     simp only [Oper.looksAt, hgg, List.contains_eq_mem, decide_eq_true_eq, List.mem_append]
     exact .inr (by simp [h1, h3])
    simp only [h1, onv, h3, Option.bind_some, this] at h4 ⊢
    exact ⟨h4, trivial⟩
  have hwant : Region.wanted o (yielded all a.tmps) = gw all (σ j) o := by
   rw [<- hgd'.2]
   have h0 := gdo_mono hgd'.1
   -- both say the same
   have h1 := hgd'.1
   unfold gdo at h1
   unfold gw
   cases hgg : o.guard with
   | none => simp [Region.wanted, hgg]
   | some jw =>
    obtain ⟨q, want⟩ := jw
    simp only [hgg] at h1 ⊢
    obtain ⟨oq, h2, h3⟩ := onv_some h1
    obtain ⟨t, h4, h5⟩ := onv_some h3
    obtain ⟨x, h6, h7⟩ := onv_some h5
    obtain ⟨h8, h9⟩ := yielded_of hRr h2 h4 h6
    simp only [h2, Option.bind_some, h4, h6]
    split at h7
    ·rename_i b; simp [Region.wanted, hgg, h8 b rfl]
    ·simp [Region.wanted, hgg, h9 rfl]
    ·exact h7.elim
  -- the state behind it
  have hset : ∀ i, (listed.setIfInBounds j true)[i]? = if i = j then some true else listed[i]? := fun i => by
   by_cases e : i = j
   ·subst e; simp [hjl]
   ·rw [if_neg e, Array.getElem?_setIfInBounds_ne (fun h => e h.symm)]
  have hcount : ((List.range all.size).filter fun i => !(listed.setIfInBounds j true).getD i true).length <= fuel := by
   have hlt : ((List.range all.size).filter fun i => !(listed.setIfInBounds j true).getD i true).length < ((List.range all.size).filter fun i => !listed.getD i true).length := by
    have hsub : ∀ i, (!(listed.setIfInBounds j true).getD i true) = true -> (!listed.getD i true) = true := fun i h => by
     by_cases e : i = j
     ·subst e; simp [hjl] at h
     ·have : (listed.setIfInBounds j true).getD i true = listed.getD i true := by
       simp only [Array.getD_eq_getD_getElem?, hset, if_neg e]
      rwa [this] at h
    exact filter_lt hsub (List.mem_range.2 hjn) (by simp [hun]) (by simp [hjl])
   omega
  have hnext : ∀ (k1 : Nat) (x : AV) (v : Value) (w' : World) (g' : Gh), look (σ (j + 1)).fr = look ((σ j).put o.dst x [] []).fr -> RepV g' w' (σ k1).A x v -> Inv g' w' (σ k1).V (σ k1).A -> Ext g w (σ k0).A g' w' (σ k1).A -> Fr w0 g0 w' g' -> k1 <= all.size -> (k1 = 0 \/ ∃ i ∈ ws, k1 = i + 1) ->
    (∀ i ∈ ws, i < all.size -> ((listed.setIfInBounds j true)[i]? = some true ↔ i < k1)) -> DSF all ws σ n w0 g0 (listed.setIfInBounds j true) k1 g' (a.put o.dst v) w' := by
   intro k1 x v w' g' hfr hrv hI hx hF hk hkw hwp
   have hputs : ∀ t u, o.dst ≠ some t -> a.tmps[t]? = some u -> (a.put o.dst v).tmps[t]? = some u := fun t u hne hu => by
    cases hdd : o.dst with
    | none => exact hu
    | some d =>
     simp only [Act.put]
     rw [Array.getElem?_setIfInBounds_ne (fun e => hne (by rw [hdd, e]))]; exact hu
   refine ⟨hI, hF, ?_, ?_, by simp [hD.lsize], fun i oi t y hoi hli hdt hy => ?_, fun t y hno hy => ?_, hwp, hk, hkw, fun i oi hoi hli e he hb => ?_⟩
   ·cases o.dst <;> simp [Act.put, hD.size]
   ·cases o.dst <;> simp [Act.put, hD.defers]
   ·rw [hset] at hli
    by_cases e : i = j
    ·subst e
     obtain rfl : o = oi := by rw [ho] at hoi; exact Option.some.inj hoi
     rw [hfr] at hy
     simp only [St.put, hdt, look, if_true] at hy
     cases hy
     refine ⟨v, ?_, hrv⟩
     have : t < a.tmps.size := by rw [hD.size]; exact hdn i o t ho hdt
     simp [Act.put, hdt, this]
    ·rw [if_neg e] at hli
     obtain ⟨u, h1, h2⟩ := hD.slot1 i oi t y hoi hli hdt hy
     exact ⟨u, hputs t u (fun h => e (hdu i j oi o t hoi ho hdt h)) h1, RepV.ext hx h2⟩
   ·have hne : o.dst ≠ some t := hno j o ho (by rw [hset, if_pos rfl])
    obtain ⟨u, h1, h2⟩ := hD.slot0 t y (fun i oi hoi hli => hno i oi hoi (by
     rw [hset]
     by_cases e : i = j
     ·rw [if_pos e]
     ·rw [if_neg e]; exact hli)) hy
    exact ⟨u, hputs t u hne h1, RepV.ext hx h2⟩
   ·rw [hset] at hli ⊢
    have : listed[e.on]? = some true := by
     by_cases e' : i = j
     ·subst e'
      obtain rfl : o = oi := by rw [ho] at hoi; exact Option.some.inj hoi
      exact hafter' e he hb
     ·rw [if_neg e'] at hli
      exact hD.closed i oi hoi hli e he hb
    by_cases e' : e.on = j
    ·rw [if_pos e']
    ·rw [if_neg e']; exact this
  have hwp0 : j ∉ ws -> ∀ i ∈ ws, i < all.size -> ((listed.setIfInBounds j true)[i]? = some true ↔ i < k0) := fun hjw i hi hin => by
   rw [hset, if_neg (fun e => hjw (by rw [<- e]; exact hi))]
   exact hD.wprog i hi hin
  have hva : isS o.op = false -> j ∉ fs -> (σ j).V = (σ k0).V /\ (σ j).A = (σ k0).A := by
   intro hns hjf
   rcases Nat.le_total j k0 with h | h
   ·have := hVA k0 j h hD.kle (fun i h1 h2 h3 => by
     have hin : i < all.size := by have := hD.kle; omega
     have hli := (hD.wprog i h3 hin).2 h2
     have hoi : all[i]? = some all[i] := Array.getElem?_eq_getElem hin
     rcases Nat.lt_or_ge j i with h4 | h4
     ·have hp := hpair j i o _ ho hoi h4 hjf (hwf i h3)
      have hb := hbehind i _ hoi hli
      simp only [pairOk, hb, Bool.and_eq_true, Bool.or_eq_true] at hp
      simp [h3, hns] at hp
     ·obtain rfl : i = j := by omega
      rw [hju] at hli; simp at hli)
    exact ⟨this.1.symm, this.2.symm⟩
   ·exact hVA j k0 h (by omega) (fun i h1 h2 h3 => by
     have hin : i < all.size := by omega
     have hoi : all[i]? = some all[i] := Array.getElem?_eq_getElem hin
     have hp := hpair i j _ o hoi ho h2 (hwf i h3) hjf
     simp only [pairOk, Bool.and_eq_true, Bool.or_eq_true] at hp
     have hb : ((masks all.toList []).getD j 0).testBit i = true := by
      rcases hp.2 with h4 | h4
      ·simp [h3, hns] at h4
      ·exact h4
     have := (hD.wprog i h3 hin).1 (hbefore i hb)
     omega)
  -- carried out, or passed over
  unfold wpOp
  simp only [ho]
  rcases hst with ⟨h1, x, V, A, h2, h3, h3f⟩ | ⟨h1, h2⟩
  ·rw [if_pos (by rw [hwant, h1])]
   refine .inl ?_
   by_cases hs : isS o.op = true
   ·-- slots alone
    have hjw : j ∉ ws := fun h => by have := hws j o ho h; rw [hs] at this; simp at this
    have h4 : astep P ⟨fr', (σ k0).V, (σ k0).A⟩ (ow j) o (fun y V' A' => y = x /\ V' = (σ k0).V /\ A' = (σ k0).A) := astep_S (s := σ j) (s' := ⟨fr', (σ k0).V, (σ k0).A⟩) hs (hop _ _ _ _) h3 ⟨rfl, rfl, rfl⟩
    obtain ⟨y, V', A', ⟨rfl, rfl, rfl⟩, h5⟩ := astep_wp hRr.inv hRr.fr hRr.slot h4
    refine h5 _ _ fun v w' g' h6 h7 h8 h9 => ih _ k0 g' _ w' hcount (hnext k0 y v w' g' (by rw [h2]; rfl) h6 h7 h8 h9 hD.kle hD.kw (hwp0 hjw))
   ·have hns : isS o.op = false := by simpa using hs
    by_cases hjf : j ∈ fs
    ·have hjw : j ∉ ws := fun h => hwf j h hjf
     have hk0m : k0 <= m := by
      rcases hD.kw with h | ⟨i, hi, hk⟩
      ·omega
      ·rcases Nat.lt_or_ge i m with h | h
       ·omega
       ·exfalso
        have hin : i < all.size := by have := hD.kle; omega
        have hoi : all[i]? = some all[i] := Array.getElem?_eq_getElem hin
        have hli := (hD.wprog i hi hin).2 (by omega)
        have hji : j < i := by
         have := hd5 j hjf i hi
         simp at this; omega
        have hp := hpairF j i o _ ho hoi hji
        have hb := hbehind i _ hoi hli
        have hnm : ¬ i < m := by omega
        simp only [pairOkF, hb, Bool.and_eq_true, Bool.or_eq_true] at hp
        simp [hi, hns, hnm, hjf, hjw] at hp
     obtain ⟨hp1, hp2⟩ := hpre k0 hk0m hD.kle
     have h4 : astep P ⟨fr', (σ k0).V, (σ k0).A⟩ (ow j) o (fun y V' A' => y = x /\ V' = (σ k0).V /\ A' = (σ k0).A) := by
      have h5 := h3f hjf (fun i => (σ k0).V.getD i []) (fun i => (σ k0).A.getD i arr0) ((σ k0).V.drop V0.length) ((σ k0).A.drop A0.length)
      have e1 : exV ex (fun i => (σ k0).V.getD i []) V0 ++ (σ k0).V.drop V0.length = (σ k0).V := by
       rw [<- hp1]; exact List.take_append_drop _ _
      have e2 : exA exa (fun i => (σ k0).A.getD i arr0) A0 ++ (σ k0).A.drop A0.length = (σ k0).A := by
       rw [<- hp2]; exact List.take_append_drop _ _
      rw [e1, e2] at h5
      exact astep_congr (fr := (σ j).fr) (hop _ _ _ _) h5
     obtain ⟨y, V', A', ⟨rfl, rfl, rfl⟩, h5⟩ := astep_wp hRr.inv hRr.fr hRr.slot h4
     exact h5 _ _ fun v w' g' h6 h7 h8 h9 => ih _ k0 g' _ w' hcount (hnext k0 y v w' g' (by rw [h2]; rfl) h6 h7 h8 h9 hD.kle hD.kw (hwp0 hjw))
    obtain ⟨hv1, hv2⟩ := hva hns hjf
    have h4 : astep P ⟨fr', (σ k0).V, (σ k0).A⟩ (ow j) o (fun y V' A' => y = x /\ V' = V /\ A' = A) := by
     rw [<- hv1, <- hv2]
     exact astep_congr (fr := (σ j).fr) (hop _ _ _ _) (h3 _ ⟨rfl, rfl, rfl⟩)
    obtain ⟨y, V', A', ⟨rfl, rfl, rfl⟩, h5⟩ := astep_wp hRr.inv hRr.fr hRr.slot h4
    have hVj : (σ (j + 1)).V = V' := by rw [h2]; rfl
    have hAj : (σ (j + 1)).A = A' := by rw [h2]; rfl
    by_cases hjw : j ∈ ws
    ·refine h5 _ _ fun v w' g' h6 h7 h8 h9 => ih _ (j + 1) g' _ w' hcount (hnext (j + 1) y v w' g' (by rw [h2]; rfl) (by rw [hAj]; exact h6) (by rw [hVj, hAj]; exact h7) (by rw [hAj]; exact h8) h9 (by omega) (.inr ⟨j, hjw, rfl⟩) (fun i hi hin => ?_))
     have hoi : all[i]? = some all[i] := Array.getElem?_eq_getElem hin
     rw [hset]
     by_cases e : i = j
     ·subst e; simp
     ·rw [if_neg e]
      constructor
      ·intro hli
       rcases Nat.lt_or_ge j i with h | h
       ·have hp := hpair j i o _ ho hoi h (hwf j hjw) (hwf i hi)
        have hb := hbehind i _ hoi hli
        simp only [pairOk, hb, Bool.and_eq_true, Bool.or_eq_true] at hp
        simp [hi, hns] at hp
       ·omega
      ·intro hlt
       have hp := hpair i j _ o hoi ho (by omega) (hwf i hi) (hwf j hjw)
       simp only [pairOk, Bool.and_eq_true, Bool.or_eq_true] at hp
       rcases hp.2 with h | h
       ·simp [hi, hns] at h
       ·exact hbefore i h
    ·rcases hor with hor | ⟨ho1, ho2⟩
     ·exact absurd hor hjw
     ·refine h5 _ _ fun v w' g' h6 h7 h8 h9 => ih _ k0 g' _ w' hcount (hnext k0 y v w' g' (by rw [h2]; rfl) ?_ ?_ ?_ h9 hD.kle hD.kw (hwp0 hjw))
      ·rw [<- hv2, <- ho2, hAj]; exact h6
      ·rw [<- hv1, <- hv2, <- ho1, <- ho2, hVj, hAj]; exact h7
      ·have e1 : (σ k0).A = A' := by rw [<- hv2, <- ho2, hAj]
       rw [e1] at h8 ⊢; exact h8
  ·rw [if_neg (by rw [hwant, h1]; simp)]
   have hVj : (σ (j + 1)).V = (σ j).V := by rw [h2]; rfl
   have hAj : (σ (j + 1)).A = (σ j).A := by rw [h2]; rfl
   by_cases hjw : j ∈ ws
   ·have hns := hws j o ho hjw
    obtain ⟨hv1, hv2⟩ := hva hns (hwf j hjw)
    refine ih _ (j + 1) g _ w hcount (hnext (j + 1) (.c .undef) undef w g (by rw [h2]; rfl) rfl ?_ ?_ hD.fr (by omega) (.inr ⟨j, hjw, rfl⟩) (fun i hi hin => ?_))
    ·rw [hVj, hAj, hv1, hv2]; exact hD.inv
    ·rw [hAj, hv2]; exact .refl _ _ _
    ·have hoi : all[i]? = some all[i] := Array.getElem?_eq_getElem hin
     rw [hset]
     by_cases e : i = j
     ·subst e; simp
     ·rw [if_neg e]
      constructor
      ·intro hli
       rcases Nat.lt_or_ge j i with h | h
       ·have hp := hpair j i o _ ho hoi h (hwf j hjw) (hwf i hi)
        have hb := hbehind i _ hoi hli
        simp only [pairOk, hb, Bool.and_eq_true, Bool.or_eq_true] at hp
        simp [hi, hns] at hp
       ·omega
      ·intro hlt
       have hp := hpair i j _ o hoi ho (by omega) (hwf i hi) (hwf j hjw)
       simp only [pairOk, Bool.and_eq_true, Bool.or_eq_true] at hp
       rcases hp.2 with h | h
       ·simp [hi, hns] at h
       ·exact hbefore i h
   ·exact ih _ k0 g _ w hcount (hnext k0 (.c .undef) undef w g (by rw [h2]; rfl) rfl hD.inv (.refl _ _ _) hD.fr hD.kle hD.kw (hwp0 hjw))

theorem T.region_drawG {id : Nat} {ops : Array Oper} (hm : P.follows .mixedOrders = true) (ow : Nat -> Bool) (ws fs : List Nat) (m : Nat) (ex exa : List Nat) (hd : drawOkF ops ws fs m = true) (h : aopsG P ops ow ws fs m ex exa s.V s.A (fun s' => Q .normal s') 0 ops.toList s) : T P n (.region id ops true) Q s := by
 intro hok w0 g0 g a w hR
 obtain ⟨σ, h0, hK, htr⟩ := aopsG_trace ops.toList 0 s h
 obtain ⟨hI, hx⟩ := hR.inv.heap (w' := { w with drawn := w.drawn + 1 }) rfl
 refine wp_region_any hm (drawG_sound (ex := ex) (exa := exa) (K := fun s' => Q .normal s') (w0 := w0) (g0 := g0) (n := n) (σ := σ) (ow := ow) hd hok (fun j o ho => ?_) ⟨by rw [h0], by rw [h0]⟩ ?_ (fun s' g' a' w' h1 h2 => ⟨s', g', h1, h2⟩) ops.size (Array.replicate ops.size false) 0 g a _ ?_ ?_)
 ·have := htr j o (by simpa using ho)
  simpa only [Nat.zero_add] using this
 ·simpa using hK
 ·exact Nat.le_trans (List.length_filter_le _ _) (by simp)
 ·refine ⟨by rw [h0]; exact hI, hR.fr.heap rfl rfl rfl rfl, hR.size, hR.defers, by simp, fun i o t x ho hl => ?_, fun t x _ hx' => ?_, fun i _ hin => ?_, Nat.zero_le _, .inl rfl, fun i o ho hl => ?_⟩
  ·have hi := (Array.getElem?_eq_some_iff.1 ho).1
   simp [hi] at hl
  ·rw [h0] at hx' ⊢
   obtain ⟨u, h1, h2⟩ := hR.slot t x hx'
   exact ⟨u, h1, RepV.ext hx h2⟩
  ·simp [hin]
  ·have hi := (Array.getElem?_eq_some_iff.1 ho).1
   simp [hi] at hl
end
section
variable {P : Program} {n : Nat} {Q : Exit -> St -> Prop} {s s' : St} {y : Code}
structure OpsG (P : Program) (all : Array Oper) (ow : Nat -> Bool) (ws fs : List Nat) (m : Nat) (ex exa : List Nat) (V0 : List (List CV)) (A0 : List Arr) (K : St -> Prop) (i : Nat) (ops : List Oper) (s : St) : Prop where
 mk ::
 run : aopsG P all ow ws fs m ex exa V0 A0 K i ops s

theorem aopsG_go {all : Array Oper} {ow : Nat -> Bool} {ws fs : List Nat} {m : Nat} {ex exa : List Nat} {V0 : List (List CV)} {A0 : List Arr} {K : St -> Prop} {i : Nat} {o : Oper} {rest : List Oper}
  (h : gdo all s o (astep P s (ow i) o fun x V A => (i ∈ ws \/ (V = s.V /\ A = s.A)) /\ (i ∈ ws -> i < m -> V.take V0.length = exV ex (fun i => V.getD i []) V0 /\ A.take A0.length = exA exa (fun i => A.getD i arr0) A0) /\ (i ∈ fs -> freeStepG P s (ow i) o ex exa V0 A0 x) /\ OpsG P all ow ws fs m ex exa V0 A0 K (i + 1) rest (s.put o.dst x V A)) (OpsG P all ow ws fs m ex exa V0 A0 K (i + 1) rest (s.put o.dst (.c .undef) s.V s.A))) : OpsG P all ow ws fs m ex exa V0 A0 K i (o :: rest) s :=
 ⟨gdo_map (fun h => astep_map (fun _ _ _ h => ⟨h.1, h.2.1, h.2.2.1, h.2.2.2.run⟩) h) (fun h => h.run) h⟩
theorem aopsG_end {all : Array Oper} {ow : Nat -> Bool} {ws fs : List Nat} {m : Nat} {ex exa : List Nat} {V0 : List (List CV)} {A0 : List Arr} {K : St -> Prop} {i : Nat} (h : K s) : OpsG P all ow ws fs m ex exa V0 A0 K i [] s := ⟨h⟩

theorem T.rdG {id : Nat} {l : List Oper} (hm : P.follows .mixedOrders = true) (ow : Nat -> Bool) (ws fs : List Nat) (m : Nat) (ex exa : List Nat) (hd : drawOkF l.toArray ws fs m = true) (h : ∀ K : St -> Prop, (∀ s', T P n y Q s' -> K s') -> OpsG P l.toArray ow ws fs m ex exa s.V s.A K 0 l s) : T P n (.seq (.region id l.toArray true) y) Q s :=
 T.seq (T.region_drawG hm ow ws fs m ex exa hd (h _ fun _ h => h).run)
theorem T.rdG1 {id : Nat} {l : List Oper} (hm : P.follows .mixedOrders = true) (ow : Nat -> Bool) (ws fs : List Nat) (m : Nat) (ex exa : List Nat) (hd : drawOkF l.toArray ws fs m = true) (h : ∀ K : St -> Prop, (∀ s', Q .normal s' -> K s') -> OpsG P l.toArray ow ws fs m ex exa s.V s.A K 0 l s) : T P n (.region id l.toArray true) Q s :=
 T.region_drawG hm ow ws fs m ex exa hd (h _ fun _ h => h).run

@[congr] theorem aopsG_cong {all : Array Oper} {ow : Nat -> Bool} {ws fs : List Nat} {m : Nat} {ex exa : List Nat} {V0 : List (List CV)} {A0 : List Arr} {K : St -> Prop} {i i' : Nat} {ops : List Oper} (hi : i = i') (h : s = s') : OpsG P all ow ws fs m ex exa V0 A0 K i ops s = OpsG P all ow ws fs m ex exa V0 A0 K i' ops s' := by rw [h, hi]

theorem OpsG.gen {all : Array Oper} {ow : Nat -> Bool} {ws fs : List Nat} {m : Nat} {ex exa : List Nat} {V0 : List (List CV)} {A0 : List Arr} {K : St -> Prop} {i : Nat} {ops : List Oper} {d : Nat} {b : Bool} {fr : List (Nat × AV)} {V : List (List CV)} {A : List Arr}
  (h : ∀ q : Bool, b = q -> OpsG P all ow ws fs m ex exa V0 A0 K i ops ⟨(d, .c (.d (.bool q))) :: fr, V, A⟩) : OpsG P all ow ws fs m ex exa V0 A0 K i ops ⟨(d, .c (.d (.bool b))) :: fr, V, A⟩ := h b rfl
end
end
attribute [simp] freeStepG exA
end Go.Av

namespace Go.Av
open Go
theorem Some_.elim {P : Program} {f : FuncId} {as : List AV} {α : Type} {enc : α -> AV} {arr : α -> List Arr} {good : α -> Prop} (h : Some_ P f as (RV enc arr good)) : ∃ x, good x /\ ACalls P f as [] (enc x) [] (arr x) := by
 obtain ⟨v, V, A, ⟨rfl, x, ⟨rfl, rfl⟩, hg⟩, hc⟩ := h
 exact ⟨x, hg, hc⟩

end Go.Av

namespace Go.Av
open Go
section
variable {P : Program} {s : St} {f : FuncId} {xs as : List AV} {K : AV -> List (List CV) -> List Arr -> Prop} {r : AV}
theorem DoneG.g {fn : Func} {e : Exit} {m a : Nat} {V' : List (List CV)} {A' : List Arr} {ys : List AV} (he : e = .normal \/ e = .ret) (hr : (ares P s fn.results.toList).bind (resAs s.A (List.range m) (List.range a)) = some ys) (h1 : one ys = r)
  (hV : resVs s.A s.V (List.range m) (List.range a) (List.range m) = some V') (hA : getAs s.A (List.range a) = some A') : DoneG P fn m a r V' A' e s := by
 obtain ⟨xs, hxs, hys⟩ := Option.bind_eq_some_iff.1 hr
 exact ⟨he, [], List.range a, xs, ys, ⟨[], by simp⟩, hxs, List.nodup_range, by simp, by simp, by simpa using hys, h1.symm, by simpa using hV, hA⟩
theorem DoneG.one {fn : Func} {e : Exit} {A' : Arr} (he : e = .normal \/ e = .ret) (hr : (ares P s fn.results.toList).bind (resAs s.A [] [0]) = some [r]) (hA : s.A[0]? = some A') : DoneG P fn 0 1 r [] [A'] e s :=
 DoneG.g he hr rfl rfl (by simp [getAs, hA, List.range_succ])
end
attribute [simp] innAsH AV.innH CV.innH innHs AV.outnH CV.outnH
end Go.Av

namespace Go.Av
open Go

section
variable {P : Program} {n : Nat} {Q : Exit -> St -> Prop} {s s' : St} {y : Code}

structure OpsH (P : Program) (all : Array Oper) (ow : Nat -> Bool) (wv wa fs : List Nat) (m : Nat) (ex : List Nat) (V0 : List (List CV)) (A0 : List Arr) (K : St -> Prop) (i : Nat) (ops : List Oper) (s : St) : Prop where
 mk ::
 run : aopsH P all ow wv wa fs m ex V0 A0 K i ops s

@[congr] theorem aopsH_cong {all : Array Oper} {ow : Nat -> Bool} {wv wa fs : List Nat} {m : Nat} {ex : List Nat} {V0 : List (List CV)} {A0 : List Arr} {K : St -> Prop} {i i' : Nat} {ops : List Oper} (hi : i = i') (h : s = s') : OpsH P all ow wv wa fs m ex V0 A0 K i ops s = OpsH P all ow wv wa fs m ex V0 A0 K i' ops s' := by rw [h, hi]

theorem OpsH.gen {all : Array Oper} {ow : Nat -> Bool} {wv wa fs : List Nat} {m : Nat} {ex : List Nat} {V0 : List (List CV)} {A0 : List Arr} {K : St -> Prop} {i : Nat} {ops : List Oper} {d : Nat} {b : Bool} {fr : List (Nat × AV)} {V : List (List CV)} {A : List Arr}
  (h : ∀ q : Bool, b = q -> OpsH P all ow wv wa fs m ex V0 A0 K i ops ⟨(d, .c (.d (.bool q))) :: fr, V, A⟩) : OpsH P all ow wv wa fs m ex V0 A0 K i ops ⟨(d, .c (.d (.bool b))) :: fr, V, A⟩ := h b rfl
end
end Go.Av

namespace Go.Av
open Go
theorem ACalls.sealed {P : Program} {f : FuncId} {as : List AV} {n : Nat} {a : Arr} (h : ACalls P f as [] (.c (.own 0 n)) [] [a]) (hn : n = a.rows.length) : ACalls P f as [] (.c (.d (.sl a.rows))) [] [] := by
 obtain ⟨h1, h2, h3⟩ := h
 refine ⟨h1, h2, fun g w vs har hI hT hs hr => (h3 g w vs har hI hT hs hr).mono ?_⟩
 rintro e w' ⟨v, g', rfl, hv, hI', hF⟩
 have hd : toD [a] (.own 0 n) = some (.sl a.rows) := by simp [toD, hn]
 obtain ⟨g2, i1, i2, i3, i4, i5, i6⟩ := seal_one hI' hF (show RepC g' w' [a] (.own 0 n) v from hv) hd
 refine ⟨v, { g2 with ar := [] }, rfl, i6, ⟨i1.obl, rfl, fun l row b h => by simp at h, fun k r v h => by simp at h, i1.obob, fun k k' v v' b h => by simp at h, fun l k v b _ h => by simp at h, i1.fresh⟩,
  ⟨i3.os, i3.tape, i3.output, i3.size, i3.blk, i3.imeq, i3.ob, fun k v b h => by simp at h, fun k v h => by rw [har] at h; simp at h, i3.tab⟩⟩
end Go.Av

namespace Go.Av
open Go
section
variable {P : Program} {g g' g0 : Gh} {w w' w0 : World} {V V' : List (List CV)} {A A' : List Arr}
end
end Go.Av

namespace Go.Av
attribute [-simp] Go.Av.freeStepG Go.Av.exA Go.Av.innAsH Go.Av.AV.innH Go.Av.CV.innH Go.Av.innHs Go.Av.AV.outnH Go.Av.CV.outnH
open Go

mutual
def nodesM : MTm -> Nat
 | .mk _ _ _ _ _ _ l => 1 + nodesS l
def nodesS : List MTm -> Nat
 | [] => 0
 | e :: r => nodesM e + nodesS r
end
theorem nodesS_sum : ∀ (l : List MTm), nodesS l = (l.map nodesM).sum
 | [] => rfl
 | e :: r => by simp [nodesS, nodesS_sum r]
theorem nodesM_def (e : MTm) : nodesM e = 1 + (e.kids.map nodesM).sum := by cases e; simp only [nodesM, nodesS_sum]; rfl
theorem nodesM_pos (e : MTm) : 1 <= nodesM e := by rw [nodesM_def]; omega
theorem count_nodes {nt : Int} : ∀ {d : Nat} {e : MTm}, shapeTm nt d e = true -> ∀ {n : Nat}, d <= n -> countTm n e = nodesM e
 | 0, e, h, _, _ => by simp [shapeTm] at h
 | d + 1, e, h, n, hn => by
  obtain ⟨n, rfl⟩ : ∃ j, n = j + 1 := ⟨n - 1, by omega⟩
  simp only [shapeTm, Bool.and_eq_true, List.all_eq_true] at h
  rw [nodesM_def]
  simp only [countTm]
  congr 2
  refine List.map_congr_left fun u hu => count_nodes (h.2 u hu) (by omega)

theorem termValidM_iff {e : MTm} : termValidM e = true ↔ TmV 14 12 e /\ nodesM e <= 30 := by
 simp only [termValidM, Bool.and_eq_true, decide_eq_true_eq]
 refine ⟨fun h => ⟨TmV.of h.1, ?_⟩, fun h => ⟨h.1.shape, ?_⟩⟩
 ·rw [<- count_nodes h.1 (Nat.le_refl _)]; exact h.2
 ·rw [count_nodes h.1.shape (Nat.le_refl _)]; exact h.2
theorem castValidM_iff {e : MTm} : castValidM e = true ↔ TmV 13 40 e /\ nodesM e <= 200 := by
 simp only [castValidM, Bool.and_eq_true, decide_eq_true_eq]
 refine ⟨fun h => ⟨TmV.of h.1, ?_⟩, fun h => ⟨h.1.shape, ?_⟩⟩
 ·rw [<- count_nodes h.1 (Nat.le_refl _)]; exact h.2
 ·rw [count_nodes h.1.shape (Nat.le_refl _)]; exact h.2
theorem nodesM_kid {e u : MTm} (hu : u ∈ e.kids) : nodesM u < nodesM e := by
 rw [nodesM_def e]
 have : ∀ l : List MTm, u ∈ l -> nodesM u <= (l.map nodesM).sum := by
  intro l
  induction l with
  | nil => intro h; simp at h
  | cons x r ih => intro h; simp only [List.mem_cons] at h; rcases h with rfl | h <;> simp only [List.map_cons, List.sum_cons]; omega; have := ih h; omega
 have := this _ hu
 omega
inductive CaV (n : Int) (e : MTm) (f t : MTy) : MTm -> Int -> Prop
 | same : f = t -> CaV n e f t e n
 | cast : f ≠ t -> CaV n e f t (tCast e f t (n + 1)) (n + 1)
theorem CaV.of (n : Int) (e : MTm) (f t : MTy) : CaV n e f t (castM n e f t).1 (castM n e f t).2 := by
 simp only [castM]
 by_cases h : sameTy f t = true
 ·rw [if_pos h]; exact .same (sameTy_iff.1 h)
 ·rw [if_neg h]; exact .cast fun e => h (sameTy_iff.2 e)

inductive EV : List MBd -> MTm -> Int -> MTm -> MTy -> Int -> Prop
 | var {c : List MBd} {s : List UInt8} {t : MTy} {n : Int} : lookM c s = some t -> EV c (tVar s) n (tVar s) t n
 | num {c : List MBd} {k n : Int} : EV c (tNum k) n (tNum k) intT n
 | tru {c : List MBd} {n : Int} : EV c tTrue n tTrue boolT n
 | fls {c : List MBd} {n : Int} : EV c tFalse n tFalse boolT n
 | lam {c : List MBd} {s : List UInt8} {u t : MTy} {b b' : MTm} {n m : Int} : EV (c ++ [⟨s, u⟩]) b n b' t m -> shapeTy 4 (.mk 4 [u, t]) = true -> EV c (tLam s u b) n (tLam s u b') (.mk 4 [u, t]) m
 | app {c : List MBd} {a b a' b' a2 b2 : MTm} {ta tb x y : MTy} {n n1 n2 n3 n4 : Int} : EV c a n a' ta n1 -> EV c b n1 b' tb n2 -> matchM 4 ta = some (x, y) -> consTy tb x = true ->
   CaV n2 a' ta (.mk 4 [x, y]) a2 n3 -> CaV n3 b' tb x b2 n4 -> EV c (tN2 6 a b) n (tN2 6 a2 b2) y n4
 | op {c : List MBd} {k : Int} {a b a' b' a2 b2 : MTm} {ta tb t : MTy} {n n1 n2 n3 n4 : Int} : (k = 7 /\ t = intT \/ k = 8 /\ t = boolT) -> EV c a n a' ta n1 -> EV c b n1 b' tb n2 -> consTy ta intT = true -> consTy tb intT = true ->
   CaV n2 a' ta intT a2 n3 -> CaV n3 b' tb intT b2 n4 -> EV c (tN2 k a b) n (tN2 k a2 b2) t n4
 | ite {c : List MBd} {p a b p' a' b' p2 a2 b2 : MTm} {tp ta tb : MTy} {n n1 n2 n3 n4 n5 n6 : Int} : EV c p n p' tp n1 -> EV c a n1 a' ta n2 -> EV c b n2 b' tb n3 -> consTy tp boolT = true -> consTy ta tb = true ->
   CaV n3 p' tp boolT p2 n4 -> CaV n4 a' ta (meetTy ta tb) a2 n5 -> CaV n5 b' tb (meetTy ta tb) b2 n6 -> EV c (tIf p a b) n (tIf p2 a2 b2) (meetTy ta tb) n6
 | pair {c : List MBd} {a b a' b' : MTm} {ta tb : MTy} {n n1 n2 : Int} : EV c a n a' ta n1 -> EV c b n1 b' tb n2 -> shapeTy 4 (.mk 5 [ta, tb]) = true -> EV c (tN2 10 a b) n (tN2 10 a' b') (.mk 5 [ta, tb]) n2
 | sel {c : List MBd} {k : Int} {a a' a2 : MTm} {ta x y t : MTy} {n n1 n2 : Int} : (k = 11 /\ t = x \/ k = 12 /\ t = y) -> EV c a n a' ta n1 -> matchM 5 ta = some (x, y) -> CaV n1 a' ta (.mk 5 [x, y]) a2 n2 -> EV c (tN1 k a) n (tN1 k a2) t n2
 | asc {c : List MBd} {a a' a2 : MTm} {ta t : MTy} {n n1 n2 : Int} : EV c a n a' ta n1 -> consTy ta t = true -> CaV n1 a' ta t a2 n2 -> EV c (tAs a t) n a2 t n2

theorem elabS_one {c : List MBd} {a : MTm} {n m : Int} {es : List MTm} {ts : List MTy} (h : elabS c [a] n = (some (es, ts), m)) : ∃ a' ta, elabM c a n = (some (a', ta), m) /\ es = [a'] /\ ts = [ta] := by
 simp only [elabS] at h
 cases he : elabM c a n with
 | mk o k =>
  rw [he] at h
  cases o with
  | none => simp [consE] at h
  | some p => obtain ⟨x, t⟩ := p; simp [consE] at h; obtain ⟨⟨rfl, rfl⟩, rfl⟩ := h; exact ⟨x, t, rfl, rfl, rfl⟩
theorem elabS_cons {c : List MBd} {a : MTm} {r : List MTm} {n m : Int} {es : List MTm} {ts : List MTy} (h : elabS c (a :: r) n = (some (es, ts), m)) :
  ∃ a' ta k es' ts', elabM c a n = (some (a', ta), k) /\ elabS c r k = (some (es', ts'), m) /\ es = a' :: es' /\ ts = ta :: ts' := by
 rw [elabS] at h
 cases he : elabM c a n with
 | mk o k =>
  rw [he] at h
  cases o with
  | none => simp [consE] at h
  | some p =>
   obtain ⟨x, t⟩ := p
   simp only [consE] at h
   cases hr : elabS c r k with
   | mk o2 k2 =>
    rw [hr] at h
    cases o2 with
    | none => simp at h
    | some q => obtain ⟨xs, us⟩ := q; simp at h; obtain ⟨⟨rfl, rfl⟩, rfl⟩ := h; exact ⟨x, t, k, xs, us, rfl, hr, rfl, rfl⟩

theorem finM_some {c : List MBd} {k : Int} {s : List UInt8} {i : Int} {ty fr : MTy} {lb : Int} {o : Option (List MTm × List MTy) × Int} {e' : MTm} {t : MTy} {m : Int} (h : finM c k s i ty fr lb o = (some (e', t), m)) :
  ∃ es ts n ws, o = (some (es, ts), n) /\ wantM c k s ty ts = some (ws, t) /\ shapeTy 4 t = true /\ m = (castS n es ts ws).2 /\ (k ≠ 13 -> e' = .mk k s i ty fr lb (castS n es ts ws).1) /\ (k = 13 -> (castS n es ts ws).1.head? = some e') := by
 obtain ⟨o, n⟩ := o
 cases o with
 | none => simp [finM] at h
 | some p =>
  obtain ⟨es, ts⟩ := p
  simp only [finM] at h
  cases hw : wantM c k s ty ts with
  | none => rw [hw] at h; simp at h
  | some q =>
   obtain ⟨ws, t'⟩ := q
   rw [hw] at h
   simp only at h
   by_cases hs : shapeTy 4 t' = true
   ·rw [if_pos hs] at h
    by_cases h13 : k = 13
    ·rw [if_pos h13] at h
     simp only [Prod.mk.injEq, Option.map_eq_some_iff] at h
     obtain ⟨⟨x, hx, rfl, rfl⟩, rfl⟩ := h
     exact ⟨es, ts, n, ws, rfl, hw, hs, rfl, fun h => absurd h13 h, fun _ => hx⟩
    ·rw [if_neg h13] at h
     simp only [Prod.mk.injEq, Option.some.injEq] at h
     obtain ⟨⟨rfl, rfl⟩, rfl⟩ := h
     exact ⟨es, ts, n, ws, rfl, hw, hs, rfl, fun _ => rfl, fun h => absurd h h13⟩
   ·rw [if_neg hs] at h; simp at h

theorem EV.of {d : Nat} {e : MTm} (hv : TmV 14 d e) : ∀ {c : List MBd} {n : Int} {e' : MTm} {t : MTy} {m : Int}, elabM c e n = (some (e', t), m) -> EV c e n e' t m := by
 induction hv with
 | @var d s _ hs =>
  intro c n e' t m h
  simp only [elabM, elabS] at h
  obtain ⟨es, ts, n', ws, ho, hw, hst, rfl, h1, _⟩ := finM_some h
  simp at ho; obtain ⟨⟨rfl, rfl⟩, rfl⟩ := ho
  simp only [wantM, if_true, Option.map_eq_some_iff, Prod.mk.injEq] at hw
  obtain ⟨t', hl, rfl, rfl⟩ := hw
  rw [h1 (by omega)]
  exact .var hl
 | num _ _ _ =>
  intro c n e' t m h
  simp only [elabM, elabS] at h
  obtain ⟨es, ts, n', ws, ho, hw, hst, rfl, h1, _⟩ := finM_some h
  simp at ho; obtain ⟨⟨rfl, rfl⟩, rfl⟩ := ho
  simp [wantM] at hw; obtain ⟨rfl, rfl⟩ := hw
  rw [h1 (by omega)]
  exact .num
 | tru _ =>
  intro c n e' t m h
  simp only [elabM, elabS] at h
  obtain ⟨es, ts, n', ws, ho, hw, hst, rfl, h1, _⟩ := finM_some h
  simp at ho; obtain ⟨⟨rfl, rfl⟩, rfl⟩ := ho
  simp [wantM] at hw; obtain ⟨rfl, rfl⟩ := hw
  rw [h1 (by omega)]
  exact .tru
 | fls _ =>
  intro c n e' t m h
  simp only [elabM, elabS] at h
  obtain ⟨es, ts, n', ws, ho, hw, hst, rfl, h1, _⟩ := finM_some h
  simp at ho; obtain ⟨⟨rfl, rfl⟩, rfl⟩ := ho
  simp [wantM] at hw; obtain ⟨rfl, rfl⟩ := hw
  rw [h1 (by omega)]
  exact .fls
 | @lam d s u b _ hs hu hb ih =>
  intro c n e' t m h
  simp only [elabM, if_true] at h
  obtain ⟨es, ts, n', ws, ho, hw, hst, rfl, h1, _⟩ := finM_some h
  obtain ⟨b', tb, hb', rfl, rfl⟩ := elabS_one ho
  simp [wantM] at hw; obtain ⟨rfl, rfl⟩ := hw
  rw [h1 (by omega)]
  exact .lam (ih hb') hst
 | @n2 d k a b _ hk ha hb iha ihb =>
  intro c n e' t m h
  have h5 : k ≠ 5 := by omega
  simp only [elabM, if_neg h5] at h
  obtain ⟨es, ts, n', ws, ho, hw, hst, rfl, h1, _⟩ := finM_some h
  obtain ⟨a', ta, k1, es', ts', ha', hr, rfl, rfl⟩ := elabS_cons ho
  obtain ⟨b', tb, hb', rfl, rfl⟩ := elabS_one hr
  have h1' := h1 (by omega)
  have e1 := iha ha'
  have e2 := ihb hb'
  rcases hk with rfl | rfl | rfl | rfl
  ·simp only [wantM] at hw
   simp only [show ¬ ((6 : Int) = 1) by omega, show ¬ ((6 : Int) = 2) by omega, show ¬ ((6 : Int) = 3 \/ (6 : Int) = 4) by omega, if_false, if_true] at hw
   cases hm : matchM 4 ta with
   | none => rw [hm] at hw; simp at hw
   | some p =>
    obtain ⟨x, y⟩ := p
    rw [hm] at hw
    simp only at hw
    by_cases hq : consTy tb x = true
    ·rw [if_pos hq] at hw
     simp at hw; obtain ⟨rfl, rfl⟩ := hw
     rw [h1']
     exact .app e1 e2 hm hq (CaV.of ..) (CaV.of ..)
    ·rw [if_neg hq] at hw; simp at hw
  ·simp [wantM] at hw
   obtain ⟨⟨q1, q2⟩, rfl, rfl⟩ := hw
   rw [h1']
   exact .op (.inl ⟨rfl, rfl⟩) e1 e2 q1 q2 (CaV.of ..) (CaV.of ..)
  ·simp [wantM] at hw
   obtain ⟨⟨q1, q2⟩, rfl, rfl⟩ := hw
   rw [h1']
   exact .op (.inr ⟨rfl, rfl⟩) e1 e2 q1 q2 (CaV.of ..) (CaV.of ..)
  ·simp [wantM] at hw
   obtain ⟨rfl, rfl⟩ := hw
   rw [h1']
   exact .pair e1 e2 hst
 | @ite d p a b _ hp ha hb ihp iha ihb =>
  intro c n e' t m h
  simp only [elabM, show ¬ ((9 : Int) = 5) by omega, if_false] at h
  obtain ⟨es, ts, n', ws, ho, hw, hst, rfl, h1, _⟩ := finM_some h
  obtain ⟨p', tp, k1, es1, ts1, hp', hr1, rfl, rfl⟩ := elabS_cons ho
  obtain ⟨a', ta, k2, es2, ts2, ha', hr2, rfl, rfl⟩ := elabS_cons hr1
  obtain ⟨b', tb, hb', rfl, rfl⟩ := elabS_one hr2
  simp [wantM] at hw
  obtain ⟨⟨q1, q2⟩, rfl, rfl⟩ := hw
  rw [h1 (by omega)]
  exact .ite (ihp hp') (iha ha') (ihb hb') q1 q2 (CaV.of ..) (CaV.of ..) (CaV.of ..)
 | @n1 d k a _ hk ha ih =>
  intro c n e' t m h
  have h5 : k ≠ 5 := by omega
  simp only [elabM, if_neg h5] at h
  obtain ⟨es, ts, n', ws, ho, hw, hst, rfl, h1, _⟩ := finM_some h
  obtain ⟨a', ta, ha', rfl, rfl⟩ := elabS_one ho
  rw [h1 (by omega)]
  cases hm : matchM 5 ta with
  | none => rcases hk with rfl | rfl <;> simp [wantM, hm] at hw
  | some p =>
   obtain ⟨x, y⟩ := p
   rcases hk with rfl | rfl
   ·simp [wantM, hm] at hw
    obtain ⟨rfl, rfl⟩ := hw
    exact .sel (.inl ⟨rfl, rfl⟩) (ih ha') hm (CaV.of ..)
   ·simp [wantM, hm] at hw
    obtain ⟨rfl, rfl⟩ := hw
    exact .sel (.inr ⟨rfl, rfl⟩) (ih ha') hm (CaV.of ..)
 | @asc d ty a _ hty ha ih =>
  intro c n e' t m h
  simp only [elabM, show ¬ ((13 : Int) = 5) by omega, if_false] at h
  obtain ⟨es, ts, n', ws, ho, hw, hst, rfl, _, h1⟩ := finM_some h
  obtain ⟨a', ta, ha', rfl, rfl⟩ := elabS_one ho
  simp [wantM] at hw
  obtain ⟨q, rfl, rfl⟩ := hw
  have := h1 rfl
  simp [castS] at this
  subst this
  exact .asc (ih ha') q (CaV.of ..)
 | cast h1 _ _ _ _ _ _ => exact absurd rfl h1

def bareG (e : MTm) : MTm := if e.kind = 13 \/ e.kind = 14 then match e.kids with
  | x :: _ => x
  | [] => e
 else if e.kind = 5 then .mk 5 e.name e.num anyT e.fr e.label e.kids else e
theorem CaV.bare {n m : Int} {e e2 : MTm} {f t : MTy} (h : CaV n e f t e2 m) : mapM bareG e2 = mapM bareG e := by
 cases h with
 | same _ => rfl
 | cast _ => simp [mapM, mapS, bareG]
theorem EV.bare {c : List MBd} {e e' : MTm} {n m : Int} {t : MTy} (h : EV c e n e' t m) : mapM bareG e' = mapM bareG e := by
 induction h with
 | var _ => rfl
 | num => rfl
 | tru => rfl
 | fls => rfl
 | lam _ _ ih => simp [mapM, mapS, bareG, ih]
 | app _ _ _ _ h1 h2 iha ihb => simp [mapM, mapS, bareG, h1.bare, h2.bare, iha, ihb]
 | op hk _ _ _ _ h1 h2 iha ihb => rcases hk with ⟨rfl, rfl⟩ | ⟨rfl, rfl⟩ <;> simp [mapM, mapS, bareG, h1.bare, h2.bare, iha, ihb]
 | ite _ _ _ _ _ h1 h2 h3 ihp iha ihb => simp [mapM, mapS, bareG, h1.bare, h2.bare, h3.bare, ihp, iha, ihb]
 | pair _ _ _ iha ihb => simp [mapM, mapS, bareG, iha, ihb]
 | sel hk _ _ h1 ih => rcases hk with ⟨rfl, rfl⟩ | ⟨rfl, rfl⟩ <;> simp [mapM, mapS, bareG, h1.bare, ih]
 | asc _ _ h1 ih => simp [mapM, mapS, bareG, h1.bare, ih]

def exactS : List MTy -> List MTy -> Bool
 | [], _ => true
 | w :: ws, h :: hs => sameTy w h && exactS ws hs
 | _ :: _, [] => false
mutual
def castTyM : List MBd -> MTm -> Option MTy
 | c, .mk k s n t f b l => match castTyS (if k = 5 then c ++ [⟨s, t⟩] else c) l with
  | none => none
  | some ts => if k = 14 then match ts with
    | x :: _ => if sameTy x f = true then some t else none
    | [] => none
   else match wantM c k s t ts with
    | none => none
    | some (ws, u) => if shapeTy 4 u = true /\ exactS ws ts = true then some u else none
def castTyS : List MBd -> List MTm -> Option (List MTy)
 | _, [] => some []
 | c, e :: r => match castTyM c e with
  | none => none
  | some t => match castTyS c r with
   | none => none
   | some ts => some (t :: ts)
end
theorem CaV.exact {c : List MBd} {n m : Int} {e e2 : MTm} {f t : MTy} (h : CaV n e f t e2 m) (he : castTyM c e = some f) : castTyM c e2 = some t := by
 cases h with
 | same h => rw [<- h]; exact he
 | cast _ => simp [castTyM, castTyS, he, sameTy_refl]

theorem CaV.valid {n m : Int} {e e2 : MTm} {f t : MTy} (h : CaV n e f t e2 m) {k : Nat} (he : TmV 13 k e) (hf : shapeTy 4 f = true) (ht : shapeTy 4 t = true) (hc : consTy f t = true) (h0 : 0 <= n) (h9 : n + 1 <= 99) :
  TmV 13 (k + 1) e2 /\ n <= m /\ m <= n + 1 /\ (nodesM e2 : Int) + n = nodesM e + m := by
 cases h with
 | same h => exact ⟨he.mono (by omega), by omega, by omega, by omega⟩
 | cast _ => exact ⟨.cast (by omega) hf ht hc (by simp [labM, inM]; omega) he, by omega, by omega, by simp [nodesM, nodesS]; omega⟩

theorem cons_refl (a : MTy) : consTy a a = true := by
 induction a using MTy.ind with
 | h a ih =>
  rw [consTy_def]
  have : ∀ l : List MTy, (∀ u ∈ l, consTy u u = true) -> all2 consTy l l = true := by
   intro l
   induction l with
   | nil => intro _; rfl
   | cons x r ihr => intro h; simp [all2, h x (by simp), ihr fun u hu => h u (by simp [hu])]
  simp [this a.kids ih]
theorem prec_cons {a b : MTy} (h : precTy a b = true) : consTy b a = true := cons_mono _ _ _ _ (cons_refl a) h (prec_refl _)
theorem matchM_two {k : Int} (hk : k ≠ 1) (x y : MTy) : matchM k (.mk k [x, y]) = some (x, y) := by simp [matchM, hk]
theorem match_cons {k : Int} (hk : k = 4 \/ k = 5) {a x y : MTy} (h : matchM k a = some (x, y)) (ha : shapeTy 4 a = true) : consTy a (.mk k [x, y]) = true /\ shapeTy 4 (.mk k [x, y]) = true := by
 have hk1 : k ≠ 1 := by omega
 cases VTy.of ha with
 | any d => 
  simp [matchM] at h; obtain ⟨rfl, rfl⟩ := h
  refine ⟨cons_any1 _, ?_⟩
  rcases hk with rfl | rfl <;> rfl
 | int d => exfalso; rcases hk with rfl | rfl <;> simp [matchM] at h
 | bool d => exfalso; rcases hk with rfl | rfl <;> simp [matchM] at h
 | @fn d p q _ _ =>
  rcases hk with rfl | rfl
  ·simp [matchM] at h; obtain ⟨rfl, rfl⟩ := h; exact ⟨cons_refl _, ha⟩
  ·simp [matchM] at h
 | @pair d p q _ _ =>
  rcases hk with rfl | rfl
  ·simp [matchM] at h
  ·simp [matchM] at h; obtain ⟨rfl, rfl⟩ := h; exact ⟨cons_refl _, ha⟩
theorem meet_self {d : Nat} {a : MTy} (h : VTy d a) : meetTy a a = a := by
 induction h with
 | any d => rfl
 | int d => rfl
 | bool d => rfl
 | fn _ _ h1 h2 => rw [meet_two (by omega), h1, h2]
 | pair _ _ h1 h2 => rw [meet_two (by omega), h1, h2]

theorem EV.law {c : List MBd} {e e' : MTm} {n m : Int} {t : MTy} (h : EV c e n e' t m) : ∀ {d : Nat}, okCtx c -> TmV 14 d e -> 0 <= n -> n + nodesM e <= 100 ->
  TmV 13 (2 * d) e' /\ shapeTy 4 t = true /\ n <= m /\ m + 1 <= n + nodesM e /\ nodesM e' + 1 <= 2 * nodesM e /\ castTyM c e' = some t := by
 induction h with
 | @var c s t n hl =>
  intro d hc hv h0 h9
  obtain ⟨b, h1, h2, _⟩ := look_mem hl
  have hst : shapeTy 4 t = true := by rw [<- h2]; exact hc b h1
  have hs := hv
  cases hs with
  | var _ hs => exact ⟨.var (by omega) hs, hst, by omega, by simp [nodesM, nodesS], by simp [nodesM, nodesS], by simp [castTyM, castTyS, wantM, hl, hst, exactS]⟩
 | @num c k n =>
  intro d hc hv h0 h9
  cases hv with
  | num _ h1 h2 => exact ⟨.num (by omega) h1 h2, rfl, by omega, by simp [nodesM, nodesS], by simp [nodesM, nodesS], by simp [castTyM, castTyS, wantM, shape_int, exactS]⟩
 | @tru c n =>
  intro d hc hv h0 h9
  cases hv with
  | tru _ => exact ⟨.tru (by omega), rfl, by omega, by simp [nodesM, nodesS], by simp [nodesM, nodesS], by simp [castTyM, castTyS, wantM, shape_bool, exactS]⟩
 | @fls c n =>
  intro d hc hv h0 h9
  cases hv with
  | fls _ => exact ⟨.fls (by omega), rfl, by omega, by simp [nodesM, nodesS], by simp [nodesM, nodesS], by simp [castTyM, castTyS, wantM, shape_bool, exactS]⟩
 | @lam c s u t b b' n m _ hs ih =>
  intro d hc hv h0 h9
  obtain ⟨d', rfl, hn, hu, hb⟩ := hv.inv_lam
  simp only [nodesM, nodesS] at h9
  obtain ⟨i1, i2, i3, i4, i5, i6⟩ := ih (hc.app hu) hb h0 (by omega)
  refine ⟨(TmV.lam (by omega) hn hu i1).mono (by omega), hs, i3, ?_, ?_, ?_⟩
  ·simp only [nodesM, nodesS]; omega
  ·simp only [nodesM, nodesS]; omega
  ·simp [castTyM, castTyS, i6, wantM, exactS, hs]
 | @app c a b a' b' a2 b2 ta tb x y n n1 n2 n3 n4 _ _ hm hq h1 h2 iha ihb =>
  intro d hc hv h0 h9
  obtain ⟨d', rfl, _, ha, hb⟩ := hv.inv_n2
  simp only [nodesM, nodesS] at h9
  have := nodesM_pos a; have := nodesM_pos b
  obtain ⟨i1, i2, i3, i4, i5, i6⟩ := iha hc ha h0 (by omega)
  obtain ⟨j1, j2, j3, j4, j5, j6⟩ := ihb hc hb (by omega) (by omega)
  obtain ⟨m1, m2⟩ := match_cons (.inl rfl) hm i2
  obtain ⟨s1, s2⟩ := match_shape hm i2
  obtain ⟨k1, k2, k3, k4⟩ := h1.valid i1 i2 m2 m1 (by omega) (by omega)
  obtain ⟨l1, l2, l3, l4⟩ := h2.valid j1 j2 s1 hq (by omega) (by omega)
  refine ⟨(TmV.n2 (by omega) (by omega) k1 l1).mono (by omega), s2, by omega, ?_, ?_, ?_⟩
  ·simp only [nodesM, nodesS]; omega
  ·simp only [nodesM, nodesS]; omega
  ·simp [castTyM, castTyS, h1.exact i6, h2.exact j6, wantM, matchM_two (show (4 : Int) ≠ 1 by omega), exactS, cons_refl, sameTy_refl, s2]
 | @op c k a b a' b' a2 b2 ta tb t n n1 n2 n3 n4 hk _ _ q1 q2 h1 h2 iha ihb =>
  intro d hc hv h0 h9
  obtain ⟨d', rfl, hk', ha, hb⟩ := hv.inv_n2
  simp only [nodesM, nodesS] at h9
  have := nodesM_pos a; have := nodesM_pos b
  obtain ⟨i1, i2, i3, i4, i5, i6⟩ := iha hc ha h0 (by omega)
  obtain ⟨j1, j2, j3, j4, j5, j6⟩ := ihb hc hb (by omega) (by omega)
  obtain ⟨k1, k2, k3, k4⟩ := h1.valid i1 i2 rfl q1 (by omega) (by omega)
  obtain ⟨l1, l2, l3, l4⟩ := h2.valid j1 j2 rfl q2 (by omega) (by omega)
  refine ⟨(TmV.n2 (by omega) hk' k1 l1).mono (by omega), by rcases hk with ⟨_, rfl⟩ | ⟨_, rfl⟩ <;> rfl, by omega, ?_, ?_, ?_⟩
  ·simp only [nodesM, nodesS]; omega
  ·simp only [nodesM, nodesS]; omega
  ·rcases hk with ⟨rfl, rfl⟩ | ⟨rfl, rfl⟩ <;> simp [castTyM, castTyS, h1.exact i6, h2.exact j6, wantM, exactS, cons_refl, sameTy_refl, shape_int, shape_bool]
 | @ite c p a b p' a' b' p2 a2 b2 tp ta tb n n1 n2 n3 n4 n5 n6 _ _ _ q1 q2 h1 h2 h3 ihp iha ihb =>
  intro d hc hv h0 h9
  obtain ⟨d', rfl, hp, ha, hb⟩ := hv.inv_if
  simp only [nodesM, nodesS] at h9
  have := nodesM_pos p; have := nodesM_pos a; have := nodesM_pos b
  obtain ⟨o1, o2, o3, o4, o5, o6⟩ := ihp hc hp h0 (by omega)
  obtain ⟨i1, i2, i3, i4, i5, i6⟩ := iha hc ha (by omega) (by omega)
  obtain ⟨j1, j2, j3, j4, j5, j6⟩ := ihb hc hb (by omega) (by omega)
  have hsm := meet_shape 4 ta tb i2 j2 q2
  obtain ⟨w1, w2⟩ := meet_low (VTy.of i2) (VTy.of j2) q2
  obtain ⟨r1, r2, r3, r4⟩ := h1.valid o1 o2 rfl q1 (by omega) (by omega)
  obtain ⟨k1, k2, k3, k4⟩ := h2.valid i1 i2 hsm (prec_cons w1) (by omega) (by omega)
  obtain ⟨l1, l2, l3, l4⟩ := h3.valid j1 j2 hsm (prec_cons w2) (by omega) (by omega)
  refine ⟨(TmV.ite (by omega) r1 k1 l1).mono (by omega), hsm, by omega, ?_, ?_, ?_⟩
  ·simp only [nodesM, nodesS]; omega
  ·simp only [nodesM, nodesS]; omega
  ·simp [castTyM, castTyS, h1.exact o6, h2.exact i6, h3.exact j6, wantM, exactS, cons_refl, sameTy_refl, meet_self (VTy.of hsm), hsm]
 | @pair c a b a' b' ta tb n n1 n2 _ _ hs iha ihb =>
  intro d hc hv h0 h9
  obtain ⟨d', rfl, _, ha, hb⟩ := hv.inv_n2
  simp only [nodesM, nodesS] at h9
  have := nodesM_pos a; have := nodesM_pos b
  obtain ⟨i1, i2, i3, i4, i5, i6⟩ := iha hc ha h0 (by omega)
  obtain ⟨j1, j2, j3, j4, j5, j6⟩ := ihb hc hb (by omega) (by omega)
  refine ⟨(TmV.n2 (by omega) (by omega) i1 j1).mono (by omega), hs, by omega, ?_, ?_, ?_⟩
  ·simp only [nodesM, nodesS]; omega
  ·simp only [nodesM, nodesS]; omega
  ·simp [castTyM, castTyS, i6, j6, wantM, exactS, hs]
 | @sel c k a a' a2 ta x y t n n1 n2 hk _ hm h1 ih =>
  intro d hc hv h0 h9
  obtain ⟨d', rfl, hk', ha⟩ := hv.inv_n1
  simp only [nodesM, nodesS] at h9
  obtain ⟨i1, i2, i3, i4, i5, i6⟩ := ih hc ha h0 (by omega)
  obtain ⟨m1, m2⟩ := match_cons (.inr rfl) hm i2
  obtain ⟨s1, s2⟩ := match_shape hm i2
  obtain ⟨k1, k2, k3, k4⟩ := h1.valid i1 i2 m2 m1 (by omega) (by omega)
  refine ⟨(TmV.n1 (by omega) hk' k1).mono (by omega), by rcases hk with ⟨_, rfl⟩ | ⟨_, rfl⟩ <;> assumption, by omega, ?_, ?_, ?_⟩
  ·simp only [nodesM, nodesS]; omega
  ·simp only [nodesM, nodesS]; omega
  ·rcases hk with ⟨rfl, rfl⟩ | ⟨rfl, rfl⟩ <;> simp [castTyM, castTyS, h1.exact i6, wantM, matchM_two (show (5 : Int) ≠ 1 by omega), exactS, sameTy_refl, s1, s2]
 | @asc c a a' a2 ta t n n1 n2 _ q h1 ih =>
  intro d hc hv h0 h9
  obtain ⟨d', rfl, ht, ha⟩ := hv.inv_as
  simp only [nodesM, nodesS] at h9
  obtain ⟨i1, i2, i3, i4, i5, i6⟩ := ih hc ha h0 (by omega)
  obtain ⟨k1, k2, k3, k4⟩ := h1.valid i1 i2 ht q (by omega) (by omega)
  refine ⟨k1.mono (by omega), ht, by omega, ?_, ?_, h1.exact i6⟩
  ·simp only [nodesM, nodesS]; omega
  ·simp only [nodesM, nodesS]; omega

theorem VTy.small {d : Nat} {t : MTy} (h : VTy d t) : nTy t + 2 <= 2 ^ (d + 1) := by
 have key : ∀ d : Nat, 2 <= 2 ^ (d + 2) := fun d => by have : 0 < 2 ^ d := Nat.pow_pos (by omega); rw [Nat.pow_add]; omega
 induction h with
 | any d => have := key d; simpa [nTy_mk, nTyS] using this
 | int d => have := key d; simpa [nTy_mk, nTyS] using this
 | bool d => have := key d; simpa [nTy_mk, nTyS] using this
 | @fn d a b _ _ h1 h2 => rw [Nat.pow_succ]; simp [nTy_mk, nTyS]; omega
 | @pair d a b _ _ h1 h2 => rw [Nat.pow_succ]; simp [nTy_mk, nTyS]; omega
theorem TmV.small {nt : Int} {d : Nat} {e : MTm} (h : TmV nt d e) : nTm e + 1 <= 300 * nodesM e := by
 have key : ∀ {t : MTy}, shapeTy 4 t = true -> nTy t <= 100 := fun h => by have := (VTy.of h).small; omega
 have hnm : ∀ {s : List UInt8}, nameM s = true -> s.length = 1 := fun {s} h => by
  match s, h with
  | [c], _ => rfl
 induction h with
 | var _ hs => have := hnm hs; simp [nTm_mk, nTmS, nTy_mk, nTyS, nodesM, nodesS]; omega
 | num _ _ _ => simp [nTm_mk, nTmS, nTy_mk, nTyS, nodesM, nodesS]
 | tru _ => simp [nTm_mk, nTmS, nTy_mk, nTyS, nodesM, nodesS]
 | fls _ => simp [nTm_mk, nTmS, nTy_mk, nTyS, nodesM, nodesS]
 | lam _ hs ht _ ih => have := hnm hs; have := key ht; simp [nTm_mk, nTmS, nTy_mk, nTyS, nodesM, nodesS]; omega
 | n2 _ _ _ _ h1 h2 => simp [nTm_mk, nTmS, nTy_mk, nTyS, nodesM, nodesS]; omega
 | ite _ _ _ _ h1 h2 h3 => simp [nTm_mk, nTmS, nTy_mk, nTyS, nodesM, nodesS]; omega
 | n1 _ _ _ ih => simp [nTm_mk, nTmS, nTy_mk, nTyS, nodesM, nodesS]; omega
 | asc _ ht _ ih => have := key ht; simp [nTm_mk, nTmS, nTy_mk, nTyS, nodesM, nodesS]; omega
 | cast _ hf ht _ _ _ ih => have := key hf; have := key ht; simp [nTm_mk, nTmS, nTy_mk, nTyS, nodesM, nodesS]; omega

end Go.Av

namespace Go.Av
attribute [-simp] Go.Av.freeStepG Go.Av.exA Go.Av.innAsH Go.Av.AV.innH Go.Av.CV.innH Go.Av.innHs Go.Av.AV.outnH Go.Av.CV.outnH
open Go
mutual
def typesM : MTm -> List MTy
 | .mk k _ _ t _ _ l => (if hasTyM k = true then [t] else []) ++ typesS l
def typesS : List MTm -> List MTy
 | [] => []
 | e :: r => typesM e ++ typesS r
end
mutual
def withM : MTm -> List MTy -> MTm
 | .mk k s n t f lb l, ts => .mk k s n (if hasTyM k = true then ts.headD t else t) f lb (withS l (if hasTyM k = true then ts.drop 1 else ts))
def withS : List MTm -> List MTy -> List MTm
 | [], _ => []
 | e :: r, ts => withM e ts :: withS r (ts.drop (typesM e).length)
end
theorem TmV.types {nt : Int} {d : Nat} {e : MTm} (h : TmV nt d e) : (∀ t ∈ typesM e, shapeTy 4 t = true) /\ (typesM e).length <= nodesM e := by
 induction h with
 | var => simp [typesM, typesS, hasTyM]
 | num => simp [typesM, typesS, hasTyM]
 | tru => simp [typesM, typesS, hasTyM]
 | fls => simp [typesM, typesS, hasTyM]
 | lam _ _ h3 _ ih =>
  obtain ⟨h1, h2⟩ := ih
  simp only [typesM, typesS, hasTyM, nodesM, nodesS]
  refine ⟨fun t ht => ?_, by simp; omega⟩
  simp at ht
  rcases ht with rfl | ht
  ·exact h3
  ·exact h1 t ht
 | asc _ h3 _ ih =>
  obtain ⟨h1, h2⟩ := ih
  simp only [typesM, typesS, hasTyM, nodesM, nodesS]
  refine ⟨fun t ht => ?_, by simp; omega⟩
  simp at ht
  rcases ht with rfl | ht
  ·exact h3
  ·exact h1 t ht
 | n2 _ hk _ _ ih1 ih2 =>
  have h5 : ∀ k : Int, k = 6 \/ k = 7 \/ k = 8 \/ k = 10 -> hasTyM k = false := fun k h => by rcases h with rfl | rfl | rfl | rfl <;> rfl
  simp only [typesM, typesS, h5 _ hk, nodesM, nodesS]
  refine ⟨fun t ht => ?_, by simp; omega⟩
  simp at ht
  rcases ht with ht | ht
  ·exact ih1.1 t ht
  ·exact ih2.1 t ht
 | ite _ _ _ _ ih1 ih2 ih3 =>
  simp only [typesM, typesS, hasTyM, nodesM, nodesS]
  refine ⟨fun t ht => ?_, by simp; omega⟩
  simp at ht
  rcases ht with ht | ht | ht
  ·exact ih1.1 t ht
  ·exact ih2.1 t ht
  ·exact ih3.1 t ht
 | n1 _ hk _ ih =>
  have h5 : ∀ k : Int, k = 11 \/ k = 12 -> hasTyM k = false := fun k h => by rcases h with rfl | rfl <;> rfl
  simp only [typesM, typesS, h5 _ hk, nodesM, nodesS]
  refine ⟨fun t ht => ?_, by simp; omega⟩
  simp at ht
  exact ih.1 t ht
 | cast _ _ _ _ _ _ ih =>
  simp only [typesM, typesS, hasTyM, nodesM, nodesS]
  refine ⟨fun t ht => ?_, by simp; omega⟩
  simp at ht
  exact ih.1 t ht
theorem headD_mem {ts : List MTy} {t : MTy} (h : shapeTy 4 t = true) (hs : ∀ u ∈ ts, shapeTy 4 u = true) : shapeTy 4 (ts.headD t) = true := by
 cases ts with
 | nil => exact h
 | cons u r => exact hs u (by simp)
theorem TmV.withM {nt : Int} {d : Nat} {e : MTm} (h : TmV nt d e) : ∀ {ts : List MTy}, (∀ u ∈ ts, shapeTy 4 u = true) -> TmV nt d (Av.withM e ts) /\ nodesM (Av.withM e ts) = nodesM e := by
 induction h with
 | var h1 h2 => intro ts _; exact ⟨.var h1 h2, rfl⟩
 | num h1 h2 h3 => intro ts _; exact ⟨.num h1 h2 h3, rfl⟩
 | tru h1 => intro ts _; exact ⟨.tru h1, rfl⟩
 | fls h1 => intro ts _; exact ⟨.fls h1, rfl⟩
 | lam h1 h2 h3 _ ih =>
  intro ts hs
  have hd : ∀ u ∈ ts.drop 1, shapeTy 4 u = true := fun u hu => hs u (List.mem_of_mem_drop hu)
  simp only [Av.withM, withS, hasTyM, nodesM, nodesS]
  exact ⟨.lam h1 h2 (headD_mem h3 hs) (ih hd).1, by have h := (ih hd).2; simp at h ⊢; exact h⟩
 | asc h1 h3 _ ih =>
  intro ts hs
  have hd : ∀ u ∈ ts.drop 1, shapeTy 4 u = true := fun u hu => hs u (List.mem_of_mem_drop hu)
  simp only [Av.withM, withS, hasTyM, nodesM, nodesS]
  exact ⟨.asc h1 (headD_mem h3 hs) (ih hd).1, by have h := (ih hd).2; simp at h ⊢; exact h⟩
 | n2 h1 hk _ _ ih1 ih2 =>
  intro ts hs
  have h5 : ∀ k : Int, k = 6 \/ k = 7 \/ k = 8 \/ k = 10 -> hasTyM k = false := fun k h => by rcases h with rfl | rfl | rfl | rfl <;> rfl
  have hd : ∀ n, ∀ u ∈ ts.drop n, shapeTy 4 u = true := fun n u hu => hs u (List.mem_of_mem_drop hu)
  simp only [Av.withM, withS, h5 _ hk, nodesM, nodesS]
  exact ⟨.n2 h1 hk (ih1 hs).1 (ih2 (hd _)).1, by simp [(ih1 hs).2, (ih2 (hd _)).2]⟩
 | ite h1 _ _ _ ih1 ih2 ih3 =>
  intro ts hs
  have hd : ∀ n, ∀ u ∈ ts.drop n, shapeTy 4 u = true := fun n u hu => hs u (List.mem_of_mem_drop hu)
  have hd2 : ∀ n m, ∀ u ∈ (ts.drop n).drop m, shapeTy 4 u = true := fun n m u hu => hd n u (List.mem_of_mem_drop hu)
  simp only [Av.withM, withS, hasTyM, nodesM, nodesS]
  exact ⟨.ite h1 (ih1 hs).1 (ih2 (hd _)).1 (ih3 (hd2 _ _)).1, by have h1 := (ih1 hs).2; have h2 := fun n => (ih2 (hd n)).2; have h3 := fun n => (ih3 (hd n)).2; simp [h1, h2, h3]⟩
 | n1 h1 hk _ ih =>
  intro ts hs
  have h5 : ∀ k : Int, k = 11 \/ k = 12 -> hasTyM k = false := fun k h => by rcases h with rfl | rfl <;> rfl
  simp only [Av.withM, withS, h5 _ hk, nodesM, nodesS]
  exact ⟨.n1 h1 hk (ih hs).1, by simp [(ih hs).2]⟩
 | cast h1 h2 h3 h4 h6 _ ih =>
  intro ts hs
  simp only [Av.withM, withS, hasTyM, nodesM, nodesS]
  exact ⟨.cast h1 h2 h3 h4 h6 (ih hs).1, by simp [(ih hs).2]⟩

def withTypesM (e : MTm) (ts : List MTy) : Option MTm := if (termValidM e && decide (ts.length = (typesM e).length) && ts.all (shapeTy 4)) = true then some (withM e ts) else none
def tmRes : Option MTm -> List AV
 | some e => [aTm e, .b true]
 | none => [aTm zeroE, .b false]
def tm0 (o : Option MTm) : MTm := o.getD zeroE
end Go.Av
