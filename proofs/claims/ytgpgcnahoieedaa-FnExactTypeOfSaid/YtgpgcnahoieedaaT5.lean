/- A part of the library of this seat: a value-semantic program logic over the model, plain models, and walks of functions. -/
import Derived.Test.YtgpgcnahoieedaaT4
import Derived.Laws.Cover3
set_option linter.unusedVariables false
set_option linter.unusedSimpArgs false
namespace Go.Av
open Go
section
variable {P : Program} {n : Nat} {ι : Type} {Q : Exit → St → Prop} {QX : ι → Exit → St → Prop} {s s' : St} {y : Code}
theorem T.eqNil {id : Nat} {src a b : Nat} {ty ty2 e : TypeId} {d : TD} {o1 o2 : Oper} {rows : List (List DV)} (h1 : o1.op = .move (.tmp src)) (d1 : o1.dst = some a) (g1 : o1.guard = none)
    (h2 : o2.op = .binOp .eql ty (.tmp a) (.const (.slice none 0 0)) ty2) (d2 : o2.dst = some b) (g2 : o2.guard = none) (ht : td P ty = some d) (hel : d.el = some e) (hs : look s.fr src = some (.c (.d (.sl rows))))
    (h : ∀ bb : Bool, (bb = true → rows = []) → T P n y Q ⟨(b, .c (.d (.bool bb))) :: (a, .c (.d (.sl rows))) :: s.fr, s.V, s.A⟩) : T P n (.seq (.region id #[o1, o2] false) y) Q s := by
  refine T.seq ?_
  intro hok w0 g0 g A w hR
  refine wp_region_list ?_
  have hd : dstsOk n [o1, o2] = true := hok
  simp only [dstsOk, List.all_cons, List.all_nil, Bool.and_true, Bool.and_eq_true, d1, d2, decide_eq_true_eq] at hd
  have w1 : Region.wanted o1 (yielded #[o1, o2] A.tmps) = true := by simp [Region.wanted, g1]
  have w2 : ∀ A' : Act, Region.wanted o2 (yielded #[o1, o2] A'.tmps) = true := fun A' => by simp [Region.wanted, g2]
  unfold wpList
  rw [if_pos w1]
  have hst : astep P s false o1 fun x V' A' => x = .c (.d (.sl rows)) ∧ V' = s.V ∧ A' = s.A := by
    unfold astep; rw [h1]; simp [wpo, aval, hs, onv]
  obtain ⟨x, V', A', ⟨rfl, rfl, rfl⟩, hk⟩ := astep_wp hR.inv hR.fr hR.slot hst
  refine .inl (hk _ _ fun v w' g' h5 h6 h7 h8 => ?_)
  have hR1 := hR.put (dst := o1.dst) (fun d e => by rw [d1] at e; cases e; exact hd.1) h5 h6 h7 h8
  unfold wpList
  rw [if_pos (w2 _)]
  have hv := h5
  simp only [RepV, RepE, RepC, RepD] at hv
  obtain ⟨ad, cap, rfl, hcap, hrr⟩ := hv
  have hslot := hR1.slot a (.c (.d (.sl rows))) (by simp [St.put, d1, look])
  obtain ⟨u, hu, hru⟩ := hslot
  have hu' : (A.put o1.dst (.slice ad rows.length cap)).tmps[a]? = some u := hu
  have hlt : a < A.tmps.size := by rw [hR.size]; exact hd.1
  have : u = .slice ad rows.length cap := by
    rw [d1] at hu'
    simp [Act.put, hlt] at hu'
    exact hu'.symm
  subst this
  have hev : (A.put o1.dst (.slice ad rows.length cap)).eval (.tmp a) = .slice ad rows.length cap := by
    simp only [Act.eval]
    rw [Array.getD_eq_getD_getElem?, hu']; rfl
  have hrun : (execOp (A.put o1.dst (.slice ad rows.length cap)).eval o2).run P w' = .ok (.value (.bool ad.isNone)) w' := by
    simp only [execOp, h2, hev]
    refine run_value (w' := w') ?_
    rw [Sem.run_bind]
    rw [show (eqGuard .eql ty (.tmp a) (.const (.slice none 0 0)) (.slice ad rows.length cap) ((A.put o1.dst (.slice ad rows.length cap)).eval (.const (.slice none 0 0)))).run P w' = .ok () w' by simp [eqGuard, Act.eval]]
    simp only [Result.andThen_ok, Act.eval]
    simp [binOp, run_equal_slice_nil w' ty e ad rows.length cap (td_el ht hel)]
  refine .inl ?_
  unfold Oper.wp
  rw [hrun]
  have hR2 := hR1.put (dst := o2.dst) (x := .c (.d (.bool ad.isNone))) (v := .bool ad.isNone) (fun d e => by rw [d2] at e; cases e; exact hd.2) rfl hR1.inv (.refl _ _ _) hR1.fr
  refine ⟨_, _, ?_, hR2⟩
  show T P n y Q _
  rw [d1, d2]
  refine h ad.isNone fun hn => ?_
  cases hrr with
  | inl h => exact h
  | inr h => obtain ⟨_, _, _, rfl, _⟩ := h; simp at hn
end
section
variable {P : Program} {s : St} {f : FuncId} {xs as_ : List AV} {K : AV → List (List CV) → List Arr → Prop}
/-- A call, its objects named by the caller. -/
theorem wpcall_g (ids : List Nat) {Vc Vc' : List (List CV)} {r : AV} {Ac' : List Arr} (hn : ids.Nodup) (hin : innAs s.A ids xs = some as_) (hV : innVs s.A s.V ids ids = some Vc) (hc : ACalls P f as_ Vc r Vc' Ac')
    (hK : K (r.outn ids s.V.length s.A.length) (putBack s.A.length s.V.length ids s.V ids Vc') (sealAs s.A (argCells xs ++ objCells s.V ids) ++ Ac')) : wpcall P s f xs K :=
  .inl ⟨ids, as_, Vc, r, Vc', Ac', hn, hin, hV, hc, hK⟩
/-- A body that is done, its objects as_ the contract names them. -/
theorem Done.g {fn : Func} {e : Exit} {m : Nat} {r : AV} {V' : List (List CV)} (he : e = .normal ∨ e = .ret) {ys : List AV} (hr : (ares P s fn.results.toList).bind (resAs s.A (List.range m) []) = some ys) (h1 : one ys = r)
    (hV : resVs s.A s.V (List.range m) [] (List.range m) = some V') : Done P fn m r V' [] e s := by
  cases hx : ares P s fn.results.toList with
  | none => rw [hx] at hr; simp at hr
  | some xs => rw [hx] at hr; exact ⟨he, [], [], xs, ys, hx, List.nodup_nil, List.nodup_nil, by simp, by simpa using hr, h1.symm, by simpa using hV, rfl⟩
end
attribute [simp] innVs putBack objCells back resVs one
end Go.Av

namespace Go.Av
open Go

abbrev aBd (b : MBd) : AV := .agg [.d (.str b.name), .d (.i b.ty.kind), .d (.sl (b.ty.kids.map eTy))]
abbrev zeroE : MTm := .mk 0 [] 0 zeroT zeroT 0 []
abbrev elRes : Option (MTm × MTy) → List AV
  | some (e, t) => [aTm e, aTy t, .b true]
  | none => [aTm zeroE, aTy zeroT, .b false]

theorem castM_le (n : Int) (e : MTm) (f t : MTy) : n ≤ (castM n e f t).2 ∧ (castM n e f t).2 ≤ n + 1 := by
  simp only [castM]; split <;> simp <;> omega
theorem castS_le : ∀ (n : Int) (es : List MTm) (hs ws : List MTy), n ≤ (castS n es hs ws).2 ∧ (castS n es hs ws).2 ≤ n + es.length
  | n, [], hs, ws => by cases hs <;> cases ws <;> simp [castS]
  | n, e :: es, [], ws => by cases ws <;> simp [castS] <;> omega
  | n, e :: es, h :: hs, [] => by simp [castS]; omega
  | n, e :: es, h :: hs, w :: ws => by
    have h1 := castM_le n e h w
    have h2 := castS_le (castM n e h w).2 es hs ws
    simp only [castS, List.length_cons]
    omega

theorem elab_le : ∀ (e : MTm) (ctx : List MBd) (n : Int), n ≤ (elabM ctx e n).2 ∧ (elabM ctx e n).2 ≤ n + nTm e := by
  intro e
  induction e using MTm.ind with
  | h e ih =>
    intro ctx n
    have hS : ∀ (l : List MTm), (∀ u ∈ l, u ∈ e.kids) → ∀ c n, n ≤ (elabS c l n).2 ∧ (elabS c l n).2 + l.length ≤ n + nTmS l := by
      intro l
      induction l with
      | nil => intro _ c n; simp [elabS, nTmS]
      | cons x r ihl =>
        intro hm c n
        have h1 := ih x (hm x (by simp)) c n
        simp only [elabS, nTmS, List.length_cons]
        cases he : elabM c x n with
        | mk o m =>
          rw [he] at h1
          cases o with
          | none =>
            have h2 := nTmS_len r
            simp only [consE]; omega
          | some p =>
            obtain ⟨y, t⟩ := p
            have h2 := ihl (fun u hu => hm u (by simp [hu])) c m
            simp only [consE]
            cases hr : elabS c r m with
            | mk o2 m2 =>
              rw [hr] at h2
              cases o2 with
              | none => simp only; omega
              | some q => simp only; omega
    rw [elabM_def, nTm_def]
    have h3 := hS e.kids (fun _ h => h) (insideM ctx e) n
    cases hr : elabS (insideM ctx e) e.kids n with
    | mk o m =>
      rw [hr] at h3
      cases o with
      | none => simp only [finM]; omega
      | some p =>
        obtain ⟨es, ts⟩ := p
        have hl := elabS_len hr
        simp only [finM]
        cases wantM ctx e.kind e.name e.ty ts with
        | none => simp only; omega
        | some q =>
          obtain ⟨ws, t⟩ := q
          simp only
          have h4 := castS_le m es ts ws
          split
          · split <;> simp only <;> omega
          · simp only; omega

mutual
def sameTm : MTm → MTm → Bool
  | .mk k s n t f b l, .mk k' s' n' t' f' b' l' => decide (k = k') && (decide (s = s') && (decide (n = n') && (sameTy t t' && (sameTy f f' && (decide (b = b') && sameTmS l l')))))
def sameTmS : List MTm → List MTm → Bool
  | [], [] => true
  | x :: xs, y :: ys => sameTm x y && sameTmS xs ys
  | _, _ => false
end
mutual
theorem sameTm_eq : ∀ (a b : MTm), sameTm a b = true → a = b
  | .mk k s n t f b l, .mk k' s' n' t' f' b' l', h => by
    simp only [sameTm, Bool.and_eq_true, decide_eq_true_eq] at h
    obtain ⟨rfl, rfl, rfl, h1, h2, rfl, h3⟩ := h
    rw [sameTy_eq t t' h1, sameTy_eq f f' h2, sameTmS_eq l l' h3]
theorem sameTmS_eq : ∀ (l m : List MTm), sameTmS l m = true → l = m
  | [], [], _ => rfl
  | x :: xs, y :: ys, h => by
    simp only [sameTmS, Bool.and_eq_true] at h
    rw [sameTm_eq x y h.1, sameTmS_eq xs ys h.2]
  | [], _ :: _, h => by simp [sameTmS] at h
  | _ :: _, [], h => by simp [sameTmS] at h
end
mutual
theorem sameTm_refl : ∀ (a : MTm), sameTm a a = true
  | .mk k s n t f b l => by simp [sameTm, sameTy_refl, sameTmS_refl l]
theorem sameTmS_refl : ∀ (l : List MTm), sameTmS l l = true
  | [] => rfl
  | x :: xs => by simp [sameTmS, sameTm_refl x, sameTmS_refl xs]
end
mutual
def mapM (g : MTm → MTm) : MTm → MTm
  | .mk k s n t f b l => g (.mk k s n t f b (mapS g l))
def mapS (g : MTm → MTm) : List MTm → List MTm
  | [] => []
  | e :: r => mapM g e :: mapS g r
end
end Go.Av
