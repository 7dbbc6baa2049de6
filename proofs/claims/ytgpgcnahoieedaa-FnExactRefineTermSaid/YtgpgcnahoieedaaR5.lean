/- A part of the library of this seat. -/
import Derived.Test.YtgpgcnahoieedaaR4
import Derived.Laws.Cover3
set_option linter.unusedVariables false
set_option linter.unusedSimpArgs false
namespace Go.Av
open Go
section
variable {P : Program} {n : Nat} {ι : Type} {Q : Exit -> St -> Prop} {QX : ι -> Exit -> St -> Prop} {s s' : St} {y : Code}
theorem T.eqNil {id : Nat} {src a b : Nat} {ty ty2 e : TypeId} {d : TD} {o1 o2 : Oper} {rows : List (List DV)} (h1 : o1.op = .move (.tmp src)) (d1 : o1.dst = some a) (g1 : o1.guard = none)
  (h2 : o2.op = .binOp .eql ty (.tmp a) (.const (.slice none 0 0)) ty2) (d2 : o2.dst = some b) (g2 : o2.guard = none) (ht : td P ty = some d) (hel : d.el = some e) (hs : look s.fr src = some (.c (.d (.sl rows))))
  (h : ∀ bb : Bool, (bb = true -> rows = []) -> T P n y Q ⟨(b, .c (.d (.bool bb))) :: (a, .c (.d (.sl rows))) :: s.fr, s.V, s.A⟩) : T P n (.seq (.region id #[o1, o2] false) y) Q s := by
 refine T.seq ?_
 intro hok w0 g0 g A w hR
 refine wp_region_list ?_
 have hd : dstsOk n [o1, o2] = true := hok
 simp only [dstsOk, List.all_cons, List.all_nil, Bool.and_true, Bool.and_eq_true, d1, d2, decide_eq_true_eq] at hd
 have w1 : Region.wanted o1 (yielded #[o1, o2] A.tmps) = true := by simp [Region.wanted, g1]
 have w2 : ∀ A' : Act, Region.wanted o2 (yielded #[o1, o2] A'.tmps) = true := fun A' => by simp [Region.wanted, g2]
 unfold wpList
 rw [if_pos w1]
 have hst : astep P s false o1 fun x V' A' => x = .c (.d (.sl rows)) /\ V' = s.V /\ A' = s.A := by
  unfold astep; rw [h1]; simp [wpo, aval, hs, onv]
 obtain ⟨x, V', A', ⟨rfl, rfl, rfl⟩, hk⟩ := astep_wp hR.inv hR.fr hR.slot hst
 refine .inl (hk _ _ fun v w' g' h5 h6 h7 h8 => ?_)
 have hR1 := hR.put (dst := o1.dst) (fun d e => by rw [d1] at e; cases e; exact hd.1) h5 h6 h7 h8
 unfold wpList
 rw [if_pos (w2 _)]
 have hv := h5
 simp only [RepV, RepE, RepC, RepD] at hv
 obtain ⟨ad, cap, rfl, hcap, hrr⟩ := hv
 have hslot := hR1.slot a (.c (.d (.sl rows))) (by simp [St.put, d1, look])
 obtain ⟨u, hu, hru⟩ := hslot
 have hu' : (A.put o1.dst (.slice ad rows.length cap)).tmps[a]? = some u := hu
 have hlt : a < A.tmps.size := by rw [hR.size]; exact hd.1
 have : u = .slice ad rows.length cap := by
  rw [d1] at hu'
  simp [Act.put, hlt] at hu'
  exact hu'.symm
 subst this
 have hev : (A.put o1.dst (.slice ad rows.length cap)).eval (.tmp a) = .slice ad rows.length cap := by
  simp only [Act.eval]
  rw [Array.getD_eq_getD_getElem?, hu']; rfl
 have hrun : (execOp (A.put o1.dst (.slice ad rows.length cap)).eval o2).run P w' = .ok (.value (.bool ad.isNone)) w' := by
  simp only [execOp, h2, hev]
  refine run_value (w' := w') ?_
  rw [Sem.run_bind]
  rw [show (eqGuard .eql ty (.tmp a) (.const (.slice none 0 0)) (.slice ad rows.length cap) ((A.put o1.dst (.slice ad rows.length cap)).eval (.const (.slice none 0 0)))).run P w' = .ok () w' by simp [eqGuard, Act.eval]]
  simp only [Result.andThen_ok, Act.eval]
  simp [binOp, run_equal_slice_nil w' ty e ad rows.length cap (td_el ht hel)]
 refine .inl ?_
 unfold Oper.wp
 rw [hrun]
 have hR2 := hR1.put (dst := o2.dst) (x := .c (.d (.bool ad.isNone))) (v := .bool ad.isNone) (fun d e => by rw [d2] at e; cases e; exact hd.2) rfl hR1.inv (.refl _ _ _) hR1.fr
 refine ⟨_, _, ?_, hR2⟩
 show T P n y Q _
 rw [d1, d2]
 refine h ad.isNone fun hn => ?_
 cases hrr with
 | inl h => exact h
 | inr h => obtain ⟨_, _, _, rfl, _⟩ := h; simp at hn
end
section
variable {P : Program} {s : St} {f : FuncId} {xs as_ : List AV} {K : AV -> List (List CV) -> List Arr -> Prop}
theorem wpcall_g (ids : List Nat) {Vc Vc' : List (List CV)} {r : AV} {Ac' : List Arr} (hn : ids.Nodup) (hin : innAs s.A ids xs = some as_) (hV : innVs s.A s.V ids ids = some Vc) (hc : ACalls P f as_ Vc r Vc' Ac')
  (hK : K (r.outn ids s.V.length s.A.length) (putBack s.A.length s.V.length ids s.V ids Vc') (sealAs s.A (argCells xs ++ objCells s.V ids) ++ Ac')) : wpcall P s f xs K :=
 .inl ⟨ids, as_, Vc, r, Vc', Ac', hn, hin, hV, hc, hK⟩
theorem Done.g {fn : Func} {e : Exit} {m : Nat} {r : AV} {V' : List (List CV)} (he : e = .normal \/ e = .ret) {ys : List AV} (hr : (ares P s fn.results.toList).bind (resAs s.A (List.range m) []) = some ys) (h1 : one ys = r)
  (hV : resVs s.A s.V (List.range m) [] (List.range m) = some V') : Done P fn m r V' [] e s := by
 cases hx : ares P s fn.results.toList with
 | none => rw [hx] at hr; simp at hr
 | some xs => rw [hx] at hr; exact ⟨he, [], [], xs, ys, hx, List.nodup_nil, List.nodup_nil, by simp, by simpa using hr, h1.symm, by simpa using hV, rfl⟩
end
attribute [simp] innVs putBack objCells back resVs one
end Go.Av

namespace Go.Av
open Go

abbrev aBd (b : MBd) : AV := .agg [.d (.str b.name), .d (.i b.ty.kind), .d (.sl (b.ty.kids.map eTy))]
abbrev zeroE : MTm := .mk 0 [] 0 zeroT zeroT 0 []
abbrev elRes : Option (MTm × MTy) -> List AV
 | some (e, t) => [aTm e, aTy t, .b true]
 | none => [aTm zeroE, aTy zeroT, .b false]

theorem castM_le (n : Int) (e : MTm) (f t : MTy) : n <= (castM n e f t).2 /\ (castM n e f t).2 <= n + 1 := by
 simp only [castM]; split <;> simp <;> omega
theorem castS_le : ∀ (n : Int) (es : List MTm) (hs ws : List MTy), n <= (castS n es hs ws).2 /\ (castS n es hs ws).2 <= n + es.length
 | n, [], hs, ws => by cases hs <;> cases ws <;> simp [castS]
 | n, e :: es, [], ws => by cases ws <;> simp [castS] <;> omega
 | n, e :: es, h :: hs, [] => by simp [castS]; omega
 | n, e :: es, h :: hs, w :: ws => by
  have h1 := castM_le n e h w
  have h2 := castS_le (castM n e h w).2 es hs ws
  simp only [castS, List.length_cons]
  omega

theorem elab_le : ∀ (e : MTm) (ctx : List MBd) (n : Int), n <= (elabM ctx e n).2 /\ (elabM ctx e n).2 <= n + nTm e := by
 intro e
 induction e using MTm.ind with
 | h e ih =>
  intro ctx n
  have hS : ∀ (l : List MTm), (∀ u ∈ l, u ∈ e.kids) -> ∀ c n, n <= (elabS c l n).2 /\ (elabS c l n).2 + l.length <= n + nTmS l := by
   intro l
   induction l with
   | nil => intro _ c n; simp [elabS, nTmS]
   | cons x r ihl =>
    intro hm c n
    have h1 := ih x (hm x (by simp)) c n
    simp only [elabS, nTmS, List.length_cons]
    cases he : elabM c x n with
    | mk o m =>
     rw [he] at h1
     cases o with
     | none =>
      have h2 := nTmS_len r
      simp only [consE]; omega
     | some p =>
      obtain ⟨y, t⟩ := p
      have h2 := ihl (fun u hu => hm u (by simp [hu])) c m
      simp only [consE]
      cases hr : elabS c r m with
      | mk o2 m2 =>
       rw [hr] at h2
       cases o2 with
       | none => simp only; omega
       | some q => simp only; omega
  rw [elabM_def, nTm_def]
  have h3 := hS e.kids (fun _ h => h) (insideM ctx e) n
  cases hr : elabS (insideM ctx e) e.kids n with
  | mk o m =>
   rw [hr] at h3
   cases o with
   | none => simp only [finM]; omega
   | some p =>
    obtain ⟨es, ts⟩ := p
    have hl := elabS_len hr
    simp only [finM]
    cases wantM ctx e.kind e.name e.ty ts with
    | none => simp only; omega
    | some q =>
     obtain ⟨ws, t⟩ := q
     simp only
     have h4 := castS_le m es ts ws
     split
     ·split <;> simp only <;> omega
     ·simp only; omega

mutual
def sameTm : MTm -> MTm -> Bool
 | .mk k s n t f b l, .mk k' s' n' t' f' b' l' => decide (k = k') && (decide (s = s') && (decide (n = n') && (sameTy t t' && (sameTy f f' && (decide (b = b') && sameTmS l l')))))
def sameTmS : List MTm -> List MTm -> Bool
 | [], [] => true
 | x :: xs, y :: ys => sameTm x y && sameTmS xs ys
 | _, _ => false
end
mutual
theorem sameTm_eq : ∀ (a b : MTm), sameTm a b = true -> a = b
 | .mk k s n t f b l, .mk k' s' n' t' f' b' l', h => by
  simp only [sameTm, Bool.and_eq_true, decide_eq_true_eq] at h
  obtain ⟨rfl, rfl, rfl, h1, h2, rfl, h3⟩ := h
  rw [sameTy_eq t t' h1, sameTy_eq f f' h2, sameTmS_eq l l' h3]
theorem sameTmS_eq : ∀ (l m : List MTm), sameTmS l m = true -> l = m
 | [], [], _ => rfl
 | x :: xs, y :: ys, h => by
  simp only [sameTmS, Bool.and_eq_true] at h
  rw [sameTm_eq x y h.1, sameTmS_eq xs ys h.2]
 | [], _ :: _, h => by simp [sameTmS] at h
 | _ :: _, [], h => by simp [sameTmS] at h
end
mutual
theorem sameTm_refl : ∀ (a : MTm), sameTm a a = true
 | .mk k s n t f b l => by simp [sameTm, sameTy_refl, sameTmS_refl l]
theorem sameTmS_refl : ∀ (l : List MTm), sameTmS l l = true
 | [] => rfl
 | x :: xs => by simp [sameTmS, sameTm_refl x, sameTmS_refl xs]
end
mutual
def mapM (g : MTm -> MTm) : MTm -> MTm
 | .mk k s n t f b l => g (.mk k s n t f b (mapS g l))
def mapS (g : MTm -> MTm) : List MTm -> List MTm
 | [] => []
 | e :: r => mapM g e :: mapS g r
end
end Go.Av

namespace Go.Av
open Go

mutual
def nodesM : MTm -> Nat
 | .mk _ _ _ _ _ _ l => 1 + nodesS l
def nodesS : List MTm -> Nat
 | [] => 0
 | e :: r => nodesM e + nodesS r
end
theorem nodesS_sum : ∀ (l : List MTm), nodesS l = (l.map nodesM).sum
 | [] => rfl
 | e :: r => by simp [nodesS, nodesS_sum r]
theorem nodesM_def (e : MTm) : nodesM e = 1 + (e.kids.map nodesM).sum := by cases e; simp only [nodesM, nodesS_sum]; rfl
theorem nodesM_pos (e : MTm) : 1 <= nodesM e := by rw [nodesM_def]; omega
theorem count_nodes {nt : Int} : ∀ {d : Nat} {e : MTm}, shapeTm nt d e = true -> ∀ {n : Nat}, d <= n -> countTm n e = nodesM e
 | 0, e, h, _, _ => by simp [shapeTm] at h
 | d + 1, e, h, n, hn => by
  obtain ⟨n, rfl⟩ : ∃ j, n = j + 1 := ⟨n - 1, by omega⟩
  simp only [shapeTm, Bool.and_eq_true, List.all_eq_true] at h
  rw [nodesM_def]
  simp only [countTm]
  congr 2
  refine List.map_congr_left fun u hu => count_nodes (h.2 u hu) (by omega)

theorem termValidM_iff {e : MTm} : termValidM e = true ↔ TmV 14 12 e /\ nodesM e <= 30 := by
 simp only [termValidM, Bool.and_eq_true, decide_eq_true_eq]
 refine ⟨fun h => ⟨TmV.of h.1, ?_⟩, fun h => ⟨h.1.shape, ?_⟩⟩
 ·rw [<- count_nodes h.1 (Nat.le_refl _)]; exact h.2
 ·rw [count_nodes h.1.shape (Nat.le_refl _)]; exact h.2
inductive CaV (n : Int) (e : MTm) (f t : MTy) : MTm -> Int -> Prop
 | same : f = t -> CaV n e f t e n
 | cast : f ≠ t -> CaV n e f t (tCast e f t (n + 1)) (n + 1)
theorem CaV.of (n : Int) (e : MTm) (f t : MTy) : CaV n e f t (castM n e f t).1 (castM n e f t).2 := by
 simp only [castM]
 by_cases h : sameTy f t = true
 ·rw [if_pos h]; exact .same (sameTy_iff.1 h)
 ·rw [if_neg h]; exact .cast fun e => h (sameTy_iff.2 e)

inductive EV : List MBd -> MTm -> Int -> MTm -> MTy -> Int -> Prop
 | var {c : List MBd} {s : List UInt8} {t : MTy} {n : Int} : lookM c s = some t -> EV c (tVar s) n (tVar s) t n
 | num {c : List MBd} {k n : Int} : EV c (tNum k) n (tNum k) intT n
 | tru {c : List MBd} {n : Int} : EV c tTrue n tTrue boolT n
 | fls {c : List MBd} {n : Int} : EV c tFalse n tFalse boolT n
 | lam {c : List MBd} {s : List UInt8} {u t : MTy} {b b' : MTm} {n m : Int} : EV (c ++ [⟨s, u⟩]) b n b' t m -> shapeTy 4 (.mk 4 [u, t]) = true -> EV c (tLam s u b) n (tLam s u b') (.mk 4 [u, t]) m
 | app {c : List MBd} {a b a' b' a2 b2 : MTm} {ta tb x y : MTy} {n n1 n2 n3 n4 : Int} : EV c a n a' ta n1 -> EV c b n1 b' tb n2 -> matchM 4 ta = some (x, y) -> consTy tb x = true ->
   CaV n2 a' ta (.mk 4 [x, y]) a2 n3 -> CaV n3 b' tb x b2 n4 -> EV c (tN2 6 a b) n (tN2 6 a2 b2) y n4
 | op {c : List MBd} {k : Int} {a b a' b' a2 b2 : MTm} {ta tb t : MTy} {n n1 n2 n3 n4 : Int} : (k = 7 /\ t = intT \/ k = 8 /\ t = boolT) -> EV c a n a' ta n1 -> EV c b n1 b' tb n2 -> consTy ta intT = true -> consTy tb intT = true ->
   CaV n2 a' ta intT a2 n3 -> CaV n3 b' tb intT b2 n4 -> EV c (tN2 k a b) n (tN2 k a2 b2) t n4
 | ite {c : List MBd} {p a b p' a' b' p2 a2 b2 : MTm} {tp ta tb : MTy} {n n1 n2 n3 n4 n5 n6 : Int} : EV c p n p' tp n1 -> EV c a n1 a' ta n2 -> EV c b n2 b' tb n3 -> consTy tp boolT = true -> consTy ta tb = true ->
   CaV n3 p' tp boolT p2 n4 -> CaV n4 a' ta (meetTy ta tb) a2 n5 -> CaV n5 b' tb (meetTy ta tb) b2 n6 -> EV c (tIf p a b) n (tIf p2 a2 b2) (meetTy ta tb) n6
 | pair {c : List MBd} {a b a' b' : MTm} {ta tb : MTy} {n n1 n2 : Int} : EV c a n a' ta n1 -> EV c b n1 b' tb n2 -> shapeTy 4 (.mk 5 [ta, tb]) = true -> EV c (tN2 10 a b) n (tN2 10 a' b') (.mk 5 [ta, tb]) n2
 | sel {c : List MBd} {k : Int} {a a' a2 : MTm} {ta x y t : MTy} {n n1 n2 : Int} : (k = 11 /\ t = x \/ k = 12 /\ t = y) -> EV c a n a' ta n1 -> matchM 5 ta = some (x, y) -> CaV n1 a' ta (.mk 5 [x, y]) a2 n2 -> EV c (tN1 k a) n (tN1 k a2) t n2
 | asc {c : List MBd} {a a' a2 : MTm} {ta t : MTy} {n n1 n2 : Int} : EV c a n a' ta n1 -> consTy ta t = true -> CaV n1 a' ta t a2 n2 -> EV c (tAs a t) n a2 t n2

theorem elabS_one {c : List MBd} {a : MTm} {n m : Int} {es : List MTm} {ts : List MTy} (h : elabS c [a] n = (some (es, ts), m)) : ∃ a' ta, elabM c a n = (some (a', ta), m) /\ es = [a'] /\ ts = [ta] := by
 simp only [elabS] at h
 cases he : elabM c a n with
 | mk o k =>
  rw [he] at h
  cases o with
  | none => simp [consE] at h
  | some p => obtain ⟨x, t⟩ := p; simp [consE] at h; obtain ⟨⟨rfl, rfl⟩, rfl⟩ := h; exact ⟨x, t, rfl, rfl, rfl⟩
theorem elabS_cons {c : List MBd} {a : MTm} {r : List MTm} {n m : Int} {es : List MTm} {ts : List MTy} (h : elabS c (a :: r) n = (some (es, ts), m)) :
  ∃ a' ta k es' ts', elabM c a n = (some (a', ta), k) /\ elabS c r k = (some (es', ts'), m) /\ es = a' :: es' /\ ts = ta :: ts' := by
 rw [elabS] at h
 cases he : elabM c a n with
 | mk o k =>
  rw [he] at h
  cases o with
  | none => simp [consE] at h
  | some p =>
   obtain ⟨x, t⟩ := p
   simp only [consE] at h
   cases hr : elabS c r k with
   | mk o2 k2 =>
    rw [hr] at h
    cases o2 with
    | none => simp at h
    | some q => obtain ⟨xs, us⟩ := q; simp at h; obtain ⟨⟨rfl, rfl⟩, rfl⟩ := h; exact ⟨x, t, k, xs, us, rfl, hr, rfl, rfl⟩

theorem finM_some {c : List MBd} {k : Int} {s : List UInt8} {i : Int} {ty fr : MTy} {lb : Int} {o : Option (List MTm × List MTy) × Int} {e' : MTm} {t : MTy} {m : Int} (h : finM c k s i ty fr lb o = (some (e', t), m)) :
  ∃ es ts n ws, o = (some (es, ts), n) /\ wantM c k s ty ts = some (ws, t) /\ shapeTy 4 t = true /\ m = (castS n es ts ws).2 /\ (k ≠ 13 -> e' = .mk k s i ty fr lb (castS n es ts ws).1) /\ (k = 13 -> (castS n es ts ws).1.head? = some e') := by
 obtain ⟨o, n⟩ := o
 cases o with
 | none => simp [finM] at h
 | some p =>
  obtain ⟨es, ts⟩ := p
  simp only [finM] at h
  cases hw : wantM c k s ty ts with
  | none => rw [hw] at h; simp at h
  | some q =>
   obtain ⟨ws, t'⟩ := q
   rw [hw] at h
   simp only at h
   by_cases hs : shapeTy 4 t' = true
   ·rw [if_pos hs] at h
    by_cases h13 : k = 13
    ·rw [if_pos h13] at h
     simp only [Prod.mk.injEq, Option.map_eq_some_iff] at h
     obtain ⟨⟨x, hx, rfl, rfl⟩, rfl⟩ := h
     exact ⟨es, ts, n, ws, rfl, hw, hs, rfl, fun h => absurd h13 h, fun _ => hx⟩
    ·rw [if_neg h13] at h
     simp only [Prod.mk.injEq, Option.some.injEq] at h
     obtain ⟨⟨rfl, rfl⟩, rfl⟩ := h
     exact ⟨es, ts, n, ws, rfl, hw, hs, rfl, fun _ => rfl, fun h => absurd h h13⟩
   ·rw [if_neg hs] at h; simp at h

theorem EV.of {d : Nat} {e : MTm} (hv : TmV 14 d e) : ∀ {c : List MBd} {n : Int} {e' : MTm} {t : MTy} {m : Int}, elabM c e n = (some (e', t), m) -> EV c e n e' t m := by
 induction hv with
 | @var d s _ hs =>
  intro c n e' t m h
  simp only [elabM, elabS] at h
  obtain ⟨es, ts, n', ws, ho, hw, hst, rfl, h1, _⟩ := finM_some h
  simp at ho; obtain ⟨⟨rfl, rfl⟩, rfl⟩ := ho
  simp only [wantM, if_true, Option.map_eq_some_iff, Prod.mk.injEq] at hw
  obtain ⟨t', hl, rfl, rfl⟩ := hw
  rw [h1 (by omega)]
  exact .var hl
 | num _ _ _ =>
  intro c n e' t m h
  simp only [elabM, elabS] at h
  obtain ⟨es, ts, n', ws, ho, hw, hst, rfl, h1, _⟩ := finM_some h
  simp at ho; obtain ⟨⟨rfl, rfl⟩, rfl⟩ := ho
  simp [wantM] at hw; obtain ⟨rfl, rfl⟩ := hw
  rw [h1 (by omega)]
  exact .num
 | tru _ =>
  intro c n e' t m h
  simp only [elabM, elabS] at h
  obtain ⟨es, ts, n', ws, ho, hw, hst, rfl, h1, _⟩ := finM_some h
  simp at ho; obtain ⟨⟨rfl, rfl⟩, rfl⟩ := ho
  simp [wantM] at hw; obtain ⟨rfl, rfl⟩ := hw
  rw [h1 (by omega)]
  exact .tru
 | fls _ =>
  intro c n e' t m h
  simp only [elabM, elabS] at h
  obtain ⟨es, ts, n', ws, ho, hw, hst, rfl, h1, _⟩ := finM_some h
  simp at ho; obtain ⟨⟨rfl, rfl⟩, rfl⟩ := ho
  simp [wantM] at hw; obtain ⟨rfl, rfl⟩ := hw
  rw [h1 (by omega)]
  exact .fls
 | @lam d s u b _ hs hu hb ih =>
  intro c n e' t m h
  simp only [elabM, if_true] at h
  obtain ⟨es, ts, n', ws, ho, hw, hst, rfl, h1, _⟩ := finM_some h
  obtain ⟨b', tb, hb', rfl, rfl⟩ := elabS_one ho
  simp [wantM] at hw; obtain ⟨rfl, rfl⟩ := hw
  rw [h1 (by omega)]
  exact .lam (ih hb') hst
 | @n2 d k a b _ hk ha hb iha ihb =>
  intro c n e' t m h
  have h5 : k ≠ 5 := by omega
  simp only [elabM, if_neg h5] at h
  obtain ⟨es, ts, n', ws, ho, hw, hst, rfl, h1, _⟩ := finM_some h
  obtain ⟨a', ta, k1, es', ts', ha', hr, rfl, rfl⟩ := elabS_cons ho
  obtain ⟨b', tb, hb', rfl, rfl⟩ := elabS_one hr
  have h1' := h1 (by omega)
  have e1 := iha ha'
  have e2 := ihb hb'
  rcases hk with rfl | rfl | rfl | rfl
  ·simp only [wantM] at hw
   simp only [show ¬ ((6 : Int) = 1) by omega, show ¬ ((6 : Int) = 2) by omega, show ¬ ((6 : Int) = 3 \/ (6 : Int) = 4) by omega, if_false, if_true] at hw
   cases hm : matchM 4 ta with
   | none => rw [hm] at hw; simp at hw
   | some p =>
    obtain ⟨x, y⟩ := p
    rw [hm] at hw
    simp only at hw
    by_cases hq : consTy tb x = true
    ·rw [if_pos hq] at hw
     simp at hw; obtain ⟨rfl, rfl⟩ := hw
     rw [h1']
     exact .app e1 e2 hm hq (CaV.of ..) (CaV.of ..)
    ·rw [if_neg hq] at hw; simp at hw
  ·simp [wantM] at hw
   obtain ⟨⟨q1, q2⟩, rfl, rfl⟩ := hw
   rw [h1']
   exact .op (.inl ⟨rfl, rfl⟩) e1 e2 q1 q2 (CaV.of ..) (CaV.of ..)
  ·simp [wantM] at hw
   obtain ⟨⟨q1, q2⟩, rfl, rfl⟩ := hw
   rw [h1']
   exact .op (.inr ⟨rfl, rfl⟩) e1 e2 q1 q2 (CaV.of ..) (CaV.of ..)
  ·simp [wantM] at hw
   obtain ⟨rfl, rfl⟩ := hw
   rw [h1']
   exact .pair e1 e2 hst
 | @ite d p a b _ hp ha hb ihp iha ihb =>
  intro c n e' t m h
  simp only [elabM, show ¬ ((9 : Int) = 5) by omega, if_false] at h
  obtain ⟨es, ts, n', ws, ho, hw, hst, rfl, h1, _⟩ := finM_some h
  obtain ⟨p', tp, k1, es1, ts1, hp', hr1, rfl, rfl⟩ := elabS_cons ho
  obtain ⟨a', ta, k2, es2, ts2, ha', hr2, rfl, rfl⟩ := elabS_cons hr1
  obtain ⟨b', tb, hb', rfl, rfl⟩ := elabS_one hr2
  simp [wantM] at hw
  obtain ⟨⟨q1, q2⟩, rfl, rfl⟩ := hw
  rw [h1 (by omega)]
  exact .ite (ihp hp') (iha ha') (ihb hb') q1 q2 (CaV.of ..) (CaV.of ..) (CaV.of ..)
 | @n1 d k a _ hk ha ih =>
  intro c n e' t m h
  have h5 : k ≠ 5 := by omega
  simp only [elabM, if_neg h5] at h
  obtain ⟨es, ts, n', ws, ho, hw, hst, rfl, h1, _⟩ := finM_some h
  obtain ⟨a', ta, ha', rfl, rfl⟩ := elabS_one ho
  rw [h1 (by omega)]
  cases hm : matchM 5 ta with
  | none => rcases hk with rfl | rfl <;> simp [wantM, hm] at hw
  | some p =>
   obtain ⟨x, y⟩ := p
   rcases hk with rfl | rfl
   ·simp [wantM, hm] at hw
    obtain ⟨rfl, rfl⟩ := hw
    exact .sel (.inl ⟨rfl, rfl⟩) (ih ha') hm (CaV.of ..)
   ·simp [wantM, hm] at hw
    obtain ⟨rfl, rfl⟩ := hw
    exact .sel (.inr ⟨rfl, rfl⟩) (ih ha') hm (CaV.of ..)
 | @asc d ty a _ hty ha ih =>
  intro c n e' t m h
  simp only [elabM, show ¬ ((13 : Int) = 5) by omega, if_false] at h
  obtain ⟨es, ts, n', ws, ho, hw, hst, rfl, _, h1⟩ := finM_some h
  obtain ⟨a', ta, ha', rfl, rfl⟩ := elabS_one ho
  simp [wantM] at hw
  obtain ⟨q, rfl, rfl⟩ := hw
  have := h1 rfl
  simp [castS] at this
  subst this
  exact .asc (ih ha') q (CaV.of ..)
 | cast h1 _ _ _ _ _ _ => exact absurd rfl h1

def bareG (e : MTm) : MTm := if e.kind = 13 \/ e.kind = 14 then match e.kids with
  | x :: _ => x
  | [] => e
 else if e.kind = 5 then .mk 5 e.name e.num anyT e.fr e.label e.kids else e
theorem CaV.bare {n m : Int} {e e2 : MTm} {f t : MTy} (h : CaV n e f t e2 m) : mapM bareG e2 = mapM bareG e := by
 cases h with
 | same _ => rfl
 | cast _ => simp [mapM, mapS, bareG]
theorem EV.bare {c : List MBd} {e e' : MTm} {n m : Int} {t : MTy} (h : EV c e n e' t m) : mapM bareG e' = mapM bareG e := by
 induction h with
 | var _ => rfl
 | num => rfl
 | tru => rfl
 | fls => rfl
 | lam _ _ ih => simp [mapM, mapS, bareG, ih]
 | app _ _ _ _ h1 h2 iha ihb => simp [mapM, mapS, bareG, h1.bare, h2.bare, iha, ihb]
 | op hk _ _ _ _ h1 h2 iha ihb => rcases hk with ⟨rfl, rfl⟩ | ⟨rfl, rfl⟩ <;> simp [mapM, mapS, bareG, h1.bare, h2.bare, iha, ihb]
 | ite _ _ _ _ _ h1 h2 h3 ihp iha ihb => simp [mapM, mapS, bareG, h1.bare, h2.bare, h3.bare, ihp, iha, ihb]
 | pair _ _ _ iha ihb => simp [mapM, mapS, bareG, iha, ihb]
 | sel hk _ _ h1 ih => rcases hk with ⟨rfl, rfl⟩ | ⟨rfl, rfl⟩ <;> simp [mapM, mapS, bareG, h1.bare, ih]
 | asc _ _ h1 ih => simp [mapM, mapS, bareG, h1.bare, ih]

def exactS : List MTy -> List MTy -> Bool
 | [], _ => true
 | w :: ws, h :: hs => sameTy w h && exactS ws hs
 | _ :: _, [] => false
mutual
def castTyM : List MBd -> MTm -> Option MTy
 | c, .mk k s n t f b l => match castTyS (if k = 5 then c ++ [⟨s, t⟩] else c) l with
  | none => none
  | some ts => if k = 14 then match ts with
    | x :: _ => if sameTy x f = true then some t else none
    | [] => none
   else match wantM c k s t ts with
    | none => none
    | some (ws, u) => if shapeTy 4 u = true /\ exactS ws ts = true then some u else none
def castTyS : List MBd -> List MTm -> Option (List MTy)
 | _, [] => some []
 | c, e :: r => match castTyM c e with
  | none => none
  | some t => match castTyS c r with
   | none => none
   | some ts => some (t :: ts)
end
theorem CaV.exact {c : List MBd} {n m : Int} {e e2 : MTm} {f t : MTy} (h : CaV n e f t e2 m) (he : castTyM c e = some f) : castTyM c e2 = some t := by
 cases h with
 | same h => rw [<- h]; exact he
 | cast _ => simp [castTyM, castTyS, he, sameTy_refl]

theorem CaV.valid {n m : Int} {e e2 : MTm} {f t : MTy} (h : CaV n e f t e2 m) {k : Nat} (he : TmV 13 k e) (hf : shapeTy 4 f = true) (ht : shapeTy 4 t = true) (hc : consTy f t = true) (h0 : 0 <= n) (h9 : n + 1 <= 99) :
  TmV 13 (k + 1) e2 /\ n <= m /\ m <= n + 1 /\ (nodesM e2 : Int) + n = nodesM e + m := by
 cases h with
 | same h => exact ⟨he.mono (by omega), by omega, by omega, by omega⟩
 | cast _ => exact ⟨.cast (by omega) hf ht hc (by simp [labM, inM]; omega) he, by omega, by omega, by simp [nodesM, nodesS]; omega⟩

theorem cons_refl (a : MTy) : consTy a a = true := by
 induction a using MTy.ind with
 | h a ih =>
  rw [consTy_def]
  have : ∀ l : List MTy, (∀ u ∈ l, consTy u u = true) -> all2 consTy l l = true := by
   intro l
   induction l with
   | nil => intro _; rfl
   | cons x r ihr => intro h; simp [all2, h x (by simp), ihr fun u hu => h u (by simp [hu])]
  simp [this a.kids ih]
theorem prec_cons {a b : MTy} (h : precTy a b = true) : consTy b a = true := cons_mono _ _ _ _ (cons_refl a) h (prec_refl _)
theorem matchM_two {k : Int} (hk : k ≠ 1) (x y : MTy) : matchM k (.mk k [x, y]) = some (x, y) := by simp [matchM, hk]
theorem match_cons {k : Int} (hk : k = 4 \/ k = 5) {a x y : MTy} (h : matchM k a = some (x, y)) (ha : shapeTy 4 a = true) : consTy a (.mk k [x, y]) = true /\ shapeTy 4 (.mk k [x, y]) = true := by
 have hk1 : k ≠ 1 := by omega
 cases VTy.of ha with
 | any d => 
  simp [matchM] at h; obtain ⟨rfl, rfl⟩ := h
  refine ⟨cons_any1 _, ?_⟩
  rcases hk with rfl | rfl <;> rfl
 | int d => exfalso; rcases hk with rfl | rfl <;> simp [matchM] at h
 | bool d => exfalso; rcases hk with rfl | rfl <;> simp [matchM] at h
 | @fn d p q _ _ =>
  rcases hk with rfl | rfl
  ·simp [matchM] at h; obtain ⟨rfl, rfl⟩ := h; exact ⟨cons_refl _, ha⟩
  ·simp [matchM] at h
 | @pair d p q _ _ =>
  rcases hk with rfl | rfl
  ·simp [matchM] at h
  ·simp [matchM] at h; obtain ⟨rfl, rfl⟩ := h; exact ⟨cons_refl _, ha⟩
theorem meet_self {d : Nat} {a : MTy} (h : VTy d a) : meetTy a a = a := by
 induction h with
 | any d => rfl
 | int d => rfl
 | bool d => rfl
 | fn _ _ h1 h2 => rw [meet_two (by omega), h1, h2]
 | pair _ _ h1 h2 => rw [meet_two (by omega), h1, h2]

theorem EV.law {c : List MBd} {e e' : MTm} {n m : Int} {t : MTy} (h : EV c e n e' t m) : ∀ {d : Nat}, okCtx c -> TmV 14 d e -> 0 <= n -> n + nodesM e <= 100 ->
  TmV 13 (2 * d) e' /\ shapeTy 4 t = true /\ n <= m /\ m + 1 <= n + nodesM e /\ nodesM e' + 1 <= 2 * nodesM e /\ castTyM c e' = some t := by
 induction h with
 | @var c s t n hl =>
  intro d hc hv h0 h9
  obtain ⟨b, h1, h2, _⟩ := look_mem hl
  have hst : shapeTy 4 t = true := by rw [<- h2]; exact hc b h1
  have hs := hv
  cases hs with
  | var _ hs => exact ⟨.var (by omega) hs, hst, by omega, by simp [nodesM, nodesS], by simp [nodesM, nodesS], by simp [castTyM, castTyS, wantM, hl, hst, exactS]⟩
 | @num c k n =>
  intro d hc hv h0 h9
  cases hv with
  | num _ h1 h2 => exact ⟨.num (by omega) h1 h2, rfl, by omega, by simp [nodesM, nodesS], by simp [nodesM, nodesS], by simp [castTyM, castTyS, wantM, shape_int, exactS]⟩
 | @tru c n =>
  intro d hc hv h0 h9
  cases hv with
  | tru _ => exact ⟨.tru (by omega), rfl, by omega, by simp [nodesM, nodesS], by simp [nodesM, nodesS], by simp [castTyM, castTyS, wantM, shape_bool, exactS]⟩
 | @fls c n =>
  intro d hc hv h0 h9
  cases hv with
  | fls _ => exact ⟨.fls (by omega), rfl, by omega, by simp [nodesM, nodesS], by simp [nodesM, nodesS], by simp [castTyM, castTyS, wantM, shape_bool, exactS]⟩
 | @lam c s u t b b' n m _ hs ih =>
  intro d hc hv h0 h9
  obtain ⟨d', rfl, hn, hu, hb⟩ := hv.inv_lam
  simp only [nodesM, nodesS] at h9
  obtain ⟨i1, i2, i3, i4, i5, i6⟩ := ih (hc.app hu) hb h0 (by omega)
  refine ⟨(TmV.lam (by omega) hn hu i1).mono (by omega), hs, i3, ?_, ?_, ?_⟩
  ·simp only [nodesM, nodesS]; omega
  ·simp only [nodesM, nodesS]; omega
  ·simp [castTyM, castTyS, i6, wantM, exactS, hs]
 | @app c a b a' b' a2 b2 ta tb x y n n1 n2 n3 n4 _ _ hm hq h1 h2 iha ihb =>
  intro d hc hv h0 h9
  obtain ⟨d', rfl, _, ha, hb⟩ := hv.inv_n2
  simp only [nodesM, nodesS] at h9
  have := nodesM_pos a; have := nodesM_pos b
  obtain ⟨i1, i2, i3, i4, i5, i6⟩ := iha hc ha h0 (by omega)
  obtain ⟨j1, j2, j3, j4, j5, j6⟩ := ihb hc hb (by omega) (by omega)
  obtain ⟨m1, m2⟩ := match_cons (.inl rfl) hm i2
  obtain ⟨s1, s2⟩ := match_shape hm i2
  obtain ⟨k1, k2, k3, k4⟩ := h1.valid i1 i2 m2 m1 (by omega) (by omega)
  obtain ⟨l1, l2, l3, l4⟩ := h2.valid j1 j2 s1 hq (by omega) (by omega)
  refine ⟨(TmV.n2 (by omega) (by omega) k1 l1).mono (by omega), s2, by omega, ?_, ?_, ?_⟩
  ·simp only [nodesM, nodesS]; omega
  ·simp only [nodesM, nodesS]; omega
  ·simp [castTyM, castTyS, h1.exact i6, h2.exact j6, wantM, matchM_two (show (4 : Int) ≠ 1 by omega), exactS, cons_refl, sameTy_refl, s2]
 | @op c k a b a' b' a2 b2 ta tb t n n1 n2 n3 n4 hk _ _ q1 q2 h1 h2 iha ihb =>
  intro d hc hv h0 h9
  obtain ⟨d', rfl, hk', ha, hb⟩ := hv.inv_n2
  simp only [nodesM, nodesS] at h9
  have := nodesM_pos a; have := nodesM_pos b
  obtain ⟨i1, i2, i3, i4, i5, i6⟩ := iha hc ha h0 (by omega)
  obtain ⟨j1, j2, j3, j4, j5, j6⟩ := ihb hc hb (by omega) (by omega)
  obtain ⟨k1, k2, k3, k4⟩ := h1.valid i1 i2 rfl q1 (by omega) (by omega)
  obtain ⟨l1, l2, l3, l4⟩ := h2.valid j1 j2 rfl q2 (by omega) (by omega)
  refine ⟨(TmV.n2 (by omega) hk' k1 l1).mono (by omega), by rcases hk with ⟨_, rfl⟩ | ⟨_, rfl⟩ <;> rfl, by omega, ?_, ?_, ?_⟩
  ·simp only [nodesM, nodesS]; omega
  ·simp only [nodesM, nodesS]; omega
  ·rcases hk with ⟨rfl, rfl⟩ | ⟨rfl, rfl⟩ <;> simp [castTyM, castTyS, h1.exact i6, h2.exact j6, wantM, exactS, cons_refl, sameTy_refl, shape_int, shape_bool]
 | @ite c p a b p' a' b' p2 a2 b2 tp ta tb n n1 n2 n3 n4 n5 n6 _ _ _ q1 q2 h1 h2 h3 ihp iha ihb =>
  intro d hc hv h0 h9
  obtain ⟨d', rfl, hp, ha, hb⟩ := hv.inv_if
  simp only [nodesM, nodesS] at h9
  have := nodesM_pos p; have := nodesM_pos a; have := nodesM_pos b
  obtain ⟨o1, o2, o3, o4, o5, o6⟩ := ihp hc hp h0 (by omega)
  obtain ⟨i1, i2, i3, i4, i5, i6⟩ := iha hc ha (by omega) (by omega)
  obtain ⟨j1, j2, j3, j4, j5, j6⟩ := ihb hc hb (by omega) (by omega)
  have hsm := meet_shape 4 ta tb i2 j2 q2
  obtain ⟨w1, w2⟩ := meet_low (VTy.of i2) (VTy.of j2) q2
  obtain ⟨r1, r2, r3, r4⟩ := h1.valid o1 o2 rfl q1 (by omega) (by omega)
  obtain ⟨k1, k2, k3, k4⟩ := h2.valid i1 i2 hsm (prec_cons w1) (by omega) (by omega)
  obtain ⟨l1, l2, l3, l4⟩ := h3.valid j1 j2 hsm (prec_cons w2) (by omega) (by omega)
  refine ⟨(TmV.ite (by omega) r1 k1 l1).mono (by omega), hsm, by omega, ?_, ?_, ?_⟩
  ·simp only [nodesM, nodesS]; omega
  ·simp only [nodesM, nodesS]; omega
  ·simp [castTyM, castTyS, h1.exact o6, h2.exact i6, h3.exact j6, wantM, exactS, cons_refl, sameTy_refl, meet_self (VTy.of hsm), hsm]
 | @pair c a b a' b' ta tb n n1 n2 _ _ hs iha ihb =>
  intro d hc hv h0 h9
  obtain ⟨d', rfl, _, ha, hb⟩ := hv.inv_n2
  simp only [nodesM, nodesS] at h9
  have := nodesM_pos a; have := nodesM_pos b
  obtain ⟨i1, i2, i3, i4, i5, i6⟩ := iha hc ha h0 (by omega)
  obtain ⟨j1, j2, j3, j4, j5, j6⟩ := ihb hc hb (by omega) (by omega)
  refine ⟨(TmV.n2 (by omega) (by omega) i1 j1).mono (by omega), hs, by omega, ?_, ?_, ?_⟩
  ·simp only [nodesM, nodesS]; omega
  ·simp only [nodesM, nodesS]; omega
  ·simp [castTyM, castTyS, i6, j6, wantM, exactS, hs]
 | @sel c k a a' a2 ta x y t n n1 n2 hk _ hm h1 ih =>
  intro d hc hv h0 h9
  obtain ⟨d', rfl, hk', ha⟩ := hv.inv_n1
  simp only [nodesM, nodesS] at h9
  obtain ⟨i1, i2, i3, i4, i5, i6⟩ := ih hc ha h0 (by omega)
  obtain ⟨m1, m2⟩ := match_cons (.inr rfl) hm i2
  obtain ⟨s1, s2⟩ := match_shape hm i2
  obtain ⟨k1, k2, k3, k4⟩ := h1.valid i1 i2 m2 m1 (by omega) (by omega)
  refine ⟨(TmV.n1 (by omega) hk' k1).mono (by omega), by rcases hk with ⟨_, rfl⟩ | ⟨_, rfl⟩ <;> assumption, by omega, ?_, ?_, ?_⟩
  ·simp only [nodesM, nodesS]; omega
  ·simp only [nodesM, nodesS]; omega
  ·rcases hk with ⟨rfl, rfl⟩ | ⟨rfl, rfl⟩ <;> simp [castTyM, castTyS, h1.exact i6, wantM, matchM_two (show (5 : Int) ≠ 1 by omega), exactS, sameTy_refl, s1, s2]
 | @asc c a a' a2 ta t n n1 n2 _ q h1 ih =>
  intro d hc hv h0 h9
  obtain ⟨d', rfl, ht, ha⟩ := hv.inv_as
  simp only [nodesM, nodesS] at h9
  obtain ⟨i1, i2, i3, i4, i5, i6⟩ := ih hc ha h0 (by omega)
  obtain ⟨k1, k2, k3, k4⟩ := h1.valid i1 i2 ht q (by omega) (by omega)
  refine ⟨k1.mono (by omega), ht, by omega, ?_, ?_, h1.exact i6⟩
  ·simp only [nodesM, nodesS]; omega
  ·simp only [nodesM, nodesS]; omega

theorem VTy.small {d : Nat} {t : MTy} (h : VTy d t) : nTy t + 2 <= 2 ^ (d + 1) := by
 have key : ∀ d : Nat, 2 <= 2 ^ (d + 2) := fun d => by have : 0 < 2 ^ d := Nat.pow_pos (by omega); rw [Nat.pow_add]; omega
 induction h with
 | any d => have := key d; simpa [nTy_mk, nTyS] using this
 | int d => have := key d; simpa [nTy_mk, nTyS] using this
 | bool d => have := key d; simpa [nTy_mk, nTyS] using this
 | @fn d a b _ _ h1 h2 => rw [Nat.pow_succ]; simp [nTy_mk, nTyS]; omega
 | @pair d a b _ _ h1 h2 => rw [Nat.pow_succ]; simp [nTy_mk, nTyS]; omega
theorem TmV.small {nt : Int} {d : Nat} {e : MTm} (h : TmV nt d e) : nTm e + 1 <= 300 * nodesM e := by
 have key : ∀ {t : MTy}, shapeTy 4 t = true -> nTy t <= 100 := fun h => by have := (VTy.of h).small; omega
 have hnm : ∀ {s : List UInt8}, nameM s = true -> s.length = 1 := fun {s} h => by
  match s, h with
  | [c], _ => rfl
 induction h with
 | var _ hs => have := hnm hs; simp [nTm_mk, nTmS, nTy_mk, nTyS, nodesM, nodesS]; omega
 | num _ _ _ => simp [nTm_mk, nTmS, nTy_mk, nTyS, nodesM, nodesS]
 | tru _ => simp [nTm_mk, nTmS, nTy_mk, nTyS, nodesM, nodesS]
 | fls _ => simp [nTm_mk, nTmS, nTy_mk, nTyS, nodesM, nodesS]
 | lam _ hs ht _ ih => have := hnm hs; have := key ht; simp [nTm_mk, nTmS, nTy_mk, nTyS, nodesM, nodesS]; omega
 | n2 _ _ _ _ h1 h2 => simp [nTm_mk, nTmS, nTy_mk, nTyS, nodesM, nodesS]; omega
 | ite _ _ _ _ h1 h2 h3 => simp [nTm_mk, nTmS, nTy_mk, nTyS, nodesM, nodesS]; omega
 | n1 _ _ _ ih => simp [nTm_mk, nTmS, nTy_mk, nTyS, nodesM, nodesS]; omega
 | asc _ ht _ ih => have := key ht; simp [nTm_mk, nTmS, nTy_mk, nTyS, nodesM, nodesS]; omega
 | cast _ hf ht _ _ _ ih => have := key hf; have := key ht; simp [nTm_mk, nTmS, nTy_mk, nTyS, nodesM, nodesS]; omega

end Go.Av

namespace Go.Av
open Go
mutual
def typesM : MTm -> List MTy
 | .mk k _ _ t _ _ l => (if hasTyM k = true then [t] else []) ++ typesS l
def typesS : List MTm -> List MTy
 | [] => []
 | e :: r => typesM e ++ typesS r
end
theorem typesM_def (e : MTm) : typesM e = (if hasTyM e.kind = true then [e.ty] else []) ++ typesS e.kids := by cases e; rfl
theorem typesS_app : ∀ (a b : List MTm), typesS (a ++ b) = typesS a ++ typesS b
 | [], b => rfl
 | e :: r, b => by simp [typesS, typesS_app r b]
theorem typesS_take {l : List MTm} {p : Nat} {u : MTm} (h : l[p]? = some u) : typesS (l.take (p + 1)) = typesS (l.take p) ++ typesM u := by
 rw [List.take_add_one, h, typesS_app]; simp [typesS]
theorem typesS_split (l : List MTm) (p : Nat) : typesS l = typesS (l.take p) ++ typesS (l.drop p) := by rw [<- typesS_app, List.take_append_drop]
theorem typesS_le (l : List MTm) (p : Nat) : (typesS (l.take p)).length <= (typesS l).length := by rw [typesS_split l p]; simp
mutual
def withM : MTm -> List MTy -> MTm
 | .mk k s n t f lb l, ts => .mk k s n (if hasTyM k = true then ts.headD t else t) f lb (withS l (if hasTyM k = true then ts.drop 1 else ts))
def withS : List MTm -> List MTy -> List MTm
 | [], _ => []
 | e :: r, ts => withM e ts :: withS r (ts.drop (typesM e).length)
end
theorem withM_def (e : MTm) (ts : List MTy) : withM e ts = .mk e.kind e.name e.num (if hasTyM e.kind = true then ts.headD e.ty else e.ty) e.fr e.label (withS e.kids (if hasTyM e.kind = true then ts.drop 1 else ts)) := by cases e; rfl
theorem withS_len : ∀ (a : List MTm) (ts : List MTy), (withS a ts).length = a.length
 | [], ts => rfl
 | e :: r, ts => by simp [withS, withS_len r]
theorem typesM_small : ∀ (e : MTm), nTyS (typesM e) <= nTm e + 1 /\ (typesM e).length <= nTm e + 1 := by
 intro e
 induction e using MTm.ind with
 | h e ih =>
  have hs : ∀ l : List MTm, (∀ u ∈ l, nTyS (typesM u) <= nTm u + 1 /\ (typesM u).length <= nTm u + 1) -> nTyS (typesS l) <= nTmS l /\ (typesS l).length <= nTmS l := by
   intro l
   induction l with
   | nil => intro _; simp [typesS, nTyS]
   | cons u r ihr =>
    intro h
    have h1 := h u (by simp)
    have h2 := ihr fun v hv => h v (by simp [hv])
    simp only [typesS, nTyS_app, List.length_append, nTmS]
    omega
  have h1 := hs e.kids ih
  rw [typesM_def]
  have h2 : nTm e = e.name.length + nTy e.ty + nTy e.fr + nTmS e.kids := by cases e; rw [nTm_mk]; rfl
  split
  ·simp only [nTyS_app, List.length_append, nTyS, List.length_singleton]; omega
  ·simp only [List.nil_append]; omega

theorem withS_get : ∀ {l : List MTm} {p : Nat} {u : MTm} (ts : List MTy), l[p]? = some u -> (withS l ts)[p]? = some (withM u (ts.drop (typesS (l.take p)).length))
 | [], p, u, ts, h => by simp at h
 | e :: r, 0, u, ts, h => by simp at h; subst h; simp [withS, typesS]
 | e :: r, p + 1, u, ts, h => by
  simp only [List.getElem?_cons_succ] at h
  simp only [withS, List.getElem?_cons_succ, List.take_succ_cons, typesS, List.length_append]
  rw [withS_get _ h, List.drop_drop]
theorem withS_take {l : List MTm} {p : Nat} {u : MTm} (ts : List MTy) (h : l[p]? = some u) : (withS l ts).take (p + 1) = (withS l ts).take p ++ [withM u (ts.drop (typesS (l.take p)).length)] := by
 rw [List.take_add_one, withS_get ts h]; rfl

theorem TmV.types {nt : Int} {d : Nat} {e : MTm} (h : TmV nt d e) : (∀ t ∈ typesM e, shapeTy 4 t = true) /\ (typesM e).length <= nodesM e := by
 induction h with
 | var => simp [typesM, typesS, hasTyM]
 | num => simp [typesM, typesS, hasTyM]
 | tru => simp [typesM, typesS, hasTyM]
 | fls => simp [typesM, typesS, hasTyM]
 | lam _ _ h3 _ ih =>
  obtain ⟨h1, h2⟩ := ih
  simp only [typesM, typesS, hasTyM, nodesM, nodesS]
  refine ⟨fun t ht => ?_, by simp; omega⟩
  simp at ht
  rcases ht with rfl | ht
  ·exact h3
  ·exact h1 t ht
 | asc _ h3 _ ih =>
  obtain ⟨h1, h2⟩ := ih
  simp only [typesM, typesS, hasTyM, nodesM, nodesS]
  refine ⟨fun t ht => ?_, by simp; omega⟩
  simp at ht
  rcases ht with rfl | ht
  ·exact h3
  ·exact h1 t ht
 | n2 _ hk _ _ ih1 ih2 =>
  have h5 : ∀ k : Int, k = 6 \/ k = 7 \/ k = 8 \/ k = 10 -> hasTyM k = false := fun k h => by rcases h with rfl | rfl | rfl | rfl <;> rfl
  simp only [typesM, typesS, h5 _ hk, nodesM, nodesS]
  refine ⟨fun t ht => ?_, by simp; omega⟩
  simp at ht
  rcases ht with ht | ht
  ·exact ih1.1 t ht
  ·exact ih2.1 t ht
 | ite _ _ _ _ ih1 ih2 ih3 =>
  simp only [typesM, typesS, hasTyM, nodesM, nodesS]
  refine ⟨fun t ht => ?_, by simp; omega⟩
  simp at ht
  rcases ht with ht | ht | ht
  ·exact ih1.1 t ht
  ·exact ih2.1 t ht
  ·exact ih3.1 t ht
 | n1 _ hk _ ih =>
  have h5 : ∀ k : Int, k = 11 \/ k = 12 -> hasTyM k = false := fun k h => by rcases h with rfl | rfl <;> rfl
  simp only [typesM, typesS, h5 _ hk, nodesM, nodesS]
  refine ⟨fun t ht => ?_, by simp; omega⟩
  simp at ht
  exact ih.1 t ht
 | cast _ _ _ _ _ _ ih =>
  simp only [typesM, typesS, hasTyM, nodesM, nodesS]
  refine ⟨fun t ht => ?_, by simp; omega⟩
  simp at ht
  exact ih.1 t ht
theorem headD_mem {ts : List MTy} {t : MTy} (h : shapeTy 4 t = true) (hs : ∀ u ∈ ts, shapeTy 4 u = true) : shapeTy 4 (ts.headD t) = true := by
 cases ts with
 | nil => exact h
 | cons u r => exact hs u (by simp)
theorem TmV.withM {nt : Int} {d : Nat} {e : MTm} (h : TmV nt d e) : ∀ {ts : List MTy}, (∀ u ∈ ts, shapeTy 4 u = true) -> TmV nt d (Av.withM e ts) /\ nodesM (Av.withM e ts) = nodesM e := by
 induction h with
 | var h1 h2 => intro ts _; exact ⟨.var h1 h2, rfl⟩
 | num h1 h2 h3 => intro ts _; exact ⟨.num h1 h2 h3, rfl⟩
 | tru h1 => intro ts _; exact ⟨.tru h1, rfl⟩
 | fls h1 => intro ts _; exact ⟨.fls h1, rfl⟩
 | lam h1 h2 h3 _ ih =>
  intro ts hs
  have hd : ∀ u ∈ ts.drop 1, shapeTy 4 u = true := fun u hu => hs u (List.mem_of_mem_drop hu)
  simp only [Av.withM, withS, hasTyM, nodesM, nodesS]
  exact ⟨.lam h1 h2 (headD_mem h3 hs) (ih hd).1, by have h := (ih hd).2; simp at h ⊢; exact h⟩
 | asc h1 h3 _ ih =>
  intro ts hs
  have hd : ∀ u ∈ ts.drop 1, shapeTy 4 u = true := fun u hu => hs u (List.mem_of_mem_drop hu)
  simp only [Av.withM, withS, hasTyM, nodesM, nodesS]
  exact ⟨.asc h1 (headD_mem h3 hs) (ih hd).1, by have h := (ih hd).2; simp at h ⊢; exact h⟩
 | n2 h1 hk _ _ ih1 ih2 =>
  intro ts hs
  have h5 : ∀ k : Int, k = 6 \/ k = 7 \/ k = 8 \/ k = 10 -> hasTyM k = false := fun k h => by rcases h with rfl | rfl | rfl | rfl <;> rfl
  have hd : ∀ n, ∀ u ∈ ts.drop n, shapeTy 4 u = true := fun n u hu => hs u (List.mem_of_mem_drop hu)
  simp only [Av.withM, withS, h5 _ hk, nodesM, nodesS]
  exact ⟨.n2 h1 hk (ih1 hs).1 (ih2 (hd _)).1, by simp [(ih1 hs).2, (ih2 (hd _)).2]⟩
 | ite h1 _ _ _ ih1 ih2 ih3 =>
  intro ts hs
  have hd : ∀ n, ∀ u ∈ ts.drop n, shapeTy 4 u = true := fun n u hu => hs u (List.mem_of_mem_drop hu)
  have hd2 : ∀ n m, ∀ u ∈ (ts.drop n).drop m, shapeTy 4 u = true := fun n m u hu => hd n u (List.mem_of_mem_drop hu)
  simp only [Av.withM, withS, hasTyM, nodesM, nodesS]
  exact ⟨.ite h1 (ih1 hs).1 (ih2 (hd _)).1 (ih3 (hd2 _ _)).1, by have h1 := (ih1 hs).2; have h2 := fun n => (ih2 (hd n)).2; have h3 := fun n => (ih3 (hd n)).2; simp [h1, h2, h3]⟩
 | n1 h1 hk _ ih =>
  intro ts hs
  have h5 : ∀ k : Int, k = 11 \/ k = 12 -> hasTyM k = false := fun k h => by rcases h with rfl | rfl <;> rfl
  simp only [Av.withM, withS, h5 _ hk, nodesM, nodesS]
  exact ⟨.n1 h1 hk (ih hs).1, by simp [(ih hs).2]⟩
 | cast h1 h2 h3 h4 h6 _ ih =>
  intro ts hs
  simp only [Av.withM, withS, hasTyM, nodesM, nodesS]
  exact ⟨.cast h1 h2 h3 h4 h6 (ih hs).1, by simp [(ih hs).2]⟩

def withTypesM (e : MTm) (ts : List MTy) : Option MTm := if (termValidM e && decide (ts.length = (typesM e).length) && ts.all (shapeTy 4)) = true then some (withM e ts) else none
def tmRes : Option MTm -> List AV
 | some e => [aTm e, .b true]
 | none => [aTm zeroE, .b false]
def tm0 (o : Option MTm) : MTm := o.getD zeroE
theorem valid_small {e : MTm} (h : termValidM e = true) : nTm e <= 9000 := by
 obtain ⟨h1, h2⟩ := termValidM_iff.1 h
 have := h1.small
 omega
end Go.Av
