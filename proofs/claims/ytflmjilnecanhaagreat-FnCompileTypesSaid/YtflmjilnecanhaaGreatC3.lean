/- A part of the library of this seat. -/
import Derived.Test.YtflmjilnecanhaaGreatC2
set_option linter.unusedVariables false
set_option linter.unusedSimpArgs false
namespace Go.Av
open Go

mutual
def substM (x : List UInt8) (v : MTm) : MTm -> MTm
 | .mk k s n t f b l => if k = 1 /\ s = x then v else if k = 5 /\ s = x then .mk k s n t f b l else .mk k s n t f b (substS x v l)
def substS (x : List UInt8) (v : MTm) : List MTm -> List MTm
 | [] => []
 | e :: r => substM x v e :: substS x v r
end
def eqCtx (c c' : List MBd) : Prop := ∀ s, lookM c s = lookM c' s
theorem eqCtx.sub {c c' : List MBd} (h : eqCtx c c') : subCtx c c' := fun s t hs => by rw [<- h s]; exact hs

mutual
def precTy : MTy -> MTy -> Bool
 | .mk k l, .mk k' l' => decide (k' = 1) || (decide (k = k') && precTyS l l')
def precTyS : List MTy -> List MTy -> Bool
 | [], [] => true
 | x :: xs, y :: ys => precTy x y && precTyS xs ys
 | _, _ => false
end
theorem precTyS_all2 : ∀ (l m : List MTy), precTyS l m = all2 precTy l m
 | [], [] => rfl
 | x :: xs, y :: ys => by simp [precTyS, all2, precTyS_all2 xs ys]
 | [], _ :: _ => rfl
 | _ :: _, [] => rfl
theorem precTy_def (a b : MTy) : precTy a b = (decide (b.kind = 1) || (decide (a.kind = b.kind) && all2 precTy a.kids b.kids)) := by
 cases a; cases b; simp only [precTy, precTyS_all2]; rfl

def hasTyM (k : Int) : Bool := decide (k = 5) || decide (k = 13)
mutual
def alikeM (q : MTy -> MTy -> Bool) : MTm -> MTm -> Bool
 | .mk k s n t _ _ l, .mk k' s' n' t' _ _ l' => !(hasTyM k && decide (k = k') && !q t t') && (decide (k = k') && (decide (s = s') && (decide (n = n') && alikeS q l l')))
def alikeS (q : MTy -> MTy -> Bool) : List MTm -> List MTm -> Bool
 | [], [] => true
 | x :: xs, y :: ys => alikeM q x y && alikeS q xs ys
 | _, _ => false
end
theorem all2_iff {α β : Type} {q : α -> β -> Bool} : ∀ {xs : List α} {ys : List β}, all2 q xs ys = true ↔ xs.length = ys.length /\ ∀ (i : Nat) x y, xs[i]? = some x -> ys[i]? = some y -> q x y = true
 | [], [] => by simp [all2]
 | [], y :: ys => by simp [all2]
 | x :: xs, [] => by simp [all2]
 | x :: xs, y :: ys => by
  simp only [all2, Bool.and_eq_true, all2_iff (xs := xs) (ys := ys), List.length_cons, Nat.add_right_cancel_iff]
  constructor
  ·rintro ⟨h1, h2, h3⟩
   refine ⟨h2, fun i u v hu hv => ?_⟩
   cases i with
   | zero => simp at hu hv; subst hu; subst hv; exact h1
   | succ i => simp at hu hv; exact h3 i u v hu hv
  ·rintro ⟨h1, h2⟩
   exact ⟨h2 0 x y rfl rfl, h1, fun i u v hu hv => h2 (i + 1) u v (by simpa using hu) (by simpa using hv)⟩

theorem all2_mono3 {α : Type} {q p : α -> α -> Bool} {xs ys xs' ys' : List α} (h : all2 q xs ys = true) (h1 : all2 p xs xs' = true) (h2 : all2 p ys ys' = true)
  (hs : ∀ x ∈ xs, ∀ y ∈ ys, ∀ x' ∈ xs', ∀ y' ∈ ys', q x y = true -> p x x' = true -> p y y' = true -> q x' y' = true) : all2 q xs' ys' = true := by
 rw [all2_iff] at *
 refine ⟨by omega, fun i x' y' hx' hy' => ?_⟩
 have hi : i < xs.length := by have := (List.getElem?_eq_some_iff.1 hx').1; omega
 obtain ⟨x, hx⟩ : ∃ x, xs[i]? = some x := ⟨_, List.getElem?_eq_getElem hi⟩
 obtain ⟨y, hy⟩ : ∃ y, ys[i]? = some y := ⟨_, List.getElem?_eq_getElem (by omega)⟩
 exact hs x (List.mem_of_getElem? hx) y (List.mem_of_getElem? hy) x' (List.mem_of_getElem? hx') y' (List.mem_of_getElem? hy') (h.2 i x y hx hy) (h1.2 i x x' hx hx') (h2.2 i y y' hy hy')

theorem prec_two {k : Int} (hk : k ≠ 1) {a b a' b' : MTy} : precTy (.mk k [a, b]) (.mk k [a', b']) = (precTy a a' && precTy b b') := by
 rw [precTy_def]; simp [hk, all2]
theorem cons_two {k : Int} (hk : k ≠ 1) {a b a' b' : MTy} : consTy (.mk k [a, b]) (.mk k [a', b']) = (consTy a a' && consTy b b') := by
 rw [consTy_def]; simp [hk, all2]
theorem cons_any1 (b : MTy) : consTy anyT b = true := by rw [consTy_def]; simp
theorem cons_any2 (a : MTy) : consTy a anyT = true := by rw [consTy_def]; simp
theorem prec_any2 (a : MTy) : precTy a anyT = true := by rw [precTy_def]; simp

theorem prec_kind {a b : MTy} (h : precTy a b = true) (hb : b.kind ≠ 1) : a.kind = b.kind /\ all2 precTy a.kids b.kids = true := by
 rw [precTy_def] at h; simpa [hb] using h

theorem prec_refl : ∀ (a : MTy), precTy a a = true := by
 intro a
 induction a using MTy.ind with
 | h a ih =>
  rw [precTy_def]
  simp only [decide_true, Bool.true_and, Bool.or_eq_true]
  right
  rw [all2_iff]
  refine ⟨rfl, fun i x y hx hy => ?_⟩
  rw [hx] at hy; simp at hy; subst hy
  exact ih x (List.mem_of_getElem? hx)

theorem cons_mono : ∀ (a b a' b' : MTy), consTy a b = true -> precTy a a' = true -> precTy b b' = true -> consTy a' b' = true := by
 intro a
 induction a using MTy.ind with
 | h a ih =>
  intro b a' b' h h1 h2
  rw [consTy_def]
  by_cases ha : a'.kind = 1
  ·simp [ha]
  by_cases hb : b'.kind = 1
  ·simp [hb]
  obtain ⟨h3, h4⟩ := prec_kind h1 ha
  obtain ⟨h5, h6⟩ := prec_kind h2 hb
  obtain ⟨h7, h8⟩ := consTy_kind h (by omega) (by omega)
  simp only [ha, hb, decide_false, Bool.false_or, Bool.and_eq_true, decide_eq_true_eq]
  exact ⟨by omega, all2_mono3 h8 h4 h6 fun x hx y _ x' _ y' _ => ih x hx y x' y'⟩

theorem meet_two {k : Int} (hk : k ≠ 1) {a b a' b' : MTy} : meetTy (.mk k [a, b]) (.mk k [a', b']) = .mk k [meetTy a a', meetTy b b'] := by
 rw [meetTy_def]; simp [hk]

theorem meet_low : ∀ {d : Nat} {a : MTy}, VTy d a -> ∀ {n : Nat} {b : MTy}, VTy n b -> consTy a b = true -> precTy (meetTy a b) a = true /\ precTy (meetTy a b) b = true := by
 intro d a ha
 induction ha with
 | any d => intro n b hb h; rw [show meetTy anyT b = b by rw [meetTy_def]; simp]; exact ⟨prec_any2 b, prec_refl b⟩
 | int d => intro n b hb h; cases hb <;> simp [consTy, consTyS] at h <;> simp [meetTy, meetTyS, precTy, precTyS]
 | bool d => intro n b hb h; cases hb <;> simp [consTy, consTyS] at h <;> simp [meetTy, meetTyS, precTy, precTyS]
 | @fn d x y _ _ ih1 ih2 =>
  intro n b hb h
  cases hb with
  | any => rw [show meetTy (.mk 4 [x, y]) anyT = .mk 4 [x, y] by rw [meetTy_def]; simp]; exact ⟨prec_refl _, prec_any2 _⟩
  | int => simp [consTy, consTyS] at h
  | bool => simp [consTy, consTyS] at h
  | fn h1 h2 => rw [cons_two (by omega)] at h; simp at h; rw [meet_two (by omega), prec_two (by omega), prec_two (by omega)]; simp [ih1 h1 h.1, ih2 h2 h.2]
  | pair h1 h2 => simp [consTy, consTyS] at h
 | @pair d x y _ _ ih1 ih2 =>
  intro n b hb h
  cases hb with
  | any => rw [show meetTy (.mk 5 [x, y]) anyT = .mk 5 [x, y] by rw [meetTy_def]; simp]; exact ⟨prec_refl _, prec_any2 _⟩
  | int => simp [consTy, consTyS] at h
  | bool => simp [consTy, consTyS] at h
  | fn h1 h2 => simp [consTy, consTyS] at h
  | pair h1 h2 => rw [cons_two (by omega)] at h; simp at h; rw [meet_two (by omega), prec_two (by omega), prec_two (by omega)]; simp [ih1 h1 h.1, ih2 h2 h.2]

def precCtx : List MBd -> List MBd -> Prop
 | [], [] => True
 | b :: r, b' :: r' => b.name = b'.name /\ precTy b.ty b'.ty = true /\ precCtx r r'
 | _, _ => False
theorem precCtx.app : ∀ {c c' : List MBd} (h : precCtx c c') {s : List UInt8} {t t' : MTy} (ht : precTy t t' = true), precCtx (c ++ [⟨s, t⟩]) (c' ++ [⟨s, t'⟩])
 | [], [], _, s, t, t', ht => ⟨rfl, ht, trivial⟩
 | b :: r, b' :: r', h, s, t, t', ht => ⟨h.1, h.2.1, precCtx.app h.2.2 ht⟩
 | [], _ :: _, h, _, _, _, _ => h.elim
 | _ :: _, [], h, _, _, _, _ => h.elim
theorem precCtx.look : ∀ {c c' : List MBd}, precCtx c c' -> ∀ {s : List UInt8}, (lookM c s = none -> lookM c' s = none) /\ ∀ {t : MTy}, lookM c s = some t -> ∃ t', lookM c' s = some t' /\ precTy t t' = true
 | [], [], _, s => by simp [lookM]
 | b :: r, b' :: r', h, s => by
  obtain ⟨h1, h2, h3⟩ := h
  obtain ⟨h4, h5⟩ := precCtx.look h3 (s := s)
  simp only [lookM]
  cases hr : lookM r s with
  | some u =>
   obtain ⟨u', h6, h7⟩ := h5 hr
   rw [h6]
   exact ⟨fun h => by simp at h, fun {t} h => by simp at h; subst h; exact ⟨u', rfl, h7⟩⟩
  | none =>
   rw [h4 hr]
   simp only [h1]
   by_cases e : b'.name = s
   ·simp only [e, if_true]
    exact ⟨fun h => by simp at h, fun {t} h => by simp at h; subst h; exact ⟨_, rfl, h2⟩⟩
   ·simp [e]
 | [], _ :: _, h, _ => h.elim
 | _ :: _, [], h, _ => h.elim

theorem okCtx.app {c : List MBd} (h : okCtx c) {s : List UInt8} {t : MTy} (ht : shapeTy 4 t = true) : okCtx (c ++ [⟨s, t⟩]) := by
 intro b hb
 rcases List.mem_append.1 hb with h' | h'
 ·exact h b h'
 ·simp at h'; subst h'; exact ht
theorem TmV.typed {d : Nat} {nt : Int} {e : MTm} {c : List MBd} {t : MTy} (h : TmV nt d e) (hc : okCtx c) (ht : typeM c e = some t) : VTy 4 t := VTy.of (typeM_shape e d nt c t h.shape hc ht)

inductive AlV (q : MTy -> MTy -> Bool) : MTm -> MTm -> Prop
 | var (s : List UInt8) : AlV q (tVar s) (tVar s)
 | num (n : Int) : AlV q (tNum n) (tNum n)
 | tru : AlV q tTrue tTrue
 | fls : AlV q tFalse tFalse
 | lam {s : List UInt8} {t t' : MTy} {b b' : MTm} : q t t' = true -> AlV q b b' -> AlV q (tLam s t b) (tLam s t' b')
 | n2 {k : Int} {a b a' b' : MTm} : AlV q a a' -> AlV q b b' -> AlV q (tN2 k a b) (tN2 k a' b')
 | ite {a b c a' b' c' : MTm} : AlV q a a' -> AlV q b b' -> AlV q c c' -> AlV q (tIf a b c) (tIf a' b' c')
 | n1 {k : Int} {a a' : MTm} : AlV q a a' -> AlV q (tN1 k a) (tN1 k a')
 | asc {t t' : MTy} {a a' : MTm} : q t t' = true -> AlV q a a' -> AlV q (tAs a t) (tAs a' t')

theorem AlV.of {q : MTy -> MTy -> Bool} {d : Nat} {a : MTm} (ha : TmV 14 d a) : ∀ {n : Nat} {b : MTm}, TmV 14 n b -> alikeM q a b = true -> AlV q a b := by
 induction ha with
 | var _ _ =>
  intro n b hb h
  cases hb <;> simp only [alikeM, alikeS, Bool.and_eq_true, Bool.not_eq_true', decide_eq_true_eq] at h <;> (try omega)
  obtain ⟨_, _, rfl, _⟩ := h; exact .var _
 | num _ _ _ =>
  intro n b hb h
  cases hb <;> simp only [alikeM, alikeS, Bool.and_eq_true, Bool.not_eq_true', decide_eq_true_eq] at h <;> (try omega)
  obtain ⟨_, _, _, rfl, _⟩ := h; exact .num _
 | tru _ =>
  intro n b hb h
  cases hb <;> simp only [alikeM, alikeS, Bool.and_eq_true, Bool.not_eq_true', decide_eq_true_eq] at h <;> (try omega)
  exact .tru
 | fls _ =>
  intro n b hb h
  cases hb <;> simp only [alikeM, alikeS, Bool.and_eq_true, Bool.not_eq_true', decide_eq_true_eq] at h <;> (try omega)
  exact .fls
 | lam _ _ _ _ ih =>
  intro n b hb h
  cases hb <;> simp only [alikeM, alikeS, Bool.and_eq_true, Bool.not_eq_true', decide_eq_true_eq] at h <;> (try omega)
  rename_i hb'
  obtain ⟨h1, _, rfl, _, h2, _⟩ := h
  refine .lam ?_ (ih hb' h2)
  simpa [hasTyM] using h1
 | n2 _ hk _ _ ih1 ih2 =>
  intro n b hb h
  cases hb <;> simp only [alikeM, alikeS, Bool.and_eq_true, Bool.not_eq_true', decide_eq_true_eq] at h <;> (try omega)
  rename_i h1 h2
  obtain ⟨_, rfl, _, _, h3, h4, _⟩ := h
  exact .n2 (ih1 h1 h3) (ih2 h2 h4)
 | ite _ _ _ _ ih1 ih2 ih3 =>
  intro n b hb h
  cases hb <;> simp only [alikeM, alikeS, Bool.and_eq_true, Bool.not_eq_true', decide_eq_true_eq] at h <;> (try omega)
  rename_i h1 h2 h3
  obtain ⟨_, _, _, _, h4, h5, h6, _⟩ := h
  exact .ite (ih1 h1 h4) (ih2 h2 h5) (ih3 h3 h6)
 | n1 _ hk _ ih =>
  intro n b hb h
  cases hb <;> simp only [alikeM, alikeS, Bool.and_eq_true, Bool.not_eq_true', decide_eq_true_eq] at h <;> (try omega)
  rename_i h1
  obtain ⟨_, rfl, _, _, h3, _⟩ := h
  exact .n1 (ih h1 h3)
 | asc _ _ _ ih =>
  intro n b hb h
  cases hb <;> simp only [alikeM, alikeS, Bool.and_eq_true, Bool.not_eq_true', decide_eq_true_eq] at h <;> (try omega)
  rename_i h1
  obtain ⟨h3, _, _, _, h4, _⟩ := h
  refine .asc ?_ (ih h1 h4)
  simpa [hasTyM] using h3
 | cast h => exact absurd rfl h

end Go.Av

namespace Go.Av
open Go
section
variable {P : Program} {n : Nat} {ι : Type} {Q : Exit -> St -> Prop} {QX : ι -> Exit -> St -> Prop} {s s' : St} {c : Code}
theorem subL.app : ∀ {l m fr : List (Nat × AV)}, subL l fr -> subL m fr -> subL (l ++ m) fr
 | [], m, fr, _, h => h
 | (t, x) :: r, m, fr, h, h' => ⟨h.1, subL.app h.2 h'⟩
theorem keepL_sub' : ∀ (ks : List Nat) {fr fr' : List (Nat × AV)}, (∀ t x, look fr t = some x -> look fr' t = some x) -> subL (keepL ks fr) fr'
 | [], _, _, _ => trivial
 | k :: r, fr, fr', h => by
  simp only [keepL]
  cases hk : look fr k with
  | some x => exact ⟨h k x hk, keepL_sub' r h⟩
  | none => exact keepL_sub' r h
theorem keepL_sub (ks : List Nat) (fr : List (Nat × AV)) : subL (keepL ks fr) fr := keepL_sub' ks fun _ _ h => h

theorem T.loopK {α : Type} (ks : List Nat) (ph : α -> List (Nat × AV)) (ob : α -> List (Nat × List CV)) (G : α -> List (List CV)) (ar : α -> List Arr -> List Arr) (m : α -> Nat) (H : α -> Prop) {fr0 : List (Nat × AV)} (hk : keepL ks s.fr = fr0)
  (h : ∀ a, H a -> T P n c (Round (fun a => ⟨ph a ++ fr0, ups (ob a) s.V ++ G a, ar a s.A⟩) m H (m a) Q) ⟨ph a ++ fr0, ups (ob a) s.V ++ G a, ar a s.A⟩) (a : α) (ha : H a) (hV : ups (ob a) s.V ++ G a = s.V) (hA : ar a s.A = s.A) (hp : subL (ph a) s.fr) : T P n (.loop c) Q s := by
 subst hk
 exact T.loopF (fun a => ⟨ph a ++ keepL ks s.fr, ups (ob a) s.V ++ G a, ar a s.A⟩) m H h a ha ⟨hV, hA, hp.app (keepL_sub ks s.fr)⟩
theorem TX.loopK {α : Type} (ks : List Nat) (ph : α -> List (Nat × AV)) (ob : α -> List (Nat × List CV)) (G : α -> List (List CV)) (ar : α -> List Arr -> List Arr) (m : α -> Nat) (H : α -> Prop) {fr0 : List (Nat × AV)} (hk : keepL ks s.fr = fr0)
  (h : ∀ a, H a -> TX P n c (RoundX (fun a => ⟨ph a ++ fr0, ups (ob a) s.V ++ G a, ar a s.A⟩) m H (m a) QX) ⟨ph a ++ fr0, ups (ob a) s.V ++ G a, ar a s.A⟩) (a : α) (ha : H a) (hV : ups (ob a) s.V ++ G a = s.V) (hA : ar a s.A = s.A) (hp : subL (ph a) s.fr) : TX P n (.loop c) QX s := by
 subst hk
 exact TX.loopF (fun a => ⟨ph a ++ keepL ks s.fr, ups (ob a) s.V ++ G a, ar a s.A⟩) m H h a ha ⟨hV, hA, hp.app (keepL_sub ks s.fr)⟩
end
end Go.Av

namespace Go.Av
attribute [-simp] Go.Av.astep Go.Av.wpo Go.Av.gdo Go.Av.onv Go.Av.aval Go.Av.avals Go.Av.oval Go.Av.slow Go.Av.shigh Go.Av.alen Go.Av.rowsOf Go.Av.look Go.Av.cvOf Go.Av.St.put Go.Av.cellsAt Go.Av.mkV Go.Av.splice Go.Av.abin Go.Av.aun Go.Av.abinS Go.Av.abinB Go.Av.cEq Go.Av.AV.plain Go.Av.AV.cells Go.Av.CV.isUndef Go.Av.toD Go.Av.toDs Go.Av.toRows Go.Av.sealA Go.Av.sealAs Go.Av.innAs Go.Av.AV.inn Go.Av.CV.inn Go.Av.inns Go.Av.AV.outn Go.Av.CV.outn Go.Av.argCells Go.Av.aparts Go.Av.arows Go.Av.afill Go.Av.isS Go.Av.ares Go.Av.ares1 Go.Av.AV.res1 Go.Av.CV.res Go.Av.ress Go.Av.pos? Go.Av.poss Go.Av.Then Go.Av.InBlock Go.Av.Sub Go.Av.subL Go.Av.argFr Go.Av.get_app_len Go.Av.get_app_len0 Go.Av.set_app_len Go.Av.set_app_len0 Go.Av.MTy.kind_mk Go.Av.MTy.kids_mk Go.Av.MTm.kind_mk Go.Av.MTm.name_mk Go.Av.MTm.num_mk Go.Av.MTm.ty_mk Go.Av.MTm.fr_mk Go.Av.MTm.label_mk Go.Av.MTm.kids_mk Go.Av.freeStep Go.Av.exV Go.Av.keepL Go.Av.ups Go.Av.take_app_len
open Go

def isA : Op -> Bool
 | .buildSlice _ _ _ => true
 | .call { callee := .builtin .append, .. } => true
 | _ => false

def pairOkH (all : Array Oper) (wv wa fs : List Nat) (m : Nat) (ms : List Nat) (oi oj : Oper) (i j : Nat) : Bool :=
 (oi.dst.isNone || oi.dst != oj.dst) && ((!touch all oi oj && !touch all oj oi &&
  !((wv.contains i || wa.contains i) && !isS oj.op && !(fs.contains j && decide (i < m)) && !(wv.contains i && wa.contains j) && !(wa.contains i && wv.contains j)) &&
  !((wv.contains j || wa.contains j) && !isS oi.op && !(fs.contains i && decide (j < m)) && !(wv.contains j && wa.contains i) && !(wa.contains j && wv.contains i))) || (ms.getD j 0).testBit i)

def drawOkH (all : Array Oper) (wv wa fs : List Nat) (m : Nat) : Bool :=
 let l := all.toList.zipIdx
 let ms := masks all.toList []
 (l.all fun (o, j) => o.after.toList.all fun e => !Region.binds .any e || decide (e.on < j)) &&
 (l.all fun (oj, j) => l.all fun (oi, i) => !(decide (i < j)) || pairOkH all wv wa fs m ms oi oj i j) &&
 (l.all fun (o, j) => (!wv.contains j || !isS o.op) && (!wa.contains j || isA o.op)) && (fs.all fun j => !wv.contains j && !wa.contains j) &&
 (fs.all fun j => (wv ++ wa).all fun i => decide (i < m) || decide (j < i)) && (wv.all fun j => !wa.contains j)

def aopsH (P : Program) (all : Array Oper) (ow : Nat -> Bool) (wv wa fs : List Nat) (m : Nat) (ex : List Nat) (V0 : List (List CV)) (A0 : List Arr) (K : St -> Prop) : Nat -> List Oper -> St -> Prop
 | _, [], s => K s
 | i, o :: rest, s => gdo all s o (astep P s (ow i) o fun x V A => ((i ∈ wv \/ V = s.V) /\ (i ∈ wa \/ A = s.A)) /\ (i ∈ wv \/ i ∈ wa -> i < m -> V.take V0.length = exV ex (fun i => V.getD i []) V0 /\ A.take A0.length = A0) /\ (i ∈ fs -> freeStep P s (ow i) o ex V0 A0 x) /\
   (i ∈ wv -> ∀ A2, astep P ⟨s.fr, s.V, A2⟩ (ow i) o fun y V' A' => y = x /\ V' = V /\ A' = A2) /\ aopsH P all ow wv wa fs m ex V0 A0 K (i + 1) rest (s.put o.dst x V A)) (aopsH P all ow wv wa fs m ex V0 A0 K (i + 1) rest (s.put o.dst (.c .undef) s.V s.A))

section
variable {P : Program} {n : Nat} {Q Q' : Exit -> St -> Prop} {s s' : St} {w0 : World} {g0 g g' : Gh} {a : Act} {w w' : World} {V : List (List CV)} {A A' : List Arr}

def StpH (P : Program) (all : Array Oper) (ow : Bool) (wv fs : List Nat) (j : Nat) (ex : List Nat) (V0 : List (List CV)) (A0 : List Arr) (o : Oper) (s s' : St) : Prop :=
 gdo all s o True True /\ ((gw all s o = true /\ ∃ x V A, s' = s.put o.dst x V A /\ (∀ K : AV -> List (List CV) -> List Arr -> Prop, K x V A -> astep P s ow o K) /\ (j ∈ fs -> freeStep P s ow o ex V0 A0 x) /\
  (j ∈ wv -> ∀ A2, astep P ⟨s.fr, s.V, A2⟩ ow o fun y V' A' => y = x /\ V' = V /\ A' = A2)) \/ (gw all s o = false /\ s' = s.put o.dst (.c .undef) s.V s.A))

structure DSH (all : Array Oper) (wv wa : List Nat) (σ : Nat -> St) (n : Nat) (w0 : World) (g0 : Gh) (listed : Array Bool) (kv ka : Nat) (g : Gh) (a : Act) (w : World) : Prop where
 inv : Inv g w (σ kv).V (σ ka).A
 fr : Fr w0 g0 w g
 size : a.tmps.size = n
 defers : a.defers = []
 lsize : listed.size = all.size
 slot1 : ∀ (i : Nat) o t x, all[i]? = some o -> listed[i]? = some true -> o.dst = some t -> look (σ (i + 1)).fr t = some x -> ∃ u, a.tmps[t]? = some u /\ RepV g w (σ ka).A x u
 slot0 : ∀ t x, (∀ (i : Nat) o, all[i]? = some o -> listed[i]? = some true -> o.dst ≠ some t) -> look (σ 0).fr t = some x -> ∃ u, a.tmps[t]? = some u /\ RepV g w (σ ka).A x u
 vprog : ∀ i ∈ wv, i < all.size -> (listed[i]? = some true ↔ i < kv)
 aprog : ∀ i ∈ wa, i < all.size -> (listed[i]? = some true ↔ i < ka)
 vle : kv <= all.size
 ale : ka <= all.size
 vw : kv = 0 \/ ∃ i ∈ wv, kv = i + 1
 aw : ka = 0 \/ ∃ i ∈ wa, ka = i + 1
 closed : ∀ (i : Nat) o, all[i]? = some o -> listed[i]? = some true -> ∀ e ∈ o.after, Region.binds .any e = true -> listed[e.on]? = some true

end
end Go.Av

namespace Go.Av
attribute [-simp] Go.Av.take_app_len
open Go

def pairOkL (all : Array Oper) (ws fs : List Nat) (m q : Nat) (ms : List Nat) (oi oj : Oper) (i j : Nat) : Bool :=
 if j = q then oi.dst.isNone || oi.dst != oj.dst else pairOkF all ws fs m ms oi oj i j && (!(decide (i <= q) && decide (q < j)) || (ms.getD j 0).testBit i)

def drawOkL (all : Array Oper) (ws fs : List Nat) (m q : Nat) : Bool :=
 let l := all.toList.zipIdx
 let ms := masks all.toList []
 (l.all fun (o, j) => o.after.toList.all fun e => !Region.binds .any e || decide (e.on < j)) &&
 (l.all fun (oj, j) => l.all fun (oi, i) => !(decide (i < j)) || pairOkL all ws fs m q ms oi oj i j) &&
 (l.all fun (o, j) => !ws.contains j || !isS o.op) && (fs.all fun j => !ws.contains j) && (fs.all fun j => ws.all fun i => decide (i < m) || decide (j < i)) && ws.contains q

section
variable {P : Program} {n : Nat} {Q Q' : Exit -> St -> Prop} {s s' : St} {w0 : World} {g0 g g' : Gh} {a : Act} {w w' : World} {V : List (List CV)} {A A' : List Arr}

theorem Fr.trans (h : Fr w0 g0 w g) (k : Fr w g w' g') : Fr w0 g0 w' g' := by
 have notOb : ∀ b, b < w0.heap.size -> b ∉ g0.ob -> b ∉ g.ob := fun b hb h1 hm => by
  obtain ⟨new, e, hn⟩ := h.ob
  rw [e] at hm
  rcases List.mem_append.1 hm with q | q
  ·exact h1 q
  ·exact absurd (hn b q) (by omega)
 have notArb : ∀ b, b < w0.heap.size -> b ∉ g0.arb -> b ∉ g.arb := fun b hb h1 hm => by
  obtain ⟨k, v, q1, q2⟩ := Gh.mem_arb hm
  rcases h.ar k v b q1 q2 with q | q
  ·omega
  ·exact h1 q
 refine ⟨k.os.trans h.os, k.tape.trans h.tape, k.output.trans h.output, Nat.le_trans h.size k.size, fun b h1 h2 h3 => ?_, fun b h1 h2 => ?_, ?_, fun i v b h1 h2 => ?_, fun i v h1 => ?_, h.tab⟩
 ·rw [k.blk b (Nat.lt_of_lt_of_le h1 h.size) (notOb b h1 h2) (notArb b h1 h3)]; exact h.blk b h1 h2 h3
 ·rw [k.imeq b (Nat.lt_of_lt_of_le h1 h.size) (notArb b h1 h2)]; exact h.imeq b h1 h2
 ·obtain ⟨new, e, hn⟩ := h.ob
  obtain ⟨new', e', hn'⟩ := k.ob
  refine ⟨new ++ new', by rw [e', e, List.append_assoc], fun b hb => ?_⟩
  rcases List.mem_append.1 hb with q | q
  ·exact hn b q
  ·exact Nat.le_trans h.size (hn' b q)
 ·rcases k.ar i v b h1 h2 with q | q
  ·exact .inl (Nat.le_trans h.size q)
  ·obtain ⟨j, v', q1, q2⟩ := Gh.mem_arb q
   exact h.ar j v' b q1 q2
 ·obtain ⟨v1, q1, q2, q3⟩ := h.arx i v h1
  obtain ⟨v2, q4, q5, q6⟩ := k.arx i v1 q1
  exact ⟨v2, q4, Nat.le_trans q2 q5, fun e => (q6 (by omega)).trans (q3 (by omega))⟩
structure Late (all : Array Oper) (ws : List Nat) (σ : Nat -> St) (n : Nat) (w0 : World) (g0 : Gh) (q d : Nat) (row : List CV) (cs : Array Value) (ty : TypeId) (listed : Array Bool) (k0 : Nat) (b : Nat) (g : Gh) (a : Act) (w : World) : Prop where
 got : listed[q]? = some true
 base : DSF all ws σ n w0 g0 (listed.setIfInBounds q false) k0 g a w
 slot : a.tmps[d]? = some (.pointer (some ⟨b, 0, none⟩))
 mem : w.heap[b]? = some (.cells cs ty)
 ob : b ∉ g.ob
 arb : b ∉ g.arb
 im : g.im b = 0
 new : w0.heap.size <= b
 lt : b < w.heap.size
 closed : ∀ (i : Nat) o, all[i]? = some o -> listed[i]? = some true -> ∀ e ∈ o.after, Region.binds .any e = true -> listed[e.on]? = some true

theorem Late.step {all : Array Oper} {ws : List Nat} {σ : Nat -> St} {q d : Nat} {row : List CV} {cs : Array Value} {ty : TypeId} {listed : Array Bool} {k0 k1 b : Nat} {a' : Act} (h : Late all ws σ n w0 g0 q d row cs ty listed k0 b g a w) {j : Nat} (hjq : j ≠ q) (ha : a'.tmps[d]? = a.tmps[d]?)
  (hD : DSF all ws σ n w0 g0 ((listed.setIfInBounds q false).setIfInBounds j true) k1 g' a' w') (hF : Fr w g w' g') (hcl : ∀ (i : Nat) o, all[i]? = some o -> (listed.setIfInBounds j true)[i]? = some true -> ∀ e ∈ o.after, Region.binds .any e = true -> (listed.setIfInBounds j true)[e.on]? = some true) : Late all ws σ n w0 g0 q d row cs ty (listed.setIfInBounds j true) k1 b g' a' w' := by
 refine ⟨by rw [Array.getElem?_setIfInBounds_ne hjq]; exact h.got, ?_, by rw [ha]; exact h.slot, by rw [hF.blk b h.lt h.ob h.arb]; exact h.mem, fun hm => ?_, fun hm => ?_, by rw [hF.imeq b h.lt h.arb]; exact h.im, h.new, Nat.lt_of_lt_of_le h.lt hF.size, hcl⟩
 ·rw [Array.setIfInBounds_comm _ _ hjq]; exact hD
 ·obtain ⟨new, e, hn⟩ := hF.ob
  rw [e] at hm
  rcases List.mem_append.1 hm with p | p
  ·exact h.ob p
  ·have := hn b p; have := h.lt; omega
 ·obtain ⟨k, v, q1, q2⟩ := Gh.mem_arb hm
  rcases hF.ar k v b q1 q2 with p | p
  ·have := h.lt; omega
  ·exact h.arb p

structure LateOk (P : Program) (all : Array Oper) (ow : Nat -> Bool) (σ : Nat -> St) (q d : Nat) (row : List CV) (cs : Array Value) (ty : TypeId) (oq : Oper) : Prop where
 at_ : all[q]? = some oq
 guard : oq.guard = none
 dst : oq.dst = some d
 s0 : look (σ 0).fr d = none
 size : cs.size = row.length
 cells : ∀ (j : Nat) c u, row[j]? = some c -> cs[j]? = some u -> ∀ g w A, RepC g w A c u
 next : σ (q + 1) = (σ q).put (some d) (.c (.ptr (σ q).V.length 0)) ((σ q).V ++ [row]) (σ q).A
 run : ∀ (a : Act) (w : World), (execOp a.eval oq).run P w = .ok (.value (.pointer (some ⟨w.heap.size, 0, none⟩))) (w.alloc (.cells cs ty))

end
end Go.Av
