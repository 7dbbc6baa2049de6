/- Plain models of what the program computes on types and terms: validity, consistency, values' shapes. No program in sight. -/
import Derived.Test.YtdbffbmbbfbamaaL1
import Derived.Test.YtdbffbmbbfbamaaM1
namespace Go.Av
open Go
set_option linter.unusedVariables false

/-- A type of which every operand has a property has it. -/
theorem MTy.ind {P : MTy → Prop} (h : ∀ t, (∀ u ∈ t.kids, P u) → P t) : ∀ t, P t
  | .mk k l => h _ (fun u hu => MTy.ind h u)
termination_by t => SizeOf.sizeOf t
decreasing_by simp at hu; have := List.sizeOf_lt_of_mem hu; simp; omega

theorem MTm.ind {P : MTm → Prop} (h : ∀ e, (∀ u ∈ e.kids, P u) → P e) : ∀ e, P e
  | .mk k s n t f b l => h _ (fun u hu => MTm.ind h u)
termination_by e => SizeOf.sizeOf e
decreasing_by simp at hu; have := List.sizeOf_lt_of_mem hu; simp; omega

def inM (x lo hi : Int) : Bool := decide (lo ≤ x) && decide (x ≤ hi)

def nameM : List UInt8 → Bool
  | [c] => decide (97 ≤ c.toNat) && decide (c.toNat ≤ 122)
  | _ => false

def noTyM (t : MTy) : Bool := decide (t.kind = 0) && decide (t.kids = [])

def labM (n : Int) : Bool := inM n 1 99 || inM n (-99) (-1)

def kidsM (k : Int) : Int :=
  if k = 1 ∨ k = 2 ∨ k = 3 ∨ k = 4 then 0 else if k = 5 ∨ k = 11 ∨ k = 12 ∨ k = 13 ∨ k = 14 then 1 else if k = 6 ∨ k = 7 ∨ k = 8 ∨ k = 10 then 2 else if k = 9 then 3 else -1

def tyKids (k : Int) : Int := if k = 1 ∨ k = 2 ∨ k = 3 then 0 else if k = 4 ∨ k = 5 then 2 else -1

def shapeTy : Nat → MTy → Bool
  | 0, _ => false
  | d + 1, t => decide (tyKids t.kind = t.kids.length) && t.kids.all (shapeTy d)

theorem shapeTy_kids {d : Nat} {t : MTy} (h : shapeTy d t = true) : ∃ e, d = e + 1 ∧ tyKids t.kind = t.kids.length ∧ t.kids.length ≤ 2 ∧ ∀ u ∈ t.kids, shapeTy e u = true := by
  cases d with
  | zero => simp [shapeTy] at h
  | succ e =>
    simp only [shapeTy, Bool.and_eq_true, decide_eq_true_eq, List.all_eq_true] at h
    refine ⟨e, rfl, h.1, ?_, h.2⟩
    have := h.1
    simp only [tyKids] at this
    split at this
    · omega
    · split at this <;> omega

mutual
def consTy : MTy → MTy → Bool
  | .mk k l, .mk k' l' => decide (k = 1) || decide (k' = 1) || (decide (k = k') && consTyS l l')
def consTyS : List MTy → List MTy → Bool
  | [], [] => true
  | x :: xs, y :: ys => consTy x y && consTyS xs ys
  | _, _ => false
end
theorem consTyS_all2 : ∀ (l m : List MTy), consTyS l m = all2 consTy l m
  | [], [] => rfl
  | x :: xs, y :: ys => by simp [consTyS, all2, consTyS_all2 xs ys]
  | [], _ :: _ => rfl
  | _ :: _, [] => rfl
theorem consTy_def (a b : MTy) : consTy a b = (decide (a.kind = 1) || decide (b.kind = 1) || (decide (a.kind = b.kind) && all2 consTy a.kids b.kids)) := by
  cases a; cases b; simp only [consTy, consTyS_all2]; rfl

/- A node by itself, but for the number of its operands. -/
def namedM (k : Int) : Bool := decide (k = 1) || decide (k = 5)
def typedM (k : Int) : Bool := decide (k = 5) || decide (k = 13) || decide (k = 14)
def castOwnM (e : MTm) : Bool := shapeTy 4 e.fr && shapeTy 4 e.ty && consTy e.fr e.ty && labM e.label
def ownM (e : MTm) : Bool :=
  (if namedM e.kind then nameM e.name else decide (e.name = [])) && inM e.num 0 (if e.kind = 2 then 999 else 0) &&
  (if typedM e.kind then shapeTy 4 e.ty else noTyM e.ty) && (if e.kind = 14 then castOwnM e else noTyM e.fr && decide (e.label = 0))
def nodeM (e : MTm) : Bool := decide (kidsM e.kind = e.kids.length) && ownM e

/-- A term, all of whose nodes are right, of at most so many levels, and none of a kind. -/
def shapeTm (nt : Int) : Nat → MTm → Bool
  | 0, _ => false
  | d + 1, e => decide (e.kind ≠ nt) && nodeM e && e.kids.all (shapeTm nt d)

/-- The number of nodes, down to a depth. -/
def countTm : Nat → MTm → Nat
  | 0, _ => 1
  | d + 1, e => 1 + (e.kids.map (countTm d)).sum

/- A scan from a node on: whether it goes through, and how many nodes it has seen. -/
mutual
def scanM (mn md nt : Int) : Int → MTm → Int → Bool × Int
  | deep, .mk k s n t f b l, c => if mn < c + 1 ∨ md < deep ∨ k = nt ∨ nodeM (.mk k s n t f b l) = false then (false, c + 1) else scanS mn md nt (deep + 1) l (c + 1)
def scanS (mn md nt : Int) : Int → List MTm → Int → Bool × Int
  | _, [], c => (true, c)
  | deep, e :: r, c => if (scanM mn md nt deep e c).1 = true then scanS mn md nt deep r (scanM mn md nt deep e c).2 else (false, (scanM mn md nt deep e c).2)
end
theorem scanM_def (mn md nt deep : Int) (e : MTm) (c : Int) : scanM mn md nt deep e c = if mn < c + 1 ∨ md < deep ∨ e.kind = nt ∨ nodeM e = false then (false, c + 1) else scanS mn md nt (deep + 1) e.kids (c + 1) := by
  cases e; simp only [scanM]; rfl

/-- The whole law of the scan: it goes through exactly at shapes that are small enough, and then it has counted every node. -/
theorem scanM_law (mn md nt : Int) : ∀ (e : MTm) (d : Nat) (c : Int), 0 ≤ c → c ≤ mn →
    (scanM mn md nt (md + 1 - d) e c).1 = (shapeTm nt d e && decide (c + countTm d e ≤ mn)) ∧ (shapeTm nt d e = true → c + countTm d e ≤ mn → (scanM mn md nt (md + 1 - d) e c).2 = c + countTm d e) := by
  intro e
  induction e using MTm.ind with
  | h e ih =>
    intro d c h0 hc
    rw [scanM_def]
    cases d with
    | zero =>
      rw [if_pos (by right; left; omega)]
      simp [shapeTm]
    | succ d =>
      have hpos : ∀ (x : Nat) (y : MTm), 1 ≤ countTm x y := fun x y => by cases x <;> simp [countTm]
      have hcount : countTm (d + 1) e = 1 + (e.kids.map (countTm d)).sum := rfl
      by_cases hbad : mn < c + 1 ∨ md < md + 1 - ((d + 1 : Nat) : Int) ∨ e.kind = nt ∨ nodeM e = false
      · rw [if_pos hbad]
        have hf : (shapeTm nt (d + 1) e && decide (c + countTm (d + 1) e ≤ mn)) = false := by
          have := hpos (d + 1) e
          rcases hbad with h | h | h | h
          · simp; intro _; omega
          · omega
          · simp [shapeTm, h]
          · simp [shapeTm, h]
        refine ⟨hf.symm, fun h1 h2 => ?_⟩
        rw [h1] at hf; simp at hf; omega
      · rw [if_neg hbad]
        have hk : e.kind ≠ nt := fun h => hbad (by simp [h])
        have hn : nodeM e = true := by
          cases h : nodeM e
          · exact absurd (by simp [h]) hbad
          · rfl
        have hsh : shapeTm nt (d + 1) e = e.kids.all (shapeTm nt d) := by simp [shapeTm, hk, hn]
        rw [hsh, hcount, show md + 1 - ((d + 1 : Nat) : Int) + 1 = md + 1 - (d : Int) by omega]
        have hlist : ∀ (l : List MTm), (∀ u ∈ l, u ∈ e.kids) → ∀ c : Int, 0 ≤ c → c ≤ mn → (scanS mn md nt (md + 1 - d) l c).1 = (l.all (shapeTm nt d) && decide (c + (l.map (countTm d)).sum ≤ mn)) ∧
            (l.all (shapeTm nt d) = true → c + (l.map (countTm d)).sum ≤ mn → (scanS mn md nt (md + 1 - d) l c).2 = c + (l.map (countTm d)).sum) := by
          intro l
          induction l with
          | nil => intro _ c h0 hc; simp [scanS]; omega
          | cons x r ihl =>
            intro hm c h0 hc
            obtain ⟨h1, h2⟩ := ih x (hm x (by simp)) d c h0 hc
            simp only [scanS, List.all_cons, List.map_cons, List.sum_cons]
            cases hx : (scanM mn md nt (md + 1 - d) x c).1 with
            | false =>
              rw [hx] at h1
              simp only [Bool.false_eq_true, if_false]
              cases hs : shapeTm nt d x with
              | false => simp
              | true =>
                rw [hs] at h1; simp at h1
                refine ⟨?_, fun _ h => ?_⟩
                · symm; simp; intro _; omega
                · omega
            | true =>
              rw [hx] at h1
              have h1' := h1.symm
              simp only [Bool.and_eq_true, decide_eq_true_eq] at h1'
              rw [h2 h1'.1 h1'.2]
              obtain ⟨h3, h4⟩ := ihl (fun u hu => hm u (by simp [hu])) (c + countTm d x) (by omega) h1'.2
              simp only [if_true]
              rw [h3, h1'.1]
              refine ⟨?_, fun h5 h6 => ?_⟩
              · simp only [Bool.true_and]
                congr 1
                exact decide_eq_decide.2 (by omega)
              · rw [h4 (by simpa using h5) (by omega)]
                omega
        obtain ⟨h1, h2⟩ := hlist e.kids (fun _ h => h) (c + 1) (by omega) (by omega)
        rw [h1]
        refine ⟨?_, fun h3 h4 => ?_⟩
        · congr 1
          exact decide_eq_decide.2 (by omega)
        · rw [h2 h3 (by omega)]
          omega

theorem scanM_le (mn md nt : Int) : ∀ (e : MTm) (deep c : Int), 0 ≤ c → (scanM mn md nt deep e c).1 = true → 0 ≤ (scanM mn md nt deep e c).2 ∧ (scanM mn md nt deep e c).2 ≤ mn := by
  intro e
  induction e using MTm.ind with
  | h e ih =>
    intro deep c h0
    rw [scanM_def]
    split
    · simp
    · rename_i hbad
      have hlist : ∀ (l : List MTm), (∀ u ∈ l, u ∈ e.kids) → ∀ c : Int, 0 ≤ c → c ≤ mn → (scanS mn md nt (deep + 1) l c).1 = true → 0 ≤ (scanS mn md nt (deep + 1) l c).2 ∧ (scanS mn md nt (deep + 1) l c).2 ≤ mn := by
        intro l
        induction l with
        | nil => intro _ c h0 hc _; exact ⟨h0, hc⟩
        | cons x r ihl =>
          intro hm c h0 hc
          simp only [scanS]
          split
          · rename_i hx
            obtain ⟨h1, h2⟩ := ih x (hm x (by simp)) (deep + 1) c h0 hx
            exact ihl (fun u hu => hm u (by simp [hu])) _ h1 h2
          · simp
      exact hlist e.kids (fun _ h => h) (c + 1) (by omega) (by omega)

theorem nTyS_mem' {l : List MTy} {t : MTy} (h : t ∈ l) : nTy t ≤ nTyS l := Nat.le_of_lt (nTyS_mem h)
theorem countTm_le : ∀ (d : Nat) (e : MTm), countTm d e ≤ 1 + nTm e
  | 0, e => by simp [countTm]
  | d + 1, e => by
    have h : ∀ l : List MTm, (l.map (countTm d)).sum ≤ nTmS l := by
      intro l
      induction l with
      | nil => simp [nTmS]
      | cons x r ih => have := countTm_le d x; simp [nTmS]; omega
    have := h e.kids
    rw [nTm_def]
    simp only [countTm]; omega

/- No casts, and no types but the unknown one. -/
mutual
def bareM : MTm → Bool
  | .mk k _ _ t _ _ l => decide (k ≠ 14) && (decide (k ≠ 5) || decide (t.kind = 1)) && bareS l
def bareS : List MTm → Bool
  | [] => true
  | e :: r => bareM e && bareS r
end
theorem bareS_all : ∀ (l : List MTm), bareS l = l.all bareM
  | [] => rfl
  | e :: r => by simp [bareS, bareS_all r]
theorem bareM_def (e : MTm) : bareM e = (decide (e.kind ≠ 14) && (decide (e.kind ≠ 5) || decide (e.ty.kind = 1)) && e.kids.all bareM) := by
  cases e; simp only [bareM, bareS_all]; rfl

def castValidM (e : MTm) : Bool := shapeTm 13 40 e && decide (countTm 40 e ≤ 200)
def termValidM (e : MTm) : Bool := shapeTm 14 12 e && decide (countTm 12 e ≤ 30)
end Go.Av
