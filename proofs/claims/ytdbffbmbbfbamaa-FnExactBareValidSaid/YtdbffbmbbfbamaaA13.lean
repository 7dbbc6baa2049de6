/- A region that draws its order: whatever order is drawn, it comes to what the order of the text comes to. -/
import Derived.Test.YtdbffbmbbfbamaaA12
namespace Go.Av
open Go

/-- Operations that look at slots alone. -/
def isS : Op → Bool
  | .move _ | .assign _ | .pick _ _ _ | .fieldAddr _ _ _ | .unOp _ _ _ | .binOp _ _ _ _ _ | .extract _ _ => true
  | _ => false

def gw (all : Array Oper) (s : St) (o : Oper) : Bool :=
  match o.guard with
  | none => true
  | some (j, want) => match (all[j]?).bind (·.dst) with
    | some t => match look s.fr t with
      | some (.c (.d (.bool b))) => b == want
      | _ => false
    | none => false

/-- One step of the text's order, without a continuation. -/
def Stp (P : Program) (all : Array Oper) (ow : Bool) (o : Oper) (s s' : St) : Prop :=
  gdo all s o True True ∧ ((gw all s o = true ∧ ∃ x V A, s' = s.put o.dst x V A ∧ ∀ K : AV → List (List CV) → List Arr → Prop, K x V A → astep P s ow o K) ∨ (gw all s o = false ∧ s' = s.put o.dst (.c .undef) s.V s.A))

/-- The operations of a region that draws its order: those outside the list 'ws' leave the memory of the abstract state as it is. -/
def aopsD (P : Program) (all : Array Oper) (ow : Nat → Bool) (ws : List Nat) (K : St → Prop) : Nat → List Oper → St → Prop
  | _, [], s => K s
  | i, o :: rest, s => gdo all s o (astep P s (ow i) o fun x V A => (i ∈ ws ∨ (V = s.V ∧ A = s.A)) ∧ aopsD P all ow ws K (i + 1) rest (s.put o.dst x V A)) (aopsD P all ow ws K (i + 1) rest (s.put o.dst (.c .undef) s.V s.A))

def mask1 (acc : List Nat) (o : Oper) : Nat := o.after.toList.foldl (fun m e => if Region.binds .any e then m ||| 2 ^ e.on ||| acc.getD e.on 0 else m) 0

def masks : List Oper → List Nat → List Nat
  | [], acc => acc
  | o :: r, acc => masks r (acc ++ [mask1 acc o])

def touch (all : Array Oper) (x y : Oper) : Bool := match x.dst with
  | some d => (y.looksAt all).contains d
  | none => false

def pairOk (all : Array Oper) (ws ms : List Nat) (oi oj : Oper) (i j : Nat) : Bool :=
  (oi.dst.isNone || oi.dst != oj.dst) && ((!touch all oi oj && !touch all oj oi && !(ws.contains i && !isS oj.op) && !(ws.contains j && !isS oi.op)) || (ms.getD j 0).testBit i)

def drawOk (all : Array Oper) (ws : List Nat) : Bool :=
  let l := all.toList.zipIdx
  let ms := masks all.toList []
  (l.all fun (o, j) => o.after.toList.all fun e => !Region.binds .any e || decide (e.on < j)) &&
  (l.all fun (oj, j) => l.all fun (oi, i) => !(decide (i < j)) || pairOk all ws ms oi oj i j) &&
  (l.all fun (o, j) => !ws.contains j || !isS o.op)

section
variable {P : Program} {n : Nat} {Q Q' : Exit → St → Prop} {s s' : St} {w0 : World} {g0 g g' : Gh} {a : Act} {w w' : World} {V : List (List CV)} {A A' : List Arr}

theorem gdo_mono {all : Array Oper} {o : Oper} {y n : Prop} (h : gdo all s o y n) : (gw all s o = true ∧ y ∨ gw all s o = false ∧ n) ∧ gdo all s o True True := by
  unfold gdo at h
  unfold gw gdo
  split at h
  · rename_i hg; simp [hg, h]
  · rename_i j want hg
    refine onv_elim h fun oj h1 h2 => onv_elim h2 fun t h3 h4 => onv_elim h4 fun x h5 h6 => ?_
    simp only [hg, h1, Option.bind_some, h3, h5, onv]
    split at h6
    · rename_i b
      simp only [beq_iff_eq, beq_eq_false_iff_ne, implies_true, and_self, and_true]
      by_cases e : b = want
      · exact .inl ⟨e, h6.1 e⟩
      · exact .inr ⟨e, h6.2 (by cases b <;> cases want <;> simp_all)⟩
    · simp [h6]
    · exact h6.elim

/-- An operation comes to one thing, whatever is asked of it. -/
theorem wpo_det {ow : Bool} {op : Op} {K : AV → List (List CV) → List Arr → Prop} (h : wpo P s ow op K) : ∃ x V A, K x V A ∧ ∀ K' : AV → List (List CV) → List Arr → Prop, K' x V A → wpo P s ow op K' := by
  cases op with
  | move x => exact onv_elim h fun v h1 h2 => ⟨_, _, _, h2, fun K' h => by simpa only [wpo, onv, h1] using h⟩
  | assign x => exact onv_elim h fun v h1 h2 => ⟨_, _, _, h2, fun K' h => by simpa only [wpo, onv, h1] using h⟩
  | pick c x y =>
    refine onv_elim h fun v h1 h2 => ?_
    split at h2
    · rename_i t
      cases t with
      | true => simp only [if_true] at h2; exact onv_elim h2 fun v h3 h4 => ⟨_, _, _, h4, fun K' h => by simpa only [wpo, onv, h1, if_true, h3] using h⟩
      | false => simp only [Bool.false_eq_true, if_false] at h2; exact onv_elim h2 fun v h3 h4 => ⟨_, _, _, h4, fun K' h => by simpa only [wpo, onv, h1, Bool.false_eq_true, if_false, h3] using h⟩
    · exact h2.elim
  | alloc e => exact onv_elim h fun d h1 h2 => onv_elim h2 fun z h3 h4 => ⟨_, _, _, h4, fun K' h => by simpa only [wpo, onv, h1, h3] using h⟩
  | box e x => exact onv_elim h fun v h1 h2 => ⟨_, _, _, h2.2, fun K' h => by simp only [wpo, onv, h1]; exact ⟨h2.1, h⟩⟩
  | build t parts => exact onv_elim h fun d h1 h2 => onv_elim h2 fun z h3 h4 => onv_elim h4 fun ps h5 h6 => onv_elim h6 fun cs h7 h8 => ⟨_, _, _, h8.2.2, fun K' h => by simp only [wpo, onv, h1, h3, h5, h7]; exact ⟨h8.1, h8.2.1, h⟩⟩
  | buildSlice t len parts =>
    refine onv_elim h fun d h1 h2 => onv_elim h2 fun e h3 h4 => onv_elim h4 fun de h5 h6 => onv_elim h6 fun rows h7 h8 => onv_elim h8 fun ds h9 h10 => ?_
    obtain ⟨k1, k2, k3, k4, k5⟩ := h10
    cases ow with
    | true => simp only [if_true] at k5; exact ⟨_, _, _, k5, fun K' h => by simp only [wpo, onv, h1, h3, h5, h7, h9]; exact ⟨k1, k2, k3, k4, by simpa only [if_true] using h⟩⟩
    | false => simp only [Bool.false_eq_true, if_false] at k5; exact ⟨_, _, _, k5, fun K' h => by simp only [wpo, onv, h1, h3, h5, h7, h9]; exact ⟨k1, k2, k3, k4, by simpa only [Bool.false_eq_true, if_false] using h⟩⟩
  | load t x =>
    refine onv_elim h fun d h1 h2 => onv_elim h2 fun p h3 h4 => ?_
    split at h4
    · exact onv_elim h4 fun cs h5 h6 => onv_elim h6 fun v h7 h8 => ⟨_, _, _, h8, fun K' h => by simpa only [wpo, onv, h1, h3, h5, h7] using h⟩
    · exact h4.elim
  | store t x y =>
    refine onv_elim h fun d h1 h2 => onv_elim h2 fun p h3 h4 => onv_elim h4 fun v h5 h6 => ?_
    obtain ⟨h7, h8, h9⟩ := h6
    split at h9
    · exact onv_elim h9 fun row h10 h11 => ⟨_, _, _, h11.2, fun K' h => by simp only [wpo, onv, h1, h3, h5, h10]; exact ⟨h7, h8, h11.1, h⟩⟩
    · refine onv_elim h9 fun r h10 h11 => ?_
      obtain ⟨h12, h13, h14⟩ := h11
      exact onv_elim h14 fun row h15 h16 => onv_elim h16 fun ds h17 h18 => ⟨_, _, _, h18.2.2, fun K' h => by simp only [wpo, onv, h1, h3, h5, h10, h15, h17]; exact ⟨h7, h8, h12, h13, h18.1, h18.2.1, h⟩⟩
    · exact h9.elim
  | nilCheck x =>
    refine onv_elim h fun v h1 h2 => ?_
    split at h2
    · exact ⟨_, _, _, h2, fun K' h => by simpa only [wpo, onv, h1] using h⟩
    · exact ⟨_, _, _, h2, fun K' h => by simpa only [wpo, onv, h1] using h⟩
    · exact ⟨_, _, _, h2, fun K' h => by simpa only [wpo, onv, h1] using h⟩
    · exact ⟨_, _, _, h2, fun K' h => by simpa only [wpo, onv, h1] using h⟩
    · exact h2.elim
  | binOp op t x y t' =>
    refine onv_elim h fun u h1 h2 => onv_elim h2 fun v h3 h4 => ?_
    split at h4
    · rename_i r hr
      exact ⟨_, _, _, h4, fun K' h => by simpa only [wpo, onv, h1, h3, hr] using h⟩
    · rename_i hr
      split at h4
      · rename_i r hr2
        exact ⟨_, _, _, h4, fun K' h => by simpa only [wpo, onv, h1, h3, hr, hr2] using h⟩
      · rename_i hr2
        exact onv_elim h4 fun r h5 h6 => onv_elim h6 fun d h7 h8 => ⟨_, _, _, h8.2, fun K' h => by simp only [wpo, onv, h1, h3, hr, hr2, h5, h7]; exact ⟨h8.1, h⟩⟩
  | unOp op t x => exact onv_elim h fun u h1 h2 => onv_elim h2 fun r h3 h4 => ⟨_, _, _, h4, fun K' h => by simpa only [wpo, onv, h1, h3] using h⟩
  | convert src dst x =>
    refine onv_elim h fun u h1 h2 => onv_elim h2 fun ds h3 h4 => onv_elim h4 fun dd h5 h6 => ?_
    split at h6
    · exact onv_elim h6 fun k h7 h8 => ⟨_, _, _, h8, fun K' h => by simpa only [wpo, onv, h1, h3, h5, h7] using h⟩
    · exact ⟨_, _, _, h6.2.2, fun K' h => by simp only [wpo, onv, h1, h3, h5]; exact ⟨h6.1, h6.2.1, h⟩⟩
    · obtain ⟨h7, h8⟩ := h6
      exact onv_elim h8 fun e h9 h10 => onv_elim h10 fun de h11 h12 => onv_elim h12.2 fun b h13 h14 => ⟨_, _, _, h14, fun K' h => by simp only [wpo, onv, h1, h3, h5, h9, h11, h13]; exact ⟨h7, h12.1, h⟩⟩
    · exact h6.elim
  | makeFunc fn first captured =>
    cases fn with
    | func f =>
      obtain ⟨h1, h2⟩ := h
      exact onv_elim h2 fun cs h3 h4 => onv_elim h4 fun ls h5 h6 => ⟨_, _, _, h6, fun K' h => by simp only [wpo, onv, h3, h5]; exact ⟨h1, h⟩⟩
    | _ => exact h.elim
  | makeSlice t l c =>
    refine onv_elim h fun d h1 h2 => onv_elim h2 fun e h3 h4 => onv_elim h4 fun de h5 h6 => onv_elim h6 fun z h7 h8 => onv_elim h8 fun dz h9 h10 => onv_elim h10 fun vl h11 h12 => onv_elim h12 fun vc h13 h14 => ?_
    split at h14
    · obtain ⟨k1, k2, k3, k4, k5, k6, k7⟩ := h14
      exact ⟨_, _, _, k7, fun K' h => by simp only [wpo, onv, h1, h3, h5, h7, h9, h11, h13]; exact ⟨k1, k2, k3, k4, k5, k6, h⟩⟩
    · exact h14.elim
  | slice t x lo hi mx =>
    obtain ⟨rfl, h⟩ := h
    refine onv_elim h fun d h1 h2 => onv_elim h2 fun v h3 h4 => onv_elim h4 fun l h5 h6 => onv_elim h6 fun hh h7 h8 => ?_
    split at h8
    · obtain ⟨h9, h10⟩ := h8
      exact onv_elim h10 fun i h11 h12 => onv_elim h12 fun j h13 h14 => ⟨_, _, _, h14.2.2.2, fun K' h => by simp only [wpo, onv, h1, h3, h5, h7, h11, h13]; exact ⟨trivial, h9, h14.1, h14.2.1, h14.2.2.1, h⟩⟩
    · refine onv_elim h8 fun rows h9 h10 => onv_elim h10 fun e h11 h12 => onv_elim h12 fun de h13 h14 => onv_elim h14 fun i h15 h16 => onv_elim h16 fun j h17 h18 => ?_
      refine ⟨_, _, _, h18.2.2.2.2, fun K' h => ?_⟩
      simp only [wpo, onv, h1, h3, h5, h7, h9, h11, h13, h15, h17]
      exact ⟨trivial, h18.1, h18.2.1, h18.2.2.1, h18.2.2.2.1, h⟩
  | fieldAddr t x f =>
    refine onv_elim h fun d h1 h2 => onv_elim h2 fun fo h3 h4 => ?_
    obtain ⟨off, sz⟩ := fo
    obtain ⟨h5, h6⟩ := h4
    refine onv_elim h6 fun v h7 h8 => ?_
    split at h8
    · exact ⟨_, _, _, h8, fun K' h => by simp only [wpo, onv, h1, h3, h7]; exact ⟨h5, h⟩⟩
    · exact ⟨_, _, _, h8, fun K' h => by simp only [wpo, onv, h1, h3, h7]; exact ⟨h5, h⟩⟩
    · exact ⟨_, _, _, h8, fun K' h => by simp only [wpo, onv, h1, h3, h7]; exact ⟨h5, h⟩⟩
    · exact h8.elim
  | indexAddr t x ix =>
    refine onv_elim h fun d h1 h2 => onv_elim h2 fun v h3 h4 => onv_elim h4 fun i h5 h6 => ?_
    split at h6
    · obtain ⟨h0, h6⟩ := h6
      split at h6
      · exact onv_elim h6 fun e h7 h8 => onv_elim h8 fun de h9 h10 => onv_elim h10 fun row h11 h12 => ⟨_, _, _, h12.2, fun K' h => by simp only [wpo, onv, h1, h3, h5, h7, h9, h11]; exact ⟨h0, h12.1, h⟩⟩
      · exact onv_elim h6 fun e h7 h8 => onv_elim h8 fun de h9 h10 => onv_elim h10 fun r h11 h12 => ⟨_, _, _, h12.2.2.2, fun K' h => by simp only [wpo, onv, h1, h3, h5, h7, h9, h11]; exact ⟨h0, h12.1, h12.2.1, h12.2.2.1, h⟩⟩
      · refine onv_elim h6 fun le h7 h8 => ?_
        obtain ⟨len, e⟩ := le
        exact onv_elim h8 fun de h9 h10 => ⟨_, _, _, h10.2, fun K' h => by simp only [wpo, onv, h1, h3, h5, h7, h9]; exact ⟨h0, h10.1, h⟩⟩
      · exact h6.elim
    · exact h6.elim
  | index t x ix =>
    refine onv_elim h fun d h1 h2 => onv_elim h2 fun v h3 h4 => onv_elim h4 fun i h5 h6 => ?_
    split at h6
    · obtain ⟨h7, h0, h8⟩ := h6
      exact onv_elim h8 fun c h9 h10 => ⟨_, _, _, h10, fun K' h => by simp only [wpo, onv, h1, h3, h5, h9]; exact ⟨h7, h0, h⟩⟩
    · exact h6.elim
  | extract x i =>
    refine onv_elim h fun v h1 h2 => ?_
    split at h2
    · refine onv_elim h2 fun u h3 h4 => ?_
      split at h4
      · exact h4.elim
      · refine ⟨_, _, _, h4, fun K' h => ?_⟩
        simp only [wpo, onv, h1, h3]
        exact h
    · exact h2.elim
  | call c =>
    obtain ⟨callee, args, argTypes⟩ := c
    cases callee with
    | builtin b =>
      cases b with
      | len =>
        refine onv_elim h fun x h1 h2 => onv_elim h2 fun v h3 h4 => onv_elim h4 fun t h5 h6 => onv_elim h6 fun d h7 h8 => onv_elim h8 fun n h9 h10 => ?_
        exact ⟨_, _, _, h10.2.2, fun K' h => by simp only [wpo, onv, h1, h3, h5, h7, h9]; exact ⟨h10.1, h10.2.1, h⟩⟩
      | append =>
        refine onv_elim h fun x h1 h2 => onv_elim h2 fun y h3 h4 => onv_elim h4 fun t h5 h6 => ?_
        obtain ⟨h7, h8⟩ := h6
        refine onv_elim h8 fun d h9 h10 => onv_elim h10 fun e h11 h12 => onv_elim h12 fun de h13 h14 => ?_
        obtain ⟨h15, h16, h17⟩ := h14
        refine onv_elim h17 fun v h18 h19 => onv_elim h19 fun u h20 h21 => onv_elim h21 fun nr h22 h23 => ?_
        obtain ⟨h24, h25⟩ := h23
        split at h25
        · refine onv_elim h25 fun r h26 h27 => ?_
          obtain ⟨k1, k2, k3, k4, k5, k6⟩ := h27
          exact ⟨_, _, _, k6, fun K' h => by simp only [wpo]; simp only [onv] at h16; simp only [onv, h1, h3, h5, h9, h11, h13, h18, h20, h22, h26]; exact ⟨h7, h15, h16, h24, k1, k2, k3, k4, k5, h⟩⟩
        · exact ⟨_, _, _, h25.2.2, fun K' h => by simp only [wpo]; simp only [onv] at h16; simp only [onv, h1, h3, h5, h9, h11, h13, h18, h20, h22]; exact ⟨h7, h15, h16, h24, h25.1, h25.2.1, h⟩⟩
        · exact h25.elim
      | max =>
        refine onv_elim h fun x h1 h2 => onv_elim h2 fun y h3 h4 => ?_
        obtain ⟨h5, h6⟩ := h4
        refine onv_elim h6 fun v h7 h8 => onv_elim h8 fun u h9 h10 => ?_
        split at h10
        · exact ⟨_, _, _, h10, fun K' h => by simp only [wpo, onv, h1, h3, h7, h9]; exact ⟨h5, h⟩⟩
        · exact h10.elim
      | min =>
        refine onv_elim h fun x h1 h2 => onv_elim h2 fun y h3 h4 => ?_
        obtain ⟨h5, h6⟩ := h4
        refine onv_elim h6 fun v h7 h8 => onv_elim h8 fun u h9 h10 => ?_
        split at h10
        · exact ⟨_, _, _, h10, fun K' h => by simp only [wpo, onv, h1, h3, h7, h9]; exact ⟨h5, h⟩⟩
        · exact h10.elim
      | _ => exact h.elim
    | _ => exact h.elim
  | _ => exact h.elim

theorem astep_plain {ow : Bool} {o : Oper} {K : AV → List (List CV) → List Arr → Prop} (h : ∀ f args ts, o.op ≠ .call ⟨.value f, args, ts⟩) : astep P s ow o K = wpo P s ow o.op K := by
  obtain ⟨dst, op, ty, pos, after, guard⟩ := o
  cases op <;> try rfl
  rename_i c
  obtain ⟨callee, args, ts⟩ := c
  cases callee <;> first | rfl | exact absurd rfl (h _ _ _)

theorem astep_det {ow : Bool} {o : Oper} {K : AV → List (List CV) → List Arr → Prop} (h : astep P s ow o K) : ∃ x V A, K x V A ∧ ∀ K' : AV → List (List CV) → List Arr → Prop, K' x V A → astep P s ow o K' := by
  by_cases hop : ∃ f args ts, o.op = .call ⟨.value f, args, ts⟩
  · obtain ⟨f, args, ts, heq⟩ := hop
    simp only [astep, heq] at h ⊢
    refine onv_elim h fun fv h1 h2 => ?_
    split at h2
    · rename_i fid cap
      refine onv_elim h2 fun xs h3 h4 => ?_
      obtain ⟨ids, as, Vc, r, Vc', Ac', k1, k2, k3, k4, k5⟩ := h4
      refine ⟨_, _, _, k5, fun K' h => ?_⟩
      simp only [onv, h1, h3]
      exact ⟨ids, as, Vc, r, Vc', Ac', k1, k2, k3, k4, h⟩
    · exact h2.elim
  · have hne : ∀ f args ts, o.op ≠ .call ⟨.value f, args, ts⟩ := fun f args ts e => hop ⟨f, args, ts, e⟩
    rw [astep_plain hne] at h
    obtain ⟨x, V, A, h1, h2⟩ := wpo_det h
    exact ⟨x, V, A, h1, fun K' h3 => by rw [astep_plain hne]; exact h2 K' h3⟩

theorem aopsD_trace {all : Array Oper} {ow : Nat → Bool} {ws : List Nat} {K : St → Prop} : ∀ (ops : List Oper) (i : Nat) (s : St), aopsD P all ow ws K i ops s →
    ∃ σ : Nat → St, σ 0 = s ∧ K (σ ops.length) ∧ ∀ (j : Nat) o, ops[j]? = some o → Stp P all (ow (i + j)) o (σ j) (σ (j + 1)) ∧ (i + j ∈ ws ∨ ((σ (j + 1)).V = (σ j).V ∧ (σ (j + 1)).A = (σ j).A))
  | [], i, s, h => ⟨fun _ => s, rfl, h, fun j o h => by simp at h⟩
  | o :: rest, i, s, h => by
    simp only [aopsD] at h
    obtain ⟨h0, hg⟩ := gdo_mono h
    rcases h0 with ⟨h1, h2⟩ | ⟨h1, h2⟩
    · obtain ⟨x, V, A, ⟨h3, h4⟩, h5⟩ := astep_det h2
      obtain ⟨σ, k1, k2, k3⟩ := aopsD_trace rest (i + 1) _ h4
      refine ⟨fun j => match j with | 0 => s | j + 1 => σ j, rfl, k2, fun j o' ho => ?_⟩
      cases j with
      | zero =>
        simp at ho; subst ho
        refine ⟨⟨hg, .inl ⟨h1, x, V, A, k1, h5⟩⟩, ?_⟩
        rcases h3 with h3 | ⟨h3, h3'⟩
        · exact .inl h3
        · exact .inr (by simp only [k1]; exact ⟨h3, h3'⟩)
      | succ j =>
        simp at ho
        have := k3 j o' ho
        rwa [show i + 1 + j = i + (j + 1) by omega] at this
    · obtain ⟨σ, k1, k2, k3⟩ := aopsD_trace rest (i + 1) _ h2
      refine ⟨fun j => match j with | 0 => s | j + 1 => σ j, rfl, k2, fun j o' ho => ?_⟩
      cases j with
      | zero =>
        simp at ho; subst ho
        exact ⟨⟨hg, .inr ⟨h1, k1⟩⟩, .inr (by simp only [k1]; exact ⟨rfl, rfl⟩)⟩
      | succ j =>
        simp at ho
        have := k3 j o' ho
        rwa [show i + 1 + j = i + (j + 1) by omega] at this
end
end Go.Av
