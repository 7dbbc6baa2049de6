/- A part of the library of this seat. -/
import Derived.Test.YtcgmmknfpfdghaaGreatDoorC21
set_option linter.unusedVariables false
set_option linter.unusedSimpArgs false
namespace Go.Av
attribute [-simp] Go.Av.MCo.kind_mk Go.Av.MCo.tag_mk Go.Av.MCo.label_mk Go.Av.MCo.kids_mk Go.Av.astepJ Go.Av.relC Go.Av.relL Go.Av.relV Go.Av.relVs Go.Av.callJ
open Go

structure Nd where
 p : Value
 k : Int
 is : Value
 a : Value
 b : Value
abbrev nilP : Value := .pointer none
abbrev Nd.row (x : Nd) : List DV := [.i x.k, .raw x.is, .raw x.a, .raw x.b]
def ndT (T : TypeId) (x : Nd) : GC × Value := (.n T x.row, x.p)
def gT (T : TypeId) (G : List Nd) : Ts := G.map (ndT T)
@[simp] theorem gT_cons {T : TypeId} {G : List Nd} (x : Nd) : gT T (x :: G) = (.n T [.i x.k, .raw x.is, .raw x.a, .raw x.b], x.p) :: gT T G := rfl
structure GN (G : List Nd) : Prop where
 nd : (G.map Nd.p).Nodup
 nn : ∀ x ∈ G, x.p ≠ nilP
inductive Rn (G : List Nd) (ν : List (Option Value)) : Value -> IT -> Prop
 | v {n : Nat} {p : Value} : ν[n]? = some (some p) -> Rn G ν p (.v n)
 | b {p : Value} {k : Int} : (⟨p, k, nilP, nilP, nilP⟩ : Nd) ∈ G -> k ≠ 0 -> Rn G ν p (.b k)
 | p {p : Value} {k : Int} {a b : Value} {x y : IT} : (⟨p, k, nilP, a, b⟩ : Nd) ∈ G -> k ≠ 0 -> Rn G ν a x -> Rn G ν b y -> Rn G ν p (.p k x y)
def isR (G : List Nd) (ν : List (Option Value)) (q : Value) : Option IT -> Prop
 | none => q = nilP
 | some t => Rn G ν q t
structure GR (G : List Nd) (ν : List (Option Value)) (B : List IT) : Prop where
 len : ν.length = B.length
 inj : ∀ (n m : Nat) p, ν[n]? = some (some p) -> ν[m]? = some (some p) -> n = m
 var : ∀ (n : Nat) p, ν[n]? = some (some p) -> ∃ q, (⟨p, 0, q, nilP, nilP⟩ : Nd) ∈ G /\ isR G ν q (bd B n)

structure Ge (G : List Nd) (ν : List (Option Value)) (G' : List Nd) (ν' : List (Option Value)) : Prop where
 nd : ∀ x ∈ G, x.k ≠ 0 -> x ∈ G'
 vr : ∀ (n : Nat) p, ν[n]? = some (some p) -> ν'[n]? = some (some p)
section
variable {G G' : List Nd} {ν ν' : List (Option Value)} {B : List IT}
end

section
variable {P : Program} {n : Nat} {s : St} {L : Ts} {Q : Exit -> St -> Ts -> Prop} {c : Code} {T : TypeId} {G : List Nd} {M : Ts}
end
end Go.Av

namespace Go.Av
attribute [-simp] Go.Av.MCo.kind_mk Go.Av.MCo.tag_mk Go.Av.MCo.label_mk Go.Av.MCo.kids_mk Go.Av.astepJ Go.Av.relC Go.Av.relL Go.Av.relV Go.Av.relVs Go.Av.callJ
open Go
section
variable {G : List Nd} {ν : List (Option Value)} {B : List IT}
inductive HdR (G : List Nd) (ν : List (Option Value)) (B : List IT) (p : Value) : IT -> Prop
 | v {m : Nat} : ν[m]? = some (some p) -> bd B m = none -> (⟨p, 0, nilP, nilP, nilP⟩ : Nd) ∈ G -> HdR G ν B p (.v m)
 | b {c : Int} : (⟨p, c, nilP, nilP, nilP⟩ : Nd) ∈ G -> c ≠ 0 -> HdR G ν B p (.b c)
 | p {c : Int} {a b : Value} {x y : IT} : (⟨p, c, nilP, a, b⟩ : Nd) ∈ G -> c ≠ 0 -> Rn G ν a x -> Rn G ν b y -> HdR G ν B p (.p c x y)
end
end Go.Av

namespace Go.Av
attribute [-simp] Go.Av.MCo.kind_mk Go.Av.MCo.tag_mk Go.Av.MCo.label_mk Go.Av.MCo.kids_mk Go.Av.callJ
open Go

def varV (ν : List (Option Value)) (n : Nat) : Value := (ν[n]?.getD none).getD nilP
def HasV (ν : List (Option Value)) (seen : List Nat) : Prop := ∀ n ∈ seen, ν[n]? = some (some (varV ν n))
abbrev rowsV (ν : List (Option Value)) (seen : List Nat) : List (List DV) := seen.map fun n => [.raw (varV ν n)]
abbrev slV (e : TypeId) (vs : List Value) : GC := .t e 1 vs.length (vs.map fun v => .d (.raw v))
structure WtR (B : List IT) (k : Nat) (t : IT) (seen : List Nat) (m : Int) (s : List UInt8) (seen' : List Nat) (m' : Int) : Prop where
 bnd : m' + 2 * min 30 m <= m + 1 + 2 * min 30 m'
 lt : m < m'
 ln : seen'.length + m <= seen.length + m'
 pre : ∀ n ∈ seen, n ∈ seen'
 ok : m + szI B k t <= 30 -> s = (txI B k t seen).1 /\ seen' = (txI B k t seen).2 /\ m' = m + szI B k t
 no : ¬ m + szI B k t <= 30 -> 30 < m'
section
variable {P : Program} {n : Nat} {s : St} {L Ln : Ts} {Q : Exit -> St -> Ts -> Prop} {c : Code}
end
end Go.Av

namespace Go.Av
attribute [-simp] Go.Av.MCo.kind_mk Go.Av.MCo.tag_mk Go.Av.MCo.label_mk Go.Av.MCo.kids_mk Go.Av.callJ
open Go
end Go.Av
namespace Go.Av
open Go
section
variable {P : Program} {n : Nat} {s : St} {L : Ts} {Q : Exit -> St -> Ts -> Prop} {c : Code}
theorem inBlockJ_ret {id : Nat} (h : Q .ret s L) : InBlockJ id Q .ret s L := h
theorem thenJ_ret (h : Q .ret s L) : ThenJ P n c Q .ret s L := h
theorem roundJ_ret {α : Type} {St_ : α -> St} {Tr_ : α -> Ts} {m : α -> Nat} {H : α -> Prop} {k : Nat} (h : Q .ret s L) : RoundJ St_ Tr_ m H k Q .ret s L := h
end
end Go.Av

namespace Go.Av
attribute [-simp] Go.Av.MCo.kind_mk Go.Av.MCo.tag_mk Go.Av.MCo.label_mk Go.Av.MCo.kids_mk
open Go
section
variable {P : Program} {n : Nat} {s : St} {L : Ts} {all : Array Oper} {ow : Nat -> Bool} {ws cs ns : List Nat} {K : St -> Ts -> Prop} {i : Nat} {o : Oper} {rest : List Oper}
structure LookR (P : Program) (s : St) (L : Ts) (o : Oper) (k : AV -> Prop) : Prop where
 ex : ∃ x, LkS P s L o x /\ k x
structure TreR (P : Program) (s : St) (L : Ts) (o : Oper) (k : AV -> Ts -> Prop) : Prop where
 run : TreS P s L o k
theorem LookR.of {k : AV -> Prop} {x : AV} (h : LkS P s L o x) (hk : k x) : LookR P s L o k := ⟨x, h, hk⟩
theorem TreR.box {T : TypeId} {x : Operand} {cells : List CV} {row : List DV} {k : AV -> Ts -> Prop} (ho : o.op = .box T x) (hx : aval s x = some (.agg cells)) (hrow : cvDs cells = some row) (hK : ∀ pv, k (.c (.d (.raw pv))) ((.n T row, pv) :: L)) : TreR P s L o k := ⟨TreS.box ho hx hrow hK⟩
theorem gdo_none {y z : Prop} (hg : o.guard = none) (h : y) : gdo all s o y z := by unfold gdo; rw [hg]; exact h
theorem aopsJ_nsG (hg : o.guard.isSome = true) (h : gdo all s o (LookR P s L o fun x => OpsJ P n all ow K (i + 1) rest (s.put o.dst x s.V s.A) L) (OpsJ P n all ow K (i + 1) rest (s.put o.dst (.c .undef) s.V s.A) L)) : OpsJ P n all ow K i (o :: rest) s L := by
 rcases gdo_mono h with ⟨⟨g1, h2⟩ | ⟨g1, h2⟩, g3⟩
 ·obtain ⟨x, h3, h4⟩ := h2.ex
  refine aopsJ_lk ?_ h3 h4
  clear h
  unfold gdo gw at *
  split
  ·trivial
  ·rename_i j want hgg
   simp only [hgg] at g1 g3 hg
   refine onv_map (fun oj h => h) ?_
   obtain ⟨oj, e1, h5⟩ := onv_some g3
   obtain ⟨t, e2, h6⟩ := onv_some h5
   obtain ⟨x', e3, h7⟩ := onv_some h6
   simp only [e1, e2, e3, Option.bind_some] at g1
   rw [e1]
   simp only [onv, e2, e3]
   split at h7
   ·rename_i b
    simp at g1
    subst g1
    exact ⟨fun _ => trivial, fun e => by cases b <;> simp at e⟩
   ·simp at g1
   ·exact h7.elim
 ·refine aopsJ_skip ?_ h2
  clear h
  unfold gdo gw at *
  split
  ·rename_i hgg; simp [hgg] at hg
  ·rename_i j want hgg
   simp only [hgg] at g1 g3 hg
   obtain ⟨oj, e1, h5⟩ := onv_some g3
   obtain ⟨t, e2, h6⟩ := onv_some h5
   obtain ⟨x', e3, h7⟩ := onv_some h6
   simp only [e1, e2, e3, Option.bind_some] at g1
   rw [e1]
   simp only [onv, e2, e3]
   split at h7
   ·rename_i b
    simp at g1
    exact ⟨fun e => absurd e g1, fun _ => trivial⟩
   ·trivial
   ·exact h7.elim
theorem aopsJ_nsU (hg : o.guard = none) (h : LookR P s L o fun x => OpsJ P n all ow K (i + 1) rest (s.put o.dst x s.V s.A) L) : OpsJ P n all ow K i (o :: rest) s L := by
 obtain ⟨x, h3, h4⟩ := h.ex
 exact aopsJ_lk (gdo_none hg trivial) h3 h4
theorem aopsJ_trU (hg : o.guard = none) (h : TreR P s L o fun x L' => OpsJ P n all ow K (i + 1) rest (s.put o.dst x s.V s.A) L') : OpsJ P n all ow K i (o :: rest) s L := aopsJ_tre (gdo_none hg trivial) h.run
@[congr] theorem lookR_cong {k : AV -> Prop} {s' : St} (h : s = s') : LookR P s L o k = LookR P s' L o k := by rw [h]
@[congr] theorem treR_cong {k : AV -> Ts -> Prop} {s' : St} (h : s = s') : TreR P s L o k = TreR P s' L o k := by rw [h]
end
end Go.Av

namespace Go.Av
attribute [-simp] Go.Av.MCo.kind_mk Go.Av.MCo.tag_mk Go.Av.MCo.label_mk Go.Av.MCo.kids_mk
open Go

def lkI (ns : List UInt8) (ts : List IT) (c : UInt8) : Option IT := if 0 <= lastIx ns c then ts[(lastIx ns c).toNat]? else none
structure Sn where
 p : Value
 c : UInt8
 t : Value
 up : Value
def sT (T : TypeId) (S : List Sn) : Ts := S.map fun x => (.n T [.str [x.c], .raw x.t, .raw x.up], x.p)
@[simp] theorem sT_cons {T : TypeId} {S : List Sn} (x : Sn) : sT T (x :: S) = (.n T [.str [x.c], .raw x.t, .raw x.up], x.p) :: sT T S := rfl
inductive Sc (S : List Sn) (G : List Nd) (ν : List (Option Value)) : Value -> List UInt8 -> List IT -> Prop
 | nil : Sc S G ν nilP [] []
 | snoc {q : Value} {c : UInt8} {v up : Value} {ns : List UInt8} {ts : List IT} {t : IT} : (⟨q, c, v, up⟩ : Sn) ∈ S -> Sc S G ν up ns ts -> Rn G ν v t -> Sc S G ν q (ns ++ [c]) (ts ++ [t])
def NoNil (L : Ts) : Prop := ∀ T row v, (.n T row, v) ∈ L -> v ≠ nilP
inductive Rns (G : List Nd) (ν : List (Option Value)) : List Value -> List IT -> Prop
 | nil : Rns G ν [] []
 | cons {p : Value} {t : IT} {ps : List Value} {ts : List IT} : Rn G ν p t -> Rns G ν ps ts -> Rns G ν (p :: ps) (t :: ts)
section
variable {P : Program} {n : Nat} {s : St} {L : Ts} {Q : Exit -> St -> Ts -> Prop} {c : Code}
end
end Go.Av

namespace Go.Av
attribute [-simp] Go.Av.MCo.kind_mk Go.Av.MCo.tag_mk Go.Av.MCo.label_mk Go.Av.MCo.kids_mk
open Go
end Go.Av
namespace Go.Av
open Go
end Go.Av

namespace Go.Av
attribute [-simp] Go.Av.MCo.kind_mk Go.Av.MCo.tag_mk Go.Av.MCo.label_mk Go.Av.MCo.kids_mk
open Go
end Go.Av

namespace Go.Av
attribute [-simp] Go.Av.MCo.kind_mk Go.Av.MCo.tag_mk Go.Av.MCo.label_mk Go.Av.MCo.kids_mk
open Go
section
variable {P : Program} {n : Nat} {s s' : St} {L L' : Ts} {x y : Code} {all : Array Oper} {ws cs ns : List Nat} {ow : Nat -> Bool} {K : St -> Ts -> Prop}
end
end Go.Av

namespace Go.Av
attribute [-simp] Go.Av.MCo.kind_mk Go.Av.MCo.tag_mk Go.Av.MCo.label_mk Go.Av.MCo.kids_mk
open Go
section
variable {P : Program} {n : Nat} {s : St} {L L2 : Ts} {all : Array Oper} {ow : Nat -> Bool} {K : St -> Ts -> Prop} {i : Nat} {o : Oper} {rest : List Oper}
end
end Go.Av

namespace Go.Av
attribute [-simp] Go.Av.MCo.kind_mk Go.Av.MCo.tag_mk Go.Av.MCo.label_mk Go.Av.MCo.kids_mk
open Go
section
variable {P : Program} {n : Nat} {s : St} {L L2 : Ts} {Q : Exit -> St -> Ts -> Prop} {cd : Code}
end
end Go.Av

namespace Go.Av
attribute [-simp] Go.Av.MCo.kind_mk Go.Av.MCo.tag_mk Go.Av.MCo.label_mk Go.Av.MCo.kids_mk
open Go
section
variable {P : Program} {f : FuncId} {xs : List AV}
theorem FzV.repE {g : Gh} {w : World} {S : List Nat} {L : Ts} {A : List Arr} {x y : AV} (h : FzV L x y) (hS : ∀ b ∈ S, g.im b = 0) (hT : Trs w L S) {u : Value} (hr : RepE g w A x u) : RepE (frz g w S) w [] y u := by
 cases h with
 | c h => exact FzV.rep (.c h) hS hT (show RepV g w A (.c _) u from hr)
 | agg h => exact FzV.rep (.agg h) hS hT (show RepV g w A (.agg _) u from hr)
theorem FCalls.data {ys : List AV} {R : AV -> Ts -> Prop} (h : FCalls P f xs [] R) (hR : ∀ r L', R r L' -> ∃ zs, r = .tup zs /\ FzVs L' zs ys) : ACalls P f xs [] (.tup ys) [] [] := by
 refine ⟨h.1, Nat.le_refl _, fun g w vs h2 hI hT hl hr => ?_⟩
 have h1 : g.ob = [] := List.length_eq_zero_iff.1 (by simpa using hI.obl)
 refine (h.2 g w vs [] h1 h2 hI hT hl hr rfl List.nodup_nil (by simp)).mono ?_
 rintro e w' ⟨v, r, L', S', rfl, hRr, hraw, hT', hnd, hin, ho, ht, hop, hsz, hblk⟩
 obtain ⟨zs, rfl, hz⟩ := hR r L' hRr
 have hS : ∀ b ∈ S', w.heap.size <= b := fun b hb => by
  rcases hin b hb with q | q
  ·cases q
  ·exact q
 have hz0 : ∀ b ∈ S', g.im b = 0 := fun b hb => hI.fresh b (hS b hb)
 have himf : ∀ b, b ∉ S' -> (frz g w' S').im b = g.im b := fun b hb => by simp only [frz, if_neg hb]
 have hI' : Inv (frz g w' S') w' [] [] := ⟨rfl, rfl, fun l row b h => by simp at h, fun k r v h => by simp at h, fun l l' b h => by simp [frz] at h, fun k k' v v' b h => by simp [frz] at h, fun l k v b h => by simp [frz] at h, fun b hb => by
  have : b ∉ S' := fun h => absurd (hT'.lt b h) (by omega)
  rw [himf b this]; exact hI.fresh b (by omega)⟩
 refine ⟨v, frz g w' S', rfl, ?_, hI', ⟨ho, ht, hop, hsz, fun b hb _ _ => hblk b hb (by simp), fun b hb _ => himf b (fun hm => by have := hS b hm; omega), ⟨[], by simp [frz, h1], by simp⟩, fun k v b h => by simp [frz] at h, fun k v h => by rw [h2] at h; simp at h, hT⟩⟩
 obtain ⟨us, e1, e2, e3⟩ := hraw g w' []
 refine ⟨us, e1, by rw [e2, hz.len], fun i y u q1 q2 => ?_⟩
 obtain ⟨x, q3, q4⟩ := hz.at_ q1
 exact q4.repE hz0 hT' (e3 i x u q3 q2)
end
end Go.Av
