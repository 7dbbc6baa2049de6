/- A part of the library of this seat. -/
import Derived.Test.YtcmdpggdaiinpaaGreatDoorQ36
set_option linter.unusedVariables false
set_option linter.unusedSimpArgs false
namespace Go.Av
attribute [-simp] Go.Av.MCo.kind_mk Go.Av.MCo.tag_mk Go.Av.MCo.label_mk Go.Av.MCo.kids_mk Go.Av.astepJ Go.Av.relC Go.Av.relL Go.Av.relV Go.Av.relVs Go.Av.callJ
open Go

structure Nd where
 p : Value
 k : Int
 is : Value
 a : Value
 b : Value
abbrev nilP : Value := .pointer none
abbrev Nd.row (x : Nd) : List DV := [.i x.k, .raw x.is, .raw x.a, .raw x.b]
def ndT (T : TypeId) (x : Nd) : GC × Value := (.n T x.row, x.p)
def gT (T : TypeId) (G : List Nd) : Ts := G.map (ndT T)
@[simp] theorem gT_cons {T : TypeId} {G : List Nd} (x : Nd) : gT T (x :: G) = (.n T [.i x.k, .raw x.is, .raw x.a, .raw x.b], x.p) :: gT T G := rfl
structure GN (G : List Nd) : Prop where
 nd : (G.map Nd.p).Nodup
 nn : ∀ x ∈ G, x.p ≠ nilP
inductive Rn (G : List Nd) (ν : List (Option Value)) : Value -> IT -> Prop
 | v {n : Nat} {p : Value} : ν[n]? = some (some p) -> Rn G ν p (.v n)
 | b {p : Value} {k : Int} : (⟨p, k, nilP, nilP, nilP⟩ : Nd) ∈ G -> k ≠ 0 -> Rn G ν p (.b k)
 | p {p : Value} {k : Int} {a b : Value} {x y : IT} : (⟨p, k, nilP, a, b⟩ : Nd) ∈ G -> k ≠ 0 -> Rn G ν a x -> Rn G ν b y -> Rn G ν p (.p k x y)
def isR (G : List Nd) (ν : List (Option Value)) (q : Value) : Option IT -> Prop
 | none => q = nilP
 | some t => Rn G ν q t
structure GR (G : List Nd) (ν : List (Option Value)) (B : List IT) : Prop where
 len : ν.length = B.length
 inj : ∀ (n m : Nat) p, ν[n]? = some (some p) -> ν[m]? = some (some p) -> n = m
 var : ∀ (n : Nat) p, ν[n]? = some (some p) -> ∃ q, (⟨p, 0, q, nilP, nilP⟩ : Nd) ∈ G /\ isR G ν q (bd B n)

structure Ge (G : List Nd) (ν : List (Option Value)) (G' : List Nd) (ν' : List (Option Value)) : Prop where
 nd : ∀ x ∈ G, x.k ≠ 0 -> x ∈ G'
 vr : ∀ (n : Nat) p, ν[n]? = some (some p) -> ν'[n]? = some (some p)
section
variable {G G' : List Nd} {ν ν' : List (Option Value)} {B : List IT}
end

section
variable {P : Program} {n : Nat} {s : St} {L : Ts} {Q : Exit -> St -> Ts -> Prop} {c : Code} {T : TypeId} {G : List Nd} {M : Ts}
end
end Go.Av

namespace Go.Av
attribute [-simp] Go.Av.MCo.kind_mk Go.Av.MCo.tag_mk Go.Av.MCo.label_mk Go.Av.MCo.kids_mk Go.Av.astepJ Go.Av.relC Go.Av.relL Go.Av.relV Go.Av.relVs Go.Av.callJ
open Go
section
variable {G : List Nd} {ν : List (Option Value)} {B : List IT}
inductive HdR (G : List Nd) (ν : List (Option Value)) (B : List IT) (p : Value) : IT -> Prop
 | v {m : Nat} : ν[m]? = some (some p) -> bd B m = none -> (⟨p, 0, nilP, nilP, nilP⟩ : Nd) ∈ G -> HdR G ν B p (.v m)
 | b {c : Int} : (⟨p, c, nilP, nilP, nilP⟩ : Nd) ∈ G -> c ≠ 0 -> HdR G ν B p (.b c)
 | p {c : Int} {a b : Value} {x y : IT} : (⟨p, c, nilP, a, b⟩ : Nd) ∈ G -> c ≠ 0 -> Rn G ν a x -> Rn G ν b y -> HdR G ν B p (.p c x y)
end
end Go.Av

namespace Go.Av
attribute [-simp] Go.Av.MCo.kind_mk Go.Av.MCo.tag_mk Go.Av.MCo.label_mk Go.Av.MCo.kids_mk Go.Av.callJ
open Go

def varV (ν : List (Option Value)) (n : Nat) : Value := (ν[n]?.getD none).getD nilP
def HasV (ν : List (Option Value)) (seen : List Nat) : Prop := ∀ n ∈ seen, ν[n]? = some (some (varV ν n))
abbrev rowsV (ν : List (Option Value)) (seen : List Nat) : List (List DV) := seen.map fun n => [.raw (varV ν n)]
abbrev slV (e : TypeId) (vs : List Value) : GC := .t e 1 vs.length (vs.map fun v => .d (.raw v))
structure WtR (B : List IT) (k : Nat) (t : IT) (seen : List Nat) (m : Int) (s : List UInt8) (seen' : List Nat) (m' : Int) : Prop where
 bnd : m' + 2 * min 30 m <= m + 1 + 2 * min 30 m'
 lt : m < m'
 ln : seen'.length + m <= seen.length + m'
 pre : ∀ n ∈ seen, n ∈ seen'
 ok : m + szI B k t <= 30 -> s = (txI B k t seen).1 /\ seen' = (txI B k t seen).2 /\ m' = m + szI B k t
 no : ¬ m + szI B k t <= 30 -> 30 < m'
section
variable {P : Program} {n : Nat} {s : St} {L Ln : Ts} {Q : Exit -> St -> Ts -> Prop} {c : Code}
theorem TJ.nils (hn : Nils Ln) (h : TJ P n c Q s (Ln ++ L)) : TJ P n c Q s L := by
 intro hok w0 g0 X S g a w hR
 refine h hok w0 g0 X S g a w ⟨hR.inv, hR.fr, hR.size, hR.defers, hR.slot, Trs.app.2 ⟨[], S, rfl, hn.trs, hR.trs⟩, hR.nd, hR.out⟩
end
end Go.Av

namespace Go.Av
attribute [-simp] Go.Av.MCo.kind_mk Go.Av.MCo.tag_mk Go.Av.MCo.label_mk Go.Av.MCo.kids_mk Go.Av.callJ
open Go
end Go.Av
namespace Go.Av
open Go
section
variable {P : Program} {n : Nat} {s : St} {L : Ts} {Q : Exit -> St -> Ts -> Prop} {c : Code}
theorem inBlockJ_ret {id : Nat} (h : Q .ret s L) : InBlockJ id Q .ret s L := h
theorem thenJ_ret (h : Q .ret s L) : ThenJ P n c Q .ret s L := h
theorem roundJ_ret {α : Type} {St_ : α -> St} {Tr_ : α -> Ts} {m : α -> Nat} {H : α -> Prop} {k : Nat} (h : Q .ret s L) : RoundJ St_ Tr_ m H k Q .ret s L := h
end
end Go.Av

namespace Go.Av
attribute [-simp] Go.Av.MCo.kind_mk Go.Av.MCo.tag_mk Go.Av.MCo.label_mk Go.Av.MCo.kids_mk
open Go
section
variable {P : Program} {n : Nat} {s : St} {L : Ts} {all : Array Oper} {ow : Nat -> Bool} {ws cs ns : List Nat} {K : St -> Ts -> Prop} {i : Nat} {o : Oper} {rest : List Oper}
structure LookR (P : Program) (s : St) (L : Ts) (o : Oper) (k : AV -> Prop) : Prop where
 ex : ∃ x, LkS P s L o x /\ k x
structure TreR (P : Program) (s : St) (L : Ts) (o : Oper) (k : AV -> Ts -> Prop) : Prop where
 run : TreS P s L o k
@[congr] theorem lookR_cong {k : AV -> Prop} {s' : St} (h : s = s') : LookR P s L o k = LookR P s' L o k := by rw [h]
@[congr] theorem treR_cong {k : AV -> Ts -> Prop} {s' : St} (h : s = s') : TreR P s L o k = TreR P s' L o k := by rw [h]
end
end Go.Av

namespace Go.Av
attribute [-simp] Go.Av.MCo.kind_mk Go.Av.MCo.tag_mk Go.Av.MCo.label_mk Go.Av.MCo.kids_mk
open Go

def lkI (ns : List UInt8) (ts : List IT) (c : UInt8) : Option IT := if 0 <= lastIx ns c then ts[(lastIx ns c).toNat]? else none
structure Sn where
 p : Value
 c : UInt8
 t : Value
 up : Value
def sT (T : TypeId) (S : List Sn) : Ts := S.map fun x => (.n T [.str [x.c], .raw x.t, .raw x.up], x.p)
@[simp] theorem sT_cons {T : TypeId} {S : List Sn} (x : Sn) : sT T (x :: S) = (.n T [.str [x.c], .raw x.t, .raw x.up], x.p) :: sT T S := rfl
inductive Sc (S : List Sn) (G : List Nd) (ν : List (Option Value)) : Value -> List UInt8 -> List IT -> Prop
 | nil : Sc S G ν nilP [] []
 | snoc {q : Value} {c : UInt8} {v up : Value} {ns : List UInt8} {ts : List IT} {t : IT} : (⟨q, c, v, up⟩ : Sn) ∈ S -> Sc S G ν up ns ts -> Rn G ν v t -> Sc S G ν q (ns ++ [c]) (ts ++ [t])
def NoNil (L : Ts) : Prop := ∀ T row v, (.n T row, v) ∈ L -> v ≠ nilP
inductive Rns (G : List Nd) (ν : List (Option Value)) : List Value -> List IT -> Prop
 | nil : Rns G ν [] []
 | cons {p : Value} {t : IT} {ps : List Value} {ts : List IT} : Rn G ν p t -> Rns G ν ps ts -> Rns G ν (p :: ps) (t :: ts)
section
variable {P : Program} {n : Nat} {s : St} {L : Ts} {Q : Exit -> St -> Ts -> Prop} {c : Code}
end
end Go.Av

namespace Go.Av
attribute [-simp] Go.Av.MCo.kind_mk Go.Av.MCo.tag_mk Go.Av.MCo.label_mk Go.Av.MCo.kids_mk
open Go
end Go.Av
namespace Go.Av
open Go
end Go.Av

namespace Go.Av
attribute [-simp] Go.Av.MCo.kind_mk Go.Av.MCo.tag_mk Go.Av.MCo.label_mk Go.Av.MCo.kids_mk
open Go
end Go.Av

namespace Go.Av
attribute [-simp] Go.Av.MCo.kind_mk Go.Av.MCo.tag_mk Go.Av.MCo.label_mk Go.Av.MCo.kids_mk
open Go
section
variable {P : Program} {n : Nat} {s s' : St} {L L' : Ts} {x y : Code} {all : Array Oper} {ws cs ns : List Nat} {ow : Nat -> Bool} {K : St -> Ts -> Prop}
end
end Go.Av

namespace Go.Av
attribute [-simp] Go.Av.MCo.kind_mk Go.Av.MCo.tag_mk Go.Av.MCo.label_mk Go.Av.MCo.kids_mk
open Go
theorem TrL.appT {w : World} : ∀ {cs : List GC} {xs : List Value} {S : List Nat} {cs' : List GC} {us : List Value} {S' : List Nat}, TrL w cs xs S -> TrL w cs' us S' -> TrL w (cs ++ cs') (xs ++ us) (S ++ S')
 | [], xs, S, cs', us, S', h, h' => by
  simp only [TrL] at h
  obtain ⟨rfl, rfl⟩ := h
  simpa using h'
 | c :: cs, xs, S, cs', us, S', h, h' => by
  simp only [TrL] at h
  obtain ⟨x, xs', S1, S2, rfl, rfl, h1, h2⟩ := h
  simp only [List.cons_append, TrL]
  exact ⟨x, xs' ++ us, S1, S2 ++ S', rfl, by simp, h1, h2.appT h'⟩
section
variable {P : Program} {n : Nat} {s : St} {L L2 : Ts} {all : Array Oper} {ow : Nat -> Bool} {K : St -> Ts -> Prop} {i : Nat} {o : Oper} {rest : List Oper}
theorem aopsJ_appendT {x y : Operand} {t e : TypeId} {d de : TD} {z : List CV} {m : Nat} {cs cs' : List GC} {Lc : Ts} {v : Value} {u : AV} {nr : List (List DV)} (hg : o.guard = none) (ho : o.op = .call { callee := .builtin .append, args := #[x, y], argTypes := #[t, t] })
  (ht : td P t = some d) (hel : d.el = some e) (he : td P e = some de) (hz : de.zero = some z) (hzl : z.length = de.sz) (hx : aval s x = some (.c (.d (.raw v)))) (hy : aval s y = some u) (hnr : rowsOf s.A u = some nr) (hl : ∀ r ∈ nr, r.length = de.sz)
  (hmk : Mk cs' nr.flatten Lc) (hp : L.Perm ((.t e de.sz m cs, v) :: (Lc ++ L2))) (hb : (m + nr.length) * de.by_ <= 140737488355328) (hm : m + nr.length <= 9223372036854775807)
  (hK : ∀ v', OpsJ P n all ow K (i + 1) rest (s.put o.dst (.c (.d (.raw v'))) s.V s.A) ((.t e de.sz (m + nr.length) (cs ++ cs'), v') :: L2)) : OpsJ P n all ow K i (o :: rest) s L := by
 refine ⟨fun hds w0 g0 X S g a w Q hR hQ => ?_⟩
 simp only [dstsOk, List.all_cons, Bool.and_eq_true] at hds
 have hdst : ∀ d, o.dst = some d -> d < n := fun d e => by have := hds.1; rw [e] at this; simpa using this
 obtain ⟨S0, hS0, hT0⟩ := hR.trs.perm hp
 obtain ⟨S1, S12, rfl, htr, hT12⟩ := hT0
 obtain ⟨SL, S2, rfl, hTc, hT2⟩ := Trs.app.1 hT12
 simp only [Tr] at htr
 obtain ⟨xs, S3, hown, hTL, rfl⟩ := htr
 have hnd := hS0.nodup_iff.1 hR.nd
 have hout := fun b hb => hR.out b (hS0.mem_iff.2 hb)
 have hlt : ∀ b ∈ v.ownBlock.toList ++ S3 ++ (SL ++ S2), b < w.heap.size := fun b hb => hR.trs.lt b (hS0.mem_iff.2 hb)
 have hv := aval_sound hR.slot hx
 simp only [RepV, RepE, RepC, RepD] at hv
 obtain ⟨hv, hv1⟩ := hv
 have hu := aval_sound hR.slot hy
 obtain ⟨inf, hi, hisz, hiby, h0⟩ := td_info he
 obtain ⟨zv, hzv, hzc⟩ := h0 z hz
 have hzs : zv.cells.size = inf.size := by have := cvsOf_len hzc; simp at this; omega
 obtain ⟨news, hsrc, hone, hrep⟩ := src_sound hR.inv hu hnr hl
 have hnl : news.length = nr.flatten.length := by
  have hfl : nr.flatten.length = nr.length * de.sz := by
   clear hsrc hrep hb hm hK hnr hmk
   induction nr with
   | nil => simp
   | cons r nr ih => simp only [List.flatten_cons, List.length_append, List.length_cons]; rw [hl r (by simp), ih (fun x hx => hl x (by simp [hx])), Nat.add_mul, Nat.one_mul, Nat.add_comm]
  rcases hsrc with ⟨h1, h2, _⟩ | ⟨_, _, _, h1, _⟩
  ·rw [hfl, h1, h2]; simp
  ·rw [hfl, h1]
 have hown' : w.ownsRow 0 e inf.size v m xs := by rw [hisz]; exact hown
 obtain ⟨v', w', hrun, ho', hc⟩ := run_append_av (P := P) t o.type e inf zv (td_el ht hel) hi hzv hzs v m xs hown' (a.eval y) nr.length news (by rw [hisz]; exact hsrc) hone (by simp only [maxLen]; omega) (by rw [hiby]; exact hb)
 rw [hisz] at ho'
 unfold wpList
 rw [if_pos (by simp [Region.wanted, hg])]
 refine .inl ?_
 unfold Oper.wp
 have hrun2 : (execOp a.eval o).run P w = .ok (.value v') w' := by
  unfold execOp
  simp only [ho, resolve, invoke, Sem.run_bind, Sem.run_pure, Result.andThen_ok, List.map_toArray, List.map_cons, List.map_nil, hv]
  exact run_append_call hrun
 rw [hrun2]
 have h1c' : v'.oneCell' = true := by
  rcases ho'.2 with ⟨rfl, _⟩ | ⟨b1, c1, cu1, rfl, _⟩ <;> rfl
 rcases hc with ⟨rfl, rfl⟩ | ⟨b, cs', hvb, hvb', rfl⟩ | ⟨o', hvb', rfl⟩
 ·refine (hK v').run hds.2 w0 g0 X (v'.ownBlock.toList ++ (S3 ++ SL) ++ S2) g _ _ Q (hR.put hdst (x := .c (.d (.raw v'))) ⟨rfl, h1c'⟩ hR.inv (.refl _ _ _) hR.fr ⟨_, S2, rfl, ?_, hT2⟩ (by simpa using hnd) (fun b hb => hout b (by simpa using hb))) hQ
  simp only [Tr]
  exact ⟨xs ++ news, S3 ++ SL, ho', hTL.appT (hmk.trl hnl hrep hTc), rfl⟩
 ·have hbS : b ∈ v.ownBlock.toList ++ S3 ++ (SL ++ S2) := by simp [hvb]
  obtain ⟨hb1, hb2, hb3, hb4, hb5⟩ := hout b hbS
  have hoth : ∀ b', b' ≠ b -> (w.setRow b cs').heap[b']? = w.heap[b']? := fun b' hb' => heap_setRow_other w b b' _ hb'
  have hszw : (w.setRow b cs').heap.size = w.heap.size := by simp
  have hgr : Grows g.im w g.im (w.setRow b cs') := ⟨fun _ => Nat.le_refl _, fun b' o' hlo => by
   have hne : b' ≠ b := fun e => by subst e; omega
   exact World.cell?_of_block (a := ⟨b', o', none⟩) (hoth b' hne)⟩
  have hxt : Ext g w s.A g (w.setRow b cs') s.A := ⟨fun _ _ h => h, hgr, fun _ r h => ⟨r, h, rfl, Nat.le_refl _, fun _ => rfl⟩⟩
  have hIv : Inv g (w.setRow b cs') s.V s.A := by
   refine ⟨hR.inv.obl, hR.inv.arl, fun l row' b' h3 h4 => ?_, fun k r u h3 h4 => ?_, hR.inv.obob, hR.inv.arar, hR.inv.obar, fun b' hb' => hR.inv.fresh b' (by omega)⟩
   ·exact hR.inv.objKeep hxt h3 h4 (hoth b' (fun e => by subst e; exact hb2 (List.mem_of_getElem? h4))) (hR.inv.obj l row' b' h3 h4).1
   ·exact hR.inv.arrKeep hxt h3 h4 (fun b' hb' => hoth b' (fun e => by subst e; exact hb3 (Gh.arb_mem h4 hb'))) (fun _ _ => rfl)
  have hFr : FrX w0 g0 X (w.setRow b cs') g := by
   refine ⟨hR.fr.os, hR.fr.tape, hR.fr.output, by rw [hszw]; exact hR.fr.size, fun b' q1 q2 q3 q4 => ?_, hR.fr.imeq, hR.fr.ob, hR.fr.ar, hR.fr.arx, hR.fr.tab, hR.fr.tabx⟩
   rw [hoth b' (fun e => by
    subst e
    rcases hb5 with q | q
    ·omega
    ·exact q4 q)]
   exact hR.fr.blk b' q1 q2 q3 q4
  have hnd' : (b :: (S3 ++ (SL ++ S2))).Nodup := by simpa [hvb] using hnd
  have hnb : b ∉ S3 ++ (SL ++ S2) := (List.nodup_cons.1 hnd').1
  refine (hK v').run hds.2 w0 g0 X (v'.ownBlock.toList ++ (S3 ++ SL) ++ S2) g _ _ Q (hR.put hdst (x := .c (.d (.raw v'))) ⟨rfl, h1c'⟩ hIv hxt hFr ⟨_, S2, rfl, ?_, hT2.keep fun b' hb' => hoth b' (fun e => by subst e; exact hnb (by simp [hb']))⟩ (by rw [hvb']; simpa using hnd') fun b' hb' => hout b' (by rw [hvb]; rw [hvb'] at hb'; simpa using hb')) hQ
  simp only [Tr]
  exact ⟨xs ++ news, S3 ++ SL, ho', (hTL.keep _ _ _ fun b' hb' => hoth b' (fun e => by subst e; exact hnb (by simp [hb']))).appT (hmk.trl hnl (fun j q u h1 h2 => RepD.grows hgr q u (hrep j q u h1 h2)) (hTc.keep fun b' hb' => hoth b' (fun e => by subst e; exact hnb (by simp [hb'])))), rfl⟩
 ·obtain ⟨hI0, hx0⟩ := hR.inv.heap (w' := w.drew) rfl
  have hF0 : Fr w g w.drew g := (Fr.refl hR.fr.now).heap rfl rfl rfl rfl
  obtain ⟨g1, hg1, hI1, hx1⟩ := hI0.newBlock o' 0
  have hF1 := hF0.newBlock o' 0
  have hhs : w.drew.heap.size = w.heap.size := rfl
  rw [<- hg1] at hF1
  have hlt' : ∀ b ∈ S3 ++ (SL ++ S2), b < w.heap.size := fun b hb => hlt b (by simp only [List.append_assoc, List.mem_append] at hb ⊢; exact .inr hb)
  have hold : ∀ b, b < w.heap.size -> (w.drew.alloc o').heap[b]? = w.heap[b]? := fun b hb => RowKit.Below.heap_alloc w.drew o' b hb
  have hnd2 : (S3 ++ (SL ++ S2)).Nodup := by rw [List.append_assoc] at hnd; exact (List.nodup_append.1 hnd).2.1
  have hkeep := hR.keepS hF1
  refine (hK v').run hds.2 w0 g0 X (v'.ownBlock.toList ++ (S3 ++ SL) ++ S2) g1 _ _ Q (hR.put hdst (x := .c (.d (.raw v'))) ⟨rfl, h1c'⟩ hI1 (hx0.trans hx1) (hR.fr.fr hF1) ⟨_, S2, rfl, ?_, hT2.keep fun b' hb' => hold b' (hlt' b' (by simp [hb']))⟩ ?_ fun b hb => ?_) hQ
  ·simp only [Tr]
   exact ⟨xs ++ news, S3 ++ SL, ho', (hTL.keep _ _ _ fun b' hb' => hold b' (hlt' b' (by simp [hb']))).appT (hmk.trl hnl (fun j q u h1 h2 => RepD.grows (hx0.trans hx1).gr q u (hrep j q u h1 h2)) (hTc.keep fun b' hb' => hold b' (hlt' b' (by simp [hb'])))), rfl⟩
  ·rw [hvb', List.append_assoc, List.append_assoc]
   exact List.nodup_cons.2 ⟨fun hm => absurd (hlt' _ hm) (by omega), hnd2⟩
  ·rw [hvb', List.append_assoc, List.append_assoc] at hb
   rcases List.mem_cons.1 hb with rfl | hb
   ·refine ⟨by rw [hg1]; simp, fun hm => ?_, fun hm => ?_, fun hm => ?_, .inl hR.fr.size⟩
    ·rw [hg1] at hm
     obtain ⟨l, hl⟩ := List.getElem?_of_mem hm
     have := hR.inv.obLt hl
     omega
    ·rw [hg1] at hm
     obtain ⟨k, v', q1, q2⟩ := Gh.mem_arb (g := g) (by simpa [Gh.arb] using hm)
     have := hR.inv.arLt q1 q2
     omega
    ·have := (hR.fr.now _ hm).1
     omega
   ·exact hkeep.2 b (hS0.mem_iff.2 (by rw [List.append_assoc]; exact List.mem_append_right _ hb))


theorem TJ.rawNil {Q : Exit -> St -> Ts -> Prop} {c : Code} (t : Nat) (ht : look s.fr t = some (.c .nil)) (h : TJ P n c Q ⟨(t, .c (.d (.raw (.slice none 0 0)))) :: s.fr, s.V, s.A⟩ L) : TJ P n c Q s L := by
 refine TJ.conv (s' := ⟨(t, .c (.d (.raw (.slice none 0 0)))) :: s.fr, s.V, s.A⟩) (fun g a w hR => ⟨g, hR.inv, hR.fr, hR.size, hR.defers, fun t' x hx => ?_⟩) h
 simp only [look] at hx
 by_cases e : t' = t
 ·rw [if_pos e] at hx
  cases hx
  subst e
  obtain ⟨u, h1, h2⟩ := hR.slot t' _ ht
  refine ⟨u, h1, ?_⟩
  simp only [RepV, RepE, RepC] at h2
  subst h2
  exact ⟨rfl, rfl⟩
 ·rw [if_neg e] at hx
  exact hR.slot t' x hx
end
end Go.Av

namespace Go.Av
attribute [-simp] Go.Av.MCo.kind_mk Go.Av.MCo.tag_mk Go.Av.MCo.label_mk Go.Av.MCo.kids_mk
open Go
section
variable {P : Program} {n : Nat} {s : St} {L L2 : Ts} {Q : Exit -> St -> Ts -> Prop} {cd : Code}
end
end Go.Av

namespace Go.Av
attribute [-simp] Go.Av.MCo.kind_mk Go.Av.MCo.tag_mk Go.Av.MCo.label_mk Go.Av.MCo.kids_mk
open Go
section
variable {P : Program} {f : FuncId} {xs : List AV}
theorem FzV.repE {g : Gh} {w : World} {S : List Nat} {L : Ts} {A : List Arr} {x y : AV} (h : FzV L x y) (hS : ∀ b ∈ S, g.im b = 0) (hT : Trs w L S) {u : Value} (hr : RepE g w A x u) : RepE (frz g w S) w [] y u := by
 cases h with
 | c h => exact FzV.rep (.c h) hS hT (show RepV g w A (.c _) u from hr)
 | agg h => exact FzV.rep (.agg h) hS hT (show RepV g w A (.agg _) u from hr)
theorem FCalls.data {ys : List AV} {R : AV -> Ts -> Prop} (h : FCalls P f xs [] R) (hR : ∀ r L', R r L' -> ∃ zs, r = .tup zs /\ FzVs L' zs ys) : ACalls P f xs [] (.tup ys) [] [] := by
 refine ⟨h.1, Nat.le_refl _, fun g w vs h2 hI hT hl hr => ?_⟩
 have h1 : g.ob = [] := List.length_eq_zero_iff.1 (by simpa using hI.obl)
 refine (h.2 g w vs [] h1 h2 hI hT hl hr rfl List.nodup_nil (by simp)).mono ?_
 rintro e w' ⟨v, r, L', S', rfl, hRr, hraw, hT', hnd, hin, ho, ht, hop, hsz, hblk⟩
 obtain ⟨zs, rfl, hz⟩ := hR r L' hRr
 have hS : ∀ b ∈ S', w.heap.size <= b := fun b hb => by
  rcases hin b hb with q | q
  ·cases q
  ·exact q
 have hz0 : ∀ b ∈ S', g.im b = 0 := fun b hb => hI.fresh b (hS b hb)
 have himf : ∀ b, b ∉ S' -> (frz g w' S').im b = g.im b := fun b hb => by simp only [frz, if_neg hb]
 have hI' : Inv (frz g w' S') w' [] [] := ⟨rfl, rfl, fun l row b h => by simp at h, fun k r v h => by simp at h, fun l l' b h => by simp [frz] at h, fun k k' v v' b h => by simp [frz] at h, fun l k v b h => by simp [frz] at h, fun b hb => by
  have : b ∉ S' := fun h => absurd (hT'.lt b h) (by omega)
  rw [himf b this]; exact hI.fresh b (by omega)⟩
 refine ⟨v, frz g w' S', rfl, ?_, hI', ⟨ho, ht, hop, hsz, fun b hb _ _ => hblk b hb (by simp), fun b hb _ => himf b (fun hm => by have := hS b hm; omega), ⟨[], by simp [frz, h1], by simp⟩, fun k v b h => by simp [frz] at h, fun k v h => by rw [h2] at h; simp at h, hT⟩⟩
 obtain ⟨us, e1, e2, e3⟩ := hraw g w' []
 refine ⟨us, e1, by rw [e2, hz.len], fun i y u q1 q2 => ?_⟩
 obtain ⟨x, q3, q4⟩ := hz.at_ q1
 exact q4.repE hz0 hT' (e3 i x u q3 q2)
end
end Go.Av
