/- A part of the library of this seat. -/
import Derived.Test.YtgpgcnahoieedaaR8
set_option linter.unusedVariables false
set_option linter.unusedSimpArgs false
namespace Go.Av
open Go
theorem Some_.elim {P : Program} {f : FuncId} {as_ : List AV} {α : Type} {enc : α -> AV} {arr : α -> List Arr} {good : α -> Prop} (h : Some_ P f as_ (RV enc arr good)) : ∃ x, good x /\ ACalls P f as_ [] (enc x) [] (arr x) := by
 obtain ⟨v, V, A, ⟨rfl, x, ⟨rfl, rfl⟩, hg⟩, hc⟩ := h
 exact ⟨x, hg, hc⟩

end Go.Av

namespace Go.Av
open Go
section
variable {P : Program} {s : St} {f : FuncId} {xs as_ : List AV} {K : AV -> List (List CV) -> List Arr -> Prop} {r : AV}
theorem wpcall_hand (h : Nat) {a a' : Arr} (hc : ACallsG P f as_ [] [a] r [] [a']) (ha : s.A[h]? = some a) (hw : a.wr = true) (hz : a'.sz = a.sz) (hin : innAsH [h] xs = some as_)
  (hK : K (r.outnH [h] s.A.length) s.V (s.A.set h a')) : wpcall P s f xs K := by
 refine .inr ⟨[h], as_, r, [a'], by simp, fun i h' hi => ?_, hin, ?_, ?_⟩
 ·match i with
  | 0 => simp at hi; subst hi; exact ⟨a, a', ha, hw, rfl, hz⟩
  | i + 1 => simp at hi
 ·simpa [ha] using hc
 ·simpa [putL] using hK
theorem DoneG.g {fn : Func} {e : Exit} {m a : Nat} {V' : List (List CV)} {A' : List Arr} {ys : List AV} (he : e = .normal \/ e = .ret) (hr : (ares P s fn.results.toList).bind (resAs s.A (List.range m) (List.range a)) = some ys) (h1 : one ys = r)
  (hV : resVs s.A s.V (List.range m) (List.range a) (List.range m) = some V') (hA : getAs s.A (List.range a) = some A') : DoneG P fn m a r V' A' e s := by
 obtain ⟨xs, hxs, hys⟩ := Option.bind_eq_some_iff.1 hr
 exact ⟨he, [], List.range a, xs, ys, ⟨[], by simp⟩, hxs, List.nodup_range, by simp, by simp, by simpa using hys, h1.symm, by simpa using hV, hA⟩
theorem DoneG.one {fn : Func} {e : Exit} {A' : Arr} (he : e = .normal \/ e = .ret) (hr : (ares P s fn.results.toList).bind (resAs s.A [] [0]) = some [r]) (hA : s.A[0]? = some A') : DoneG P fn 0 1 r [] [A'] e s :=
 DoneG.g he hr rfl rfl (by simp [getAs, hA, List.range_succ])
end
attribute [simp] innAsH AV.innH CV.innH innHs AV.outnH CV.outnH
end Go.Av

namespace Go.Av
open Go

section
variable {P : Program} {n : Nat} {Q : Exit -> St -> Prop} {s s' : St} {y : Code}

structure OpsH (P : Program) (all : Array Oper) (ow : Nat -> Bool) (wv wa fs : List Nat) (m : Nat) (ex : List Nat) (V0 : List (List CV)) (A0 : List Arr) (K : St -> Prop) (i : Nat) (ops : List Oper) (s : St) : Prop where
 mk ::
 run : aopsH P all ow wv wa fs m ex V0 A0 K i ops s

@[congr] theorem aopsH_cong {all : Array Oper} {ow : Nat -> Bool} {wv wa fs : List Nat} {m : Nat} {ex : List Nat} {V0 : List (List CV)} {A0 : List Arr} {K : St -> Prop} {i i' : Nat} {ops : List Oper} (hi : i = i') (h : s = s') : OpsH P all ow wv wa fs m ex V0 A0 K i ops s = OpsH P all ow wv wa fs m ex V0 A0 K i' ops s' := by rw [h, hi]

theorem OpsH.gen {all : Array Oper} {ow : Nat -> Bool} {wv wa fs : List Nat} {m : Nat} {ex : List Nat} {V0 : List (List CV)} {A0 : List Arr} {K : St -> Prop} {i : Nat} {ops : List Oper} {d : Nat} {b : Bool} {fr : List (Nat × AV)} {V : List (List CV)} {A : List Arr}
  (h : ∀ q : Bool, b = q -> OpsH P all ow wv wa fs m ex V0 A0 K i ops ⟨(d, .c (.d (.bool q))) :: fr, V, A⟩) : OpsH P all ow wv wa fs m ex V0 A0 K i ops ⟨(d, .c (.d (.bool b))) :: fr, V, A⟩ := h b rfl
end
end Go.Av

namespace Go.Av
open Go
theorem ACalls.sealed {P : Program} {f : FuncId} {as_ : List AV} {n : Nat} {a : Arr} (h : ACalls P f as_ [] (.c (.own 0 n)) [] [a]) (hn : n = a.rows.length) : ACalls P f as_ [] (.c (.d (.sl a.rows))) [] [] := by
 obtain ⟨h1, h2, h3⟩ := h
 refine ⟨h1, h2, fun g w vs har hI hT hs hr => (h3 g w vs har hI hT hs hr).mono ?_⟩
 rintro e w' ⟨v, g', rfl, hv, hI', hF⟩
 have hd : toD [a] (.own 0 n) = some (.sl a.rows) := by simp [toD, hn]
 obtain ⟨g2, i1, i2, i3, i4, i5, i6⟩ := seal_one hI' hF (show RepC g' w' [a] (.own 0 n) v from hv) hd
 refine ⟨v, { g2 with ar := [] }, rfl, i6, ⟨i1.obl, rfl, fun l row b h => by simp at h, fun k r v h => by simp at h, i1.obob, fun k k' v v' b h => by simp at h, fun l k v b _ h => by simp at h, i1.fresh⟩,
  ⟨i3.os, i3.tape, i3.output, i3.size, i3.blk, i3.imeq, i3.ob, fun k v b h => by simp at h, fun k v h => by rw [har] at h; simp at h, i3.tab⟩⟩
end Go.Av

namespace Go.Av
open Go
section
variable {P : Program} {g g' g0 : Gh} {w w' w0 : World} {V V' : List (List CV)} {A A' : List Arr}
theorem Inv.storeFlat (h : Inv g w V A) (hf : Fr w0 g0 w g) {k : Nat} {r : Arr} {v : Value} (hk : A[k]? = some r) (hv : g.ar[k]? = some v) (hw : r.wr = true) {off b : Nat} {ds : List DV} {rows' : List (List DV)}
  (hl : rows'.length = r.rows.length) (hrow : ∀ q ∈ rows', q.length = r.sz) (hfl : rows'.flatten = splice r.rows.flatten off ds) (ho : off + ds.length <= r.rows.length * r.sz) (hb : v.ownBlock = some b) (vs : List Value) (hvl : vs.length = ds.length)
  (hds : ∀ (j : Nat) x u, ds[j]? = some x -> vs[j]? = some u -> RepD g.im w x u) :
  ∃ cur ty cap, v = .slice (some ⟨b, 0, none⟩) r.rows.length cap /\ w.heap[b]? = some (.cells cur ty (0, 0)) /\ off + vs.length <= cur.size /\
   Inv g (w.setRow b (splice cur.toList off vs).toArray) V (A.set k { r with rows := rows' }) /\
   Ext g w A g (w.setRow b (splice cur.toList off vs).toArray) (A.set k { r with rows := rows' }) /\ Fr w0 g0 (w.setRow b (splice cur.toList off vs).toArray) g := by
 obtain ⟨h1, h2, xs, hown, hr⟩ := h.arr k r v hk hv
 have him : g.im b = 0 := by have := h2 b hb; rw [hw] at this; simpa using this
 rcases hown.2 with ⟨rfl, _⟩ | ⟨b', cap, cur, rfl, _, hh, hnc, hcm, hcs, htake⟩
 ·simp [Value.ownBlock] at hb
 simp [Value.ownBlock] at hb; subst hb
 have hmul2 : r.rows.length * r.sz <= cap * r.sz := Nat.mul_le_mul_right _ hnc
 have hfit : off + vs.length <= r.rows.length * r.sz := by omega
 have hfit2 : off + vs.length <= cur.size := by omega
 have hx1 := Ext.setRow g w A b' (splice cur.toList off vs).toArray him
 have hx : Ext g w A g (w.setRow b' (splice cur.toList off vs).toArray) (A.set k { r with rows := rows' }) := by
  refine ⟨hx1.ob, hx1.gr, fun k' r' hk' => ?_⟩
  rw [set_get hk]
  by_cases e : k' = k
  ·subst e
   obtain rfl : r = r' := by rw [hk] at hk'; exact Option.some.inj hk'
   exact ⟨{ r with rows := rows' }, by simp, rfl, by simp [hl], fun _ => rfl⟩
  ·exact ⟨r', by simp [e, hk'], rfl, Nat.le_refl _, fun _ => rfl⟩
 refine ⟨cur, r.ety, cap, rfl, hh, hfit2, ⟨h.obl, by simp [h.arl], fun l row' b h3 h4 => ?_, fun k' r' u h3 h4 => ?_, h.obob, h.arar, h.obar, fun b hb => h.fresh b (by simpa using hb)⟩, hx, hf.setRow b' _ (.inr (hf.ar k _ b' hv rfl))⟩
 ·exact h.objKeep hx h3 h4 (heap_setRow_other w b' b _ (fun e => by subst e; exact h.obar l k _ b h4 hv rfl)) (h.obj l row' b h3 h4).1
 ·rw [set_get hk] at h3
  by_cases e : k' = k
  ·subst e
   simp at h3; subst h3
   obtain rfl : Value.slice (some ⟨b', 0, none⟩) r.rows.length cap = u := by rw [hv] at h4; exact Option.some.inj h4
   refine ⟨hrow, fun b hb => ?_, splice xs off vs, ?_, fun j x u hj hu => ?_⟩
   ·simp [Value.ownBlock] at hb; subst hb; rw [him]; exact Nat.zero_le _
   ·simp only [hl]
    refine ⟨?_, .inr ⟨b', cap, (splice cur.toList off vs).toArray, ?_, Nat.zero_le _, setRow_heap w b' cur _ r.ety (0, 0) hh, by simpa using hnc, hcm, ?_, ?_⟩⟩
    ·rw [splice_len (by rw [hown.1]; exact hfit)]; simpa using hown.1
    ·simp
    ·simp only [List.size_toArray]
     rw [splice_len (by simpa using hfit2)]; simpa using hcs
    ·apply List.ext_getElem?
     intro j
     rw [List.getElem?_take, splice_at (by simpa using hfit2), splice_at (by rw [hown.1]; exact hfit), <- htake, List.getElem?_take]
     split <;> split <;> first | rfl | (rename_i h5 h6; omega)
   ·simp only at hj
    rw [hfl, splice_at (by rw [flatten_len h1]; omega)] at hj
    rw [splice_at (by rw [hown.1]; exact hfit), hvl] at hu
    split at hj
    ·rename_i hc
     rw [if_pos hc] at hu
     exact RepD.grows hx.gr x u (hds _ x u hj hu)
    ·rename_i hc
     rw [if_neg hc] at hu
     exact RepD.grows hx.gr x u (hr j x u hj hu)
  ·simp [e] at h3
   refine h.arrKeep hx h3 h4 (fun b hb => heap_setRow_other w b' b _ (fun e' => by subst e'; exact e (h.arar k' k u _ b h4 hv hb rfl))) (fun _ _ => rfl)
theorem aops_soundP {n : Nat} {s : St} {a : Act} {all : Array Oper} {ow : Nat -> Bool} {K : St -> Prop} {Q : Exit -> Act -> World -> Prop} {more : List Oper} : ∀ (ops : List Oper) (i : Nat) (s : St) (g : Gh) (a : Act) (w : World), dstsOk n ops = true -> Rp n w0 g0 s g a w -> aops P all ow K i ops s ->
  (∀ s' g' a' w', K s' -> Rp n w0 g0 s' g' a' w' -> wpList P all Q more a' w') -> wpList P all Q (ops ++ more) a w
 | [], i, s, g, a, w, _, hR, h, hQ => hQ s g a w h hR
 | o :: rest, i, s, g, a, w, hd, hR, h, hQ => by
  simp only [dstsOk, List.all_cons, Bool.and_eq_true] at hd
  have hdst : ∀ d, o.dst = some d -> d < n := fun d e => by have := hd.1; rw [e] at this; simpa using this
  simp only [aops] at h
  rw [List.cons_append]
  unfold wpList
  rcases gdo_sound hR h with ⟨h1, h2⟩ | ⟨h1, h2⟩
  ·rw [if_pos h1]
   obtain ⟨x, V', A', h3, h4⟩ := astep_wp hR.inv hR.fr hR.slot h2
   exact .inl (h4 _ _ fun v w' g' h5 h6 h7 h8 => aops_soundP (s := s) (a := a) rest (i + 1) _ g' _ w' hd.2 (hR.put hdst h5 h6 h7 h8) h3 hQ)
  ·rw [if_neg (by rw [h1]; simp)]
   exact aops_soundP (s := s) (a := a) rest (i + 1) _ g _ w hd.2 (hR.put hdst (x := .c .undef) (v := undef) rfl hR.inv (.refl _ _ _) hR.fr) h2 hQ
theorem run_clear_own {t e ty' : TypeId} {z : Value} {b o n c : Nat} {cur : Array Value} {ty : TypeId} (w : World) (ht : P.underlying t = some (.slice e)) (hz : (zeroValue e).run P w = .ok z w) (hh : w.heap[b]? = some (.cells cur ty (0, 0))) (hn : 0 < n)
  (hfit : o + n * z.cells.size <= cur.size) (h1 : ∀ u ∈ (Builtin.zeroCells z.cells n).toList, u.oneCell' = true) :
  (Builtin.clear_ #[t] ty' #[.slice (some ⟨b, o, none⟩) n c]).run P w = .ok (.tuple #[]) (w.setRow b (splice cur.toList o (Builtin.zeroCells z.cells n).toList).toArray) := by
 have hst := run_storeCells_at P b o ty (Builtin.zeroCells z.cells n).toList 0 cur w hh (by simp [Builtin.zeroCells]; omega) h1
 simp only [Nat.add_zero] at hst
 obtain ⟨m, rfl⟩ : ∃ m, n = m + 1 := ⟨n - 1, by omega⟩
 simp [Builtin.clear_, run_underlying ht, hz, Result.andThen, hst, splice]
end
end Go.Av

namespace Go.Av
open Go
section
variable {P : Program} {n : Nat} {Q : Exit -> St -> Prop} {s : St}
theorem take_flatten {α : Type} {sz : Nat} : ∀ {rows : List (List α)}, (∀ r ∈ rows, r.length = sz) -> ∀ i : Nat, (rows.take i).flatten = rows.flatten.take (i * sz)
 | [], _, i => by simp
 | r :: rs, h, 0 => by simp
 | r :: rs, h, i + 1 => by
  have hr : r.length = sz := h r (by simp)
  have ih := take_flatten (fun q hq => h q (by simp [hq])) (rows := rs) i
  simp only [List.take_succ_cons, List.flatten_cons, ih]
  rw [show (i + 1) * sz = r.length + i * sz by rw [hr, Nat.add_mul]; omega, List.take_length_add_append]
theorem rep_flat (dz : List DV) {sz : Nat} (hz : dz.length = sz) : ∀ (m j : Nat) (x : DV), (List.replicate m dz).flatten[j]? = some x -> dz[j % sz]? = some x
 | 0, j, x, h => by simp at h
 | m + 1, j, x, h => by
  simp only [List.replicate_succ, List.flatten_cons] at h
  by_cases hj : j < dz.length
  ·rw [List.getElem?_append_left hj] at h
   rwa [Nat.mod_eq_of_lt (by omega)]
  ·rw [List.getElem?_append_right (by omega)] at h
   have := rep_flat dz hz m _ _ h
   rwa [hz, <- Nat.mod_eq_sub_mod (by omega)] at this
theorem toDs_at {A : List Arr} : ∀ {cs : List CV} {ds : List DV}, toDs A cs = some ds -> ∀ (j : Nat) c x, cs[j]? = some c -> ds[j]? = some x -> toD A c = some x
 | [], ds, h, j, c, x, h1, h2 => by simp at h1
 | c :: cs, ds, h, j, c', x, h1, h2 => by
  simp only [toDs] at h
  split at h
  ·rename_i d1 d2 h3 h4
   simp at h; subst h
   cases j with
   | zero => simp at h1 h2; subst h1; subst h2; exact h3
   | succ j => simp at h1 h2; exact toDs_at h4 j c' x h1 h2
  ·simp at h
def clearP (P : Program) (o1 o2 : Oper) (K : St -> Prop) (s : St) : Prop :=
 ∃ (t e : TypeId) (x lo : Operand) (d1 : Nat) (ty : TypeId) (cs : Array Bool) (d de : TD) (z : List CV) (dz : List DV) (k m : Nat) (ki : IntKind) (i : Int) (r : Arr),
  (o1.op = .slice t x (some lo) none none /\ o1.dst = some d1 /\ o1.guard = none /\ (∀ (a : Act) (w : World), (execOp a.eval o2).run P w = (builtin .clear #[t] ty cs #[a.eval (.tmp d1)]).run P w) /\ o2.guard = none) /\
  look s.fr d1 = none /\ (∀ d2, o2.dst = some d2 -> look s.fr d2 = none) /\ td P t = some d /\ d.el = some e /\ td P e = some de /\ de.zero = some z /\ toDs [] z = some dz /\ z.length = de.sz /\ 0 < de.sz /\
  aval s x = some (.c (.own k m)) /\ aval s lo = some (.c (.d (.int ki i))) /\ 0 <= i /\ i.toNat < m /\ s.A[k]? = some r /\ m = r.rows.length /\ r.wr = true /\ r.sz = de.sz /\
  K ⟨s.fr, s.V, s.A.set k { r with rows := r.rows.take i.toNat ++ List.replicate (m - i.toNat) dz }⟩
set_option maxHeartbeats 1000000 in
theorem clear_sound {w0 : World} {g0 g : Gh} {a : Act} {w : World} {o1 o2 : Oper} {all : Array Oper} {K : St -> Prop} {Q : Exit -> Act -> World -> Prop} (h : clearP P o1 o2 K s) (hd : dstsOk n [o1, o2] = true) (hR : Rp n w0 g0 s g a w)
  (hQ : ∀ s' g' a' w', K s' -> Rp n w0 g0 s' g' a' w' -> Q .normal a' w') : wpList P all Q [o1, o2] a w := by
 obtain ⟨t, e, x, lo, d1, ty, cs, d, de, z, dz, k, m, ki, i, r, ⟨hop, hdst, hg1, hex, hg2⟩, hl1, hl2, ht, hel, he, hz, hdz, hzl, hpos, hx, hlo, hi0, him, hk, hm, hw, hsz, hK⟩ := h
 simp only [dstsOk, List.all_cons, List.all_nil, Bool.and_true, Bool.and_eq_true, hdst, decide_eq_true_eq] at hd
 have hdn1 : d1 < n := hd.1
 obtain ⟨inf, hi1, hisz, _, h0⟩ := td_info he
 obtain ⟨zv, hzv, hzc⟩ := h0 z hz
 have hzs : zv.cells.size = de.sz := by have := cvsOf_len hzc; simp at this; omega
 have hdzl : dz.length = de.sz := by rw [toDs_len hdz, hzl]
 have hsl := td_el ht hel
 have hv : RepC g w s.A (.own k m) (a.eval x) := aval_sound hR.slot hx
 obtain ⟨ad, cap, hve, r', hk', _, hq⟩ := hv
 obtain rfl : r = r' := Option.some.inj (hk.symm.trans hk')
 have hv0 := hq hm
 have hlov : a.eval lo = .int ki i := aval_sound hR.slot hlo
 obtain ⟨h1, _, xs, hown, _⟩ := hR.inv.arr k r _ hk hv0
 have hrp : 0 < r.rows.length := by omega
 obtain ⟨b, hb⟩ : ∃ b, (a.eval x).ownBlock = some b := by
  rcases hown.2 with ⟨_, h3⟩ | ⟨b, cap', cur, h2, _⟩
  ·omega
  ·exact ⟨b, by rw [h2]; rfl⟩
 let zs := (Builtin.zeroCells zv.cells (m - i.toNat)).toList
 have hzsl : zs.length = (m - i.toNat) * de.sz := by simp [zs, Builtin.zeroCells, hzs]
 have hfl : (List.replicate (m - i.toNat) dz).flatten.length = (m - i.toNat) * de.sz := by simp [hdzl]
 have hmul : i.toNat * de.sz + (m - i.toNat) * de.sz = r.rows.length * de.sz := by rw [<- Nat.add_mul, <- hm]; congr 1; omega
 have hrs : ∀ q ∈ r.rows, q.length = de.sz := fun q hq => by rw [h1 q hq, hsz]
 have hzat : ∀ (j : Nat) y u, (List.replicate (m - i.toNat) dz).flatten[j]? = some y -> zs[j]? = some u -> RepD g.im w y u := by
  intro j y u h6 h7
  have h8 := rep_flat dz hdzl _ j y h6
  have hjm : j < (m - i.toNat) * de.sz := by rw [<- hzsl]; exact (List.getElem?_eq_some_iff.1 h7).1
  have h9 : u = zv.cells[j % zv.cells.size]! := by
   have : j < (m - i.toNat) * zv.cells.size := by rw [hzs]; exact hjm
   simp [zs, Builtin.zeroCells, this] at h7; exact h7.symm
  have hlt : j % de.sz < zv.cells.size := by rw [hzs]; exact Nat.mod_lt _ hpos
  have h10 : zv.cells.toList[j % de.sz]? = some u := by
   rw [h9, hzs]; simp [hlt]
  have hzj : z[j % de.sz]? = some (z[j % de.sz]'(by omega)) := List.getElem?_eq_getElem (by omega)
  have h11 := cvsOf_at hzc _ _ _ hzj h10
  exact toD_zero h11 (toDs_at hdz _ _ _ hzj h8)
 obtain ⟨cur, ty', cap', hve', hh, hfit, hI', hx', hF'⟩ := hR.inv.storeFlat hR.fr hk hv0 hw (off := i.toNat * de.sz) (ds := (List.replicate (m - i.toNat) dz).flatten) (rows' := r.rows.take i.toNat ++ List.replicate (m - i.toNat) dz)
  (by simp; omega) (fun q hq => by
   simp at hq
   rcases hq with hq | ⟨_, rfl⟩
   ·exact h1 q (List.mem_of_mem_take hq)
   ·omega)
  (by
   rw [List.flatten_append, take_flatten hrs]
   simp only [splice]
   rw [List.drop_of_length_le (by rw [flatten_len hrs, hfl]; omega), List.append_nil])
  (by rw [hfl, hsz]; omega) hb zs (by rw [hzsl, hfl]) hzat
 have hcap : m <= cap' := by
  rcases hown.2 with ⟨_, h3⟩ | ⟨b, cap2, cur2, h2, _, _, hnc, _⟩
  ·omega
  ·rw [hve'] at h2; simp at h2; omega
 have hrun1 : (execOp a.eval o1).run P w = .ok (.value (.slice (some ⟨b, i.toNat * de.sz, none⟩) (m - i.toNat) (cap' - i.toNat))) w := by
  have hbd : (Instr.sliceBounds true m cap' (some (.int ki i)) none none).run P w = .ok (i.toNat, m, cap') w := by
   simp [Instr.sliceBounds, run_sliceBound w ki i m _ hi0 (by omega)]
  simp [execOp, hop, hve', hlov, Instr.sliceAt, Instr.slice, run_underlying hsl, <- hm, hbd, sizeOf, typeInfo, hi1, hisz, addr_add, show cap' ≠ i.toNat by omega]
 have hw1 : ∀ f, Region.wanted o1 f = true := fun f => by simp [Region.wanted, hg1]
 have hw2 : ∀ f, Region.wanted o2 f = true := fun f => by simp [Region.wanted, hg2]
 unfold wpList
 rw [if_pos (hw1 _)]
 refine .inl ?_
 unfold Oper.wp
 rw [hrun1, Oper.upon_value]
 unfold wpList
 rw [if_pos (hw2 _)]
 refine .inl ?_
 have hev : (a.put o1.dst (.slice (some ⟨b, i.toNat * de.sz, none⟩) (m - i.toNat) (cap' - i.toNat))).eval (.tmp d1) = .slice (some ⟨b, i.toNat * de.sz, none⟩) (m - i.toNat) (cap' - i.toNat) := by
  have : d1 < a.tmps.size := by rw [hR.size]; exact hdn1
  simp [Act.put, hdst, Act.eval, this]
 have hzr : ∀ w : World, (zeroValue e).run P w = .ok zv w := fun w => by simp [zeroValue, typeInfo, hi1, hzv]
 have hone : ∀ u ∈ zs, u.oneCell' = true := fun u hu => by
  obtain ⟨j, hj⟩ := List.getElem?_of_mem hu
  have hjl : j < (List.replicate (m - i.toNat) dz).flatten.length := by rw [hfl, <- hzsl]; exact (List.getElem?_eq_some_iff.1 hj).1
  exact RepD.oneCell (hzat j _ u (List.getElem?_eq_getElem hjl) hj)
 have hrun2 : (execOp (a.put o1.dst (.slice (some ⟨b, i.toNat * de.sz, none⟩) (m - i.toNat) (cap' - i.toNat))).eval o2).run P w = .ok (.value (.tuple #[])) (w.setRow b (splice cur.toList (i.toNat * de.sz) zs).toArray) := by
  rw [hex, hev]
  have := run_clear_own (P := P) (t := t) (e := e) (ty' := ty) (z := zv) (b := b) (o := i.toNat * de.sz) (n := m - i.toNat) (c := cap' - i.toNat) (cur := cur) (ty := ty') w hsl (hzr w) hh (by omega) (by rw [hzs, <- hzsl]; exact hfit) hone
  exact run_value this
 unfold Oper.wp
 rw [hrun2, Oper.upon_value]
 refine hQ _ g _ _ hK ⟨hI', hF', ?_, ?_, fun t' y hy => ?_⟩
 ·cases o2.dst <;> simp [Act.put, hdst, hR.size]
 ·cases o2.dst <;> simp [Act.put, hdst, hR.defers]
 ·simp only at hy
  obtain ⟨u, h3, h4⟩ := hR.slot t' y hy
  refine ⟨u, ?_, RepV.ext hx' h4⟩
  have e1 : t' ≠ d1 := fun e => by subst e; rw [hl1] at hy; cases hy
  have e2 : ∀ d2, o2.dst = some d2 -> t' ≠ d2 := fun d2 hd2 e => by subst e; rw [hl2 t' hd2] at hy; cases hy
  cases h5 : o2.dst with
  | none => simp [Act.put, hdst, Array.getElem?_setIfInBounds_ne (fun e' => e1 e'.symm), h3]
  | some d2 => simp [Act.put, hdst, Array.getElem?_setIfInBounds_ne (fun e' => e1 e'.symm), Array.getElem?_setIfInBounds_ne (fun e' => e2 d2 h5 e'.symm), h3]
theorem T.rsClear {id : Nat} {p1 p2 o1 o2 : Oper} {y : Code} (h : ∀ K : St -> Prop, (∀ s', T P n y Q s' -> K s') -> Ops P [p1, p2, o1, o2].toArray (fun _ => false) (clearP P o1 o2 K) 0 [p1, p2] s) : T P n (.seq (.region id [p1, p2, o1, o2].toArray false) y) Q s := by
 refine T.seq ?_
 intro hok w0 g0 g a w hR
 refine wp_region_list ?_
 have hd1 : dstsOk n [p1, p2] = true /\ dstsOk n [o1, o2] = true := by
  simp only [codeOk, dstsOk, List.all_cons, List.all_nil, Bool.and_true, Bool.and_eq_true] at hok ⊢
  exact ⟨⟨hok.1, hok.2.1⟩, hok.2.2⟩
 refine aops_soundP (s := s) (a := a) (more := [o1, o2]) [p1, p2] 0 s g a w hd1.1 hR (h _ fun _ h => h).run fun s' g' a' w' hc hR' => ?_
 exact clear_sound hc hd1.2 hR' fun s'' g'' a'' w'' h1 h2 => ⟨s'', g'', h1, h2⟩
end
end Go.Av

namespace Go.Av
open Go
section
variable {P : Program} {n : Nat} {Q : Exit -> St -> Prop} {s s' : St} {y : Code}
structure OpsW (P : Program) (all : Array Oper) (ow : Nat -> Bool) (wv wa fs : List Nat) (m : Nat) (ex : List Nat) (V0 : List (List CV)) (A0 : List Arr) (K : St -> Prop) (i : Nat) (ops : List Oper) (s : St) : Prop where
 mk ::
 run : aopsJ P all ow wv wa fs m ex V0 A0 K i ops s

theorem aopsW_go {all : Array Oper} {ow : Nat -> Bool} {wv wa fs : List Nat} {m : Nat} {ex : List Nat} {V0 : List (List CV)} {A0 : List Arr} {K : St -> Prop} {i : Nat} {o : Oper} {rest : List Oper}
  (h : gdo all s o (astep P s (ow i) o fun x V A => ((i ∈ wv \/ V = s.V) /\ (i ∈ wa \/ A = s.A)) /\ (i ∈ wv \/ i ∈ wa -> i < m -> V.take V0.length = exV ex (fun i => V.getD i []) V0 /\ A.take A0.length = A0) /\ (i ∈ fs -> freeStep P s (ow i) o ex V0 A0 x) /\
   (i ∈ wv -> ∀ A2, astep P ⟨s.fr, s.V, A2⟩ (ow i) o fun y V' A' => y = x /\ V' = V /\ A' = A2) /\ (i ∈ wa -> isA o.op = false -> ∀ V2, astep P ⟨s.fr, V2, s.A⟩ (ow i) o fun y V' A' => y = x /\ V' = V2 /\ A' = A) /\ OpsW P all ow wv wa fs m ex V0 A0 K (i + 1) rest (s.put o.dst x V A)) (OpsW P all ow wv wa fs m ex V0 A0 K (i + 1) rest (s.put o.dst (.c .undef) s.V s.A))) : OpsW P all ow wv wa fs m ex V0 A0 K i (o :: rest) s :=
 ⟨gdo_map (fun h => astep_map (fun _ _ _ h => ⟨h.1, h.2.1, h.2.2.1, h.2.2.2.1, h.2.2.2.2.1, h.2.2.2.2.2.run⟩) h) (fun h => h.run) h⟩
theorem aopsW_end {all : Array Oper} {ow : Nat -> Bool} {wv wa fs : List Nat} {m : Nat} {ex : List Nat} {V0 : List (List CV)} {A0 : List Arr} {K : St -> Prop} {i : Nat} (h : K s) : OpsW P all ow wv wa fs m ex V0 A0 K i [] s := ⟨h⟩

theorem T.rdW {id : Nat} {l : List Oper} (hm : P.follows .mixedOrders = true) (ow : Nat -> Bool) (wv wa fs : List Nat) (m : Nat) (ex : List Nat) (hd : drawOkJ l.toArray wv wa fs m = true) (h : ∀ K : St -> Prop, (∀ s', T P n y Q s' -> K s') -> OpsW P l.toArray ow wv wa fs m ex s.V s.A K 0 l s) : T P n (.seq (.region id l.toArray true) y) Q s :=
 T.seq (T.region_drawJ hm ow wv wa fs m ex hd (h _ fun _ h => h).run)
@[congr] theorem aopsW_cong {all : Array Oper} {ow : Nat -> Bool} {wv wa fs : List Nat} {m : Nat} {ex : List Nat} {V0 : List (List CV)} {A0 : List Arr} {K : St -> Prop} {i i' : Nat} {ops : List Oper} (hi : i = i') (h : s = s') : OpsW P all ow wv wa fs m ex V0 A0 K i ops s = OpsW P all ow wv wa fs m ex V0 A0 K i' ops s' := by rw [h, hi]

theorem OpsW.gen {all : Array Oper} {ow : Nat -> Bool} {wv wa fs : List Nat} {m : Nat} {ex : List Nat} {V0 : List (List CV)} {A0 : List Arr} {K : St -> Prop} {i : Nat} {ops : List Oper} {d : Nat} {b : Bool} {fr : List (Nat × AV)} {V : List (List CV)} {A : List Arr}
  (h : ∀ q : Bool, b = q -> OpsW P all ow wv wa fs m ex V0 A0 K i ops ⟨(d, .c (.d (.bool q))) :: fr, V, A⟩) : OpsW P all ow wv wa fs m ex V0 A0 K i ops ⟨(d, .c (.d (.bool b))) :: fr, V, A⟩ := h b rfl
end
end Go.Av

namespace Go.Av
open Go

inductive GC where
 | d (x : DV)
 | t (e : TypeId) (sz n : Nat) (cs : List GC)
 | b (T e : TypeId) (bs : List Value)

mutual
def Tr (w : World) : GC -> Value -> List Nat -> Prop
 | .d x, v, S => RepD (fun _ => 0) w x v /\ S = []
 | .t e sz n cs, v, S => ∃ xs S', w.ownsRow 0 e sz v n xs /\ TrL w cs xs S' /\ S = v.ownBlock.toList ++ S'
 | .b T e bs, v, S => ∃ b p u, v = .pointer (some ⟨b, 0, none⟩) /\ w.heap[b]? = some (.cells #[p, u] T (0, 0)) /\ (p = .pointer none \/ p = v) /\ w.ownsRow 0 e 1 u bs.length bs /\ S = b :: u.ownBlock.toList
def TrL (w : World) : List GC -> List Value -> List Nat -> Prop
 | [], xs, S => xs = [] /\ S = []
 | c :: cs, xs, S => ∃ x xs' S1 S2, xs = x :: xs' /\ S = S1 ++ S2 /\ Tr w c x S1 /\ TrL w cs xs' S2
end
def Trs (w : World) : List (GC × Value) -> List Nat -> Prop
 | [], S => S = []
 | (c, v) :: L, S => ∃ S1 S2, S = S1 ++ S2 /\ Tr w c v S1 /\ Trs w L S2

theorem RepD.zero {w w' : World} {x : DV} {v : Value} {im : Nat -> Nat} (h : RepD (fun _ => 0) w x v) : RepD im w' x v :=
 RepD.grows (im := fun _ => 0) (w := w) ⟨fun _ => Nat.zero_le _, fun _ _ ho => absurd ho (Nat.not_lt_zero _)⟩ x v h

mutual
theorem Tr.keep {w w' : World} : ∀ (c : GC) (v : Value) (S : List Nat), (∀ b ∈ S, w'.heap[b]? = w.heap[b]?) -> Tr w c v S -> Tr w' c v S
 | .d x, v, S, _, h => by simp only [Tr] at h ⊢; exact ⟨h.1.zero, h.2⟩
 | .t e sz n cs, v, S, hk, h => by
  simp only [Tr] at h ⊢
  obtain ⟨xs, S', h1, h2, rfl⟩ := h
  exact ⟨xs, S', ownsRow_heap h1 (fun b hb => hk b (by simp [hb])), TrL.keep cs xs S' (fun b hb => hk b (by simp [hb])) h2, rfl⟩
 | .b T e bs, v, S, hk, h => by
  simp only [Tr] at h ⊢
  obtain ⟨b, p, u, rfl, h1, h2, h3, rfl⟩ := h
  exact ⟨b, p, u, rfl, (hk b (by simp)).trans h1, h2, ownsRow_heap h3 (fun x hx => hk x (by simp [hx])), rfl⟩
theorem TrL.keep {w w' : World} : ∀ (cs : List GC) (xs : List Value) (S : List Nat), (∀ b ∈ S, w'.heap[b]? = w.heap[b]?) -> TrL w cs xs S -> TrL w' cs xs S
 | [], xs, S, _, h => by simp only [TrL] at h ⊢; exact h
 | c :: cs, xs, S, hk, h => by
  simp only [TrL] at h ⊢
  obtain ⟨x, xs', S1, S2, rfl, rfl, h1, h2⟩ := h
  exact ⟨x, xs', S1, S2, rfl, rfl, Tr.keep c x S1 (fun b hb => hk b (by simp [hb])) h1, TrL.keep cs xs' S2 (fun b hb => hk b (by simp [hb])) h2⟩
end
theorem Trs.keep {w w' : World} : ∀ {L : List (GC × Value)} {S : List Nat}, (∀ b ∈ S, w'.heap[b]? = w.heap[b]?) -> Trs w L S -> Trs w' L S
 | [], S, _, h => h
 | (c, v) :: L, S, hk, h => by
  obtain ⟨S1, S2, rfl, h1, h2⟩ := h
  exact ⟨S1, S2, rfl, Tr.keep c v S1 (fun b hb => hk b (by simp [hb])) h1, Trs.keep (fun b hb => hk b (by simp [hb])) h2⟩

mutual
theorem Tr.lt {w : World} : ∀ (c : GC) (v : Value) (S : List Nat), Tr w c v S -> ∀ b ∈ S, b < w.heap.size
 | .d x, v, S, h, b, hb => by simp only [Tr] at h; rw [h.2] at hb; cases hb
 | .t e sz n cs, v, S, h, b, hb => by
  simp only [Tr] at h
  obtain ⟨xs, S', h1, h2, rfl⟩ := h
  rcases List.mem_append.1 hb with h3 | h3
  ·exact (h1.lt b (by simpa using h3)).2
  ·exact TrL.lt cs xs S' h2 b h3
 | .b T e bs, v, S, h, x, hx => by
  simp only [Tr] at h
  obtain ⟨b, p, u, rfl, h1, h2, h3, rfl⟩ := h
  rcases List.mem_cons.1 hx with rfl | hx
  ·exact (Array.getElem?_eq_some_iff.1 h1).1
  ·exact (h3.lt x (by simpa using hx)).2
theorem TrL.lt {w : World} : ∀ (cs : List GC) (xs : List Value) (S : List Nat), TrL w cs xs S -> ∀ b ∈ S, b < w.heap.size
 | [], xs, S, h, b, hb => by simp only [TrL] at h; rw [h.2] at hb; cases hb
 | c :: cs, xs, S, h, b, hb => by
  simp only [TrL] at h
  obtain ⟨x, xs', S1, S2, rfl, rfl, h1, h2⟩ := h
  rcases List.mem_append.1 hb with h3 | h3
  ·exact Tr.lt c x S1 h1 b h3
  ·exact TrL.lt cs xs' S2 h2 b h3
end
theorem Trs.lt {w : World} : ∀ {L : List (GC × Value)} {S : List Nat}, Trs w L S -> ∀ b ∈ S, b < w.heap.size
 | [], S, h, b, hb => by simp only [Trs] at h; rw [h] at hb; cases hb
 | (c, v) :: L, S, h, b, hb => by
  obtain ⟨S1, S2, rfl, h1, h2⟩ := h
  rcases List.mem_append.1 hb with h3 | h3
  ·exact Tr.lt c v S1 h1 b h3
  ·exact Trs.lt h2 b h3

theorem Trs.app {w : World} : ∀ {L M : List (GC × Value)} {S : List Nat}, Trs w (L ++ M) S ↔ ∃ S1 S2, S = S1 ++ S2 /\ Trs w L S1 /\ Trs w M S2
 | [], M, S => by
  simp only [List.nil_append, Trs]
  constructor
  ·intro h; exact ⟨[], S, rfl, rfl, h⟩
  ·rintro ⟨_, S2, rfl, rfl, h⟩; exact h
 | (c, v) :: L, M, S => by
  simp only [List.cons_append, Trs, Trs.app (L := L)]
  constructor
  ·rintro ⟨S1, S2, rfl, h1, S3, S4, rfl, h2, h3⟩
   exact ⟨S1 ++ S3, S4, by simp, ⟨S1, S3, rfl, h1, h2⟩, h3⟩
  ·rintro ⟨S1, S2, rfl, ⟨S3, S4, rfl, h1, h2⟩, h3⟩
   exact ⟨S3, S4 ++ S2, by simp, h1, S4, S2, rfl, h2, h3⟩
theorem Trs.perm {w : World} {L M : List (GC × Value)} (hp : L.Perm M) : ∀ {S : List Nat}, Trs w L S -> ∃ S', S.Perm S' /\ Trs w M S' := by
 induction hp with
 | nil => exact fun h => ⟨_, .refl _, h⟩
 | cons x _ ih =>
  obtain ⟨c, v⟩ := x
  rintro S ⟨S1, S2, rfl, h1, h2⟩
  obtain ⟨S', h3, h4⟩ := ih h2
  exact ⟨S1 ++ S', h3.append_left S1, S1, S', rfl, h1, h4⟩
 | swap x y l =>
  obtain ⟨c, v⟩ := x
  obtain ⟨c', v'⟩ := y
  rintro S ⟨S1, S2, rfl, h1, S3, S4, rfl, h2, h3⟩
  refine ⟨S3 ++ (S1 ++ S4), ?_, S3, S1 ++ S4, rfl, h2, S1, S4, rfl, h1, h3⟩
  rw [<- List.append_assoc, <- List.append_assoc]
  exact List.perm_append_comm.append_right S4
 | trans _ _ ih1 ih2 =>
  intro S h
  obtain ⟨S', h1, h2⟩ := ih1 h
  obtain ⟨S'', h3, h4⟩ := ih2 h2
  exact ⟨S'', h1.trans h3, h4⟩
theorem Trs.at_ {w : World} : ∀ {L : List (GC × Value)} {S : List Nat}, Trs w L S -> ∀ {c v}, (c, v) ∈ L -> ∃ S', Tr w c v S' /\ ∀ b ∈ S', b ∈ S
 | (c, v) :: L, S, h, c', v', hm => by
  obtain ⟨S1, S2, rfl, h1, h2⟩ := h
  rcases List.mem_cons.1 hm with e | h3
  ·cases e; exact ⟨S1, h1, fun b hb => by simp [hb]⟩
  ·obtain ⟨S', h4, h5⟩ := Trs.at_ h2 h3
   exact ⟨S', h4, fun b hb => by simp [h5 b hb]⟩

def chunks {α : Type} (sz : Nat) : Nat -> List α -> List (List α)
 | 0, _ => []
 | n + 1, l => l.take sz :: chunks sz n (l.drop sz)
theorem chunks_len {α : Type} (sz : Nat) : ∀ (n : Nat) (l : List α), (chunks sz n l).length = n
 | 0, _ => rfl
 | n + 1, l => by simp [chunks, chunks_len sz n]
theorem flat_chunks {α : Type} {sz : Nat} : ∀ {n : Nat} {l : List α}, l.length = n * sz -> (chunks sz n l).flatten = l
 | 0, l, h => by
  have : l = [] := List.length_eq_zero_iff.1 (by simpa using h)
  simp [this, chunks]
 | n + 1, l, h => by
  simp only [chunks, List.flatten_cons]
  rw [flat_chunks (by rw [List.length_drop, h, Nat.add_mul]; omega)]
  exact List.take_append_drop sz l
theorem chunks_row {α : Type} {sz : Nat} : ∀ {n : Nat} {l : List α}, l.length = n * sz -> ∀ r ∈ chunks sz n l, r.length = sz
 | n + 1, l, h, r, hr => by
  simp only [chunks, List.mem_cons] at hr
  rw [Nat.add_mul] at h
  rcases hr with rfl | hr
  ·rw [List.length_take]; omega
  ·exact chunks_row (by rw [List.length_drop]; omega) r hr

mutual
def GC.dv : GC -> DV
 | .d x => x
 | .t _ sz n cs => .sl (chunks sz n (dvL cs))
 | .b _ _ _ => .bool false
def dvL : List GC -> List DV
 | [] => []
 | c :: cs => c.dv :: dvL cs
end
theorem dvL_map : ∀ (cs : List GC), dvL cs = cs.map GC.dv
 | [] => rfl
 | c :: cs => by simp [dvL, dvL_map cs]
theorem TrL.len {w : World} : ∀ {cs : List GC} {xs : List Value} {S : List Nat}, TrL w cs xs S -> cs.length = xs.length
 | [], xs, S, h => by simp only [TrL] at h; rw [h.1]; rfl
 | c :: cs, xs, S, h => by
  simp only [TrL] at h
  obtain ⟨x, xs', S1, S2, rfl, rfl, h1, h2⟩ := h
  simp [TrL.len h2]

mutual
def GC.pl : GC -> Bool
 | .d _ => true
 | .t _ _ _ cs => plL cs
 | .b _ _ _ => false
def plL : List GC -> Bool
 | [] => true
 | c :: cs => c.pl && plL cs
end
def bsz (w : World) (b : Nat) : Nat := match w.heap[b]? with
 | some (.cells cs _ _) => cs.size
 | _ => 0

theorem repRows_chunks {im : Nat -> Nat} {w : World} {b sz : Nat} : ∀ {n : Nat} {l : List DV} {off : Nat}, l.length = n * sz -> (∀ j x, l[j]? = some x -> ∃ u, w.cell? ⟨b, off + j, none⟩ = some u /\ RepD im w x u) -> RepRows im w b sz off (chunks sz n l)
 | 0, l, off, _, _ => by simp [chunks, RepRows]
 | n + 1, l, off, hl, h => by
  rw [Nat.add_mul] at hl
  simp only [chunks, RepRows]
  refine ⟨by rw [List.length_take]; omega, RepRow.mk fun j x hx => ?_, repRows_chunks (by rw [List.length_drop]; omega) fun j x hx => ?_⟩
  ·refine h j x ?_
   rw [List.getElem?_take] at hx
   split at hx
   ·exact hx
   ·cases hx
  ·rw [List.getElem?_drop] at hx
   have := h (sz + j) x hx
   rwa [<- Nat.add_assoc] at this

mutual
theorem Tr.rep {w : World} {im : Nat -> Nat} : ∀ (c : GC) (v : Value) (S : List Nat), c.pl = true -> Tr w c v S -> (∀ b ∈ S, bsz w b <= im b) -> RepD im w c.dv v
 | .d x, v, S, _, h, _ => by simp only [Tr] at h; exact h.1.zero
 | .b _ _ _, v, S, hp, _, _ => by simp [GC.pl] at hp
 | .t e sz n cs, v, S, hp, h, hS => by
  simp only [Tr] at h
  simp only [GC.pl] at hp
  obtain ⟨xs, S', h1, h2, rfl⟩ := h
  have hcs := TrL.rep cs xs S' hp h2 (fun b hb => hS b (by simp [hb]))
  have hlen : (dvL cs).length = n * sz := by rw [dvL_map, List.length_map, h2.len, h1.1]
  obtain ⟨hxl, h3⟩ := h1
  rcases h3 with ⟨rfl, rfl⟩ | ⟨g, cap, cur, rfl, _, hh, hc, hm, hcur, htake⟩
  ·simp only [GC.dv, RepD, chunks]
   exact ⟨none, 0, rfl, Nat.le_refl _, .inl trivial⟩
  ·have hb := hS g (by simp [Value.ownBlock])
   have hbs : bsz w g = cap * sz := by simp [bsz, hh, hcur]
   have hmul : n * sz <= cap * sz := Nat.mul_le_mul_right sz hc
   simp only [GC.dv, RepD, chunks_len]
   refine ⟨_, cap, rfl, hc, .inr ⟨g, 0, sz, rfl, by omega, repRows_chunks hlen fun j x hx => ?_⟩⟩
   obtain ⟨u, hu, hd⟩ := hcs j x hx
   refine ⟨u, ?_, hd⟩
   rw [<- htake, List.getElem?_take] at hu
   split at hu
   ·have hu' : cur[0 + j]? = some u := by simpa using hu
    simp only [World.cell?, hh]
    exact hu'
   ·cases hu
theorem TrL.rep {w : World} {im : Nat -> Nat} : ∀ (cs : List GC) (xs : List Value) (S : List Nat), plL cs = true -> TrL w cs xs S -> (∀ b ∈ S, bsz w b <= im b) -> ∀ (j : Nat) x, (dvL cs)[j]? = some x -> ∃ u, xs[j]? = some u /\ RepD im w x u
 | [], xs, S, _, _, _, j, x, hx => by simp [dvL] at hx
 | c :: cs, xs, S, hp, h, hS, j, x, hx => by
  simp only [TrL] at h
  simp only [plL, Bool.and_eq_true] at hp
  obtain ⟨y, xs', S1, S2, rfl, rfl, h1, h2⟩ := h
  cases j with
  | zero =>
   simp [dvL] at hx; subst hx
   exact ⟨y, rfl, Tr.rep c y S1 hp.1 h1 (fun b hb => hS b (by simp [hb]))⟩
  | succ j =>
   simp [dvL] at hx
   obtain ⟨u, h3, h4⟩ := TrL.rep cs xs' S2 hp.2 h2 (fun b hb => hS b (by simp [hb])) j x hx
   exact ⟨u, by simpa using h3, h4⟩
end

def DV.scal : DV -> Bool
 | .sl rows => rows.isEmpty
 | _ => true
inductive Mk : List GC -> List DV -> List (GC × Value) -> Prop
 | nil : Mk [] [] []
 | d {x cs ds L} : x.scal = true -> Mk cs ds L -> Mk (.d x :: cs) (x :: ds) L
 | t {e sz n k cs ds L v} : Mk cs ds L -> Mk (.t e sz n k :: cs) (.raw v :: ds) ((.t e sz n k, v) :: L)
 | b {T e bs cs ds L v} : Mk cs ds L -> Mk (.b T e bs :: cs) (.raw v :: ds) ((.b T e bs, v) :: L)
theorem DV.scal_rep {x : DV} {v : Value} {im im' : Nat -> Nat} {w w' : World} (hs : x.scal = true) (h : RepD im w x v) : RepD im' w' x v := by
 cases x with
 | sl rows =>
  have : rows = [] := by simpa [DV.scal] using hs
  subst this
  simp only [RepD] at h ⊢
  obtain ⟨a, cap, e, h1, _⟩ := h
  exact ⟨a, cap, e, h1, .inl trivial⟩
 | _ => exact h
theorem Mk.len {cs : List GC} {ds : List DV} {L : List (GC × Value)} (h : Mk cs ds L) : cs.length = ds.length := by
 induction h with
 | nil => rfl
 | d _ _ ih => simp [ih]
 | t _ ih => simp [ih]
 | b _ ih => simp [ih]
theorem Mk.trl {w : World} {im : Nat -> Nat} {cs : List GC} {ds : List DV} {L : List (GC × Value)} (h : Mk cs ds L) : ∀ {xs : List Value} {S : List Nat}, xs.length = ds.length -> (∀ (j : Nat) x u, ds[j]? = some x -> xs[j]? = some u -> RepD im w x u) -> Trs w L S -> TrL w cs xs S := by
 induction h with
 | nil =>
  intro xs S hl _ hS
  simp only [Trs] at hS
  simp only [TrL]
  exact ⟨List.length_eq_zero_iff.1 (by simpa using hl), hS⟩
 | @d x cs ds L hs _ ih =>
  intro xs S hl hr hS
  match xs, hl with
  | u :: us, hl =>
   simp only [TrL]
   exact ⟨u, us, [], S, rfl, rfl, by simp only [Tr]; exact ⟨DV.scal_rep hs (hr 0 x u rfl rfl), trivial⟩, ih (by simpa using hl) (fun j x u h1 h2 => hr (j + 1) x u (by simpa using h1) (by simpa using h2)) hS⟩
 | @t e sz n k cs ds L v _ ih =>
  intro xs S hl hr hS
  match xs, hl with
  | u :: us, hl =>
   obtain ⟨S1, S2, rfl, h1, h2⟩ := hS
   have hu := hr 0 _ u rfl rfl
   simp only [RepD] at hu
   obtain ⟨rfl, _⟩ := hu
   simp only [TrL]
   exact ⟨u, us, S1, S2, rfl, rfl, h1, ih (by simpa using hl) (fun j x u h1 h2 => hr (j + 1) x u (by simpa using h1) (by simpa using h2)) h2⟩
 | @b T e bs cs ds L v _ ih =>
  intro xs S hl hr hS
  match xs, hl with
  | u :: us, hl =>
   obtain ⟨S1, S2, rfl, h1, h2⟩ := hS
   have hu := hr 0 _ u rfl rfl
   simp only [RepD] at hu
   obtain ⟨rfl, _⟩ := hu
   simp only [TrL]
   exact ⟨u, us, S1, S2, rfl, rfl, h1, ih (by simpa using hl) (fun j x u h1 h2 => hr (j + 1) x u (by simpa using h1) (by simpa using h2)) h2⟩
theorem Tr.cell1 {w : World} {e : TypeId} {sz n : Nat} {k : List GC} {v : Value} {S : List Nat} (h : Tr w (.t e sz n k) v S) : v.oneCell' = true := by
 simp only [Tr] at h
 obtain ⟨xs, S', h1, _, _⟩ := h
 rcases h1.2 with ⟨rfl, _⟩ | ⟨g, cap, cur, rfl, _⟩ <;> rfl
theorem Tr.cell2 {w : World} {T e : TypeId} {bs : List Value} {v : Value} {S : List Nat} (h : Tr w (.b T e bs) v S) : v.oneCell' = true := by
 simp only [Tr] at h
 obtain ⟨b, p, u, rfl, _⟩ := h
 rfl
theorem TrL.mk {w : World} : ∀ {cs : List GC} {xs : List Value} {S : List Nat}, (∀ x, GC.d x ∈ cs -> x.scal = true) -> TrL w cs xs S -> ∃ ds L, Mk cs ds L /\ Trs w L S /\ ∀ (im : Nat -> Nat) (j : Nat) x u, ds[j]? = some x -> xs[j]? = some u -> RepD im w x u
 | [], xs, S, _, h => by
  simp only [TrL] at h
  exact ⟨[], [], .nil, h.2, fun _ j x u h1 => by simp at h1⟩
 | c :: cs, xs, S, hsc, h => by
  simp only [TrL] at h
  obtain ⟨y, xs', S1, S2, rfl, rfl, h1, h2⟩ := h
  obtain ⟨ds, L, h3, h4, h5⟩ := TrL.mk (fun x hx => hsc x (by simp [hx])) h2
  cases c with
  | d x =>
   simp only [Tr] at h1
   obtain ⟨h6, rfl⟩ := h1
   refine ⟨x :: ds, L, .d (hsc x (by simp)) h3, h4, fun im j x' u h7 h8 => ?_⟩
   cases j with
   | zero => simp at h7 h8; subst h7; subst h8; exact h6.zero
   | succ j => exact h5 im j x' u (by simpa using h7) (by simpa using h8)
  | t e sz n k =>
   refine ⟨.raw y :: ds, (.t e sz n k, y) :: L, .t h3, ⟨S1, S2, rfl, h1, h4⟩, fun im j x' u h7 h8 => ?_⟩
   cases j with
   | zero => simp at h7 h8; subst h7; subst h8; exact ⟨rfl, h1.cell1⟩
   | succ j => exact h5 im j x' u (by simpa using h7) (by simpa using h8)
  | b T e bs =>
   refine ⟨.raw y :: ds, (.b T e bs, y) :: L, .b h3, ⟨S1, S2, rfl, h1, h4⟩, fun im j x' u h7 h8 => ?_⟩
   cases j with
   | zero => simp at h7 h8; subst h7; subst h8; exact ⟨rfl, h1.cell2⟩
   | succ j => exact h5 im j x' u (by simpa using h7) (by simpa using h8)
end Go.Av

namespace Go.Av
open Go

abbrev Ts := List (GC × Value)

inductive FzC (L : Ts) : CV -> CV -> Prop
 | d {x} : FzC L (.d x) (.d x)
 | nil : FzC L .nil (.d (.sl []))
 | np : FzC L .np .np
 | fn {f} : FzC L (.fn f []) (.fn f [])
 | thaw {c v} : (c, v) ∈ L -> c.pl = true -> FzC L (.d (.raw v)) (.d c.dv)
inductive FzL (L : Ts) : List CV -> List CV -> Prop
 | nil : FzL L [] []
 | cons {x y xs ys} : FzC L x y -> FzL L xs ys -> FzL L (x :: xs) (y :: ys)
inductive FzV (L : Ts) : AV -> AV -> Prop
 | c {x y} : FzC L x y -> FzV L (.c x) (.c y)
 | agg {xs ys} : FzL L xs ys -> FzV L (.agg xs) (.agg ys)
inductive FzVs (L : Ts) : List AV -> List AV -> Prop
 | nil : FzVs L [] []
 | cons {x y xs ys} : FzV L x y -> FzVs L xs ys -> FzVs L (x :: xs) (y :: ys)

structure FrX (w0 : World) (g0 : Gh) (X : List Nat) (w : World) (g : Gh) : Prop where
 os : w.os = w0.os
 tape : w.tape = w0.tape
 output : w.output = w0.output
 size : w0.heap.size <= w.heap.size
 blk : ∀ b, b < w0.heap.size -> b ∉ g0.ob -> b ∉ g0.arb -> b ∉ X -> w.heap[b]? = w0.heap[b]?
 imeq : ∀ b, b < w0.heap.size -> b ∉ g0.arb -> b ∉ X -> g.im b = g0.im b
 ob : ∃ new, g.ob = g0.ob ++ new /\ ∀ b ∈ new, w0.heap.size <= b
 ar : ∀ (k : Nat) v b, g.ar[k]? = some v -> v.ownBlock = some b -> w0.heap.size <= b \/ b ∈ g0.arb \/ b ∈ X
 arx : ∀ (k : Nat) v, g0.ar[k]? = some v -> ∃ v', g.ar[k]? = some v' /\ slen v <= slen v' /\ (slen v' = slen v -> v' = v)
 tab : Tab w0 g0
 tabx : ∀ b ∈ X, tabAt ≠ some b

section
variable {P : Program} {n : Nat} {w0 w w' : World} {g0 g g' : Gh} {X S S' : List Nat} {s s' : St} {L L' : Ts} {a a' : Act}

theorem FrX.refl (ht : Tab w g) (hx : ∀ b ∈ X, tabAt ≠ some b) : FrX w g X w g :=
 ⟨rfl, rfl, rfl, Nat.le_refl _, fun _ _ _ _ _ => rfl, fun _ _ _ _ => rfl, ⟨[], by simp, by simp⟩, fun k v b hk hb => .inr (.inl (Gh.arb_mem hk hb)), fun k v h => ⟨v, h, Nat.le_refl _, fun _ => rfl⟩, ht, hx⟩
theorem FrX.notOb (h : FrX w0 g0 X w g) {b : Nat} (hb : b < w0.heap.size) (h1 : b ∉ g0.ob) : b ∉ g.ob := fun hm => by
 obtain ⟨new, e, hn⟩ := h.ob
 rw [e] at hm
 rcases List.mem_append.1 hm with q | q
 ·exact h1 q
 ·exact absurd (hn b q) (by omega)
theorem FrX.notArb (h : FrX w0 g0 X w g) {b : Nat} (hb : b < w0.heap.size) (h1 : b ∉ g0.arb) (h2 : b ∉ X) : b ∉ g.arb := fun hm => by
 obtain ⟨k, v, q1, q2⟩ := Gh.mem_arb hm
 rcases h.ar k v b q1 q2 with q | q | q
 ·omega
 ·exact h1 q
 ·exact h2 q
theorem FrX.now (h : FrX w0 g0 X w g) : Tab w g := fun b hb => by
 obtain ⟨h1, h2, h3, h4⟩ := h.tab b hb
 refine ⟨Nat.lt_of_lt_of_le h1 h.size, h.notOb h1 h2, h.notArb h1 h3 (fun hx => h.tabx b hx hb), ?_⟩
 rw [h.blk b h1 h2 h3 (fun hx => h.tabx b hx hb)]; exact h4
theorem FrX.fr (h : FrX w0 g0 X w g) (k : Fr w g w' g') : FrX w0 g0 X w' g' := by
 refine ⟨k.os.trans h.os, k.tape.trans h.tape, k.output.trans h.output, Nat.le_trans h.size k.size, fun b h1 h2 h3 h4 => ?_, fun b h1 h2 h3 => ?_, ?_, fun i v b h1 h2 => ?_, fun i v h1 => ?_, h.tab, h.tabx⟩
 ·rw [k.blk b (Nat.lt_of_lt_of_le h1 h.size) (h.notOb h1 h2) (h.notArb h1 h3 h4)]; exact h.blk b h1 h2 h3 h4
 ·rw [k.imeq b (Nat.lt_of_lt_of_le h1 h.size) (h.notArb h1 h2 h3)]; exact h.imeq b h1 h2 h3
 ·obtain ⟨new, e, hn⟩ := h.ob
  obtain ⟨new', e', hn'⟩ := k.ob
  refine ⟨new ++ new', by rw [e', e, List.append_assoc], fun b hb => ?_⟩
  rcases List.mem_append.1 hb with q | q
  ·exact hn b q
  ·exact Nat.le_trans h.size (hn' b q)
 ·rcases k.ar i v b h1 h2 with q | q
  ·exact .inl (Nat.le_trans h.size q)
  ·obtain ⟨j, v', q1, q2⟩ := Gh.mem_arb q
   exact h.ar j v' b q1 q2
 ·obtain ⟨v1, q1, q2, q3⟩ := h.arx i v h1
  obtain ⟨v2, q4, q5, q6⟩ := k.arx i v1 q1
  exact ⟨v2, q4, Nat.le_trans q2 q5, fun e => (q6 (by omega)).trans (q3 (by omega))⟩
structure RpJ (n : Nat) (w0 : World) (g0 : Gh) (X : List Nat) (s : St) (L : Ts) (S : List Nat) (g : Gh) (a : Act) (w : World) : Prop where
 inv : Inv g w s.V s.A
 fr : FrX w0 g0 X w g
 size : a.tmps.size = n
 defers : a.defers = []
 slot : ∀ t x, look s.fr t = some x -> ∃ u, a.tmps[t]? = some u /\ RepV g w s.A x u
 trs : Trs w L S
 nd : S.Nodup
 out : ∀ b ∈ S, g.im b = 0 /\ b ∉ g.ob /\ b ∉ g.arb /\ tabAt ≠ some b /\ (w0.heap.size <= b \/ b ∈ X)

theorem RpJ.rp (h : RpJ n w0 g0 X s L S g a w) : Rp n w g s g a w := ⟨h.inv, .refl h.fr.now, h.size, h.defers, h.slot⟩
theorem RpJ.keepS (h : RpJ n w0 g0 X s L S g a w) (k : Fr w g w' g') : Trs w' L S /\ ∀ b ∈ S, g'.im b = 0 /\ b ∉ g'.ob /\ b ∉ g'.arb /\ tabAt ≠ some b /\ (w0.heap.size <= b \/ b ∈ X) := by
 have hlt := h.trs.lt
 refine ⟨h.trs.keep fun b hb => k.blk b (hlt b hb) (h.out b hb).2.1 (h.out b hb).2.2.1, fun b hb => ?_⟩
 obtain ⟨h1, h2, h3, h4, h5⟩ := h.out b hb
 have hbl := hlt b hb
 refine ⟨(k.imeq b hbl h3).trans h1, fun hm => ?_, fun hm => ?_, h4, h5⟩
 ·obtain ⟨new, e, hn⟩ := k.ob
  rw [e] at hm
  rcases List.mem_append.1 hm with q | q
  ·exact h2 q
  ·exact absurd (hn b q) (by omega)
 ·obtain ⟨i, v, q1, q2⟩ := Gh.mem_arb hm
  rcases k.ar i v b q1 q2 with q | q
  ·omega
  ·exact h3 q
theorem RpJ.back (h : RpJ n w0 g0 X s L S g a w) (k : Rp n w g s' g' a' w') : RpJ n w0 g0 X s' L S g' a' w' :=
 ⟨k.inv, h.fr.fr k.fr, k.size, k.defers, k.slot, (h.keepS k.fr).1, h.nd, (h.keepS k.fr).2⟩
theorem RpJ.less (h : RpJ n w0 g0 X s L S g a w) {M : Ts} (hp : L.Perm (L' ++ M)) : ∃ S', RpJ n w0 g0 X s L' S' g a w := by
 obtain ⟨S1, h1, h2⟩ := h.trs.perm hp
 obtain ⟨S2, S3, rfl, h3, _⟩ := Trs.app.1 h2
 exact ⟨S2, h.inv, h.fr, h.size, h.defers, h.slot, h3, (List.nodup_append.1 (h1.nodup_iff.1 h.nd)).1, fun b hb => h.out b (h1.mem_iff.2 (by simp [hb]))⟩

def TJ (P : Program) (n : Nat) (c : Code) (Q : Exit -> St -> Ts -> Prop) (s : St) (L : Ts) : Prop :=
 codeOk n c = true -> ∀ w0 g0 X S g a w, RpJ n w0 g0 X s L S g a w -> c.wp P (fun e a' w' => ∃ s' g' L' S', Q e s' L' /\ RpJ n w0 g0 X s' L' S' g' a' w') a w

variable {Q Q' : Exit -> St -> Ts -> Prop} {c x y : Code}
theorem TJ.mono (h : TJ P n c Q s L) (hq : ∀ e s' L', Q e s' L' -> Q' e s' L') : TJ P n c Q' s L :=
 fun hok w0 g0 X S g a w hR => Go.wp_mono (h hok w0 g0 X S g a w hR) fun _ _ _ ⟨s', g', L', S', h1, h2⟩ => ⟨s', g', L', S', hq _ _ _ h1, h2⟩
theorem TJ.less {M : Ts} (hp : L.Perm (L' ++ M)) (h : TJ P n c Q s L') : TJ P n c Q s L := by
 intro hok w0 g0 X S g a w hR
 obtain ⟨S', hR'⟩ := hR.less hp
 exact h hok w0 g0 X S' g a w hR'
def ThenJ (P : Program) (n : Nat) (c : Code) (Q : Exit -> St -> Ts -> Prop) : Exit -> St -> Ts -> Prop
 | .normal, s, L => TJ P n c Q s L
 | e, s, L => Q e s L
theorem TJ.seq (h : TJ P n x (ThenJ P n y Q) s L) : TJ P n (.seq x y) Q s L := by
 intro hok w0 g0 X S g a w hR
 simp only [codeOk, Bool.and_eq_true] at hok
 refine wp_seq (Go.wp_mono (h hok.1 w0 g0 X S g a w hR) ?_)
 rintro e a' w' ⟨s', g', L', S', h1, h2⟩
 cases e with
 | normal => exact h1 hok.2 w0 g0 X S' g' a' w' h2
 | _ => exact ⟨s', g', L', S', h1, h2⟩
theorem TJ.skip (h : Q .normal s L) : TJ P n .skip Q s L := fun _ _ _ _ S g _ _ hR => wp_skip ⟨s, g, L, S, h, hR⟩
theorem TJ.exit {id : Nat} (h : Q (.exit id) s L) : TJ P n (.exit id) Q s L := fun _ _ _ _ S g _ _ hR => wp_exit ⟨s, g, L, S, h, hR⟩
theorem TJ.ret (h : Q .ret s L) : TJ P n .ret Q s L := fun _ _ _ _ S g _ _ hR => wp_ret ⟨s, g, L, S, h, hR⟩
theorem TJ.cond {o : Operand} {b : Bool} (hc : aval s o = some (.c (.d (.bool b)))) (ht : b = true -> TJ P n x Q s L) (hf : b = false -> TJ P n y Q s L) : TJ P n (.cond o x y) Q s L := by
 intro hok w0 g0 X S g a w hR
 simp only [codeOk, Bool.and_eq_true] at hok
 have hv := aval_sound hR.slot hc
 simp only [RepV, RepE, RepC, RepD] at hv
 exact wp_cond_split hv (fun e => ht e hok.1 w0 g0 X S g a w hR) (fun e => hf e hok.2 w0 g0 X S g a w hR)
def InBlockJ (id : Nat) (Q : Exit -> St -> Ts -> Prop) : Exit -> St -> Ts -> Prop
 | .exit id', s, L => if id' = id then Q .normal s L else Q (.exit id') s L
 | e, s, L => Q e s L
theorem TJ.block {id : Nat} (h : TJ P n c (InBlockJ id Q) s L) : TJ P n (.block id c) Q s L := by
 intro hok w0 g0 X S g a w hR
 refine wp_block (Go.wp_mono (h hok w0 g0 X S g a w hR) ?_)
 rintro e a' w' ⟨s', g', L', S', h1, h2⟩
 cases e with
 | exit id' =>
  simp only [InBlockJ] at h1
  simp only [Exit.inBlock]
  split
  ·rename_i e; rw [if_pos e] at h1; exact ⟨s', g', L', S', h1, h2⟩
  ·rename_i e; rw [if_neg e] at h1; exact ⟨s', g', L', S', h1, h2⟩
 | _ => exact ⟨s', g', L', S', h1, h2⟩
def IterJ (P : Program) (n : Nat) (c : Code) (Q : Exit -> St -> Ts -> Prop) : Nat -> St -> Ts -> Prop
 | 0, _, _ => False
 | k + 1, s, L => TJ P n c (fun e s' L' => match e with | .normal => IterJ P n c Q k s' L' | e => Q e s' L') s L
theorem IterJ.succ : ∀ {k : Nat} {s : St} {L : Ts}, IterJ P n c Q k s L -> IterJ P n c Q (k + 1) s L
 | 0, _, _, h => h.elim
 | k + 1, s, L, h => TJ.mono h fun e s' L' h1 => by cases e <;> first | exact IterJ.succ h1 | exact h1
theorem IterJ.le {k k' : Nat} (hk : k <= k') {s : St} {L : Ts} (h : IterJ P n c Q k s L) : IterJ P n c Q k' s L := by
 induction hk with
 | refl => exact h
 | step _ ih => exact ih.succ
theorem TJ.loop_iter {k : Nat} (h : IterJ P n c Q k s L) : TJ P n (.loop c) Q s L := by
 intro hok w0 g0 X S g a w hR
 refine wp_loop_rounds k ?_
 have key : ∀ k s L S g a w, IterJ P n c Q k s L -> RpJ n w0 g0 X s L S g a w -> Code.rounds P c (fun e a' w' => ∃ s' g' L' S', Q e s' L' /\ RpJ n w0 g0 X s' L' S' g' a' w') k a w := by
  intro k
  induction k with
  | zero => intro s L S g a w h _; exact h.elim
  | succ k ih =>
   intro s L S g a w h hR
   rw [rounds_succ]
   refine Go.wp_mono (h hok w0 g0 X S g a w hR) ?_
   rintro e a' w' ⟨s', g', L', S', h1, h2⟩
   cases e with
   | normal => exact ih s' L' S' g' a' w' h1 h2
   | _ => exact ⟨s', g', L', S', h1, h2⟩
 exact key k s L S g a w h hR
theorem TJ.loop (I : Nat -> St -> Ts -> Prop) (h : ∀ k s L, I k s L -> TJ P n c (fun e s' L' => match e with | .normal => ∃ k', k' < k /\ I k' s' L' | e => Q e s' L') s L) {k : Nat} (h0 : I k s L) : TJ P n (.loop c) Q s L := by
 have key : ∀ k s L, I k s L -> IterJ P n c Q (k + 1) s L := by
  intro k
  induction k using Nat.strongRecOn with
  | _ k ih =>
   intro s L hs
   refine TJ.mono (h k s L hs) fun e s' L' h1 => ?_
   cases e with
   | normal => obtain ⟨k', hk, h2⟩ := h1; exact (ih k' hk s' L' h2).le hk
   | _ => exact h1
 exact TJ.loop_iter (key k s L h0)
theorem TJ.forget (fr' : List (Nat × AV)) (hsub : ∀ t x, look fr' t = some x -> look s.fr t = some x) (h : TJ P n c Q ⟨fr', s.V, s.A⟩ L) : TJ P n c Q s L :=
 fun hok w0 g0 X S g a w hR => h hok w0 g0 X S g a w ⟨hR.inv, hR.fr, hR.size, hR.defers, fun t x hx => hR.slot t x (hsub t x hx), hR.trs, hR.nd, hR.out⟩
def RoundJ {α : Type} (St_ : α -> St) (Tr_ : α -> Ts) (m : α -> Nat) (H : α -> Prop) (k : Nat) (Q : Exit -> St -> Ts -> Prop) : Exit -> St -> Ts -> Prop
 | .normal, s', L' => ∃ a' M, m a' < k /\ H a' /\ Sub (St_ a') s' /\ L'.Perm (Tr_ a' ++ M)
 | e, s', L' => Q e s' L'
theorem TJ.loopF {α : Type} (St_ : α -> St) (Tr_ : α -> Ts) (m : α -> Nat) (H : α -> Prop) (h : ∀ a, H a -> TJ P n c (RoundJ St_ Tr_ m H (m a) Q) (St_ a) (Tr_ a)) (a : α) (ha : H a) (hs : Sub (St_ a) s) {M : Ts} (hL : L.Perm (Tr_ a ++ M)) : TJ P n (.loop c) Q s L := by
 refine TJ.loop (fun k s L => ∃ a M, m a = k /\ H a /\ (St_ a).V = s.V /\ (St_ a).A = s.A /\ (∀ t x, look (St_ a).fr t = some x -> look s.fr t = some x) /\ L.Perm (Tr_ a ++ M)) ?_ (k := m a) ⟨a, M, rfl, ha, hs.1, hs.2.1, subL.look hs.2.2, hL⟩
 rintro k s1 L1 ⟨a', M', rfl, h2, h3, h4, h5, h6⟩
 refine TJ.less h6 (TJ.forget (St_ a').fr h5 ?_)
 rw [<- h3, <- h4]
 refine TJ.mono (h a' h2) fun e s2 L2 h7 => ?_
 cases e with
 | normal =>
  obtain ⟨a2, M2, h8, h9, h10, h11⟩ := h7
  exact ⟨_, h8, a2, M2, rfl, h9, h10.1, h10.2.1, subL.look h10.2.2, h11⟩
 | _ => exact h7

def RawV (r : AV) (v : Value) : Prop := ∀ g w A, RepV g w A r v
def FCalls (P : Program) (f : FuncId) (as_ : List AV) (L : Ts) (R : AV -> Ts -> Prop) : Prop :=
 (∀ args w, (callFunc f args).run P w = .ok (.enter f args) w) /\
 ∀ (g : Gh) (w : World) (vs : Array Value) (S : List Nat), g.ob = [] -> g.ar = [] -> Inv g w [] [] -> Tab w g -> vs.size = as_.length -> (∀ (i : Nat) x u, as_[i]? = some x -> vs[i]? = some u -> RepV g w [] x u) ->
  Trs w L S -> S.Nodup -> (∀ b ∈ S, g.im b = 0 /\ tabAt ≠ some b) ->
  Calls P f vs w fun e w' => ∃ v r L' S', e = .returned v /\ R r L' /\ RawV r v /\ Trs w' L' S' /\ S'.Nodup /\ (∀ b ∈ S', b ∈ S \/ w.heap.size <= b) /\
   w'.os = w.os /\ w'.tape = w.tape /\ w'.output = w.output /\ w.heap.size <= w'.heap.size /\ ∀ b, b < w.heap.size -> b ∉ S -> w'.heap[b]? = w.heap[b]?

theorem FzVs.len {L : Ts} {xs as_ : List AV} (h : FzVs L xs as_) : xs.length = as_.length := by
 induction h with
 | nil => rfl
 | cons _ _ ih => simp [ih]
theorem FzVs.at_ {L : Ts} {xs as_ : List AV} (h : FzVs L xs as_) : ∀ {i : Nat} {y : AV}, as_[i]? = some y -> ∃ x, xs[i]? = some x /\ FzV L x y := by
 induction h with
 | nil => intro i y hy; simp at hy
 | cons h1 _ ih =>
  intro i y hy
  cases i with
  | zero => simp at hy; subst hy; exact ⟨_, rfl, h1⟩
  | succ i => simp at hy; simpa using ih hy
theorem FzL.len {L : Ts} {xs as_ : List CV} (h : FzL L xs as_) : xs.length = as_.length := by
 induction h with
 | nil => rfl
 | cons _ _ ih => simp [ih]
theorem FzL.at_ {L : Ts} {xs as_ : List CV} (h : FzL L xs as_) : ∀ {i : Nat} {y : CV}, as_[i]? = some y -> ∃ x, xs[i]? = some x /\ FzC L x y := by
 induction h with
 | nil => intro i y hy; simp at hy
 | cons h1 _ ih =>
  intro i y hy
  cases i with
  | zero => simp at hy; subst hy; exact ⟨_, rfl, h1⟩
  | succ i => simp at hy; simpa using ih hy

def frz (g : Gh) (w : World) (S : List Nat) : Gh := { ob := [], ar := [], im := fun b => if b ∈ S then bsz w b else g.im b }
theorem FzC.rep {A : List Arr} {x y : CV} (h : FzC L x y) (hS : ∀ b ∈ S, g.im b = 0) (hT : Trs w L S) {u : Value} (hr : RepC g w A x u) : RepC (frz g w S) w [] y u := by
 have hle : ∀ b, g.im b <= (frz g w S).im b := fun b => by
  simp only [frz]
  split
  ·rename_i h; rw [hS b h]; exact Nat.zero_le _
  ·exact Nat.le_refl _
 cases h with
 | @d x => exact RepD.grows ⟨hle, fun _ _ _ => rfl⟩ x u hr
 | nil =>
  simp only [RepC] at hr
  subst hr
  simp only [RepC, RepD]
  exact ⟨none, 0, rfl, Nat.le_refl _, .inl trivial⟩
 | np => exact hr
 | fn =>
  obtain ⟨bks, h1, h2, _⟩ := hr
  exact ⟨bks, h1, h2, fun i l b h => by simp at h⟩
 | @thaw c v hm hpl =>
  simp only [RepC, RepD] at hr
  obtain ⟨rfl, _⟩ := hr
  obtain ⟨S', h1, h2⟩ := hT.at_ hm
  exact Tr.rep c _ S' hpl h1 fun b hb => by simp [frz, h2 b hb]
theorem FzV.rep {A : List Arr} {x y : AV} (h : FzV L x y) (hS : ∀ b ∈ S, g.im b = 0) (hT : Trs w L S) {u : Value} (hr : RepV g w A x u) : RepV (frz g w S) w [] y u := by
 cases h with
 | @c x y h => exact FzC.rep (A := A) h hS hT hr
 | @agg xs ys h =>
  obtain ⟨vs, e, hl, hc⟩ := hr
  refine ⟨vs, e, by rw [hl, h.len], fun i y u h1 h2 => ?_⟩
  obtain ⟨x, h3, h4⟩ := h.at_ h1
  exact h4.rep hS hT (hc i x u h3 h2)

def wpcallJ (P : Program) (s : St) (L : Ts) (f : FuncId) (xs : List AV) (K : AV -> List (List CV) -> List Arr -> Ts -> Prop) : Prop :=
 wpcall P s f xs (fun x V A => K x V A L) \/
 ∃ (as_ : List AV) (L1 L2 : Ts) (R : AV -> Ts -> Prop), L.Perm (L1 ++ L2) /\ FzVs L2 xs as_ /\ FCalls P f as_ L1 R /\ ∀ r L1', R r L1' -> K r s.V s.A (L1' ++ L2)

theorem Trs.mem_nodup {S1 S2 : List Nat} (h : (S1 ++ S2).Nodup) : ∀ b ∈ S1, b ∉ S2 := fun b h1 h2 => (List.nodup_append.1 h).2.2 b h1 b h2 rfl

theorem fcall_sound (hR : RpJ n w0 g0 X s L S g a w) {f : FuncId} {xs as_ : List AV} {L1 L2 : Ts} {R : AV -> Ts -> Prop} (hp : L.Perm (L1 ++ L2)) (hfz : FzVs L2 xs as_) (hc : FCalls P f as_ L1 R) {vs : Array Value} (hl : vs.size = xs.length)
  (hr : ∀ (i : Nat) x u, xs[i]? = some x -> vs[i]? = some u -> RepV g w s.A x u) :
  Calls P f vs w fun e w' => ∃ v r L' S', e = .returned v /\ R r L' /\ RawV r v /\ Inv g w' s.V s.A /\ Ext g w s.A g w' s.A /\ FrX w0 g0 X w' g /\ Trs w' (L' ++ L2) S' /\ S'.Nodup /\ ∀ b ∈ S', g.im b = 0 /\ b ∉ g.ob /\ b ∉ g.arb /\ tabAt ≠ some b /\ (w0.heap.size <= b \/ b ∈ X) := by
 obtain ⟨S0, hS0, hT⟩ := hR.trs.perm hp
 obtain ⟨S1, S2, rfl, hT1, hT2⟩ := Trs.app.1 hT
 have hnd : (S1 ++ S2).Nodup := hS0.nodup_iff.1 hR.nd
 have hout : ∀ b ∈ S1 ++ S2, _ := fun b hb => hR.out b (hS0.mem_iff.2 hb)
 have h12 := Trs.mem_nodup hnd
 have hz1 : ∀ b ∈ S1, g.im b = 0 := fun b hb => (hout b (by simp [hb])).1
 have hz2 : ∀ b ∈ S2, g.im b = 0 := fun b hb => (hout b (by simp [hb])).1
 have hTab := hR.fr.now
 have hInvF : Inv (frz g w S2) w [] [] := ⟨rfl, rfl, fun l row b h => by simp at h, fun k r v h => by simp at h, fun l l' b h => by simp [frz] at h, fun k k' v v' b h => by simp [frz] at h, fun l k v b h => by simp [frz] at h, fun b hb => by
  have : b ∉ S2 := fun h => absurd (hT2.lt b h) (by omega)
  simp only [frz, if_neg this]; exact hR.inv.fresh b hb⟩
 have hTabF : Tab w (frz g w S2) := hTab.less (by simp [frz]) (by simp [frz, Gh.arb])
 refine (hc.2 (frz g w S2) w vs S1 rfl rfl hInvF hTabF (by rw [hl, hfz.len]) (fun i y u h1 h2 => ?_) hT1 (List.nodup_append.1 hnd).1 (fun b hb => ⟨by simp only [frz, if_neg (h12 b hb)]; exact hz1 b hb, (hout b (by simp [hb])).2.2.2.1⟩)).mono ?_
 ·obtain ⟨x, h3, h4⟩ := hfz.at_ h1
  exact h4.rep hz2 hT2 (hr i x u h3 h2)
 rintro e w' ⟨v, r, L', S', rfl, hRr, hraw, hT', hnd', hin, ho, ht, hop, hsz, hblk⟩
 have hgood : ∀ b, b < w.heap.size -> b ∈ g.ob \/ b ∈ g.arb \/ 0 < g.im b -> w'.heap[b]? = w.heap[b]? := fun b hb hx => hblk b hb fun hm => by
  obtain ⟨q1, q2, q3, _⟩ := hout b (by simp [hm])
  rcases hx with h | h | h
  ·exact q2 h
  ·exact q3 h
  ·omega
 have hx : Ext g w s.A g w' s.A := ⟨fun _ _ h => h, ⟨fun _ => Nat.le_refl _, fun b o hlt => by
  have hb := hR.inv.imLt hlt
  exact World.cell?_of_block (a := ⟨b, o, none⟩) (hgood b hb (.inr (.inr (by omega))))⟩, fun _ r h => ⟨r, h, rfl, Nat.le_refl _, fun _ => rfl⟩⟩
 have hInv : Inv g w' s.V s.A := ⟨hR.inv.obl, hR.inv.arl, fun l row b h1 h2 => hR.inv.objKeep hx h1 h2 (hgood b (hR.inv.obLt h2) (.inl (List.mem_of_getElem? h2))) (hR.inv.obj l row b h1 h2).1,
  fun k r v h1 h2 => hR.inv.arrKeep hx h1 h2 (fun b hb => hgood b (hR.inv.arLt h2 hb) (.inr (.inl (Gh.arb_mem h2 hb)))) (fun _ _ => rfl), hR.inv.obob, hR.inv.arar, hR.inv.obar, fun b hb => hR.inv.fresh b (by omega)⟩
 have hX : ∀ b ∈ S1, w0.heap.size <= b \/ b ∈ X := fun b hb => (hout b (by simp [hb])).2.2.2.2
 have hF : FrX w0 g0 X w' g := ⟨ho.trans hR.fr.os, ht.trans hR.fr.tape, hop.trans hR.fr.output, Nat.le_trans hR.fr.size hsz, fun b h1 h2 h3 h4 => by
  rw [hblk b (Nat.lt_of_lt_of_le h1 hR.fr.size) (fun hm => by rcases hX b hm with q | q; omega; exact h4 q)]
  exact hR.fr.blk b h1 h2 h3 h4, hR.fr.imeq, hR.fr.ob, hR.fr.ar, hR.fr.arx, hR.fr.tab, hR.fr.tabx⟩
 have hT2' : Trs w' L2 S2 := hT2.keep fun b hb => hblk b (hT2.lt b hb) fun hm => h12 b hm hb
 have hoblt : ∀ b ∈ g.ob, b < w.heap.size := fun b hb => by
  obtain ⟨l, hl⟩ := List.getElem?_of_mem hb
  exact hR.inv.obLt hl
 have harlt : ∀ b ∈ g.arb, b < w.heap.size := fun b hb => by
  obtain ⟨k, v, q1, q2⟩ := Gh.mem_arb hb
  exact hR.inv.arLt q1 q2
 refine ⟨v, r, L', S' ++ S2, rfl, hRr, hraw, hInv, hx, hF, Trs.app.2 ⟨S', S2, rfl, hT', hT2'⟩, List.nodup_append.2 ⟨hnd', (List.nodup_append.1 hnd).2.1, fun b hb c hc => ?_⟩, fun b hb => ?_⟩
 ·rintro rfl
  rcases hin b hb with q | q
  ·exact h12 b q hc
  ·exact absurd (hT2.lt b hc) (by omega)
 ·rcases List.mem_append.1 hb with hb | hb
  ·rcases hin b hb with q | q
   ·exact hout b (by simp [q])
   ·refine ⟨hR.inv.fresh b q, fun hm => absurd (hoblt b hm) (by omega), fun hm => absurd (harlt b hm) (by omega), fun hm => ?_, .inl (Nat.le_trans hR.fr.size q)⟩
    have := (hTab b hm).1
    omega
  ·exact hout b (by simp [hb])
end
end Go.Av

namespace Go.Av
open Go

section
variable {P : Program} {n : Nat} {w0 w w' : World} {g0 g g' : Gh} {X S S' : List Nat} {s s' : St} {L L' : Ts} {a a' : Act} {Q : Exit -> St -> Ts -> Prop} {x y : Code}

def astepJ (P : Program) (s : St) (L : Ts) (ow : Bool) (o : Oper) (K : AV -> List (List CV) -> List Arr -> Ts -> Prop) : Prop :=
 match o.op with
 | .call { callee := .value f, args, .. } => onv (aval s f) fun fv => match fv with
  | .c (.fn fid cap) => onv (avals s args.toList) fun xs => wpcallJ P s L fid (xs ++ cap.map fun l => .c (.ptr l 0)) K
  | _ => False
 | op => wpo P s ow op fun x V A => K x V A L

theorem astepJ_wp (hR : RpJ n w0 g0 X s L S g a w) {ow : Bool} {o : Oper} {K : AV -> List (List CV) -> List Arr -> Ts -> Prop} (h : astepJ P s L ow o K) (next : Act -> World -> Prop) (Q : Exit -> Act -> World -> Prop)
  (hn : ∀ x V' A' L' S' v w' g', K x V' A' L' -> RepV g' w' A' x v -> Inv g' w' V' A' -> Ext g w s.A g' w' A' -> FrX w0 g0 X w' g' -> Trs w' L' S' -> S'.Nodup -> (∀ b ∈ S', g'.im b = 0 /\ b ∉ g'.ob /\ b ∉ g'.arb /\ tabAt ≠ some b /\ (w0.heap.size <= b \/ b ∈ X)) -> next (a.put o.dst v) w') : o.wp P a w next Q := by
 have plain : astep P s ow o (fun x V A => K x V A L) -> o.wp P a w next Q := by
  intro h
  obtain ⟨x, V', A', h1, h2⟩ := astep_wp hR.inv (Fr.refl hR.fr.now) hR.slot h
  exact h2 next Q fun v w' g' h3 h4 h5 h6 => hn x V' A' L S v w' g' h1 h3 h4 h5 (hR.fr.fr h6) (hR.keepS h6).1 hR.nd (hR.keepS h6).2
 unfold astepJ at h
 split at h
 ·rename_i f args argTypes heq
  refine onv_elim h fun fv h1 h2 => ?_
  split at h2
  ·rename_i fid cap
   refine onv_elim h2 fun xs h3 h4 => ?_
   rcases h4 with h4 | ⟨as_, L1, L2, R, hp, hfz, hc, hK⟩
   ·refine plain ?_
    unfold astep
    rw [heq]
    simp only [h1, h3, onv]
    exact h4
   ·have hfv := aval_sound hR.slot h1
    obtain ⟨h5, h6⟩ := avals_sound hR.slot h3
    have h5' : xs.length = args.size := by rw [h5, Array.length_toList]
    obtain ⟨bks, h7, h8, h9⟩ : RepC g w s.A (.fn fid cap) (a.eval f) := hfv
    have hargs : args.map a.eval ++ (bks.map fun b => Value.pointer (some ⟨b, 0, none⟩)).toArray = ((args.toList.map a.eval) ++ bks.map fun b => Value.pointer (some ⟨b, 0, none⟩)).toArray := by
     apply Array.ext'; simp
    have hcall := fcall_sound (vs := ((args.toList.map a.eval) ++ bks.map fun b => Value.pointer (some ⟨b, 0, none⟩)).toArray) hR hp hfz hc (by simp [h5, h8]) (fun i x u h10 h11 => by
     simp only [List.getElem?_toArray] at h11
     by_cases hi : i < xs.length
     ·rw [List.getElem?_append_left hi] at h10
      rw [List.getElem?_append_left (by simp; omega)] at h11
      exact h6 i x u h10 h11
     ·rw [List.getElem?_append_right (by omega)] at h10
      rw [List.getElem?_append_right (by simp; omega)] at h11
      simp only [List.getElem?_map, Option.map_eq_some_iff] at h10 h11
      obtain ⟨l, h12, rfl⟩ := h10
      obtain ⟨b, h13, rfl⟩ := h11
      exact ⟨b, h9 _ l b h12 (by rw [<- h13]; congr 1; simp [h5]), rfl⟩)
    have hrun : (execOp a.eval o).run P w = .ok (.enter fid ((args.toList.map a.eval) ++ bks.map fun b => Value.pointer (some ⟨b, 0, none⟩)).toArray) w := by
     simp only [execOp, heq, resolve, h7, Deferred.ofValue, Sem.run_bind, Sem.run_pure, Result.andThen_ok, invoke, Array.empty_append]
     rw [hc.1, hargs]
    unfold Oper.wp
    rw [hrun]
    show Calls P fid _ w _
    refine hcall.mono ?_
    rintro e w' ⟨v, r, L1', S', rfl, h14, h15, h16, h17, h18, h19, h20, h21⟩
    exact hn r s.V s.A _ S' v w' g (hK r L1' h14) (h15 g w' s.A) h16 h17 h18 h19 h20 h21
  ·exact h2.elim
 ·rename_i hne
  refine plain ?_
  unfold astep
  split
  ·rename_i heq; exact absurd heq (hne _ _ _)
  ·exact h

theorem RpJ.put (h : RpJ n w0 g0 X s L S g a w) {dst : Option Tmp} (hd : ∀ d, dst = some d -> d < n) {x : AV} {v : Value} {V' : List (List CV)} {A' : List Arr} (hr : RepV g' w' A' x v) (hI : Inv g' w' V' A') (hx : Ext g w s.A g' w' A') (hF : FrX w0 g0 X w' g')
  (hT : Trs w' L' S') (hnd : S'.Nodup) (ho : ∀ b ∈ S', g'.im b = 0 /\ b ∉ g'.ob /\ b ∉ g'.arb /\ tabAt ≠ some b /\ (w0.heap.size <= b \/ b ∈ X)) : RpJ n w0 g0 X (s.put dst x V' A') L' S' g' (a.put dst v) w' := by
 refine ⟨hI, hF, ?_, ?_, fun t y hy => ?_, hT, hnd, ho⟩
 ·cases dst <;> simp [Act.put, h.size]
 ·cases dst <;> simp [Act.put, h.defers]
 ·cases dst with
  | none =>
   obtain ⟨u, h1, h2⟩ := h.slot t y hy
   exact ⟨u, h1, RepV.ext hx h2⟩
  | some d =>
   have hdn := hd d rfl
   simp only [St.put, look] at hy
   by_cases e : t = d
   ·subst e
    simp at hy; subst hy
    refine ⟨v, ?_, hr⟩
    have : t < a.tmps.size := by rw [h.size]; exact hdn
    simp [Act.put, this]
   ·rw [if_neg e] at hy
    obtain ⟨u, h1, h2⟩ := h.slot t y hy
    refine ⟨u, ?_, RepV.ext hx h2⟩
    simp only [Act.put]
    rw [Array.getElem?_setIfInBounds_ne (fun e' => e e'.symm)]; exact h1

structure OpsJ (P : Program) (n : Nat) (all : Array Oper) (ow : Nat -> Bool) (K : St -> Ts -> Prop) (i : Nat) (ops : List Oper) (s : St) (L : Ts) : Prop where
 mk ::
 run : dstsOk n ops = true -> ∀ (w0 : World) (g0 : Gh) (X S : List Nat) (g : Gh) (a : Act) (w : World) (Q : Exit -> Act -> World -> Prop), RpJ n w0 g0 X s L S g a w ->
  (∀ s' L' S' g' a' w', K s' L' -> RpJ n w0 g0 X s' L' S' g' a' w' -> Q .normal a' w') -> wpList P all Q ops a w
theorem aopsJ_go {all : Array Oper} {ow : Nat -> Bool} {K : St -> Ts -> Prop} {i : Nat} {o : Oper} {rest : List Oper} (h : gdo all s o (astepJ P s L (ow i) o fun x V A L' => OpsJ P n all ow K (i + 1) rest (s.put o.dst x V A) L') (OpsJ P n all ow K (i + 1) rest (s.put o.dst (.c .undef) s.V s.A) L)) : OpsJ P n all ow K i (o :: rest) s L := by
 refine ⟨fun hd w0 g0 X S g a w Q hR hQ => ?_⟩
 simp only [dstsOk, List.all_cons, Bool.and_eq_true] at hd
 have hdst : ∀ d, o.dst = some d -> d < n := fun d e => by have := hd.1; rw [e] at this; simpa using this
 unfold wpList
 rcases gdo_sound hR.rp h with ⟨h1, h2⟩ | ⟨h1, h2⟩
 ·rw [if_pos h1]
  exact .inl (astepJ_wp hR h2 _ _ fun x V' A' L' S' v w' g' h3 h4 h5 h6 h7 h8 h9 h10 => h3.run hd.2 w0 g0 X S' g' _ w' Q (hR.put hdst h4 h5 h6 h7 h8 h9 h10) hQ)
 ·rw [if_neg (by rw [h1]; simp)]
  exact h2.run hd.2 w0 g0 X S g _ w Q (hR.put hdst (x := .c .undef) (v := undef) rfl hR.inv (.refl _ _ _) hR.fr hR.trs hR.nd hR.out) hQ
theorem aopsJ_end {all : Array Oper} {ow : Nat -> Bool} {K : St -> Ts -> Prop} {i : Nat} (h : K s L) : OpsJ P n all ow K i [] s L := ⟨fun _ _ _ _ S g a w _ hR hQ => hQ s L S g a w h hR⟩
theorem OpsJ.gen {all : Array Oper} {ow : Nat -> Bool} {K : St -> Ts -> Prop} {i : Nat} {ops : List Oper} {d : Nat} {b : Bool} {fr : List (Nat × AV)} {V : List (List CV)} {A : List Arr} (h : ∀ q : Bool, b = q -> OpsJ P n all ow K i ops ⟨(d, .c (.d (.bool q))) :: fr, V, A⟩ L) : OpsJ P n all ow K i ops ⟨(d, .c (.d (.bool b))) :: fr, V, A⟩ L := h b rfl
@[congr] theorem aopsJ_cong {all : Array Oper} {ow : Nat -> Bool} {K : St -> Ts -> Prop} {i i' : Nat} {ops : List Oper} (hi : i = i') (h : s = s') : OpsJ P n all ow K i ops s L = OpsJ P n all ow K i' ops s' L := by rw [h, hi]
@[congr] theorem astepJ_cong {o : Oper} {ow : Bool} {K : AV -> List (List CV) -> List Arr -> Ts -> Prop} (h : s = s') : astepJ P s L ow o K = astepJ P s' L ow o K := by rw [h]
@[congr] theorem wpcallJ_cong {f : FuncId} {xs xs' : List AV} {K : AV -> List (List CV) -> List Arr -> Ts -> Prop} (hs : s = s') (hx : xs = xs') : wpcallJ P s L f xs K = wpcallJ P s' L f xs' K := by subst hs; subst hx; rfl

theorem TJ.region {id : Nat} {ops : Array Oper} (ow : Nat -> Bool) (h : OpsJ P n ops ow (fun s' L' => Q .normal s' L') 0 ops.toList s L) : TJ P n (.region id ops false) Q s L := by
 intro hok w0 g0 X S g a w hR
 exact wp_region_list (h.run hok w0 g0 X S g a w _ hR fun s' L' S' g' a' w' h1 h2 => ⟨s', g', L', S', h1, h2⟩)
theorem TJ.rs {id : Nat} {l : List Oper} (ow : Nat -> Bool) (h : ∀ K : St -> Ts -> Prop, (∀ s' L', TJ P n y Q s' L' -> K s' L') -> OpsJ P n l.toArray ow K 0 l s L) : TJ P n (.seq (.region id l.toArray false) y) Q s L :=
 TJ.seq (TJ.region ow (h _ fun _ _ h => h))
theorem TJ.rs1 {id : Nat} {l : List Oper} (ow : Nat -> Bool) (h : ∀ K : St -> Ts -> Prop, (∀ s' L', Q .normal s' L' -> K s' L') -> OpsJ P n l.toArray ow K 0 l s L) : TJ P n (.region id l.toArray false) Q s L :=
 TJ.region ow (h _ fun _ _ h => h)
def ThenT (P : Program) (n : Nat) (c : Code) (Q : Exit -> St -> Ts -> Prop) (L : Ts) : Exit -> St -> Prop
 | .normal, s => TJ P n c Q s L
 | e, s => Q e s L
variable {f : FuncId} {xs as_ : List AV} {r : AV} {K : AV -> List (List CV) -> List Arr -> Ts -> Prop}
theorem wpcallJ_T (h : wpcall P s f xs fun x V A => K x V A L) : wpcallJ P s L f xs K := .inl h
theorem wpcallJ_pure (hin : innAs s.A [] xs = some as_) (hc : ACalls P f as_ [] r [] []) (hK : K (r.outn [] s.V.length s.A.length) s.V (sealAs s.A (argCells xs)) L) : wpcallJ P s L f xs K := .inl (wpcall_pure hin hc hK)
theorem wpcallJ_new {R : AV -> Ts -> Prop} (hfz : FzVs L xs as_) (hc : FCalls P f as_ [] R) (hK : ∀ r L1, R r L1 -> K r s.V s.A (L1 ++ L)) : wpcallJ P s L f xs K := .inr ⟨as_, [], L, R, by simp, hfz, hc, hK⟩
theorem wpcallJ_mut {R : AV -> Ts -> Prop} {L1 L2 : Ts} (hp : L.Perm (L1 ++ L2)) (hfz : FzVs L2 xs as_) (hc : FCalls P f as_ L1 R) (hK : ∀ r L1, R r L1 -> K r s.V s.A (L1 ++ L2)) : wpcallJ P s L f xs K := .inr ⟨as_, L1, L2, R, hp, hfz, hc, hK⟩

def CV.scal : CV -> Bool
 | .d x => x.scal
 | .np => true
 | _ => false
def AV.scal1 : AV -> Bool
 | .c x => x.scal
 | .agg xs => xs.all CV.scal
 | .tup _ => false
def AV.scal : AV -> Bool
 | .tup xs => xs.all AV.scal1
 | x => x.scal1
theorem CV.scal_rep {c : CV} {v : Value} {A A' : List Arr} (hs : c.scal = true) (h : RepC g w A c v) : RepC g' w' A' c v := by
 cases c with
 | d x => exact DV.scal_rep hs h
 | np => exact h
 | _ => simp [CV.scal] at hs
theorem AV.scal1_rep {x : AV} {v : Value} {A A' : List Arr} (hs : x.scal1 = true) (h : RepE g w A x v) : RepE g' w' A' x v := by
 cases x with
 | c x => exact CV.scal_rep hs h
 | agg xs =>
  obtain ⟨vs, e, hl, hc⟩ := h
  simp only [AV.scal1, List.all_eq_true] at hs
  exact ⟨vs, e, hl, fun i x u h1 h2 => CV.scal_rep (hs x (List.mem_of_getElem? h1)) (hc i x u h1 h2)⟩
 | tup _ => exact h.elim
theorem AV.scal_rep {x : AV} {v : Value} {A A' : List Arr} (hs : x.scal = true) (h : RepV g w A x v) : RepV g' w' A' x v := by
 cases x with
 | tup xs =>
  obtain ⟨vs, e, hl, hc⟩ := h
  simp only [AV.scal, List.all_eq_true] at hs
  exact ⟨vs, e, hl, fun i x u h1 h2 => AV.scal1_rep (hs x (List.mem_of_getElem? h1)) (hc i x u h1 h2)⟩
 | c x => exact AV.scal1_rep (x := .c x) hs h
 | agg xs => exact AV.scal1_rep (x := .agg xs) hs h

theorem FCalls.of_plain (hc : ACalls P f as_ [] r [] []) (hs : r.scal = true) : FCalls P f as_ [] fun r' L' => r' = r /\ L' = [] := by
 refine ⟨hc.1, fun g w vs S h1 h2 hI hT hl hr hS hnd hz => ?_⟩
 simp only [Trs] at hS
 subst hS
 refine (hc.2.2 g w vs h2 hI hT hl hr).mono ?_
 rintro e w' ⟨v, g', rfl, h3, h4, h5⟩
 exact ⟨v, r, [], [], rfl, ⟨rfl, rfl⟩, fun g w A => AV.scal_rep hs h3, rfl, List.nodup_nil, by simp, h5.os, h5.tape, h5.output, h5.size, fun b hb _ => h5.blk b hb (by simp [h1]) (by simp [Gh.arb, h2])⟩
theorem wpcallJ_scal (hfz : FzVs L xs as_) (hc : ACalls P f as_ [] r [] []) (hs : r.scal = true) (hK : K r s.V s.A L) : wpcallJ P s L f xs K :=
 wpcallJ_new hfz (FCalls.of_plain hc hs) (by rintro _ _ ⟨rfl, rfl⟩; exact hK)
theorem FCalls.plain (hc : FCalls P f as_ [] fun r' L' => r' = r) : ACalls P f as_ [] r [] [] := by
 refine ⟨hc.1, Nat.le_refl _, fun g w vs h2 hI hT hl hr => ?_⟩
 have h1 : g.ob = [] := List.length_eq_zero_iff.1 (by simpa using hI.obl)
 refine (hc.2 g w vs [] h1 h2 hI hT hl hr rfl List.nodup_nil (by simp)).mono ?_
 rintro e w' ⟨v, r', L', S', rfl, rfl, h3, _, _, _, h4, h5, h6, h7, h8⟩
 have hlt : ∀ b o, o < g.im b -> b < w.heap.size := fun b o h => hI.imLt h
 refine ⟨v, g, rfl, h3 g w' [], ⟨hI.obl, hI.arl, fun l row b h => by simp at h, fun k r v h => by simp at h, hI.obob, hI.arar, hI.obar, fun b hb => hI.fresh b (by omega)⟩,
  h4, h5, h6, h7, fun b hb _ _ => h8 b hb (by simp), fun _ _ _ => rfl, ⟨[], by simp, by simp⟩, fun k v b h => by rw [h2] at h; simp at h, fun k v h => by rw [h2] at h; simp at h, hT⟩
end
end Go.Av

namespace Go.Av
open Go

def relC (k : Option (Nat × Nat × Value)) : CV -> Option CV
 | .d x => if x.scal = true then some (.d x) else none
 | .np => some .np
 | .nil => some (.d (.raw (.slice none 0 0)))
 | .own j m => match k with
  | some (i, m', v) => if j = i /\ m = m' then some (.d (.raw v)) else none
  | none => none
 | _ => none
def relL (k : Option (Nat × Nat × Value)) : List CV -> Option (List CV)
 | [] => some []
 | c :: r => match relC k c, relL k r with
  | some d, some ds => some (d :: ds)
  | _, _ => none
def relV (k : Option (Nat × Nat × Value)) : AV -> Option AV
 | .c x => (relC k x).map AV.c
 | .agg xs => (relL k xs).map AV.agg
 | .tup _ => none
def relVs (k : Option (Nat × Nat × Value)) : List AV -> Option (List AV)
 | [] => some []
 | c :: r => match relV k c, relVs k r with
  | some d, some ds => some (d :: ds)
  | _, _ => none

section
variable {g g' : Gh} {w w' : World} {A A' : List Arr} {k : Option (Nat × Nat × Value)}
def RelOk (g : Gh) (A : List Arr) (k : Option (Nat × Nat × Value)) : Prop := ∀ i m v, k = some (i, m, v) -> v.oneCell' = true /\ ∃ r, A[i]? = some r /\ m = r.rows.length /\ g.ar[i]? = some v
theorem relC_sound (hk : RelOk g A k) {c d : CV} {u : Value} (h : relC k c = some d) (hr : RepC g w A c u) : RepC g' w' A' d u := by
 cases c with
 | d x =>
  simp only [relC] at h
  split at h
  ·rename_i hs; simp at h; subst h; exact DV.scal_rep hs hr
  ·cases h
 | np => simp only [relC, Option.some.injEq] at h; subst h; exact hr
 | nil =>
  simp only [relC, Option.some.injEq] at h; subst h
  simp only [RepC] at hr
  subst hr
  exact ⟨rfl, rfl⟩
 | own j m =>
  simp only [relC] at h
  split at h
  ·rename_i i m' v
   split at h
   ·rename_i e
    obtain ⟨rfl, rfl⟩ := e
    simp at h; subst h
    obtain ⟨h1, r, h2, h3, h4⟩ := hk _ _ _ rfl
    obtain ⟨a, cap, _, r', h5, _, h6⟩ := hr
    rw [h2] at h5; cases h5
    have h7 := h6 h3
    rw [h4] at h7
    cases h7
    exact ⟨rfl, h1⟩
   ·cases h
  ·cases h
 | _ => simp [relC] at h
theorem relL_at : ∀ {cs ds : List CV}, relL k cs = some ds -> ds.length = cs.length /\ ∀ (j : Nat) c d, cs[j]? = some c -> ds[j]? = some d -> relC k c = some d
 | [], ds, h => by simp [relL] at h; subst h; exact ⟨rfl, fun j c d h => by simp at h⟩
 | c :: r, ds, h => by
  simp only [relL] at h
  split at h
  ·rename_i d ds' h1 h2
   simp at h; subst h
   obtain ⟨h3, h4⟩ := relL_at h2
   refine ⟨by simp [h3], fun j c' d' h5 h6 => ?_⟩
   cases j with
   | zero => simp at h5 h6; subst h5; subst h6; exact h1
   | succ j => simp at h5 h6; exact h4 j c' d' h5 h6
  ·simp at h
theorem relVs_at : ∀ {cs ds : List AV}, relVs k cs = some ds -> ds.length = cs.length /\ ∀ (j : Nat) c d, cs[j]? = some c -> ds[j]? = some d -> relV k c = some d
 | [], ds, h => by simp [relVs] at h; subst h; exact ⟨rfl, fun j c d h => by simp at h⟩
 | c :: r, ds, h => by
  simp only [relVs] at h
  split at h
  ·rename_i d ds' h1 h2
   simp at h; subst h
   obtain ⟨h3, h4⟩ := relVs_at h2
   refine ⟨by simp [h3], fun j c' d' h5 h6 => ?_⟩
   cases j with
   | zero => simp at h5 h6; subst h5; subst h6; exact h1
   | succ j => simp at h5 h6; exact h4 j c' d' h5 h6
  ·simp at h
theorem relV_sound (hk : RelOk g A k) {c d : AV} {u : Value} (h : relV k c = some d) (hr : RepV g w A c u) : RepE g' w' A' d u := by
 cases c with
 | c x =>
  simp only [relV, Option.map_eq_some_iff] at h
  obtain ⟨y, h1, rfl⟩ := h
  exact relC_sound (w := w) hk h1 hr
 | agg xs =>
  simp only [relV, Option.map_eq_some_iff] at h
  obtain ⟨ys, h1, rfl⟩ := h
  obtain ⟨h2, h3⟩ := relL_at h1
  obtain ⟨vs, e, hl, hc⟩ := hr
  refine ⟨vs, e, by omega, fun i y u h4 h5 => ?_⟩
  have hi : i < xs.length := by have := (List.getElem?_eq_some_iff.1 h4).1; omega
  exact relC_sound (w := w) hk (h3 i _ y (List.getElem?_eq_getElem hi) h4) (hc i _ u (List.getElem?_eq_getElem hi) h5)
 | tup _ => simp [relV] at h
theorem relVs_one (hk : RelOk g A k) {xs ys : List AV} {us : List Value} (h : relVs k xs = some ys) (hl : us.length = xs.length) (hr : ∀ (i : Nat) x u, xs[i]? = some x -> us[i]? = some u -> RepV g w A x u) :
  RawV (one ys) (if h : us.toArray.size = 1 then us.toArray[0] else .tuple us.toArray) := by
 obtain ⟨h1, h2⟩ := relVs_at h
 have hE : ∀ (i : Nat) y u, ys[i]? = some y -> us[i]? = some u -> ∀ g w A, RepE g w A y u := fun i y u h4 h5 g' w' A' => by
  have hi : i < xs.length := by have := (List.getElem?_eq_some_iff.1 h4).1; omega
  exact relV_sound (w := w) hk (h2 i _ y (List.getElem?_eq_getElem hi) h4) (hr i _ u (List.getElem?_eq_getElem hi) h5)
 have hne : ∀ y ∈ ys, ∀ zs, y ≠ .tup zs := fun y hy zs e => by
  subst e
  obtain ⟨i, hi⟩ := List.getElem?_of_mem hy
  have hi' : i < us.length := by have := (List.getElem?_eq_some_iff.1 hi).1; omega
  exact hE i _ us[i] hi (List.getElem?_eq_getElem hi') g w A
 intro g' w' A'
 match ys, us with
 | [y], [u] =>
  have := hE 0 y u rfl rfl g' w' A'
  simp only [one, List.size_toArray, List.length_cons, List.length_nil, Nat.zero_add, dite_true, List.getElem_toArray, List.getElem_cons_zero]
  cases y with
  | tup zs => exact absurd rfl (hne _ (by simp) zs)
  | c x => exact this
  | agg x => exact this
 | [], us =>
  have : us = [] := List.length_eq_zero_iff.1 (by simp at h1; omega)
  subst this
  exact ⟨[], rfl, rfl, fun i x u h => by simp at h⟩
 | y :: z :: r, us =>
  have hsz : ¬ us.toArray.size = 1 := by simp at h1 ⊢; omega
  rw [dif_neg hsz]
  exact ⟨us, rfl, by omega, fun i x u h3 h4 => hE i x u h3 h4 g' w' A'⟩
 | [y], [] => simp at h1 hl; omega
 | [y], _ :: _ :: _ => simp at h1 hl; omega
end

def Nils (L : Ts) : Prop := ∀ p ∈ L, ∃ e sz, p = (.t e sz 0 [], .slice none 0 0)
theorem Nils.trs {w : World} : ∀ {L : Ts}, Nils L -> Trs w L []
 | [], _ => rfl
 | p :: L, h => by
  obtain ⟨e, sz, rfl⟩ := h p (by simp)
  refine ⟨[], [], rfl, ?_, Nils.trs fun q hq => h q (by simp [hq])⟩
  simp only [Tr]
  exact ⟨[], [], ⟨by simp, .inl ⟨rfl, rfl⟩⟩, by simp [TrL], rfl⟩
theorem Nils.nil : Nils [] := fun p hp => by cases hp

def DoneJ (P : Program) (fn : Func) (R : AV -> Ts -> Prop) (e : Exit) (s : St) (L : Ts) : Prop :=
 (e = .normal \/ e = .ret) /\ ∃ xs, ares P s fn.results.toList = some xs /\
  ((∃ ys L' M Ln, relVs none xs = some ys /\ Nils Ln /\ (L ++ Ln).Perm (L' ++ M) /\ R (one ys) L') \/
  (∃ k r cs Lc L2 Ln, s.A[k]? = some r /\ r.wr = true /\ Mk cs r.rows.flatten Lc /\ L.Perm (Lc ++ L2) /\ Nils Ln /\
    ∀ v, ∃ ys L' M, relVs (some (k, r.rows.length, v)) xs = some ys /\ ((.t r.ety r.sz r.rows.length cs, v) :: L2 ++ Ln).Perm (L' ++ M) /\ R (one ys) L'))

section
variable {P : Program} {f : FuncId} {fn : Func} {c : Code} {as_ : List AV} {L : Ts} {R : AV -> Ts -> Prop}
theorem ownsRow_one {w : World} {e : TypeId} {sz n : Nat} {v : Value} {xs : List Value} (h : w.ownsRow 0 e sz v n xs) : v.oneCell' = true := by
 rcases h.2 with ⟨rfl, _⟩ | ⟨g, cap, cur, rfl, _⟩ <;> rfl
set_option maxHeartbeats 1000000 in
theorem FCalls.of_body (hf : P.funcs[f]? = some fn) (hname : (fn.name == "runtime.NumGoroutine") = false) (hb : fn.body = some c) (hok : codeOk fn.ntmps c = true) (hn : as_.length <= fn.ntmps)
  (h : TJ P fn.ntmps c (DoneJ P fn R) ⟨argFr as_, [], []⟩ L) : FCalls P f as_ L R := by
 refine ⟨enters hf hname hb, fun g w vs S hob har hI hT hl hr hS hnd hz => calls_of_wp hf hb ?_⟩
 have hR : RpJ fn.ntmps w g S ⟨argFr as_, [], []⟩ L S g { tmps := vs ++ Array.replicate (fn.ntmps - vs.size) undef, defers := [] } w := by
  refine ⟨hI, FrX.refl hT fun b hb => (hz b hb).2, by simp; omega, rfl, fun t x hx => ?_, hS, hnd, fun b hb => ⟨(hz b hb).1, by simp [hob], by simp [Gh.arb, har], (hz b hb).2, .inr hb⟩⟩
  obtain ⟨_, hx⟩ := look_argFr as_ 0 t x hx
  rw [Nat.sub_zero] at hx
  have ht : t < vs.size := by have := (List.getElem?_eq_some_iff.1 hx).1; omega
  exact ⟨vs[t], by rw [Array.getElem?_append_left ht]; simp [ht], hr t x _ hx (by simp [ht])⟩
 refine Go.wp_mono (h hok w g S S g _ w hR) ?_
 rintro e a' w' ⟨s', g', L', S', ⟨hex, xs, hxs, hd⟩, hR'⟩
 obtain ⟨us, hul, hur, hrun⟩ := ares_sound hR'.inv hR'.slot hxs
 have hresults : (results fn a'.tmps).run P w' = .ok (if h : us.toArray.size = 1 then us.toArray[0] else .tuple us.toArray) w' := by
  rw [results_eq, Sem.run_bind, Array.mapM_eq_mapM_toList]
  have hm : (List.toArray <$> fn.results.toList.mapM (resRun a'.tmps)).run P w' = .ok us.toArray w' := by
   simp [hrun]
  rw [hm]
  rfl
 have hF := hR'.fr
 have hfin : ∀ (r : AV) (L'' : Ts) (S'' : List Nat), R r L'' -> RawV r (if h : us.toArray.size = 1 then us.toArray[0] else .tuple us.toArray) -> Trs w' L'' S'' -> S''.Nodup -> (∀ b ∈ S'', b ∈ S \/ w.heap.size <= b) ->
   a'.defers = [] /\ ∃ v, (results fn a'.tmps).run P w' = .ok v w' /\ ∃ v1 r L' S', Ending.returned v = .returned v1 /\ R r L' /\ RawV r v1 /\ Trs w' L' S' /\ S'.Nodup /\ (∀ b ∈ S', b ∈ S \/ w.heap.size <= b) /\
    w'.os = w.os /\ w'.tape = w.tape /\ w'.output = w.output /\ w.heap.size <= w'.heap.size /\ ∀ b, b < w.heap.size -> b ∉ S -> w'.heap[b]? = w.heap[b]? :=
  fun r L'' S'' h1 h2 h3 h4 h5 => ⟨hR'.defers, _, hresults, _, r, L'', S'', rfl, h1, h2, h3, h4, h5, hF.os, hF.tape, hF.output, hF.size, fun b hb hbs => hF.blk b hb (by simp [hob]) (by simp [Gh.arb, har]) hbs⟩
 have hinS : ∀ b ∈ S', b ∈ S \/ w.heap.size <= b := fun b hb => by rcases (hR'.out b hb).2.2.2.2 with q | q; exact .inr q; exact .inl q
 have hpost : a'.defers = [] /\ ∃ v, (results fn a'.tmps).run P w' = .ok v w' /\ ∃ v1 r L' S', Ending.returned v = .returned v1 /\ R r L' /\ RawV r v1 /\ Trs w' L' S' /\ S'.Nodup /\ (∀ b ∈ S', b ∈ S \/ w.heap.size <= b) /\
    w'.os = w.os /\ w'.tape = w.tape /\ w'.output = w.output /\ w.heap.size <= w'.heap.size /\ ∀ b, b < w.heap.size -> b ∉ S -> w'.heap[b]? = w.heap[b]? := by
  rcases hd with ⟨ys, L1, M, Ln, h1, h2, h3, h4⟩ | ⟨k, r, cs, Lc, L2, Ln, hk, hw, hmk, hp, hnil, hv⟩
  ·have hT' : Trs w' (L' ++ Ln) (S' ++ []) := Trs.app.2 ⟨S', [], rfl, hR'.trs, h2.trs⟩
   rw [List.append_nil] at hT'
   obtain ⟨S1, h5, h6⟩ := hT'.perm h3
   obtain ⟨S2, S3, rfl, h7, _⟩ := Trs.app.1 h6
   refine hfin (one ys) L1 S2 h4 (relVs_one (g := g') (A := s'.A) (w := w') (k := none) (fun i m v e => by cases e) h1 hul hur) h7 (List.nodup_append.1 (h5.nodup_iff.1 hR'.nd)).1 fun b hb => hinS b (h5.mem_iff.2 (by simp [hb]))
  ·obtain ⟨v, hgv⟩ : ∃ v, g'.ar[k]? = some v := by
    have : k < g'.ar.length := by rw [hR'.inv.arl]; exact (List.getElem?_eq_some_iff.1 hk).1
    exact ⟨_, List.getElem?_eq_getElem this⟩
   obtain ⟨hlen, him, cells, hown, hcells⟩ := hR'.inv.arr k r v hk hgv
   obtain ⟨ys, L1, M, h1, h3, h4⟩ := hv v
   obtain ⟨S0, h5, h6⟩ := hR'.trs.perm hp
   obtain ⟨Sc, S2, rfl, h7, h8⟩ := Trs.app.1 h6
   have hfl : cells.length = r.rows.flatten.length := by
    have hx : ∀ (rows : List (List DV)), (∀ row ∈ rows, row.length = r.sz) -> rows.flatten.length = rows.length * r.sz := by
     intro rows
     induction rows with
     | nil => simp
     | cons x xs ih => intro hx; rw [List.flatten_cons, List.length_append, hx x (by simp), ih (fun y hy => hx y (by simp [hy])), List.length_cons, Nat.add_mul]; omega
    rw [hown.1, hx r.rows hlen]
   have htl := hmk.trl hfl hcells h7
   have htr : Tr w' (.t r.ety r.sz r.rows.length cs) v (v.ownBlock.toList ++ Sc) := by
    simp only [Tr]
    exact ⟨cells, Sc, hown, htl, rfl⟩
   have hT' : Trs w' ((.t r.ety r.sz r.rows.length cs, v) :: L2 ++ Ln) ((v.ownBlock.toList ++ Sc) ++ S2) := by
    refine ⟨_, S2 ++ [], by simp, htr, Trs.app.2 ⟨S2, [], rfl, h8, hnil.trs⟩⟩
   obtain ⟨S1, h9, h10⟩ := hT'.perm h3
   obtain ⟨S4, S5, rfl, h11, _⟩ := Trs.app.1 h10
   have hnd' : (Sc ++ S2).Nodup := h5.nodup_iff.1 hR'.nd
   have hbk : ∀ b, v.ownBlock = some b -> b ∉ Sc ++ S2 /\ (b ∈ S \/ w.heap.size <= b) := fun b hb => by
    refine ⟨fun hm => (hR'.out b (h5.mem_iff.2 hm)).2.2.1 (Gh.arb_mem hgv hb), ?_⟩
    rcases hF.ar k v b hgv hb with q | q | q
    ·exact .inr q
    ·simp [Gh.arb, har] at q
    ·exact .inl q
   have hnd2 : ((v.ownBlock.toList ++ Sc) ++ S2).Nodup := by
    rw [List.append_assoc]
    cases hob' : v.ownBlock with
    | none => simpa using hnd'
    | some b => simpa using ⟨by simpa using (hbk b hob').1, by simpa using hnd'⟩
   refine hfin (one ys) L1 S4 h4 (relVs_one (g := g') (A := s'.A) (w := w') (k := some (k, r.rows.length, v)) (fun i m v' e => by cases e; exact ⟨ownsRow_one hown, r, hk, rfl, hgv⟩) h1 hul hur) h11 (List.nodup_append.1 (h9.nodup_iff.1 hnd2)).1 fun b hb => ?_
   have hm : b ∈ (v.ownBlock.toList ++ Sc) ++ S2 := h9.mem_iff.2 (by simp [hb])
   rw [List.append_assoc] at hm
   rcases List.mem_append.1 hm with q | q
   ·exact (hbk b (by simpa using q)).2
   ·exact hinS b (h5.mem_iff.2 q)
 rcases hex with rfl | rfl <;> exact hpost

def DoneA (P : Program) (fn : Func) (ety : TypeId) (sz n : Nat) (R : AV -> List GC -> Prop) (e : Exit) (s : St) (L : Ts) : Prop :=
 (e = .normal \/ e = .ret) /\ ∃ xs ys rows cs Lc M, ares P s fn.results.toList = some xs /\ relVs none xs = some ys /\ s.A[0]? = some ⟨sz, ety, rows, true⟩ /\ rows.length = n /\ Mk cs rows.flatten Lc /\ L.Perm (Lc ++ M) /\ R (one ys) cs

set_option maxHeartbeats 1000000 in
theorem FCalls.of_bodyA {ety : TypeId} {sz n : Nat} {cs : List GC} {v : Value} {R : AV -> List GC -> Prop} (hf : P.funcs[f]? = some fn) (hname : (fn.name == "runtime.NumGoroutine") = false) (hb : fn.body = some c) (hok : codeOk fn.ntmps c = true) (hn : as_.length + 1 <= fn.ntmps)
  (hsc : ∀ x, GC.d x ∈ cs -> x.scal = true) (h : ∀ ds Lc, Mk cs ds Lc -> ds.length = n * sz -> TJ P fn.ntmps c (DoneA P fn ety sz n R) ⟨argFr (.c (.own 0 n) :: as_), [], [⟨sz, ety, chunks sz n ds, true⟩]⟩ Lc) :
  FCalls P f (.c (.d (.raw v)) :: as_) [(.t ety sz n cs, v)] fun r L' => ∃ cs', L' = [(.t ety sz n cs', v)] /\ R r cs' := by
 refine ⟨enters hf hname hb, fun g w vs S hob har hI hT hl hr hS hnd hz => calls_of_wp hf hb ?_⟩
 obtain ⟨S1, S2, rfl, htr, h0⟩ := hS
 simp only [Trs] at h0
 subst h0
 rw [List.append_nil] at hnd hz
 simp only [Tr] at htr
 obtain ⟨cells, Sc, hown, htl, rfl⟩ := htr
 obtain ⟨ds, Lc, hmk, hTc, hcells⟩ := TrL.mk hsc htl
 have hdl : ds.length = n * sz := by rw [<- hmk.len, htl.len, hown.1]
 let gA : Gh := { ob := [], ar := [v], im := g.im }
 have hvb : ∀ b, v.ownBlock = some b -> b ∈ v.ownBlock.toList ++ Sc := fun b hb => by simp [hb]
 have hIA : Inv gA w [] [⟨sz, ety, chunks sz n ds, true⟩] := by
  refine ⟨rfl, rfl, fun l row b h => by simp at h, fun k r v' h1 h2 => ?_, fun l l' b h => by simp [gA] at h, fun k k' v1 v2 b h1 h2 _ _ => ?_, fun l k v' b h => by simp [gA] at h, hI.fresh⟩
  ·cases k with
   | zero =>
    simp [gA] at h1 h2; subst h1; subst h2
    refine ⟨chunks_row hdl, fun b hb => by show g.im b <= _; rw [(hz b (hvb b hb)).1]; exact Nat.zero_le _, cells, by simpa [chunks_len] using hown, fun j x u h3 h4 => ?_⟩
    rw [flat_chunks hdl] at h3
    exact hcells g.im j x u h3 h4
   | succ k => simp at h1
  ·cases k with
   | zero => cases k' with
    | zero => rfl
    | succ k' => simp [gA] at h2
   | succ k => simp [gA] at h1
 have harb : ∀ b, b ∈ gA.arb -> v.ownBlock = some b := fun b hb => by
  simp only [Gh.arb, gA, List.mem_filterMap, List.mem_singleton] at hb
  obtain ⟨x, rfl, h⟩ := hb
  exact h
 have hTA : Tab w gA := fun b hb => by
  obtain ⟨h1, _, _, h4⟩ := hT b hb
  exact ⟨h1, by simp [gA], fun hm => (hz b (hvb b (harb b hm))).2 hb, h4⟩
 have hR : RpJ fn.ntmps w gA Sc ⟨argFr (.c (.own 0 n) :: as_), [], [⟨sz, ety, chunks sz n ds, true⟩]⟩ Lc Sc gA { tmps := vs ++ Array.replicate (fn.ntmps - vs.size) undef, defers := [] } w := by
  have hl' : vs.size = as_.length + 1 := by simpa using hl
  refine ⟨hIA, FrX.refl hTA fun b hb => (hz b (by simp [hb])).2, by simp; omega, rfl, fun t x hx => ?_, hTc, (List.nodup_append.1 hnd).2.1, fun b hb => ⟨(hz b (by simp [hb])).1, by simp [gA], fun hm => ?_, (hz b (by simp [hb])).2, .inr hb⟩⟩
  ·obtain ⟨_, hx⟩ := look_argFr _ 0 t x hx
   rw [Nat.sub_zero] at hx
   have ht : t < vs.size := by have := (List.getElem?_eq_some_iff.1 hx).1; simp at this; omega
   refine ⟨vs[t], by rw [Array.getElem?_append_left ht]; simp [ht], ?_⟩
   cases t with
   | zero =>
    simp at hx; subst hx
    have hu := hr 0 _ vs[0] rfl (by simp [ht])
    simp only [RepV, RepE, RepC, RepD] at hu
    have hsl : ∃ a cap, v = .slice a n cap := by
     rcases hown.2 with ⟨rfl, rfl⟩ | ⟨b, cap, cur, rfl, _⟩
     ·exact ⟨_, _, rfl⟩
     ·exact ⟨_, _, rfl⟩
    obtain ⟨a, cap, hva⟩ := hsl
    rw [hu.1]
    exact ⟨a, cap, hva, _, rfl, by simp [chunks_len], fun _ => rfl⟩
   | succ t =>
    have hx' : as_[t]? = some x := by simpa using hx
    have hext : Ext g w [] gA w [⟨sz, ety, chunks sz n ds, true⟩] := ⟨fun l b h => by rw [hob] at h; simp at h, .refl _ _, fun k r h => by simp at h⟩
    exact RepV.ext hext (hr (t + 1) x _ (by simpa using hx') (by simp [ht]))
  ·have h2 := harb b hm
   exact (List.nodup_append.1 hnd).2.2 b (by simp [h2]) b hb rfl
 refine Go.wp_mono (h ds Lc hmk hdl hok w gA Sc Sc gA _ w hR) ?_
 rintro e a' w' ⟨s', g', L', S', ⟨hex, xs, ys, rows, cs', Lc', M, hxs, hys, hA0, hrl, hmk', hp, hRr⟩, hR'⟩
 obtain ⟨us, hul, hur, hrun⟩ := ares_sound hR'.inv hR'.slot hxs
 have hresults : (results fn a'.tmps).run P w' = .ok (if h : us.toArray.size = 1 then us.toArray[0] else .tuple us.toArray) w' := by
  rw [results_eq, Sem.run_bind, Array.mapM_eq_mapM_toList]
  have hm : (List.toArray <$> fn.results.toList.mapM (resRun a'.tmps)).run P w' = .ok us.toArray w' := by
   simp [hrun]
  rw [hm]
  rfl
 have hF := hR'.fr
 obtain ⟨v', hgv, _, hveq⟩ := hF.arx 0 v rfl
 obtain ⟨hlen, him, cells', hown', hcells'⟩ := hR'.inv.arr 0 _ v' hA0 hgv
 obtain rfl : v' = v := hveq (by rw [slen_own hown', slen_own hown]; exact hrl)
 dsimp only at hlen hown' hcells'
 rw [hrl] at hown'
 obtain ⟨S0, h5, h6⟩ := hR'.trs.perm hp
 obtain ⟨Sc', S2, rfl, h7, _⟩ := Trs.app.1 h6
 have hfl : cells'.length = rows.flatten.length := by
  have hx : ∀ (rows : List (List DV)), (∀ row ∈ rows, row.length = sz) -> rows.flatten.length = rows.length * sz := by
   intro rows
   induction rows with
   | nil => simp
   | cons x xs ih => intro hx; rw [List.flatten_cons, List.length_append, hx x (by simp), ih (fun y hy => hx y (by simp [hy])), List.length_cons, Nat.add_mul]; omega
  rw [hown'.1, hx rows hlen, hrl]
 have htl' := hmk'.trl hfl hcells' h7
 have htr : Tr w' (.t ety sz n cs') v' (v'.ownBlock.toList ++ Sc') := by
  simp only [Tr]
  exact ⟨cells', Sc', hown', htl', rfl⟩
 have hnd' : (Sc' ++ S2).Nodup := h5.nodup_iff.1 hR'.nd
 have hpost : a'.defers = [] /\ ∃ u, (results fn a'.tmps).run P w' = .ok u w' /\ ∃ v1 r L'' S'', Ending.returned u = .returned v1 /\ (∃ cs', L'' = [(GC.t ety sz n cs', v')] /\ R r cs') /\ RawV r v1 /\ Trs w' L'' S'' /\ S''.Nodup /\ (∀ b ∈ S'', b ∈ (v'.ownBlock.toList ++ Sc) ++ [] \/ w.heap.size <= b) /\
    w'.os = w.os /\ w'.tape = w.tape /\ w'.output = w.output /\ w.heap.size <= w'.heap.size /\ ∀ b, b < w.heap.size -> b ∉ (v'.ownBlock.toList ++ Sc) ++ [] -> w'.heap[b]? = w.heap[b]? := by
  refine ⟨hR'.defers, _, hresults, _, one ys, [(.t ety sz n cs', v')], v'.ownBlock.toList ++ Sc', rfl, ⟨cs', rfl, hRr⟩, relVs_one (g := g') (A := s'.A) (w := w') (k := none) (fun i m v e => by cases e) hys hul hur, ⟨_, [], by simp, htr, rfl⟩, ?_, fun b hb => ?_, hF.os, hF.tape, hF.output, hF.size, fun b hb hbs => hF.blk b hb (by simp [gA]) (fun hm => hbs (by simp [harb b hm])) (fun hm => hbs (by simp [hm]))⟩
  ·have hx : ∀ b, v'.ownBlock = some b -> b ∉ Sc' := fun b hb hm => (hR'.out b (h5.mem_iff.2 (by simp [hm]))).2.2.1 (Gh.arb_mem hgv hb)
   cases hob' : v'.ownBlock with
   | none => simpa using (List.nodup_append.1 hnd').1
   | some b => simpa using ⟨hx b hob', (List.nodup_append.1 hnd').1⟩
  ·rcases List.mem_append.1 hb with q | q
   ·exact .inl (by simp only [List.append_nil, List.mem_append]; exact .inl q)
   ·rcases (hR'.out b (h5.mem_iff.2 (by simp [q]))).2.2.2.2 with q2 | q2
    ·exact .inr q2
    ·exact .inl (by simp [q2])
 rcases hex with rfl | rfl <;> exact hpost
end
end Go.Av

namespace Go.Av
open Go

theorem FzC.thaw' {L : Ts} {c : GC} {v : Value} {x : DV} (h : (c, v) ∈ L) (e : c.dv = x /\ c.pl = true) : FzC L (.d (.raw v)) (.d x) := e.1 ▸ FzC.thaw h e.2

mutual
def tyRow (e : TypeId) : MTy -> List GC
 | .mk k l => [.d (.i k), .t e 2 l.length (tyRows e l)]
def tyRows (e : TypeId) : List MTy -> List GC
 | [] => []
 | t :: r => tyRow e t ++ tyRows e r
end
def tyK (e : TypeId) (l : List MTy) : GC := .t e 2 l.length (tyRows e l)
theorem tyRow_def (e : TypeId) (t : MTy) : tyRow e t = [.d (.i t.kind), tyK e t.kids] := by cases t; simp [tyRow, tyK]
theorem tyRows_len (e : TypeId) : ∀ (l : List MTy), (tyRows e l).length = l.length * 2
 | [] => rfl
 | t :: r => by rw [tyRows, List.length_append, tyRow_def, tyRows_len e r]; simp; omega
theorem dvL_append : ∀ (l m : List GC), dvL (l ++ m) = dvL l ++ dvL m
 | [], _ => rfl
 | x :: l, m => by simp [dvL, dvL_append l m]
theorem chunks_cons {α : Type} {sz : Nat} (n : Nat) {r l : List α} (h : r.length = sz) : chunks sz (n + 1) (r ++ l) = r :: chunks sz n l := by
 simp only [chunks]; rw [List.take_left' h, List.drop_left' h]
mutual
theorem tyRow_dv (e : TypeId) : ∀ (t : MTy), dvL (tyRow e t) = eTy t
 | .mk k l => by
  have := tyRows_dv e l
  rw [tyRow_def, eTy_def]
  simp only [dvL, GC.dv, tyK, MTy.kind_mk, MTy.kids_mk, this]
theorem tyRows_dv (e : TypeId) : ∀ (l : List MTy), chunks 2 l.length (dvL (tyRows e l)) = l.map eTy
 | [] => rfl
 | t :: r => by
  have h1 := tyRow_dv e t
  have h2 := tyRows_dv e r
  rw [tyRows, dvL_append, h1, List.length_cons, chunks_cons _ (by rw [eTy_def]; rfl), h2, List.map_cons]
end
theorem tyK_dv (e : TypeId) (l : List MTy) : (tyK e l).dv = .sl (l.map eTy) := by
 simp only [tyK, GC.dv, tyRows_dv]

theorem plL_append : ∀ (l m : List GC), plL (l ++ m) = (plL l && plL m)
 | [], _ => by simp [plL]
 | x :: l, m => by simp [plL, plL_append l m, Bool.and_assoc]
mutual
theorem tyRow_pl (e : TypeId) : ∀ (t : MTy), plL (tyRow e t) = true
 | .mk k l => by
  have := tyRows_pl e l
  rw [tyRow_def]
  simp only [plL, GC.pl, tyK, MTy.kids_mk, this, Bool.and_self]
theorem tyRows_pl (e : TypeId) : ∀ (l : List MTy), plL (tyRows e l) = true
 | [] => rfl
 | t :: r => by rw [tyRows, plL_append, tyRow_pl e t, tyRows_pl e r]; rfl
end
theorem tyK_dp (e : TypeId) (l : List MTy) : (tyK e l).dv = .sl (l.map eTy) /\ (tyK e l).pl = true := ⟨tyK_dv e l, by simp only [tyK, GC.pl, tyRows_pl]⟩

abbrev rTy (t : MTy) (v : Value) : List DV := [.i t.kind, .raw v]
theorem mk_tyRows (e : TypeId) : ∀ {l : List MTy} {vs : List Value}, vs.length = l.length -> Mk (tyRows e l) (List.zipWith rTy l vs).flatten ((l.map fun t => tyK e t.kids).zip vs)
 | [], [], _ => .nil
 | t :: r, v :: vs, h => by
  rw [tyRows, tyRow_def]
  exact .d rfl (.t (mk_tyRows e (by simpa using h)))
theorem mk_tyRows_inv (e : TypeId) : ∀ {l : List MTy} {ds : List DV} {L : Ts}, Mk (tyRows e l) ds L -> ∃ vs : List Value, vs.length = l.length /\ chunks 2 l.length ds = List.zipWith rTy l vs /\ L = (l.map fun t => tyK e t.kids).zip vs
 | [], ds, L, h => by
  rw [tyRows] at h
  cases h
  exact ⟨[], rfl, rfl, rfl⟩
 | t :: r, ds, L, h => by
  rw [tyRows, tyRow_def] at h
  cases h with
  | d _ h =>
   cases h with
   | @t _ _ _ _ _ ds' L' v h =>
    obtain ⟨vs, h1, h2, h3⟩ := mk_tyRows_inv e h
    refine ⟨v :: vs, by simp [h1], ?_, by rw [h3]; rfl⟩
    rw [List.length_cons, show DV.i t.kind :: DV.raw v :: ds' = [DV.i t.kind, DV.raw v] ++ ds' from rfl, chunks_cons (sz := 2) _ (r := [DV.i t.kind, DV.raw v]) rfl, h2]
    rfl
theorem tyRows_scal (e : TypeId) : ∀ (l : List MTy), ∀ x, GC.d x ∈ tyRows e l -> x.scal = true
 | [], x, h => by simp [tyRows] at h
 | t :: r, x, h => by
  rw [tyRows, tyRow_def] at h
  simp only [List.cons_append, List.nil_append, List.mem_cons, tyK] at h
  rcases h with h | h | h
  ·cases h; rfl
  ·cases h
  ·exact tyRows_scal e r x h

def fillV {α β : Type} (f : α -> β -> List DV) (z : List DV) (l : List α) (vs : List β) : List (List DV) := List.zipWith f l vs ++ List.replicate (l.length - vs.length) z
section
variable {α β : Type} {f : α -> β -> List DV} {z : List DV} {l : List α} {vs : List β}
theorem fillV_len (h : vs.length <= l.length) : (fillV f z l vs).length = l.length := by simp [fillV]; omega
theorem fillV_zero : fillV f z l ([] : List β) = List.replicate l.length z := by simp [fillV]
theorem fillV_full (h : vs.length = l.length) : fillV f z l vs = List.zipWith f l vs := by simp [fillV, h]
theorem fillV_get (h : vs.length < l.length) : (fillV f z l vs)[vs.length]? = some z := by
 rw [fillV, List.getElem?_append_right (by simp; omega), List.getElem?_replicate, if_pos (by simp; omega)]
theorem fillV_at (h : vs.length < l.length) (h' : vs.length < (fillV f z l vs).length) : (fillV f z l vs)[vs.length] = z := by
 have := fillV_get (f := f) (z := z) h
 rw [List.getElem?_eq_getElem h'] at this
 exact Option.some.inj this
theorem fillV_set {a : α} (h : l[vs.length]? = some a) (v : β) : (fillV f z l vs).set vs.length (f a v) = fillV f z l (vs ++ [v]) := by
 obtain ⟨h1, h2⟩ := List.getElem?_eq_some_iff.1 h
 have e2 : l.length - vs.length = (l.length - (vs ++ [v]).length) + 1 := by simp; omega
 have hz : (List.zipWith f l vs).length = vs.length := by simp; omega
 rw [fillV, fillV, List.set_append_right _ _ (by omega), e2, hz, Nat.sub_self, List.replicate_succ, List.set_cons_zero]
 have e : List.zipWith f l (vs ++ [v]) = List.zipWith f l vs ++ [f a v] := by
  have hl : l = l.take vs.length ++ a :: l.drop (vs.length + 1) := by rw [<- h2, <- List.drop_eq_getElem_cons h1, List.take_append_drop]
  have ht : (l.take vs.length).length = vs.length := by simp; omega
  conv => lhs; rw [hl]
  conv => rhs; rw [hl]
  rw [List.zipWith_append (by rw [ht])]
  rw [show vs = vs ++ ([] : List β) by simp, List.zipWith_append (by simp [ht])]
  simp
 rw [e, List.append_assoc]; rfl
theorem zip_snoc {γ : Type} {g : α -> γ} {a : α} (h : l[vs.length]? = some a) (v : β) : (l.map g).zip (vs ++ [v]) = (l.map g).zip vs ++ [(g a, v)] := by
 obtain ⟨h1, h2⟩ := List.getElem?_eq_some_iff.1 h
 have hl : l.map g = (l.take vs.length).map g ++ g a :: (l.drop (vs.length + 1)).map g := by
  rw [<- h2, <- List.map_cons, <- List.map_append, <- List.drop_eq_getElem_cons h1, List.take_append_drop]
 have ht : ((l.take vs.length).map g).length = vs.length := by rw [List.length_map, List.length_take]; omega
 rw [hl]
 generalize (l.take vs.length).map g = A at ht
 generalize (l.drop (vs.length + 1)).map g = B
 have e : (A ++ g a :: B).zip (vs ++ []) = A.zip vs := by rw [List.zip_append ht]; simp
 rw [List.append_nil] at e
 rw [e, List.zip_append ht]
 simp
end
end Go.Av

namespace Go.Av
open Go
attribute [simp] astepJ relC relL relV relVs

section
variable {P : Program} {fn : Func} {R : AV -> Ts -> Prop} {e : Exit} {s : St} {L L' M Lc : Ts} {r r' : AV}
theorem DoneJ.agg (he : e = .normal \/ e = .ret) (hr : ares P s fn.results.toList = some [r]) (hs : relVs none [r] = some [r']) (hp : L.Perm (L' ++ M)) (hR : R r' L') : DoneJ P fn R e s L :=
 ⟨he, [r], hr, .inl ⟨[r'], L', M, [], hs, .nil, by simpa using hp, hR⟩⟩
theorem DoneJ.scal (he : e = .normal \/ e = .ret) (hr : ares P s fn.results.toList = some [r]) (hs : relVs none [r] = some [r]) (hR : R r []) : DoneJ P fn R e s L :=
 DoneJ.agg (L' := []) (M := L) he hr hs (by simp) hR
theorem DoneJ.eq (he : e = .normal \/ e = .ret) (hr : ares P s fn.results.toList = some [r]) (hs : relVs none [r] = some [r]) : DoneJ P fn (fun r' _ => r' = r) e s L := DoneJ.scal he hr hs rfl
theorem DoneJ.nils {Ln : Ts} (he : e = .normal \/ e = .ret) {rs rs' : List AV} (hr : ares P s fn.results.toList = some rs) (hs : relVs none rs = some rs') (hn : Nils Ln) (hR : R (one rs') Ln) : DoneJ P fn R e s L :=
 ⟨he, rs, hr, .inl ⟨rs', Ln, L, Ln, hs, hn, List.perm_append_comm, hR⟩⟩
theorem DoneJ.tup (he : e = .normal \/ e = .ret) {rs rs' : List AV} (hr : ares P s fn.results.toList = some rs) (hs : relVs none rs = some rs') (hp : L.Perm (L' ++ M)) (hR : R (one rs') L') : DoneJ P fn R e s L :=
 ⟨he, rs, hr, .inl ⟨rs', L', M, [], hs, .nil, by simpa using hp, hR⟩⟩
theorem DoneJ.own {k n : Nat} {a : Arr} {cs : List GC} (he : e = .normal \/ e = .ret) (hr : ares P s fn.results.toList = some [.c (.own k n)]) (hA : s.A[k]? = some a) (hw : a.wr = true) (hn : n = a.rows.length) (hmk : Mk cs a.rows.flatten Lc) (hp : L.Perm (Lc ++ M))
  (hR : ∀ v, R (.c (.d (.raw v))) [(.t a.ety a.sz a.rows.length cs, v)]) : DoneJ P fn R e s L := by
 subst hn
 exact ⟨he, _, hr, .inr ⟨k, a, cs, Lc, M, [], hA, hw, hmk, hp, .nil, fun v => ⟨[.c (.d (.raw v))], [(.t a.ety a.sz a.rows.length cs, v)], M, by simp, by simp, hR v⟩⟩⟩
end

section
variable {P : Program} {n : Nat} {Q : Exit -> St -> Ts -> Prop} {s s' : St} {L L' : Ts} {c : Code}
theorem TJ.conv (h : ∀ (g : Gh) (a : Act) (w : World), Rp n w g s g a w -> ∃ g', Rp n w g s' g' a w) (h2 : TJ P n c Q s' L) : TJ P n c Q s L := by
 intro hok w0 g0 X S g a w hR
 obtain ⟨g', hR'⟩ := h g a w hR.rp
 exact h2 hok w0 g0 X S g' a w (hR.back hR')
theorem TJ.ownify (t : Nat) (sz : Nat) (e : TypeId) (ht : look s.fr t = some (.c .nil)) (h : TJ P n c Q ⟨(t, .c (.own s.A.length 0)) :: s.fr, s.V, s.A ++ [⟨sz, e, [], true⟩]⟩ L) : TJ P n c Q s L := by
 refine TJ.conv (fun g a w hR => ?_) h
 obtain ⟨g1, hm1, ho1, ha1, hI1, hx1, hF1⟩ := hR.inv.newArr hR.fr { sz := sz, ety := e, rows := [], wr := true } (.slice none 0 0) [] (by simp) (World.ownsRow_nil w 0 e sz) (fun j x u h => by simp at h) (fun b h => by simp [Value.ownBlock] at h)
 refine ⟨g1, hI1, hF1, hR.size, hR.defers, fun t' x hx => ?_⟩
 simp only [look] at hx
 by_cases e' : t' = t
 ·subst e'
  simp at hx; subst hx
  obtain ⟨u, h1, h2⟩ := hR.slot t' _ ht
  refine ⟨u, h1, ?_⟩
  simp only [RepV, RepE, RepC] at h2
  subst h2
  exact ⟨none, 0, rfl, _, by simp; rfl, Nat.zero_le _, fun _ => by rw [ha1, List.getElem?_append_right (by rw [hR.inv.arl]; exact Nat.le_refl _), hR.inv.arl]; simp⟩
 ·rw [if_neg e'] at hx
  obtain ⟨u, h1, h2⟩ := hR.slot t' x hx
  exact ⟨u, h1, RepV.ext hx1 h2⟩
theorem TJ.ownifyObj (l j : Nat) (sz : Nat) (e : TypeId) {row : List CV} (hl : s.V[l]? = some row) (hj : row[j]? = some .nil) (h : TJ P n c Q ⟨s.fr, s.V.set l (row.set j (.own s.A.length 0)), s.A ++ [⟨sz, e, [], true⟩]⟩ L) : TJ P n c Q s L := by
 refine TJ.conv (fun g a w hR => ?_) h
 obtain ⟨g1, hm1, ho1, ha1, hI1, hx1, hF1⟩ := hR.inv.newArr hR.fr { sz := sz, ety := e, rows := [], wr := true } (.slice none 0 0) [] (by simp) (World.ownsRow_nil w 0 e sz) (fun j x u h => by simp at h) (fun b h => by simp [Value.ownBlock] at h)
 refine ⟨g1, ?_, hF1, hR.size, hR.defers, fun t' x hx => ?_⟩
 ·refine ⟨by simpa using hI1.obl, hI1.arl, fun l' row' b h1 h2 => ?_, hI1.arr, hI1.obob, hI1.arar, hI1.obar, hI1.fresh⟩
  have h1' : (s.V.set l (row.set j (.own s.A.length 0)))[l']? = some row' := h1
  rw [set_get hl] at h1'
  by_cases e' : l' = l
  ·subst e'
   simp at h1'; subst h1'
   obtain ⟨h3, cs, ty, h4, h5, h6⟩ := hI1.obj l' row b hl h2
   refine ⟨h3, cs, ty, h4, by simpa using h5, fun i c u h7 h8 => ?_⟩
   rw [set_get hj] at h7
   by_cases e'' : i = j
   ·subst e''
    simp at h7; subst h7
    have h9 := h6 i _ u hj h8
    simp only [RepC] at h9; subst h9
    exact ⟨none, 0, rfl, _, by simp; rfl, Nat.zero_le _, fun _ => by rw [ha1, List.getElem?_append_right (by rw [hR.inv.arl]; exact Nat.le_refl _), hR.inv.arl]; simp⟩
   ·rw [if_neg e''] at h7; exact h6 i c u h7 h8
  ·rw [if_neg e'] at h1'; exact hI1.obj l' row' b h1' h2
 ·obtain ⟨u, h1, h2⟩ := hR.slot t' x hx
  exact ⟨u, h1, RepV.ext hx1 h2⟩
theorem TJ.loopK {α : Type} (ks : List Nat) (ph : α -> List (Nat × AV)) (ob : α -> List (Nat × List CV)) (G : α -> List (List CV)) (ar : α -> List Arr -> List Arr) (tr : α -> Ts) (m : α -> Nat) (H : α -> Prop) {fr0 : List (Nat × AV)} (hk : keepL ks s.fr = fr0)
  (h : ∀ a, H a -> TJ P n c (RoundJ (fun a => ⟨ph a ++ fr0, ups (ob a) s.V ++ G a, ar a s.A⟩) tr m H (m a) Q) ⟨ph a ++ fr0, ups (ob a) s.V ++ G a, ar a s.A⟩ (tr a)) (a : α) (ha : H a) (hV : ups (ob a) s.V ++ G a = s.V) (hA : ar a s.A = s.A) (hp : subL (ph a) s.fr) {M : Ts} (hL : L.Perm (tr a ++ M)) : TJ P n (.loop c) Q s L := by
 subst hk
 exact TJ.loopF (fun a => ⟨ph a ++ keepL ks s.fr, ups (ob a) s.V ++ G a, ar a s.A⟩) tr m H h a ha ⟨hV, hA, hp.app (keepL_sub ks s.fr)⟩ hL
end
end Go.Av

namespace Go.Av
attribute [-simp] Go.Av.astepJ Go.Av.relC Go.Av.relL Go.Av.relV Go.Av.relVs
open Go

mutual
def tmRow (et em : TypeId) : MTm -> List GC
 | .mk k s n t f b l => [.d (.i k), .d (.str s), .d (.i n), .d (.i t.kind), tyK et t.kids, .d (.i f.kind), tyK et f.kids, .d (.i b), .t em 9 l.length (tmRows et em l)]
def tmRows (et em : TypeId) : List MTm -> List GC
 | [] => []
 | t :: r => tmRow et em t ++ tmRows et em r
end
def tmK (et em : TypeId) (l : List MTm) : GC := .t em 9 l.length (tmRows et em l)
theorem tmRow_def (et em : TypeId) (e : MTm) : tmRow et em e = [.d (.i e.kind), .d (.str e.name), .d (.i e.num), .d (.i e.ty.kind), tyK et e.ty.kids, .d (.i e.fr.kind), tyK et e.fr.kids, .d (.i e.label), tmK et em e.kids] := by cases e; simp [tmRow, tmK]
mutual
theorem tmRow_dv (et em : TypeId) : ∀ (t : MTm), dvL (tmRow et em t) = eTm t
 | .mk k s n t f b l => by
  have := tmRows_dv et em l
  rw [tmRow_def, eTm_def]
  simp only [dvL, GC.dv, tyK_dv, tmK, MTm.kind_mk, MTm.name_mk, MTm.num_mk, MTm.ty_mk, MTm.fr_mk, MTm.label_mk, MTm.kids_mk, this]
theorem tmRows_dv (et em : TypeId) : ∀ (l : List MTm), chunks 9 l.length (dvL (tmRows et em l)) = l.map eTm
 | [] => rfl
 | t :: r => by
  have h1 := tmRow_dv et em t
  have h2 := tmRows_dv et em r
  rw [tmRows, dvL_append, h1, List.length_cons, chunks_cons _ (by rw [eTm_def]; rfl), h2, List.map_cons]
end
theorem tmK_dv (et em : TypeId) (l : List MTm) : (tmK et em l).dv = .sl (l.map eTm) := by
 simp only [tmK, GC.dv, tmRows_dv]

mutual
theorem tmRow_pl (et em : TypeId) : ∀ (t : MTm), plL (tmRow et em t) = true
 | .mk k s n t f b l => by
  have := tmRows_pl et em l
  rw [tmRow_def]
  simp only [plL, GC.pl, (tyK_dp et _).2, tmK, MTm.kids_mk, MTm.ty_mk, MTm.fr_mk, this, Bool.and_self]
theorem tmRows_pl (et em : TypeId) : ∀ (l : List MTm), plL (tmRows et em l) = true
 | [] => rfl
 | t :: r => by rw [tmRows, plL_append, tmRow_pl et em t, tmRows_pl et em r]; rfl
end
theorem tmK_dp (et em : TypeId) (l : List MTm) : (tmK et em l).dv = .sl (l.map eTm) /\ (tmK et em l).pl = true := ⟨tmK_dv et em l, by simp only [tmK, GC.pl, tmRows_pl]⟩

abbrev V3 := Value × Value × Value
abbrev rTm (e : MTm) (v : V3) : List DV := [.i e.kind, .str e.name, .i e.num, .i e.ty.kind, .raw v.1, .i e.fr.kind, .raw v.2.1, .i e.label, .raw v.2.2]
abbrev tTm (et em : TypeId) (e : MTm) (v : V3) : Ts := [(tyK et e.ty.kids, v.1), (tyK et e.fr.kids, v.2.1), (tmK et em e.kids, v.2.2)]
def tsTm (et em : TypeId) (l : List MTm) (vs : List V3) : Ts := (List.zipWith (tTm et em) l vs).flatten
theorem tsTm_nil (et em : TypeId) (l : List MTm) : tsTm et em l [] = [] := by simp [tsTm]
theorem tsTm_cons (et em : TypeId) (e : MTm) (l : List MTm) (v : V3) (vs : List V3) : tsTm et em (e :: l) (v :: vs) = tTm et em e v ++ tsTm et em l vs := rfl
theorem mk_tmRows (et em : TypeId) : ∀ {l : List MTm} {vs : List V3}, vs.length = l.length -> Mk (tmRows et em l) (List.zipWith rTm l vs).flatten (tsTm et em l vs)
 | [], [], _ => .nil
 | t :: r, v :: vs, h => by
  rw [tmRows, tmRow_def, tsTm_cons]
  exact .d rfl (.d rfl (.d rfl (.d rfl (.t (.d rfl (.t (.d rfl (.t (mk_tmRows et em (by simpa using h))))))))))
theorem mk_tmRows_inv (et em : TypeId) : ∀ {l : List MTm} {ds : List DV} {L : Ts}, Mk (tmRows et em l) ds L -> ∃ vs : List V3, vs.length = l.length /\ chunks 9 l.length ds = List.zipWith rTm l vs /\ L = tsTm et em l vs
 | [], ds, L, h => by
  rw [tmRows] at h
  cases h
  exact ⟨[], rfl, rfl, rfl⟩
 | t :: r, ds, L, h => by
  rw [tmRows, tmRow_def] at h
  cases h with
  | d _ h => cases h with
  | d _ h => cases h with
  | d _ h => cases h with
  | d _ h => cases h with
  | @t _ _ _ _ _ _ _ v1 h => cases h with
  | d _ h => cases h with
  | @t _ _ _ _ _ _ _ v2 h => cases h with
  | d _ h => cases h with
  | @t _ _ _ _ _ ds' L' v3 h =>
   obtain ⟨vs, h1, h2, h3⟩ := mk_tmRows_inv et em h
   refine ⟨(v1, v2, v3) :: vs, by simp [h1], ?_, by rw [h3]; rfl⟩
   rw [List.length_cons, show DV.i t.kind :: DV.str t.name :: DV.i t.num :: DV.i t.ty.kind :: DV.raw v1 :: DV.i t.fr.kind :: DV.raw v2 :: DV.i t.label :: DV.raw v3 :: ds' = [DV.i t.kind, DV.str t.name, DV.i t.num, DV.i t.ty.kind, DV.raw v1, DV.i t.fr.kind, DV.raw v2, DV.i t.label, DV.raw v3] ++ ds' from rfl,
    chunks_cons (sz := 9) _ (r := [DV.i t.kind, DV.str t.name, DV.i t.num, DV.i t.ty.kind, DV.raw v1, DV.i t.fr.kind, DV.raw v2, DV.i t.label, DV.raw v3]) rfl, h2]
   rfl
theorem tmRows_scal (et em : TypeId) : ∀ (l : List MTm), ∀ x, GC.d x ∈ tmRows et em l -> x.scal = true
 | [], x, h => by simp [tmRows] at h
 | t :: r, x, h => by
  rw [tmRows, tmRow_def] at h
  simp only [List.cons_append, List.nil_append, List.mem_cons, tyK, tmK] at h
  rcases h with h | h | h | h | h | h | h | h | h | h
  ·cases h; rfl
  ·cases h; rfl
  ·cases h; rfl
  ·cases h; rfl
  ·cases h
  ·cases h; rfl
  ·cases h
  ·cases h; rfl
  ·cases h
  ·exact tmRows_scal et em r x h
theorem tsTm_snoc (et em : TypeId) {l : List MTm} {vs : List V3} {a : MTm} (h : l[vs.length]? = some a) (v : V3) : tsTm et em l (vs ++ [v]) = tsTm et em l vs ++ tTm et em a v := by
 obtain ⟨h1, h2⟩ := List.getElem?_eq_some_iff.1 h
 have hl : l = l.take vs.length ++ a :: l.drop (vs.length + 1) := by rw [<- h2, <- List.drop_eq_getElem_cons h1, List.take_append_drop]
 have ht : (l.take vs.length).length = vs.length := by rw [List.length_take]; omega
 generalize l.take vs.length = A at hl ht
 generalize l.drop (vs.length + 1) = B at hl
 subst hl
 have e : List.zipWith (tTm et em) (A ++ a :: B) (vs ++ []) = List.zipWith (tTm et em) A vs := by rw [List.zipWith_append ht]; simp
 rw [List.append_nil] at e
 rw [tsTm, tsTm, e, List.zipWith_append ht]
 simp
end Go.Av

namespace Go.Av
open Go

section
variable {P : Program} {f : FuncId} {as_ : List AV} {L : Ts} {R R' : AV -> Ts -> Prop}
theorem FCalls.mono (h : FCalls P f as_ L R) (hr : ∀ r L', R r L' -> R' r L') : FCalls P f as_ L R' := by
 refine ⟨h.1, fun g w vs S h1 h2 h3 h4 h5 h6 h7 h8 h9 => (h.2 g w vs S h1 h2 h3 h4 h5 h6 h7 h8 h9).mono ?_⟩
 rintro e w' ⟨v, r, L', S', rfl, hR, hrest⟩
 exact ⟨v, r, L', S', rfl, hr _ _ hR, hrest⟩
theorem ThenJ.ret {n : Nat} {y : Code} {Q : Exit -> St -> Ts -> Prop} {s : St} (h : Q .ret s L) : ThenJ P n y Q .ret s L := h
theorem InBlockJ.ret {id : Nat} {Q : Exit -> St -> Ts -> Prop} {s : St} (h : Q .ret s L) : InBlockJ id Q .ret s L := h
theorem DoneA.one {fn : Func} {ety : TypeId} {sz n : Nat} {R : AV -> List GC -> Prop} {e : Exit} {s : St} {L Lc M : Ts} {r : AV} {rows : List (List DV)} {cs : List GC} (he : e = .normal \/ e = .ret) (hr : ares P s fn.results.toList = some [r]) (hs : relVs none [r] = some [r])
  (hA : s.A[0]? = some ⟨sz, ety, rows, true⟩) (hn : rows.length = n) (hmk : Mk cs rows.flatten Lc) (hp : L.Perm (Lc ++ M)) (hR : R r cs) : DoneA P fn ety sz n R e s L :=
 ⟨he, [r], [r], rows, cs, Lc, M, hr, hs, hA, hn, hmk, hp, hR⟩
theorem DoneJ.ownR {fn : Func} {R : AV -> Ts -> Prop} {e : Exit} {s : St} {L Lc L2 : Ts} {k n : Nat} {a : Arr} {cs : List GC} {rs : List AV} {rs' : Value -> List AV} (he : e = .normal \/ e = .ret) (hr : ares P s fn.results.toList = some rs) (hA : s.A[k]? = some a) (hw : a.wr = true) (hn : n = a.rows.length)
  (hmk : Mk cs a.rows.flatten Lc) (hp : L.Perm (Lc ++ L2)) (hs : ∀ v, relVs (some (k, n, v)) rs = some (rs' v)) (hR : ∀ v, ∃ L' M, ((.t a.ety a.sz n cs, v) :: L2).Perm (L' ++ M) /\ R (one (rs' v)) L') : DoneJ P fn R e s L := by
 subst hn
 exact ⟨he, rs, hr, .inr ⟨k, a, cs, Lc, L2, [], hA, hw, hmk, hp, .nil, fun v => by
  obtain ⟨L', M, h1, h2⟩ := hR v
  exact ⟨rs' v, L', M, hs v, by simpa using h1, h2⟩⟩⟩
end
end Go.Av

namespace Go.Av
open Go

def triv (o : Oper) : Oper := { o with dst := none, op := .assign (.const (.bool true)), guard := none }
def lastL (l : List Oper) : List Oper := match l.getLast? with
 | some o => l.dropLast ++ [triv o]
 | none => []
def lastOk (l : List Oper) : Bool := match l.getLast? with
 | some o => o.guard.isNone && (l.zipIdx.all fun (x, j) => x.after.all fun e => !Region.binds .any e || decide (e.on < j)) && (l.dropLast.all fun x => match x.guard with | some (q, _) => decide (q < l.length - 1) | none => true)
   && ((List.range (l.length - 1)).all fun k => ((masks l []).getD (l.length - 1) 0).testBit k)
 | none => false

section
variable {P : Program}
def lastOf (l : List Oper) : List Oper := match l.getLast? with
 | some o => [o]
 | none => []
end
end Go.Av

namespace Go.Av
open Go

section
variable {P : Program} {n : Nat} {w0 w w' : World} {g0 g g' : Gh} {X S S' : List Nat} {s s' : St} {L L' : Ts} {a a' : Act} {x y : Code} {all : Array Oper} {ws : List Nat}

def wpcallP (P : Program) (L : Ts) (f : FuncId) (xs : List AV) (K : AV -> Ts -> Prop) : Prop := ∃ (as_ : List AV) (L1 L2 : Ts) (R : AV -> Ts -> Prop), L.Perm (L1 ++ L2) /\ FzVs L2 xs as_ /\ FCalls P f as_ L1 R /\ ∀ r L1', R r L1' -> K r (L1' ++ L2)
def callJ (P : Program) (s : St) (L : Ts) (o : Oper) (K : AV -> Ts -> Prop) : Prop :=
 match o.op with
 | .call { callee := .value f, args, .. } => onv (aval s f) fun fv => match fv with
  | .c (.fn fid []) => onv (avals s args.toList) fun xs => wpcallP P L fid xs K
  | _ => False
 | _ => False
theorem callJ_map {o : Oper} {K K' : AV -> Ts -> Prop} (hk : ∀ x L, K x L -> K' x L) (h : callJ P s L o K) : callJ P s L o K' := by
 unfold callJ at h ⊢
 split at h
 ·refine onv_map (fun fv h1 => ?_) h
  split at h1
  ·exact onv_map (fun xs ⟨as_, L1, L2, R, h2, h3, h4, h5⟩ => ⟨as_, L1, L2, R, h2, h3, h4, fun r L1' hr => hk _ _ (h5 r L1' hr)⟩) h1
  ·exact h1
 ·exact h
theorem callJ_astep {fr' : List (Nat × AV)} {V : List (List CV)} {A : List Arr} {ow : Bool} {o : Oper} {K : AV -> Ts -> Prop} (he : ∀ x ∈ o.op.operands.toList, aval ⟨fr', V, A⟩ x = aval s x) (h : callJ P s L o K) : astepJ P ⟨fr', V, A⟩ L ow o fun x V' A' L' => V' = V /\ A' = A /\ K x L' := by
 unfold callJ at h
 unfold astepJ
 split at h
 ·rename_i f args tys heq
  simp only [heq] at he ⊢
  have e1 : aval ⟨fr', V, A⟩ f = aval s f := he f (by simp [Op.operands, Call.operands])
  have e2 : avals ⟨fr', V, A⟩ args.toList = avals s args.toList := avals_congr fun p hp => he p (by simp [Op.operands, Call.operands]; exact .inr (by simpa using hp))
  rw [e1]
  refine onv_map (fun fv h1 => ?_) h
  split at h1
  ·simp only [e2, List.map_nil, List.append_nil]
   refine onv_map (fun xs h2 => ?_) h1
   obtain ⟨as_, L1, L2, R, h2, h3, h4, h5⟩ := h2
   exact .inr ⟨as_, L1, L2, R, h2, h3, h4, fun r L1' hr => ⟨rfl, rfl, h5 r L1' hr⟩⟩
  ·exact h1.elim
 ·exact h.elim

def aopsP (P : Program) (ow : Nat -> Bool) (ws cs : List Nat) (K : St -> Ts -> Prop) : Nat -> List Oper -> St -> Ts -> Prop
 | _, [], s, L => K s L
 | i, o :: rest, s, L => (i ∈ cs /\ callJ P s L o fun x L' => aopsP P ow ws cs K (i + 1) rest (s.put o.dst x s.V s.A) L') \/
   (i ∉ cs /\ astep P s (ow i) o fun x V A => (i ∈ ws \/ (V = s.V /\ A = s.A)) /\ aopsP P ow ws cs K (i + 1) rest (s.put o.dst x V A) L)

def DetS (P : Program) (ow : Bool) (o : Oper) (s s' : St) : Prop := ∃ x V A, s' = s.put o.dst x V A /\ ∀ K : AV -> List (List CV) -> List Arr -> Prop, K x V A -> astep P s ow o K
def Frs (ws : List Nat) (j : Nat) (o : Oper) (s s' : St) : Prop := ∃ x V A, s' = s.put o.dst x V A /\ (j ∈ ws \/ (V = s.V /\ A = s.A))

theorem aopsP_trace {ow : Nat -> Bool} {cs : List Nat} {K : St -> Ts -> Prop} : ∀ (ops : List Oper) (i : Nat) (s : St) (L : Ts), aopsP P ow ws cs K i ops s L ->
  ∃ (τ : Nat -> St) (m : Nat), m <= ops.length /\ τ 0 = s /\ (∀ (j : Nat) o, j < m -> ops[j]? = some o -> DetS P (ow (i + j)) o (τ j) (τ (j + 1)) /\ Frs ws (i + j) o (τ j) (τ (j + 1))) /\
   ((m = ops.length /\ K (τ m) L) \/ (i + m ∈ cs /\ ∃ o, ops[m]? = some o /\ callJ P (τ m) L o fun x L' => aopsP P ow ws cs K (i + m + 1) (ops.drop (m + 1)) ((τ m).put o.dst x (τ m).V (τ m).A) L'))
 | [], i, s, L, h => ⟨fun _ => s, 0, Nat.le_refl _, rfl, fun j o hj => by omega, .inl ⟨rfl, h⟩⟩
 | o :: rest, i, s, L, h => by
  rcases h with ⟨h1, h2⟩ | ⟨h1, h2⟩
  ·exact ⟨fun _ => s, 0, by simp, rfl, fun j o hj => by omega, .inr ⟨h1, o, rfl, h2⟩⟩
  ·obtain ⟨x, V, A, ⟨h3, h4⟩, h5⟩ := astep_det h2
   obtain ⟨τ, m, k1, k2, k3, k4⟩ := aopsP_trace rest (i + 1) _ L h4
   refine ⟨fun j => match j with | 0 => s | j + 1 => τ j, m + 1, by simp; omega, rfl, fun j o' hj ho => ?_, ?_⟩
   ·cases j with
    | zero =>
     simp at ho; subst ho
     exact ⟨⟨x, V, A, k2, h5⟩, x, V, A, k2, h3⟩
    | succ j =>
     simp at ho
     have := k3 j o' (by omega) ho
     rwa [show i + 1 + j = i + (j + 1) by omega] at this
   ·rcases k4 with ⟨k5, k6⟩ | ⟨k5, o', k6, k7⟩
    ·exact .inl ⟨by simp [k5], k6⟩
    ·refine .inr ⟨by rw [show i + (m + 1) = i + 1 + m by omega]; exact k5, o', by simpa using k6, ?_⟩
     rw [show i + (m + 1) + 1 = i + 1 + m + 1 by omega]
     exact k7

structure Trc (all : Array Oper) (ws : List Nat) (σ : Nat -> St) (c : Nat) : Prop where
 le : c <= all.size
 tr : ∀ (j : Nat) o, j < c -> all[j]? = some o -> Frs ws j o (σ j) (σ (j + 1))

section
variable {σ : Nat -> St} {c : Nat} (hT : Trc all ws σ c) (hdu : ∀ (i j : Nat) oi oj d, all[i]? = some oi -> all[j]? = some oj -> oi.dst = some d -> oj.dst = some d -> i = j)
include hT
theorem Trc.step {j : Nat} {o : Oper} {t : Nat} (hj : j < c) (h1 : all[j]? = some o) (h2 : o.dst ≠ some t) : look (σ (j + 1)).fr t = look (σ j).fr t := by
 obtain ⟨x, V, A, h3, _⟩ := hT.tr j o hj h1
 rw [h3]
 simp only [St.put]
 cases hdd : o.dst with
 | none => rfl
 | some d => simp only [look]; rw [if_neg (fun e => h2 (by rw [hdd, e]))]
theorem Trc.frB : ∀ (j t : Nat), j <= c -> (∀ (i : Nat) o, i < j -> all[i]? = some o -> o.dst ≠ some t) -> look (σ j).fr t = look (σ 0).fr t := by
 have hc := hT.le
 intro j
 induction j with
 | zero => intro t _ _; rfl
 | succ j ih =>
  intro t hj hno
  have ho : all[j]? = some all[j] := Array.getElem?_eq_getElem (by omega)
  rw [hT.step (by omega) ho (hno j _ (by omega) ho)]
  exact ih t (by omega) (fun i o hi => hno i o (by omega))
theorem Trc.VA : ∀ (b a : Nat), a <= b -> b <= c -> (∀ i, a <= i -> i < b -> i ∉ ws) -> (σ b).V = (σ a).V /\ (σ b).A = (σ a).A := by
 have hc := hT.le
 intro b
 induction b with
 | zero =>
  intro a h _ _
  obtain rfl : a = 0 := by omega
  exact ⟨rfl, rfl⟩
 | succ b ih =>
  intro a hab hb hno
  by_cases e : a = b + 1
  ·subst e; exact ⟨rfl, rfl⟩
  ·have ho : all[b]? = some all[b] := Array.getElem?_eq_getElem (by omega)
   obtain ⟨h1, h2⟩ := ih a (by omega) (by omega) (fun i hi hi' => hno i hi (by omega))
   obtain ⟨x, V, A, h3, h4⟩ := hT.tr b _ (by omega) ho
   rcases h4 with h4 | ⟨h4, h5⟩
   ·exact absurd h4 (hno b (by omega) (by omega))
   ·rw [h3]; exact ⟨h4.trans h1, h5.trans h2⟩
include hdu
theorem Trc.frA : ∀ (j i : Nat) oi t, j <= c -> i < j -> all[i]? = some oi -> oi.dst = some t -> look (σ j).fr t = look (σ (i + 1)).fr t := by
 have hc := hT.le
 intro j
 induction j with
 | zero => intro i oi t _ h; omega
 | succ j ih =>
  intro i oi t hj hij hoi hdt
  by_cases e : i = j
  ·subst e; rfl
  ·have ho : all[j]? = some all[j] := Array.getElem?_eq_getElem (by omega)
   rw [hT.step (by omega) ho (fun h => e (hdu i j oi _ t hoi ho hdt h))]
   exact ih i oi t (by omega) (by omega) hoi hdt
end

structure Jb (w0 : World) (g0 : Gh) (X : List Nat) (L : Ts) (S : List Nat) (g : Gh) (w : World) : Prop where
 fr : FrX w0 g0 X w g
 trs : Trs w L S
 nd : S.Nodup
 out : ∀ b ∈ S, g.im b = 0 /\ b ∉ g.ob /\ b ∉ g.arb /\ tabAt ≠ some b /\ (w0.heap.size <= b \/ b ∈ X)
theorem Jb.fr' (h : Jb w0 g0 X L S g w) (k : Fr w g w' g') : Jb w0 g0 X L S g' w' := by
 have hlt := h.trs.lt
 refine ⟨h.fr.fr k, h.trs.keep fun b hb => k.blk b (hlt b hb) (h.out b hb).2.1 (h.out b hb).2.2.1, h.nd, fun b hb => ?_⟩
 obtain ⟨h1, h2, h3, h4, h5⟩ := h.out b hb
 have hbl := hlt b hb
 refine ⟨(k.imeq b hbl h3).trans h1, fun hm => ?_, fun hm => ?_, h4, h5⟩
 ·obtain ⟨new, e, hn⟩ := k.ob
  rw [e] at hm
  rcases List.mem_append.1 hm with q | q
  ·exact h2 q
  ·exact absurd (hn b q) (by omega)
 ·obtain ⟨i, v, q1, q2⟩ := Gh.mem_arb hm
  rcases k.ar i v b q1 q2 with q | q
  ·omega
  ·exact h3 q

set_option maxHeartbeats 2000000 in
theorem drawP_one {cs : List Nat} {ow : Nat -> Bool} (hd : drawOk all ws = true) (hgn : ∀ (j : Nat) o, all[j]? = some o -> o.guard = none) (hdst : dstsOk n all.toList = true) {σ : Nat -> St} {c : Nat} (hT : Trc all ws σ c) {listed : Array Bool} {k0 : Nat} (hD : DS all ws σ n w g listed k0 g a w) (hk0 : k0 <= c) (hlc : ∀ i, listed[i]? = some true -> i < c)
  {j : Nat} (hj : j ∈ Region.ready .any all listed) (hjc : j <= c) {o : Oper} (ho : all[j]? = some o) {next : Act -> World -> Prop} {Q : Exit -> Act -> World -> Prop} :
  (j < c -> DetS P (ow j) o (σ j) (σ (j + 1)) -> (∀ k1 v g' w', k1 <= c -> DS all ws σ n w' g' (listed.setIfInBounds j true) k1 g' (a.put o.dst v) w' -> Fr w g w' g' -> next (a.put o.dst v) w') -> wpOp P all Q j next a w) /\
  (j = c -> isS o.op = false -> j ∉ ws -> Jb w0 g0 X L S g w -> (∀ K : AV -> Ts -> Prop, callJ P (σ j) L o K -> (∀ x L' S' v g' w', K x L' -> (∀ σ' : Nat -> St, (∀ i, i <= c -> σ' i = σ i) -> σ' (c + 1) = (σ c).put o.dst x (σ c).V (σ c).A -> DS all ws σ' n w' g' (listed.setIfInBounds j true) k0 g' (a.put o.dst v) w') -> Jb w0 g0 X L' S' g' w' -> next (a.put o.dst v) w') -> wpOp P all Q j next a w)) := by
 simp only [drawOk, Bool.and_eq_true, List.all_eq_true] at hd
 obtain ⟨⟨hd1, hd2⟩, hd3⟩ := hd
 -- the checks, read
 have hmem : ∀ (j : Nat) o, all[j]? = some o -> (o, j) ∈ all.toList.zipIdx := fun j o h => by
  rw [List.mem_iff_getElem?]
  exact ⟨j, by simp [List.getElem?_zipIdx, h]⟩
 have hedge : ∀ (j : Nat) o, all[j]? = some o -> ∀ e ∈ o.after, Region.binds .any e = true -> e.on < j := fun j o h e he hb => by
  have := hd1 _ (hmem j o h) e (Array.mem_toList_iff.2 he)
  simpa [hb] using this
 have hpair : ∀ (i j : Nat) oi oj, all[i]? = some oi -> all[j]? = some oj -> i < j -> pairOk all ws (masks all.toList []) oi oj i j = true := fun i j oi oj h1 h2 hlt => by
  have := hd2 _ (hmem j oj h2) _ (hmem i oi h1)
  simpa [hlt] using this
 have hws : ∀ (j : Nat) o, all[j]? = some o -> j ∈ ws -> isS o.op = false := fun j o h hj => by
  have := hd3 _ (hmem j o h)
  simpa [hj] using this
 have hdne : ∀ (i j : Nat) oi oj d, all[i]? = some oi -> all[j]? = some oj -> i < j -> oi.dst = some d -> oj.dst ≠ some d := fun i j oi oj d h1 h2 hlt h3 h4 => by
  have := hpair i j oi oj h1 h2 hlt
  simp [pairOk, h3, h4] at this
 have hdu : ∀ (i j : Nat) oi oj d, all[i]? = some oi -> all[j]? = some oj -> oi.dst = some d -> oj.dst = some d -> i = j := fun i j oi oj d h1 h2 h3 h4 => by
  rcases Nat.lt_trichotomy i j with h | h | h
  ·exact absurd h4 (hdne i j oi oj d h1 h2 h h3)
  ·exact h
  ·exact absurd h3 (hdne j i oj oi d h2 h1 h h4)
 have hdn : ∀ (j : Nat) o d, all[j]? = some o -> o.dst = some d -> d < n := fun j o d h1 h2 => by
  have := List.all_eq_true.1 hdst o (by rw [Array.mem_toList_iff]; exact Array.mem_of_getElem? h1)
  simpa [h2] using this
 obtain ⟨hml, _, hms⟩ := masks_spec all.toList []
 -- the order that the edges force
 have hbit : ∀ {listed : Array Bool}, (∀ (i : Nat) o, all[i]? = some o -> listed[i]? = some true -> ∀ e ∈ o.after, Region.binds .any e = true -> listed[e.on]? = some true) ->
   ∀ (i : Nat) o, all[i]? = some o -> (∀ e ∈ o.after, Region.binds .any e = true -> listed[e.on]? = some true) -> ∀ k, ((masks all.toList []).getD i 0).testBit k = true -> listed[k]? = some true := by
  intro listed hcl i
  induction i using Nat.strongRecOn with
  | _ i ih =>
   intro o ho hafter k hk
   obtain ⟨pre, h1, h2, h3⟩ := hms i o (by simpa using ho)
   simp only [List.length_nil, Nat.zero_add] at h1 h3
   have h4 : (masks all.toList []).getD i 0 = mask1 pre o := by simp [List.getD, h3]
   rw [h4] at hk
   obtain ⟨e, he, hb, h5⟩ := mask1_spec hk
   have he1 := hafter e he hb
   rcases h5 with rfl | h5
   ·exact he1
   ·have hlt := hedge i o ho e he hb
    have h6 : pre.getD e.on 0 = (masks all.toList []).getD e.on 0 := by simp only [List.getD, h2 e.on (by omega)]
    rw [h6] at h5
    have hsz : e.on < all.size := by have := (Array.getElem?_eq_some_iff.1 ho).1; omega
    have hoe : all[e.on]? = some all[e.on] := Array.getElem?_eq_getElem hsz
    exact ih e.on hlt _ hoe (hcl e.on _ hoe he1) k h5
 have hT0 := hT.le
 have hfrB := hT.frB
 have hfrA := hT.frA hdu
 have hVA := hT.VA
 obtain ⟨hun, o2, ho2, hafter⟩ := mem_ready.1 hj
 obtain rfl : o = o2 := by rw [ho] at ho2; exact Option.some.inj ho2
 have hju := unlisted_of hun
 have hjn : j < all.size := (Array.getElem?_eq_some_iff.1 ho).1
 have hjl : j < listed.size := by rw [hD.lsize]; exact hjn
 have hafter' : ∀ e ∈ o.after, Region.binds .any e = true -> listed[e.on]? = some true := fun e he hb => listed_iff.1 (hafter e he hb)
 have hbefore : ∀ k, ((masks all.toList []).getD j 0).testBit k = true -> listed[k]? = some true := hbit hD.closed j o ho hafter'
 have hbehind : ∀ (i : Nat) oi, all[i]? = some oi -> listed[i]? = some true -> ((masks all.toList []).getD i 0).testBit j = false := fun i oi hoi hli => by
  cases hb : ((masks all.toList []).getD i 0).testBit j with
  | false => rfl
  | true => have := hbit hD.closed i oi hoi (hD.closed i oi hoi hli) j hb; rw [hju] at this; simp at this
 -- what the operation looks at
 have hlooks : ∀ t ∈ o.looksAt all, ∀ x, look (σ j).fr t = some x -> ∃ u, a.tmps[t]? = some u /\ RepV g w (σ k0).A x u := by
  intro t ht x hx
  by_cases hex : ∃ (i : Nat) (oi : Oper), i < j /\ all[i]? = some oi /\ oi.dst = some t
  ·obtain ⟨i, oi, hij, hoi, hdt⟩ := hex
   rw [hfrA j i oi t (by omega) hij hoi hdt] at hx
   have hp := hpair i j oi o hoi ho hij
   have htc : touch all oi o = true := by simp only [touch, hdt]; simpa using ht
   simp only [pairOk, htc, Bool.and_eq_true, Bool.or_eq_true] at hp
   have hb : ((masks all.toList []).getD j 0).testBit i = true := by simpa using hp.2
   exact hD.slot1 i oi t x hoi (hbefore i hb) hdt hx
  ·rw [hfrB j t (by omega) (fun i oi hij hoi hdt => hex ⟨i, oi, hij, hoi, hdt⟩)] at hx
   refine hD.slot0 t x (fun i oi hoi hli hdt => ?_) hx
   rcases Nat.lt_trichotomy i j with h | h | h
   ·exact hex ⟨i, oi, h, hoi, hdt⟩
   ·subst h; rw [hju] at hli; simp at hli
   ·have hp := hpair j i o oi ho hoi h
    have htc : touch all oi o = true := by simp only [touch, hdt]; simpa using ht
    have hb := hbehind i oi hoi hli
    simp only [pairOk, htc, hb, Bool.and_eq_true, Bool.or_eq_true] at hp
    simp at hp
 let fr' := (σ j).fr.filter fun p => (o.looksAt all).contains p.1
 have hlk : ∀ t, look fr' t = if (o.looksAt all).contains t then look (σ j).fr t else none := fun t => look_filter (fun t => (o.looksAt all).contains t) (σ j).fr t
 have hS : ∀ (V : List (List CV)), Slots g w ⟨fr', V, (σ k0).A⟩ a := fun V t x hx => by
  simp only [hlk] at hx
  split at hx
  ·rename_i hc; exact hlooks t (by simpa using hc) x hx
  ·cases hx
 have hop : ∀ (V V' : List (List CV)) (A A' : List Arr), ∀ x ∈ o.op.operands.toList, aval ⟨fr', V, A⟩ x = aval ⟨(σ j).fr, V', A'⟩ x := fun V V' A A' x hx => by
  cases x with
  | tmp t =>
   simp only [aval, hlk]
   rw [if_pos]
   simp only [Oper.looksAt, List.contains_eq_mem, decide_eq_true_eq, List.mem_append, List.mem_filterMap]
   exact .inl ⟨.tmp t, hx, rfl⟩
  | _ => rfl
 have hRr : Rp n w g ⟨fr', (σ k0).V, (σ k0).A⟩ g a w := ⟨hD.inv, hD.fr, hD.size, hD.defers, hS _⟩
 have hwant : Region.wanted o (yielded all a.tmps) = true := by simp [Region.wanted, hgn j o ho]
 -- the state behind it
 have hset : ∀ i, (listed.setIfInBounds j true)[i]? = if i = j then some true else listed[i]? := fun i => by
  by_cases e : i = j
  ·subst e; simp [hjl]
  ·rw [if_neg e, Array.getElem?_setIfInBounds_ne (fun h => e h.symm)]
 have hnext : ∀ (σ' : Nat -> St) (k1 : Nat) (x : AV) (v : Value) (w' : World) (g' : Gh), (∀ i, i <= c -> σ' i = σ i) -> look (σ' (j + 1)).fr = look ((σ j).put o.dst x [] []).fr -> RepV g' w' (σ k1).A x v -> Inv g' w' (σ k1).V (σ k1).A -> Ext g w (σ k0).A g' w' (σ k1).A -> Tab w' g' -> k1 <= c ->
   (∀ i ∈ ws, i < all.size -> ((listed.setIfInBounds j true)[i]? = some true ↔ i < k1)) -> DS all ws σ' n w' g' (listed.setIfInBounds j true) k1 g' (a.put o.dst v) w' := by
  intro σ' k1 x v w' g' hσ hfr hrv hI hx hF hk hwp
  have hputs : ∀ t u, o.dst ≠ some t -> a.tmps[t]? = some u -> (a.put o.dst v).tmps[t]? = some u := fun t u hne hu => by
   cases hdd : o.dst with
   | none => exact hu
   | some d =>
    simp only [Act.put]
    rw [Array.getElem?_setIfInBounds_ne (fun e => hne (by rw [hdd, e]))]; exact hu
  refine ⟨by rw [hσ k1 hk]; exact hI, .refl hF, ?_, ?_, by simp [hD.lsize], fun i oi t y hoi hli hdt hy => ?_, fun t y hno hy => ?_, hwp, by omega, fun i oi hoi hli e he hb => ?_⟩
  ·cases o.dst <;> simp [Act.put, hD.size]
  ·cases o.dst <;> simp [Act.put, hD.defers]
  ·rw [hσ k1 hk]
   rw [hset] at hli
   by_cases e : i = j
   ·subst e
    obtain rfl : o = oi := by rw [ho] at hoi; exact Option.some.inj hoi
    rw [hfr] at hy
    simp only [St.put, hdt, look, if_true] at hy
    cases hy
    refine ⟨v, ?_, hrv⟩
    have : t < a.tmps.size := by rw [hD.size]; exact hdn i o t ho hdt
    simp [Act.put, hdt, this]
   ·rw [if_neg e] at hli
    rw [hσ (i + 1) (hlc i hli)] at hy
    obtain ⟨u, h1, h2⟩ := hD.slot1 i oi t y hoi hli hdt hy
    exact ⟨u, hputs t u (fun h => e (hdu i j oi o t hoi ho hdt h)) h1, RepV.ext hx h2⟩
  ·rw [hσ k1 hk]
   rw [hσ 0 (Nat.zero_le _)] at hy
   have hne : o.dst ≠ some t := hno j o ho (by rw [hset, if_pos rfl])
   obtain ⟨u, h1, h2⟩ := hD.slot0 t y (fun i oi hoi hli => hno i oi hoi (by
    rw [hset]
    by_cases e : i = j
    ·rw [if_pos e]
    ·rw [if_neg e]; exact hli)) hy
   exact ⟨u, hputs t u hne h1, RepV.ext hx h2⟩
  ·rw [hset] at hli ⊢
   have : listed[e.on]? = some true := by
    by_cases e' : i = j
    ·subst e'
     obtain rfl : o = oi := by rw [ho] at hoi; exact Option.some.inj hoi
     exact hafter' e he hb
    ·rw [if_neg e'] at hli
     exact hD.closed i oi hoi hli e he hb
   by_cases e' : e.on = j
   ·rw [if_pos e']
   ·rw [if_neg e']; exact this
 have hwp0 : j ∉ ws -> ∀ i ∈ ws, i < all.size -> ((listed.setIfInBounds j true)[i]? = some true ↔ i < k0) := fun hjw i hi hin => by
  rw [hset, if_neg (fun e => hjw (by rw [<- e]; exact hi))]
  exact hD.wprog i hi hin
 have hva : isS o.op = false -> (σ j).V = (σ k0).V /\ (σ j).A = (σ k0).A := by
  intro hns
  rcases Nat.le_total j k0 with h | h
  ·have := hVA k0 j h hk0 (fun i h1 h2 h3 => by
    have hin : i < all.size := by omega
    have hli := (hD.wprog i h3 hin).2 h2
    have hoi : all[i]? = some all[i] := Array.getElem?_eq_getElem hin
    rcases Nat.lt_or_ge j i with h4 | h4
    ·have hp := hpair j i o _ ho hoi h4
     have hb := hbehind i _ hoi hli
     simp only [pairOk, hb, Bool.and_eq_true, Bool.or_eq_true] at hp
     simp [h3, hns, -isS] at hp
    ·obtain rfl : i = j := by omega
     rw [hju] at hli; simp at hli)
   exact ⟨this.1.symm, this.2.symm⟩
  ·exact hVA j k0 h hjc (fun i h1 h2 h3 => by
    have hin : i < all.size := by omega
    have hoi : all[i]? = some all[i] := Array.getElem?_eq_getElem hin
    have hp := hpair i j _ o hoi ho h2
    simp only [pairOk, Bool.and_eq_true, Bool.or_eq_true] at hp
    have hb : ((masks all.toList []).getD j 0).testBit i = true := by
     rcases hp.2 with h4 | h4
     ·simp [h3, hns, -isS] at h4
     ·exact h4
    have := (hD.wprog i h3 hin).1 (hbefore i hb)
    omega)
 unfold wpOp
 simp only [ho]
 rw [if_pos hwant]
 refine ⟨fun hjc' hst ih => .inl ?_, fun hjc' hns hjw hJ K hcall ih => .inl ?_⟩
 ·obtain ⟨x, V, A, h2, h3⟩ := hst
  have hfrj : look (σ (j + 1)).fr = look ((σ j).put o.dst x [] []).fr := by rw [h2]; rfl
  by_cases hs : isS o.op = true
  ·-- slots alone
   have hjw : j ∉ ws := fun h => by have := hws j o ho h; rw [hs] at this; simp at this
   have h4 : astep P ⟨fr', (σ k0).V, (σ k0).A⟩ (ow j) o (fun y V' A' => y = x /\ V' = (σ k0).V /\ A' = (σ k0).A) := astep_S (s := σ j) (s' := ⟨fr', (σ k0).V, (σ k0).A⟩) hs (hop _ _ _ _) h3 ⟨rfl, rfl, rfl⟩
   obtain ⟨y, V', A', ⟨rfl, rfl, rfl⟩, h5⟩ := astep_wp hRr.inv hRr.fr hRr.slot h4
   exact h5 _ _ fun v w' g' h6 h7 h8 h9 => ih k0 v g' w' hk0 (hnext σ k0 y v w' g' (fun _ _ => rfl) hfrj h6 h7 h8 h9.now hk0 (hwp0 hjw)) h9
  ·have hns : isS o.op = false := by simpa [-isS] using hs
   obtain ⟨hv1, hv2⟩ := hva hns
   have h4 : astep P ⟨fr', (σ k0).V, (σ k0).A⟩ (ow j) o (fun y V' A' => y = x /\ V' = V /\ A' = A) := by
    rw [<- hv1, <- hv2]
    exact astep_congr (fr := (σ j).fr) (hop _ _ _ _) (h3 _ ⟨rfl, rfl, rfl⟩)
   obtain ⟨y, V', A', ⟨rfl, rfl, rfl⟩, h5⟩ := astep_wp hRr.inv hRr.fr hRr.slot h4
   have hVj : (σ (j + 1)).V = V' := by rw [h2]; rfl
   have hAj : (σ (j + 1)).A = A' := by rw [h2]; rfl
   by_cases hjw : j ∈ ws
   ·refine h5 _ _ fun v w' g' h6 h7 h8 h9 => ih (j + 1) v g' w' hjc' (hnext σ (j + 1) y v w' g' (fun _ _ => rfl) hfrj (by rw [hAj]; exact h6) (by rw [hVj, hAj]; exact h7) (by rw [hAj]; exact h8) h9.now hjc' (fun i hi hin => ?_)) h9
    have hoi : all[i]? = some all[i] := Array.getElem?_eq_getElem hin
    rw [hset]
    by_cases e : i = j
    ·subst e; simp
    ·rw [if_neg e]
     constructor
     ·intro hli
      rcases Nat.lt_or_ge j i with h | h
      ·have hp := hpair j i o _ ho hoi h
       have hb := hbehind i _ hoi hli
       simp only [pairOk, hb, Bool.and_eq_true, Bool.or_eq_true] at hp
       simp [hi, hns, -isS] at hp
      ·omega
     ·intro hlt
      have hp := hpair i j _ o hoi ho (by omega)
      simp only [pairOk, Bool.and_eq_true, Bool.or_eq_true] at hp
      rcases hp.2 with h | h
      ·simp [hi, hns, -isS] at h
      ·exact hbefore i h
   ·obtain ⟨x2, V2, A2, q1, q2⟩ := hT.tr j o hjc' ho
    rcases q2 with q2 | ⟨q2, q3⟩
    ·exact absurd q2 hjw
    have ho1 : (σ (j + 1)).V = (σ j).V := by rw [q1]; exact q2
    have ho2 : (σ (j + 1)).A = (σ j).A := by rw [q1]; exact q3
    refine h5 _ _ fun v w' g' h6 h7 h8 h9 => ih k0 v g' w' hk0 (hnext σ k0 y v w' g' (fun _ _ => rfl) hfrj ?_ ?_ ?_ h9.now hk0 (hwp0 hjw)) h9
    ·rw [<- hv2, <- ho2, hAj]; exact h6
    ·rw [<- hv1, <- hv2, <- ho1, <- ho2, hVj, hAj]; exact h7
    ·have e1 : (σ k0).A = A' := by rw [<- hv2, <- ho2, hAj]
     rw [e1] at h8 ⊢; exact h8
 ·-- the call
  subst hjc'
  have hRJ : RpJ n w0 g0 X ⟨fr', (σ k0).V, (σ k0).A⟩ L S g a w := ⟨hD.inv, hJ.fr, hD.size, hD.defers, hS _, hJ.trs, hJ.nd, hJ.out⟩
  obtain ⟨hv1, hv2⟩ := hva hns
  refine astepJ_wp hRJ (callJ_astep (s := σ j) (ow := ow j) (hop _ _ _ _) hcall) _ _ ?_
  rintro x V' A' L' S' v w' g' ⟨rfl, rfl, hk⟩ h6 h7 h8 h9 h10 h11 h12
  refine ih x L' S' v g' w' hk (fun σ' hσ hn => hnext σ' k0 x v w' g' hσ (by rw [hn]; rfl) h6 h7 h8 h9.now hk0 (hwp0 hjw)) ⟨h9, h10, h11, h12⟩

theorem drawP_end (hd : drawOk all ws = true) {σ : Nat -> St} (hT : Trc all ws σ all.size) {listed : Array Bool} {k0 : Nat} (hD : DS all ws σ n w g listed k0 g a w) (hall : ∀ i, i < all.size -> listed[i]? = some true) (hJ : Jb w0 g0 X L S g w) : RpJ n w0 g0 X (σ all.size) L S g a w := by
 simp only [drawOk, Bool.and_eq_true, List.all_eq_true] at hd
 obtain ⟨⟨hd1, hd2⟩, hd3⟩ := hd
 -- the checks, read
 have hmem : ∀ (j : Nat) o, all[j]? = some o -> (o, j) ∈ all.toList.zipIdx := fun j o h => by
  rw [List.mem_iff_getElem?]
  exact ⟨j, by simp [List.getElem?_zipIdx, h]⟩
 have hedge : ∀ (j : Nat) o, all[j]? = some o -> ∀ e ∈ o.after, Region.binds .any e = true -> e.on < j := fun j o h e he hb => by
  have := hd1 _ (hmem j o h) e (Array.mem_toList_iff.2 he)
  simpa [hb] using this
 have hpair : ∀ (i j : Nat) oi oj, all[i]? = some oi -> all[j]? = some oj -> i < j -> pairOk all ws (masks all.toList []) oi oj i j = true := fun i j oi oj h1 h2 hlt => by
  have := hd2 _ (hmem j oj h2) _ (hmem i oi h1)
  simpa [hlt] using this
 have hws : ∀ (j : Nat) o, all[j]? = some o -> j ∈ ws -> isS o.op = false := fun j o h hj => by
  have := hd3 _ (hmem j o h)
  simpa [hj] using this
 have hdne : ∀ (i j : Nat) oi oj d, all[i]? = some oi -> all[j]? = some oj -> i < j -> oi.dst = some d -> oj.dst ≠ some d := fun i j oi oj d h1 h2 hlt h3 h4 => by
  have := hpair i j oi oj h1 h2 hlt
  simp [pairOk, h3, h4] at this
 have hdu : ∀ (i j : Nat) oi oj d, all[i]? = some oi -> all[j]? = some oj -> oi.dst = some d -> oj.dst = some d -> i = j := fun i j oi oj d h1 h2 h3 h4 => by
  rcases Nat.lt_trichotomy i j with h | h | h
  ·exact absurd h4 (hdne i j oi oj d h1 h2 h h3)
  ·exact h
  ·exact absurd h3 (hdne j i oj oi d h2 h1 h h4)
 have hva := hT.VA all.size k0 hD.kle (Nat.le_refl _) (fun i h1 h2 h3 => by have := (hD.wprog i h3 h2).1 (hall i h2); omega)
 refine ⟨by rw [hva.1, hva.2]; exact hD.inv, hJ.fr, hD.size, hD.defers, fun t x hx => ?_, hJ.trs, hJ.nd, hJ.out⟩
 rw [hva.2]
 by_cases hex : ∃ (i : Nat) (o : Oper), all[i]? = some o /\ o.dst = some t
 ·obtain ⟨i, o, ho, hdt⟩ := hex
  have hi := (Array.getElem?_eq_some_iff.1 ho).1
  rw [hT.frA hdu all.size i o t (Nat.le_refl _) hi ho hdt] at hx
  exact hD.slot1 i o t x ho (hall i hi) hdt hx
 ·rw [hT.frB all.size t (Nat.le_refl _) (fun i o _ ho hdt => hex ⟨i, o, ho, hdt⟩)] at hx
  exact hD.slot0 t x (fun i o ho _ hdt => hex ⟨i, o, ho, hdt⟩) hx

def callsOk (all : Array Oper) (ws cs : List Nat) : Bool :=
 let l := all.toList.zipIdx
 let ms := masks all.toList []
 (cs.all fun c => !ws.contains c && l.all fun (_, j) => !(decide (c < j)) || (ms.getD j 0).testBit c) && (l.all fun (o, _) => o.guard.isNone) && (l.all fun (o, j) => !cs.contains j || !isS o.op)

theorem drawP_sound {cs : List Nat} {ow : Nat -> Bool} {K : St -> Ts -> Prop} {Q : Exit -> Act -> World -> Prop} (hd : drawOk all ws = true) (hc : callsOk all ws cs = true) (hdst : dstsOk n all.toList = true)
  (hQ : ∀ s' L' S' g' a' w', K s' L' -> RpJ n w0 g0 X s' L' S' g' a' w' -> Q .normal a' w') :
  ∀ (fuel : Nat) (σ : Nat -> St) (c : Nat) (L : Ts) (S : List Nat) (listed : Array Bool) (k0 : Nat) (g : Gh) (a : Act) (w : World), ((List.range all.size).filter fun i => !listed.getD i true).length <= fuel -> Trc all ws σ c -> k0 <= c ->
   (∀ (j : Nat) o, j < c -> all[j]? = some o -> listed[j]? ≠ some true -> DetS P (ow j) o (σ j) (σ (j + 1))) -> (∀ i, listed[i]? = some true -> i < c) ->
   ((c = all.size /\ K (σ c) L) \/ (c ∈ cs /\ ∃ o, all[c]? = some o /\ callJ P (σ c) L o fun x L' => aopsP P ow ws cs K (c + 1) (all.toList.drop (c + 1)) ((σ c).put o.dst x (σ c).V (σ c).A) L')) ->
   DS all ws σ n w g listed k0 g a w -> Jb w0 g0 X L S g w -> wpAny P .any all Q fuel listed a w := by
 have hd0 := hd
 simp only [drawOk, Bool.and_eq_true, List.all_eq_true] at hd
 obtain ⟨⟨hd1, hd2⟩, hd3⟩ := hd
 -- the checks, read
 have hmem : ∀ (j : Nat) o, all[j]? = some o -> (o, j) ∈ all.toList.zipIdx := fun j o h => by
  rw [List.mem_iff_getElem?]
  exact ⟨j, by simp [List.getElem?_zipIdx, h]⟩
 have hedge : ∀ (j : Nat) o, all[j]? = some o -> ∀ e ∈ o.after, Region.binds .any e = true -> e.on < j := fun j o h e he hb => by
  have := hd1 _ (hmem j o h) e (Array.mem_toList_iff.2 he)
  simpa [hb] using this
 have hpair : ∀ (i j : Nat) oi oj, all[i]? = some oi -> all[j]? = some oj -> i < j -> pairOk all ws (masks all.toList []) oi oj i j = true := fun i j oi oj h1 h2 hlt => by
  have := hd2 _ (hmem j oj h2) _ (hmem i oi h1)
  simpa [hlt] using this
 have hws : ∀ (j : Nat) o, all[j]? = some o -> j ∈ ws -> isS o.op = false := fun j o h hj => by
  have := hd3 _ (hmem j o h)
  simpa [hj] using this
 have hdne : ∀ (i j : Nat) oi oj d, all[i]? = some oi -> all[j]? = some oj -> i < j -> oi.dst = some d -> oj.dst ≠ some d := fun i j oi oj d h1 h2 hlt h3 h4 => by
  have := hpair i j oi oj h1 h2 hlt
  simp [pairOk, h3, h4] at this
 have hdu : ∀ (i j : Nat) oi oj d, all[i]? = some oi -> all[j]? = some oj -> oi.dst = some d -> oj.dst = some d -> i = j := fun i j oi oj d h1 h2 h3 h4 => by
  rcases Nat.lt_trichotomy i j with h | h | h
  ·exact absurd h4 (hdne i j oi oj d h1 h2 h h3)
  ·exact h
  ·exact absurd h3 (hdne j i oj oi d h2 h1 h h4)
 simp only [callsOk, Bool.and_eq_true, List.all_eq_true] at hc
 obtain ⟨⟨hc1, hc2⟩, hc3⟩ := hc
 have hgn : ∀ (j : Nat) o, all[j]? = some o -> o.guard = none := fun j o h => by
  have := hc2 _ (hmem j o h)
  simpa using this
 have hcw : ∀ c ∈ cs, c ∉ ws := fun c h => by simpa using (hc1 c h).1
 have hcS : ∀ c ∈ cs, ∀ o, all[c]? = some o -> isS o.op = false := fun c h o ho => by
  have := hc3 _ (hmem c o ho)
  simpa [h, -isS] using this
 have hcb : ∀ c ∈ cs, ∀ (j : Nat) o, all[j]? = some o -> c < j -> ((masks all.toList []).getD j 0).testBit c = true := fun c h j o ho hlt => by
  have := (hc1 c h).2 _ (hmem j o ho)
  simpa [hlt] using this
 have hready : ∀ {listed : Array Bool}, Region.ready .any all listed = [] -> listed.size = all.size -> ∀ i, i < all.size -> listed[i]? = some true := by
  intro listed hr hls i
  induction i using Nat.strongRecOn with
  | _ i ih =>
   intro hi
   have ho : all[i]? = some all[i] := Array.getElem?_eq_getElem hi
   have hli : i < listed.size := by omega
   cases hl : listed[i] with
   | true => rw [Array.getElem?_eq_getElem hli, hl]
   | false =>
    exfalso
    have : i ∈ Region.ready .any all listed := mem_ready.2 ⟨by simp [hli, hl], _, ho, fun e he hb => listed_iff.2 (ih e.on (hedge i _ ho e he hb) (by have := hedge i _ ho e he hb; omega))⟩
    rw [hr] at this; simp at this
 have hend : ∀ {σ : Nat -> St} {c : Nat} {L : Ts} {S : List Nat} {listed : Array Bool} {k0 : Nat} {g : Gh} {a : Act} {w : World}, Trc all ws σ c -> (∀ i, listed[i]? = some true -> i < c) ->
   ((c = all.size /\ K (σ c) L) \/ (c ∈ cs /\ ∃ o, all[c]? = some o /\ callJ P (σ c) L o fun x L' => aopsP P ow ws cs K (c + 1) (all.toList.drop (c + 1)) ((σ c).put o.dst x (σ c).V (σ c).A) L')) ->
   DS all ws σ n w g listed k0 g a w -> Jb w0 g0 X L S g w -> Region.ready .any all listed = [] -> Q .normal a w := by
  intro σ c L S listed k0 g a w hT hlc hK hD hJ hr
  have hall := hready hr hD.lsize
  rcases hK with ⟨rfl, hK⟩ | ⟨hcc, o, ho, _⟩
  ·exact hQ _ _ _ _ _ _ hK (drawP_end hd0 hT hD hall hJ)
  ·have hin := (Array.getElem?_eq_some_iff.1 ho).1
   have := hlc c (hall c hin)
   omega
 intro fuel
 induction fuel with
 | zero =>
  intro σ c L S listed k0 g a w hf hT hk0 hdet hlc hK hD hJ
  have hnil : Region.ready .any all listed = [] := by
   have h0 : ((List.range all.size).filter fun i => !listed.getD i true) = [] := List.eq_nil_of_length_eq_zero (by omega)
   rcases hr : Region.ready .any all listed with _ | ⟨j, r⟩
   ·rfl
   ·have hj : j ∈ Region.ready .any all listed := by rw [hr]; simp
    obtain ⟨h1, o, h2, _⟩ := mem_ready.1 hj
    have : j ∈ ((List.range all.size).filter fun i => !listed.getD i true) := by
     rw [List.mem_filter, List.mem_range]
     exact ⟨(Array.getElem?_eq_some_iff.1 h2).1, by simp [h1]⟩
    rw [h0] at this; simp at this
  exact ⟨hnil, hend hT hlc hK hD hJ hnil⟩
 | succ fuel ih =>
  intro σ c L S listed k0 g a w hf hT hk0 hdet hlc hK hD hJ
  refine ⟨fun hr => hend hT hlc hK hD hJ hr, fun j hj => ?_⟩
  obtain ⟨hun, o, ho, hafter⟩ := mem_ready.1 hj
  have hju := unlisted_of hun
  have hjn : j < all.size := (Array.getElem?_eq_some_iff.1 ho).1
  have hjl : j < listed.size := by rw [hD.lsize]; exact hjn
  have hafter' : ∀ e ∈ o.after, Region.binds .any e = true -> listed[e.on]? = some true := fun e he hb => listed_iff.1 (hafter e he hb)
  have hset : ∀ i, (listed.setIfInBounds j true)[i]? = if i = j then some true else listed[i]? := fun i => by
   by_cases e : i = j
   ·subst e; simp [hjl]
   ·rw [if_neg e, Array.getElem?_setIfInBounds_ne (fun h => e h.symm)]
  have hcount : ((List.range all.size).filter fun i => !(listed.setIfInBounds j true).getD i true).length <= fuel := by
   have hlt : ((List.range all.size).filter fun i => !(listed.setIfInBounds j true).getD i true).length < ((List.range all.size).filter fun i => !listed.getD i true).length := by
    have hsub : ∀ i, (!(listed.setIfInBounds j true).getD i true) = true -> (!listed.getD i true) = true := fun i h => by
     by_cases e : i = j
     ·subst e; simp [hjl] at h
     ·have : (listed.setIfInBounds j true).getD i true = listed.getD i true := by
       simp only [Array.getD_eq_getD_getElem?, hset, if_neg e]
      rwa [this] at h
    exact filter_lt hsub (List.mem_range.2 hjn) (by simp [hun]) (by simp [hjl])
   omega
  have hjc : j <= c := by
   rcases hK with ⟨rfl, _⟩ | ⟨hcc, oc, hoc, _⟩
   ·omega
   ·rcases Nat.lt_or_ge c j with h | h
    ·have := hlc c (bit_listed hedge hD.closed j o ho hafter' c (hcb c hcc j o ho h))
     omega
    ·exact h
  obtain ⟨one1, one2⟩ := drawP_one (cs := cs) (w0 := w0) (g0 := g0) (X := X) (L := L) (S := S) (ow := ow) hd0 hgn hdst hT hD hk0 hlc hj hjc ho (next := wpAny P .any all Q fuel (listed.setIfInBounds j true)) (Q := Q)
  rcases Nat.lt_or_eq_of_le hjc with hlt | rfl
  ·refine one1 hlt (hdet j o hlt ho (by rw [hju]; simp)) fun k1 v g' w' hk1 hD' hF => ih σ c L S _ k1 g' _ w' hcount hT hk1 (fun i oi hi hoi hli => hdet i oi hi hoi fun h => hli ?_) (fun i hi => ?_) hK hD' (hJ.fr' hF)
   ·rw [hset]
    by_cases e : i = j
    ·rw [if_pos e]
    ·rw [if_neg e]; exact h
   ·rw [hset] at hi
    by_cases e : i = j
    ·subst e; exact hlt
    ·rw [if_neg e] at hi; exact hlc i hi
  ·rcases hK with ⟨h, _⟩ | ⟨hcc, oc, hoc, hcall⟩
   ·omega
   obtain rfl : o = oc := by rw [ho] at hoc; exact Option.some.inj hoc
   refine one2 rfl (hcS j hcc o ho) (hcw j hcc) hJ _ hcall fun x L' S' v g' w' hk hDS hJ' => ?_
   obtain ⟨τ, m, k1, k2, k3, k4⟩ := aopsP_trace _ _ _ _ hk
   have hlen : (all.toList.drop (j + 1)).length = all.size - (j + 1) := by simp
   let σ' : Nat -> St := fun i => if i <= j then σ i else τ (i - (j + 1))
   have e1 : ∀ i, i <= j -> σ' i = σ i := fun i hi => by simp only [σ', if_pos hi]
   have e2 : ∀ i, σ' (j + 1 + i) = τ i := fun i => by simp only [σ', if_neg (show ¬ j + 1 + i <= j by omega)]; congr 1; omega
   have e3 : ∀ i, (all.toList.drop (j + 1))[i]? = all[j + 1 + i]? := fun i => by simp
   have hput : σ' (j + 1) = (σ j).put o.dst x (σ j).V (σ j).A := by rw [<- k2]; exact e2 0
   refine ih σ' (j + 1 + m) L' S' _ k0 g' _ w' hcount ⟨by omega, fun i oi hi hoi => ?_⟩ (by omega) (fun i oi hi hoi hli => ?_) (fun i hi => ?_) ?_ (hDS σ' e1 hput) hJ'
   ·rcases Nat.lt_trichotomy i j with h | h | h
    ·rw [e1 i (by omega), e1 (i + 1) (by omega)]; exact hT.tr i oi h hoi
    ·subst h
     obtain rfl : o = oi := by rw [ho] at hoi; exact Option.some.inj hoi
     rw [e1 i (by omega), hput]
     exact ⟨x, _, _, rfl, .inr ⟨rfl, rfl⟩⟩
    ·obtain ⟨q, rfl⟩ : ∃ q, i = j + 1 + q := ⟨i - (j + 1), by omega⟩
     rw [e2 q, show j + 1 + q + 1 = j + 1 + (q + 1) by omega, e2 (q + 1)]
     exact (k3 q oi (by omega) (by rw [e3]; exact hoi)).2
   ·rw [hset] at hli
    by_cases e : i = j
    ·rw [if_pos e] at hli; simp at hli
    ·rw [if_neg e] at hli
     rcases Nat.lt_or_ge i j with h | h
     ·rw [e1 i (by omega), e1 (i + 1) (by omega)]; exact hdet i oi h hoi hli
     ·obtain ⟨q, rfl⟩ : ∃ q, i = j + 1 + q := ⟨i - (j + 1), by omega⟩
      rw [e2 q, show j + 1 + q + 1 = j + 1 + (q + 1) by omega, e2 (q + 1)]
      exact (k3 q oi (by omega) (by rw [e3]; exact hoi)).1
   ·rw [hset] at hi
    by_cases e : i = j
    ·omega
    ·rw [if_neg e] at hi
     have := hlc i hi
     omega
   ·rcases k4 with ⟨h1, h2⟩ | ⟨h1, oc, h2, h3⟩
    ·exact .inl ⟨by omega, by rw [e2]; exact h2⟩
    ·refine .inr ⟨h1, oc, by rw [<- e3]; exact h2, ?_⟩
     rw [e2]
     rw [List.drop_drop, show j + 1 + (m + 1) = j + 1 + m + 1 by omega] at h3
     exact h3
end
end Go.Av

namespace Go.Av
open Go

def pickOps (l : List Oper) (p : List Nat) : List Oper := p.map fun i => l.getD i default
def reEdge (p : List Nat) (o : Oper) : Oper := { o with after := o.after.map fun e => { e with on := p.idxOf e.on } }
def permOps (l : List Oper) (p : List Nat) : List Oper := (pickOps l p).map (reEdge p)
def permOk (l : List Oper) (p : List Nat) : Bool := p.length == l.length && p.all (fun i => decide (i < l.length)) && (List.range l.length).all (fun i => p.contains i) && l.all (fun o => o.guard.isNone) && (List.range p.length).all (fun j => p.idxOf (p.getD j 0) == j)

section
variable {P : Program} {l : List Oper} {p : List Nat} {md : Region.Mode} {Q : Exit -> Act -> World -> Prop}
theorem permOk_spec (h : permOk l p = true) : p.length = l.length /\ (∀ i ∈ p, i < l.length) /\ (∀ i, i < l.length -> i ∈ p) /\ (∀ o ∈ l, o.guard = none) /\ ∀ j, j < p.length -> p.idxOf (p.getD j 0) = j := by
 simp only [permOk, Bool.and_eq_true, List.all_eq_true] at h
 obtain ⟨⟨⟨⟨h1, h2⟩, h3⟩, h4⟩, h5⟩ := h
 refine ⟨by simpa using h1, fun i hi => by simpa using h2 i hi, fun i hi => by simpa using h3 i (List.mem_range.2 hi), fun o ho => by simpa using h4 o ho, fun j hj => by simpa using h5 j (List.mem_range.2 hj)⟩
theorem permOps_len : (permOps l p).length = p.length := by simp [permOps, pickOps]
theorem permOps_at (h : permOk l p = true) {i : Nat} {o : Oper} (ho : l[i]? = some o) : (permOps l p)[p.idxOf i]? = some (reEdge p o) := by
 obtain ⟨h1, h2, h3, h4, h5⟩ := permOk_spec h
 have hi := (List.getElem?_eq_some_iff.1 ho).1
 have hx : p[p.idxOf i]? = some i := by
  have hlt := List.idxOf_lt_length_of_mem (h3 i hi)
  rw [List.getElem?_eq_getElem hlt, List.getElem_idxOf hlt]
 simp only [permOps, pickOps, List.map_map, List.getElem?_map, hx, Option.map_some, Function.comp]
 rw [List.getD_eq_getElem?_getD, ho]; rfl
theorem permOps_back (h : permOk l p = true) {j : Nat} {o' : Oper} (ho : (permOps l p)[j]? = some o') : ∃ o, l[p.getD j 0]? = some o /\ o' = reEdge p o /\ p[j]? = some (p.getD j 0) := by
 obtain ⟨h1, h2, h3, h4, h5⟩ := permOk_spec h
 have hj : j < p.length := by have := (List.getElem?_eq_some_iff.1 ho).1; rwa [permOps_len] at this
 have e : p.getD j 0 = p[j] := by simp [List.getD, hj]
 have hlt := h2 p[j] (List.getElem_mem hj)
 simp only [permOps, pickOps, List.map_map, List.getElem?_map, List.getElem?_eq_getElem hj, Option.map_some, Function.comp, Option.some.injEq] at ho
 refine ⟨l[p[j]], by rw [e]; exact List.getElem?_eq_getElem hlt, ?_, by rw [e]; exact List.getElem?_eq_getElem hj⟩
 rw [<- ho, List.getD_eq_getElem?_getD, List.getElem?_eq_getElem hlt]; rfl

theorem getD_of {α : Type} {l : Array α} {i : Nat} {d : α} : l.getD i d = (l[i]?).getD d := Array.getD_eq_getD_getElem?
theorem wpAny_perm (h : permOk l p = true) : ∀ (fuel : Nat) (listed listed' : Array Bool) (a : Act) (w : World), listed.size = l.length -> listed'.size = l.length -> (∀ i, listed'[p.idxOf i]? = listed[i]?) -> wpAny P md (permOps l p).toArray Q fuel listed' a w -> wpAny P md l.toArray Q fuel listed a w := by
 obtain ⟨h1, h2, h3, h4, h5⟩ := permOk_spec h
 have hr : ∀ (listed listed' : Array Bool), (∀ i, listed'[p.idxOf i]? = listed[i]?) -> ∀ j, j ∈ Region.ready md l.toArray listed -> p.idxOf j ∈ Region.ready md (permOps l p).toArray listed' := fun listed listed' hrel j hj => by
  obtain ⟨q1, o, q2, q3⟩ := mem_ready.1 hj
  refine mem_ready.2 ⟨by rw [getD_of, hrel, <- getD_of]; exact q1, reEdge p o, ?_, fun e' he hb => ?_⟩
  ·have := permOps_at h (i := j) (o := o) (by simpa using q2)
   simpa using this
  ·simp only [reEdge, Array.mem_map] at he
   obtain ⟨e, he1, rfl⟩ := he
   have := q3 e he1 hb
   rw [getD_of, hrel, <- getD_of]; exact this
 have hr2 : ∀ (listed listed' : Array Bool), (∀ i, listed'[p.idxOf i]? = listed[i]?) -> listed'.size = l.length -> Region.ready md l.toArray listed = [] -> Region.ready md (permOps l p).toArray listed' = [] := fun listed listed' hrel hsz hn => by
  cases hx : Region.ready md (permOps l p).toArray listed' with
  | nil => rfl
  | cons j r =>
   exfalso
   have hj : j ∈ Region.ready md (permOps l p).toArray listed' := by rw [hx]; simp
   obtain ⟨q1, o', q2, q3⟩ := mem_ready.1 hj
   obtain ⟨o, q4, rfl, q5⟩ := permOps_back h (j := j) (o' := o') (by simpa using q2)
   have hjp : j < p.length := (List.getElem?_eq_some_iff.1 q5).1
   have hi := h5 j hjp
   have hrj : listed'[j]? = listed[p.getD j 0]? := by rw [<- hrel, hi]
   have hin : p.getD j 0 ∈ Region.ready md l.toArray listed := by
    refine mem_ready.2 ⟨by rw [getD_of, <- hrj, <- getD_of]; exact q1, o, by simpa using q4, fun e he hb => ?_⟩
    have := q3 { e with on := p.idxOf e.on } (by simp only [reEdge, Array.mem_map]; exact ⟨e, he, rfl⟩) hb
    rw [getD_of, <- hrel, <- getD_of]; exact this
   rw [hn] at hin
   simp at hin
 intro fuel
 induction fuel with
 | zero =>
  intro listed listed' a w s1 s2 hrel hh
  refine ⟨?_, hh.2⟩
  cases hx : Region.ready md l.toArray listed with
  | nil => rfl
  | cons j r =>
   have := hr listed listed' hrel j (by rw [hx]; simp)
   rw [hh.1] at this
   simp at this
 | succ fuel ih =>
  intro listed listed' a w s1 s2 hrel hh
  refine ⟨fun h0 => hh.1 (hr2 listed listed' hrel s2 h0), fun j hj => ?_⟩
  have hop := hh.2 _ (hr listed listed' hrel j hj)
  obtain ⟨q1, o, q2, q3⟩ := mem_ready.1 hj
  have q2' : l[j]? = some o := by simpa using q2
  have hjn := (List.getElem?_eq_some_iff.1 q2').1
  have q4 : (permOps l p).toArray[p.idxOf j]? = some (reEdge p o) := by simpa using permOps_at h q2'
  have hgo : o.guard = none := h4 o (List.mem_of_getElem? q2')
  have hK : ∀ a w, wpAny P md (permOps l p).toArray Q fuel (listed'.setIfInBounds (p.idxOf j) true) a w -> wpAny P md l.toArray Q fuel (listed.setIfInBounds j true) a w := fun a w => by
   refine ih _ _ a w (by simp [s1]) (by simp [s2]) fun i => ?_
   have hlt := List.idxOf_lt_length_of_mem (h3 j hjn)
   rw [Array.getElem?_setIfInBounds, Array.getElem?_setIfInBounds]
   by_cases e : j = i
   ·subst e
    rw [if_pos rfl, if_pos rfl, if_pos (by omega), if_pos (by omega)]
   ·rw [if_neg e, if_neg (fun e' => ?_), hrel]
    have hx : p[p.idxOf j]? = some j := by rw [List.getElem?_eq_getElem hlt, List.getElem_idxOf hlt]
    have hlt2 : p.idxOf i < p.length := by omega
    have hy : p[p.idxOf i]? = some i := by rw [List.getElem?_eq_getElem hlt2, List.getElem_idxOf hlt2]
    rw [<- e', hx] at hy
    exact e (Option.some.inj hy)
  unfold wpOp at hop ⊢
  simp only [q4] at hop
  simp only [q2]
  rw [if_pos (by simp [Region.wanted, reEdge, hgo])] at hop
  rw [if_pos (by simp [Region.wanted, hgo])]
  rcases hop with hop | ⟨hop, hl⟩
  ·exact .inl (Oper.wp_mono hK hop)
  ·exact .inr ⟨hop, hl⟩
end

section
variable {P : Program} {n : Nat} {s s' : St} {L L' : Ts} {x y : Code} {ws cs : List Nat} {ow : Nat -> Bool} {K : St -> Ts -> Prop}
theorem aopsP_re (p : List Nat) : ∀ (ops : List Oper) (i : Nat) (s : St) (L : Ts), aopsP P ow ws cs K i ops s L -> aopsP P ow ws cs K i (ops.map (reEdge p)) s L
 | [], _, _, _, h => h
 | o :: rest, i, s, L, h => by
  rcases h with ⟨h1, h2⟩ | ⟨h1, h2⟩
  ·exact .inl ⟨h1, callJ_map (o := o) (fun x L' h => aopsP_re p rest _ _ _ h) h2⟩
  ·exact .inr ⟨h1, astep_map (o := o) (fun x V A h => ⟨h.1, aopsP_re p rest _ _ _ h.2⟩) h2⟩

theorem TJ.region_drawP {Q : Exit -> St -> Ts -> Prop} {id : Nat} {l : List Oper} (hm : P.follows .mixedOrders = true) (p : List Nat) (ow : Nat -> Bool) (ws cs : List Nat) (hp : permOk l p = true) (hd : drawOk (permOps l p).toArray ws = true) (hc : callsOk (permOps l p).toArray ws cs = true)
  (h : aopsP P ow ws cs (fun s' L' => Q .normal s' L') 0 (pickOps l p) s L) : TJ P n (.region id l.toArray true) Q s L := by
 obtain ⟨p1, p2, p3, p4, p5⟩ := permOk_spec hp
 intro hok w0 g0 X S g a w hR
 have hok' : dstsOk n (permOps l p).toArray.toList = true := by
  have hx : dstsOk n l = true := by simpa [codeOk] using hok
  simp only [dstsOk, List.all_eq_true] at hx ⊢
  intro o' ho'
  obtain ⟨j, hj⟩ := List.getElem?_of_mem ho'
  obtain ⟨o, q1, rfl, _⟩ := permOps_back hp (j := j) (o' := o') (by simpa using hj)
  exact hx o (List.mem_of_getElem? q1)
 obtain ⟨τ, m, k1, k2, k3, k4⟩ := aopsP_trace (pickOps l p |>.map (reEdge p)) 0 s L (aopsP_re p _ _ _ _ h)
 obtain ⟨hI, hx⟩ := hR.inv.heap (w' := { w with drawn := w.drawn + 1 }) rfl
 have hF : Fr w g { w with drawn := w.drawn + 1 } g := (Fr.refl hR.fr.now).heap rfl rfl rfl rfl
 have hJ : Jb w0 g0 X L S g { w with drawn := w.drawn + 1 } := (Jb.mk hR.fr hR.trs hR.nd hR.out).fr' hF
 have hsz : (permOps l p).toArray.size = l.length := by simp [permOps_len, p1]
 have hat : ∀ (i : Nat), (permOps l p).toArray[i]? = (permOps l p)[i]? := fun i => by simp
 refine wp_region_any hm (wpAny_perm hp _ _ (Array.replicate l.length false) a _ (by simp) (by simp) (fun i => ?_) (drawP_sound (K := fun s' L' => Q .normal s' L') (ow := ow) hd hc hok' (fun s' L' S' g' a' w' h1 h2 => ⟨s', g', L', S', h1, h2⟩) _ τ m L S _ 0 g a _ ?_ ?_ (Nat.zero_le _) ?_ ?_ ?_ ?_ hJ))
 ·simp only [Array.getElem?_replicate]
  by_cases hi : i < l.length
  ·have := List.idxOf_lt_length_of_mem (p3 i hi)
   rw [if_pos (by omega), if_pos (by simpa using hi)]
  ·have hni : i ∉ p := fun h => hi (p2 i h)
   rw [if_neg (by rw [List.idxOf_eq_length hni]; omega), if_neg (by simpa using hi)]
 ·refine Nat.le_trans (List.length_filter_le _ _) (by simp [permOps_len, p1])
 ·refine ⟨by rw [hsz, <- p1, <- permOps_len (l := l)]; exact k1, fun j o hj ho => ?_⟩
  have := (k3 j o hj (by rw [hat] at ho; exact ho)).2
  simpa only [Nat.zero_add] using this
 ·intro j o hj ho _
  have := (k3 j o hj (by rw [hat] at ho; exact ho)).1
  simpa only [Nat.zero_add] using this
 ·intro i hi
  have hil := (Array.getElem?_eq_some_iff.1 hi).1
  simp at hil
  simp [hil] at hi
 ·rcases k4 with ⟨h1, h2⟩ | ⟨h1, oc, h2, h3⟩
  ·exact .inl ⟨by rw [h1]; simp [permOps], h2⟩
  ·refine .inr ⟨by simpa using h1, oc, by rw [hat]; exact h2, ?_⟩
   simp only [Nat.zero_add] at h3
   exact h3
 ·refine ⟨by rw [k2]; exact hI, .refl hF.now, hR.size, hR.defers, by simp [permOps_len, p1], fun i o t x ho hl => ?_, fun t x _ hx' => ?_, fun i _ hin => ?_, Nat.zero_le _, fun i o ho hl => ?_⟩
  ·have hi := (Array.getElem?_eq_some_iff.1 hl).1
   simp at hi
   simp [hi] at hl
  ·rw [k2] at hx' ⊢
   obtain ⟨u, h1, h2⟩ := hR.slot t x hx'
   exact ⟨u, h1, RepV.ext hx h2⟩
  ·rw [hsz] at hin
   simp [hin]
  ·have hi := (Array.getElem?_eq_some_iff.1 hl).1
   simp at hi
   simp [hi] at hl

structure OpsP (P : Program) (ow : Nat -> Bool) (ws cs : List Nat) (K : St -> Ts -> Prop) (i : Nat) (ops : List Oper) (s : St) (L : Ts) : Prop where
 mk ::
 run : aopsP P ow ws cs K i ops s L
variable {i : Nat} {o : Oper} {rest : List Oper}
theorem aopsP_go (hi : cs.contains i = false) (h : astep P s (ow i) o fun x V A => (i ∈ ws \/ (V = s.V /\ A = s.A)) /\ OpsP P ow ws cs K (i + 1) rest (s.put o.dst x V A) L) : OpsP P ow ws cs K i (o :: rest) s L :=
 ⟨.inr ⟨by simpa using hi, astep_map (fun x V A h => ⟨h.1, h.2.run⟩) h⟩⟩
theorem aopsP_call (hi : cs.contains i = true) (h : callJ P s L o fun x L' => OpsP P ow ws cs K (i + 1) rest (s.put o.dst x s.V s.A) L') : OpsP P ow ws cs K i (o :: rest) s L :=
 ⟨.inl ⟨by simpa using hi, callJ_map (fun x L' h => h.run) h⟩⟩
theorem aopsP_end (h : K s L) : OpsP P ow ws cs K i [] s L := ⟨h⟩
theorem OpsP.gen {ops : List Oper} {d : Nat} {b : Bool} {fr : List (Nat × AV)} {V : List (List CV)} {A : List Arr} (h : ∀ q : Bool, b = q -> OpsP P ow ws cs K i ops ⟨(d, .c (.d (.bool q))) :: fr, V, A⟩ L) : OpsP P ow ws cs K i ops ⟨(d, .c (.d (.bool b))) :: fr, V, A⟩ L := h b rfl
@[congr] theorem aopsP_cong {i i' : Nat} {ops : List Oper} (hi : i = i') (h : s = s') : OpsP P ow ws cs K i ops s L = OpsP P ow ws cs K i' ops s' L := by rw [h, hi]
@[congr] theorem wpcallP_cong {f : FuncId} {xs xs' : List AV} {K : AV -> Ts -> Prop} (hx : xs = xs') : wpcallP P L f xs K = wpcallP P L f xs' K := by subst hx; rfl
attribute [simp] callJ

theorem TJ.rdP {Q : Exit -> St -> Ts -> Prop} {id : Nat} {l : List Oper} (hm : P.follows .mixedOrders = true) (p : List Nat) (ow : Nat -> Bool) (ws cs : List Nat) (hp : permOk l p = true) (hd : drawOk (permOps l p).toArray ws = true) (hc : callsOk (permOps l p).toArray ws cs = true)
  (h : ∀ K : St -> Ts -> Prop, (∀ s' L', TJ P n y Q s' L' -> K s' L') -> OpsP P ow ws cs K 0 (pickOps l p) s L) : TJ P n (.seq (.region id l.toArray true) y) Q s L :=
 TJ.seq (TJ.region_drawP hm p ow ws cs hp hd hc (h _ fun _ _ h => h).run)
theorem TJ.rdP1 {Q : Exit -> St -> Ts -> Prop} {id : Nat} {l : List Oper} (hm : P.follows .mixedOrders = true) (p : List Nat) (ow : Nat -> Bool) (ws cs : List Nat) (hp : permOk l p = true) (hd : drawOk (permOps l p).toArray ws = true) (hc : callsOk (permOps l p).toArray ws cs = true)
  (h : ∀ K : St -> Ts -> Prop, (∀ s' L', Q .normal s' L' -> K s' L') -> OpsP P ow ws cs K 0 (pickOps l p) s L) : TJ P n (.region id l.toArray true) Q s L :=
 TJ.region_drawP hm p ow ws cs hp hd hc (h _ fun _ _ h => h).run

variable {f : FuncId} {xs as_ : List AV} {r : AV} {K' : AV -> Ts -> Prop}
theorem wpcallP_new {R : AV -> Ts -> Prop} (hfz : FzVs L xs as_) (hc : FCalls P f as_ [] R) (hK : ∀ r L1, R r L1 -> K' r (L1 ++ L)) : wpcallP P L f xs K' := ⟨as_, [], L, R, by simp, hfz, hc, hK⟩
theorem wpcallP_scal (hfz : FzVs L xs as_) (hc : ACalls P f as_ [] r [] []) (hs : r.scal = true) (hK : K' r L) : wpcallP P L f xs K' :=
 ⟨as_, [], L, _, by simp, hfz, FCalls.of_plain hc hs, by rintro r' L1 ⟨rfl, rfl⟩; exact hK⟩
end
end Go.Av
