/- A part of the library of this seat: a value-semantic program logic over the model, plain models, and walks of functions. -/
import Derived.Test.YtfdknjjnifnobaaM8
set_option linter.unusedVariables false
set_option linter.unusedSimpArgs false
namespace Go.Av
open Go
theorem Some_.elim {P : Program} {f : FuncId} {as_ : List AV} {α : Type} {enc : α → AV} {arr : α → List Arr} {good : α → Prop} (h : Some_ P f as_ (RV enc arr good)) : ∃ x, good x ∧ ACalls P f as_ [] (enc x) [] (arr x) := by
  obtain ⟨v, V, A, ⟨rfl, x, ⟨rfl, rfl⟩, hg⟩, hc⟩ := h
  exact ⟨x, hg, hc⟩

end Go.Av

namespace Go.Av
open Go
section
variable {P : Program} {s : St} {f : FuncId} {xs as_ : List AV} {K : AV → List (List CV) → List Arr → Prop} {r : AV}
/-- One own array is handed over, and comes back changed. -/
theorem wpcall_hand (h : Nat) {a a' : Arr} (hc : ACallsG P f as_ [] [a] r [] [a']) (ha : s.A[h]? = some a) (hw : a.wr = true) (hz : a'.sz = a.sz) (hin : innAsH [h] xs = some as_)
    (hK : K (r.outnH [h] s.A.length) s.V (s.A.set h a')) : wpcall P s f xs K := by
  refine .inr ⟨[h], as_, r, [a'], by simp, fun i h' hi => ?_, hin, ?_, ?_⟩
  · match i with
    | 0 => simp at hi; subst hi; exact ⟨a, a', ha, hw, rfl, hz⟩
    | i + 1 => simp at hi
  · simpa [ha] using hc
  · simpa [putL] using hK
theorem DoneG.g {fn : Func} {e : Exit} {m a : Nat} {V' : List (List CV)} {A' : List Arr} {ys : List AV} (he : e = .normal ∨ e = .ret) (hr : (ares P s fn.results.toList).bind (resAs s.A (List.range m) (List.range a)) = some ys) (h1 : one ys = r)
    (hV : resVs s.A s.V (List.range m) (List.range a) (List.range m) = some V') (hA : getAs s.A (List.range a) = some A') : DoneG P fn m a r V' A' e s := by
  obtain ⟨xs, hxs, hys⟩ := Option.bind_eq_some_iff.1 hr
  exact ⟨he, [], List.range a, xs, ys, ⟨[], by simp⟩, hxs, List.nodup_range, by simp, by simp, by simpa using hys, h1.symm, by simpa using hV, hA⟩
theorem DoneG.one {fn : Func} {e : Exit} {A' : Arr} (he : e = .normal ∨ e = .ret) (hr : (ares P s fn.results.toList).bind (resAs s.A [] [0]) = some [r]) (hA : s.A[0]? = some A') : DoneG P fn 0 1 r [] [A'] e s :=
  DoneG.g he hr rfl rfl (by simp [getAs, hA, List.range_succ])
end
attribute [simp] innAsH AV.innH CV.innH innHs AV.outnH CV.outnH
end Go.Av

namespace Go.Av
open Go

section
variable {P : Program} {n : Nat} {Q : Exit → St → Prop} {s s' : St} {y : Code}

structure OpsH (P : Program) (all : Array Oper) (ow : Nat → Bool) (wv wa fs : List Nat) (m : Nat) (ex : List Nat) (V0 : List (List CV)) (A0 : List Arr) (K : St → Prop) (i : Nat) (ops : List Oper) (s : St) : Prop where
  mk ::
  run : aopsH P all ow wv wa fs m ex V0 A0 K i ops s

@[congr] theorem aopsH_cong {all : Array Oper} {ow : Nat → Bool} {wv wa fs : List Nat} {m : Nat} {ex : List Nat} {V0 : List (List CV)} {A0 : List Arr} {K : St → Prop} {i i' : Nat} {ops : List Oper} (hi : i = i') (h : s = s') : OpsH P all ow wv wa fs m ex V0 A0 K i ops s = OpsH P all ow wv wa fs m ex V0 A0 K i' ops s' := by rw [h, hi]

theorem OpsH.gen {all : Array Oper} {ow : Nat → Bool} {wv wa fs : List Nat} {m : Nat} {ex : List Nat} {V0 : List (List CV)} {A0 : List Arr} {K : St → Prop} {i : Nat} {ops : List Oper} {d : Nat} {b : Bool} {fr : List (Nat × AV)} {V : List (List CV)} {A : List Arr}
    (h : ∀ q : Bool, b = q → OpsH P all ow wv wa fs m ex V0 A0 K i ops ⟨(d, .c (.d (.bool q))) :: fr, V, A⟩) : OpsH P all ow wv wa fs m ex V0 A0 K i ops ⟨(d, .c (.d (.bool b))) :: fr, V, A⟩ := h b rfl
end
end Go.Av

namespace Go.Av
open Go
theorem ACalls.sealed {P : Program} {f : FuncId} {as_ : List AV} {n : Nat} {a : Arr} (h : ACalls P f as_ [] (.c (.own 0 n)) [] [a]) (hn : n = a.rows.length) : ACalls P f as_ [] (.c (.d (.sl a.rows))) [] [] := by
  obtain ⟨h1, h2, h3⟩ := h
  refine ⟨h1, h2, fun g w vs har hI hs hr => (h3 g w vs har hI hs hr).mono ?_⟩
  rintro e w' ⟨v, g', rfl, hv, hI', hF⟩
  have hd : toD [a] (.own 0 n) = some (.sl a.rows) := by simp [toD, hn]
  obtain ⟨g2, i1, i2, i3, i4, i5, i6⟩ := seal_one hI' hF (show RepC g' w' [a] (.own 0 n) v from hv) hd
  refine ⟨v, { g2 with ar := [] }, rfl, i6, ⟨i1.obl, rfl, fun l row b h => by simp at h, fun k r v h => by simp at h, i1.obob, fun k k' v v' b h => by simp at h, fun l k v b _ h => by simp at h, i1.fresh⟩,
    ⟨i3.os, i3.tape, i3.output, i3.size, i3.blk, i3.imeq, i3.ob, fun k v b h => by simp at h, fun k v h => by rw [har] at h; simp at h⟩⟩
end Go.Av

namespace Go.Av
open Go
section
variable {P : Program} {g g' g0 : Gh} {w w' w0 : World} {V V' : List (List CV)} {A A' : List Arr}
theorem Inv.storeFlat (h : Inv g w V A) (hf : Fr w0 g0 w g) {k : Nat} {r : Arr} {v : Value} (hk : A[k]? = some r) (hv : g.ar[k]? = some v) (hw : r.wr = true) {off b : Nat} {ds : List DV} {rows' : List (List DV)}
    (hl : rows'.length = r.rows.length) (hrow : ∀ q ∈ rows', q.length = r.sz) (hfl : rows'.flatten = splice r.rows.flatten off ds) (ho : off + ds.length ≤ r.rows.length * r.sz) (hb : v.ownBlock = some b) (vs : List Value) (hvl : vs.length = ds.length)
    (hds : ∀ (j : Nat) x u, ds[j]? = some x → vs[j]? = some u → RepD g.im w x u) :
    ∃ cur ty cap, v = .slice (some ⟨b, 0, none⟩) r.rows.length cap ∧ w.heap[b]? = some (.cells cur ty (0, 0)) ∧ off + vs.length ≤ cur.size ∧
      Inv g (w.setRow b (splice cur.toList off vs).toArray) V (A.set k { r with rows := rows' }) ∧
      Ext g w A g (w.setRow b (splice cur.toList off vs).toArray) (A.set k { r with rows := rows' }) ∧ Fr w0 g0 (w.setRow b (splice cur.toList off vs).toArray) g := by
  obtain ⟨h1, h2, xs, hown, hr⟩ := h.arr k r v hk hv
  have him : g.im b = 0 := by have := h2 b hb; rw [hw] at this; simpa using this
  rcases hown.2 with ⟨rfl, _⟩ | ⟨b', cap, cur, rfl, _, hh, hnc, hcm, hcs, htake⟩
  · simp [Value.ownBlock] at hb
  simp [Value.ownBlock] at hb; subst hb
  have hmul2 : r.rows.length * r.sz ≤ cap * r.sz := Nat.mul_le_mul_right _ hnc
  have hfit : off + vs.length ≤ r.rows.length * r.sz := by omega
  have hfit2 : off + vs.length ≤ cur.size := by omega
  have hx1 := Ext.setRow g w A b' (splice cur.toList off vs).toArray him
  have hx : Ext g w A g (w.setRow b' (splice cur.toList off vs).toArray) (A.set k { r with rows := rows' }) := by
    refine ⟨hx1.ob, hx1.gr, fun k' r' hk' => ?_⟩
    rw [set_get hk]
    by_cases e : k' = k
    · subst e
      obtain rfl : r = r' := by rw [hk] at hk'; exact Option.some.inj hk'
      exact ⟨{ r with rows := rows' }, by simp, rfl, by simp [hl], fun _ => rfl⟩
    · exact ⟨r', by simp [e, hk'], rfl, Nat.le_refl _, fun _ => rfl⟩
  refine ⟨cur, r.ety, cap, rfl, hh, hfit2, ⟨h.obl, by simp [h.arl], fun l row' b h3 h4 => ?_, fun k' r' u h3 h4 => ?_, h.obob, h.arar, h.obar, fun b hb => h.fresh b (by simpa using hb)⟩, hx, hf.setRow b' _ (.inr (hf.ar k _ b' hv rfl))⟩
  · exact h.objKeep hx h3 h4 (heap_setRow_other w b' b _ (fun e => by subst e; exact h.obar l k _ b h4 hv rfl)) (h.obj l row' b h3 h4).1
  · rw [set_get hk] at h3
    by_cases e : k' = k
    · subst e
      simp at h3; subst h3
      obtain rfl : Value.slice (some ⟨b', 0, none⟩) r.rows.length cap = u := by rw [hv] at h4; exact Option.some.inj h4
      refine ⟨hrow, fun b hb => ?_, splice xs off vs, ?_, fun j x u hj hu => ?_⟩
      · simp [Value.ownBlock] at hb; subst hb; rw [him]; exact Nat.zero_le _
      · simp only [hl]
        refine ⟨?_, .inr ⟨b', cap, (splice cur.toList off vs).toArray, ?_, Nat.zero_le _, setRow_heap w b' cur _ r.ety (0, 0) hh, by simpa using hnc, hcm, ?_, ?_⟩⟩
        · rw [splice_len (by rw [hown.1]; exact hfit)]; simpa using hown.1
        · simp
        · simp only [List.size_toArray]
          rw [splice_len (by simpa using hfit2)]; simpa using hcs
        · apply List.ext_getElem?
          intro j
          rw [List.getElem?_take, splice_at (by simpa using hfit2), splice_at (by rw [hown.1]; exact hfit), ← htake, List.getElem?_take]
          split <;> split <;> first | rfl | (rename_i h5 h6; omega)
      · simp only at hj
        rw [hfl, splice_at (by rw [flatten_len h1]; omega)] at hj
        rw [splice_at (by rw [hown.1]; exact hfit), hvl] at hu
        split at hj
        · rename_i hc
          rw [if_pos hc] at hu
          exact RepD.grows hx.gr x u (hds _ x u hj hu)
        · rename_i hc
          rw [if_neg hc] at hu
          exact RepD.grows hx.gr x u (hr j x u hj hu)
    · simp [e] at h3
      refine h.arrKeep hx h3 h4 (fun b hb => heap_setRow_other w b' b _ (fun e' => by subst e'; exact e (h.arar k' k u _ b h4 hv hb rfl))) (fun _ _ => rfl)
/-- As 'aops_sound', with more behind. -/
theorem aops_soundP {n : Nat} {s : St} {a : Act} {all : Array Oper} {ow : Nat → Bool} {K : St → Prop} {Q : Exit → Act → World → Prop} {more : List Oper} : ∀ (ops : List Oper) (i : Nat) (s : St) (g : Gh) (a : Act) (w : World), dstsOk n ops = true → Rp n w0 g0 s g a w → aops P all ow K i ops s →
    (∀ s' g' a' w', K s' → Rp n w0 g0 s' g' a' w' → wpList P all Q more a' w') → wpList P all Q (ops ++ more) a w
  | [], i, s, g, a, w, _, hR, h, hQ => hQ s g a w h hR
  | o :: rest, i, s, g, a, w, hd, hR, h, hQ => by
    simp only [dstsOk, List.all_cons, Bool.and_eq_true] at hd
    have hdst : ∀ d, o.dst = some d → d < n := fun d e => by have := hd.1; rw [e] at this; simpa using this
    simp only [aops] at h
    rw [List.cons_append]
    unfold wpList
    rcases gdo_sound hR h with ⟨h1, h2⟩ | ⟨h1, h2⟩
    · rw [if_pos h1]
      obtain ⟨x, V', A', h3, h4⟩ := astep_wp hR.inv hR.fr hR.slot h2
      exact .inl (h4 _ _ fun v w' g' h5 h6 h7 h8 => aops_soundP (s := s) (a := a) rest (i + 1) _ g' _ w' hd.2 (hR.put hdst h5 h6 h7 h8) h3 hQ)
    · rw [if_neg (by rw [h1]; simp)]
      exact aops_soundP (s := s) (a := a) rest (i + 1) _ g _ w hd.2 (hR.put hdst (x := .c .undef) (v := undef) rfl hR.inv (.refl _ _ _) hR.fr) h2 hQ
theorem run_clear_own {t e ty' : TypeId} {z : Value} {b o n c : Nat} {cur : Array Value} {ty : TypeId} (w : World) (ht : P.underlying t = some (.slice e)) (hz : (zeroValue e).run P w = .ok z w) (hh : w.heap[b]? = some (.cells cur ty (0, 0))) (hn : 0 < n)
    (hfit : o + n * z.cells.size ≤ cur.size) (h1 : ∀ u ∈ (Builtin.zeroCells z.cells n).toList, u.oneCell' = true) :
    (Builtin.clear_ #[t] ty' #[.slice (some ⟨b, o, none⟩) n c]).run P w = .ok (.tuple #[]) (w.setRow b (splice cur.toList o (Builtin.zeroCells z.cells n).toList).toArray) := by
  have hst := run_storeCells_at P b o ty (Builtin.zeroCells z.cells n).toList 0 cur w hh (by simp [Builtin.zeroCells]; omega) h1
  simp only [Nat.add_zero] at hst
  obtain ⟨m, rfl⟩ : ∃ m, n = m + 1 := ⟨n - 1, by omega⟩
  simp [Builtin.clear_, run_underlying ht, hz, Result.andThen, hst, splice]
end
end Go.Av

namespace Go.Av
open Go
section
variable {P : Program} {n : Nat} {Q : Exit → St → Prop} {s : St}
theorem take_flatten {α : Type} {sz : Nat} : ∀ {rows : List (List α)}, (∀ r ∈ rows, r.length = sz) → ∀ i : Nat, (rows.take i).flatten = rows.flatten.take (i * sz)
  | [], _, i => by simp
  | r :: rs, h, 0 => by simp
  | r :: rs, h, i + 1 => by
    have hr : r.length = sz := h r (by simp)
    have ih := take_flatten (fun q hq => h q (by simp [hq])) (rows := rs) i
    simp only [List.take_succ_cons, List.flatten_cons, ih]
    rw [show (i + 1) * sz = r.length + i * sz by rw [hr, Nat.add_mul]; omega, List.take_length_add_append]
theorem rep_flat (dz : List DV) {sz : Nat} (hz : dz.length = sz) : ∀ (m j : Nat) (x : DV), (List.replicate m dz).flatten[j]? = some x → dz[j % sz]? = some x
  | 0, j, x, h => by simp at h
  | m + 1, j, x, h => by
    simp only [List.replicate_succ, List.flatten_cons] at h
    by_cases hj : j < dz.length
    · rw [List.getElem?_append_left hj] at h
      rwa [Nat.mod_eq_of_lt (by omega)]
    · rw [List.getElem?_append_right (by omega)] at h
      have := rep_flat dz hz m _ _ h
      rwa [hz, ← Nat.mod_eq_sub_mod (by omega)] at this
theorem toDs_at {A : List Arr} : ∀ {cs : List CV} {ds : List DV}, toDs A cs = some ds → ∀ (j : Nat) c x, cs[j]? = some c → ds[j]? = some x → toD A c = some x
  | [], ds, h, j, c, x, h1, h2 => by simp at h1
  | c :: cs, ds, h, j, c', x, h1, h2 => by
    simp only [toDs] at h
    split at h
    · rename_i d1 d2 h3 h4
      simp at h; subst h
      cases j with
      | zero => simp at h1 h2; subst h1; subst h2; exact h3
      | succ j => simp at h1 h2; exact toDs_at h4 j c' x h1 h2
    · simp at h
/-- What 's[i:]' and 'clear' behind it ask and do. -/
def clearP (P : Program) (o1 o2 : Oper) (K : St → Prop) (s : St) : Prop :=
  ∃ (t e : TypeId) (x lo : Operand) (d1 : Nat) (ty : TypeId) (cs : Array Bool) (d de : TD) (z : List CV) (dz : List DV) (k m : Nat) (ki : IntKind) (i : Int) (r : Arr),
    (o1.op = .slice t x (some lo) none none ∧ o1.dst = some d1 ∧ o1.guard = none ∧ (∀ (a : Act) (w : World), (execOp a.eval o2).run P w = (builtin .clear #[t] ty cs #[a.eval (.tmp d1)]).run P w) ∧ o2.guard = none) ∧
    look s.fr d1 = none ∧ (∀ d2, o2.dst = some d2 → look s.fr d2 = none) ∧ td P t = some d ∧ d.el = some e ∧ td P e = some de ∧ de.zero = some z ∧ toDs [] z = some dz ∧ z.length = de.sz ∧ 0 < de.sz ∧
    aval s x = some (.c (.own k m)) ∧ aval s lo = some (.c (.d (.int ki i))) ∧ 0 ≤ i ∧ i.toNat < m ∧ s.A[k]? = some r ∧ m = r.rows.length ∧ r.wr = true ∧ r.sz = de.sz ∧
    K ⟨s.fr, s.V, s.A.set k { r with rows := r.rows.take i.toNat ++ List.replicate (m - i.toNat) dz }⟩
set_option maxHeartbeats 1000000 in
theorem clear_sound {w0 : World} {g0 g : Gh} {a : Act} {w : World} {o1 o2 : Oper} {all : Array Oper} {K : St → Prop} {Q : Exit → Act → World → Prop} (h : clearP P o1 o2 K s) (hd : dstsOk n [o1, o2] = true) (hR : Rp n w0 g0 s g a w)
    (hQ : ∀ s' g' a' w', K s' → Rp n w0 g0 s' g' a' w' → Q .normal a' w') : wpList P all Q [o1, o2] a w := by
  obtain ⟨t, e, x, lo, d1, ty, cs, d, de, z, dz, k, m, ki, i, r, ⟨hop, hdst, hg1, hex, hg2⟩, hl1, hl2, ht, hel, he, hz, hdz, hzl, hpos, hx, hlo, hi0, him, hk, hm, hw, hsz, hK⟩ := h
  simp only [dstsOk, List.all_cons, List.all_nil, Bool.and_true, Bool.and_eq_true, hdst, decide_eq_true_eq] at hd
  have hdn1 : d1 < n := hd.1
  obtain ⟨inf, hi1, hisz, _, h0⟩ := td_info he
  obtain ⟨zv, hzv, hzc⟩ := h0 z hz
  have hzs : zv.cells.size = de.sz := by have := cvsOf_len hzc; simp at this; omega
  have hdzl : dz.length = de.sz := by rw [toDs_len hdz, hzl]
  have hsl := td_el ht hel
  have hv : RepC g w s.A (.own k m) (a.eval x) := aval_sound hR.slot hx
  obtain ⟨ad, cap, hve, r', hk', _, hq⟩ := hv
  obtain rfl : r = r' := Option.some.inj (hk.symm.trans hk')
  have hv0 := hq hm
  have hlov : a.eval lo = .int ki i := aval_sound hR.slot hlo
  obtain ⟨h1, _, xs, hown, _⟩ := hR.inv.arr k r _ hk hv0
  have hrp : 0 < r.rows.length := by omega
  obtain ⟨b, hb⟩ : ∃ b, (a.eval x).ownBlock = some b := by
    rcases hown.2 with ⟨_, h3⟩ | ⟨b, cap', cur, h2, _⟩
    · omega
    · exact ⟨b, by rw [h2]; rfl⟩
  let zs := (Builtin.zeroCells zv.cells (m - i.toNat)).toList
  have hzsl : zs.length = (m - i.toNat) * de.sz := by simp [zs, Builtin.zeroCells, hzs]
  have hfl : (List.replicate (m - i.toNat) dz).flatten.length = (m - i.toNat) * de.sz := by simp [hdzl]
  have hmul : i.toNat * de.sz + (m - i.toNat) * de.sz = r.rows.length * de.sz := by rw [← Nat.add_mul, ← hm]; congr 1; omega
  have hrs : ∀ q ∈ r.rows, q.length = de.sz := fun q hq => by rw [h1 q hq, hsz]
  have hzat : ∀ (j : Nat) y u, (List.replicate (m - i.toNat) dz).flatten[j]? = some y → zs[j]? = some u → RepD g.im w y u := by
    intro j y u h6 h7
    have h8 := rep_flat dz hdzl _ j y h6
    have hjm : j < (m - i.toNat) * de.sz := by rw [← hzsl]; exact (List.getElem?_eq_some_iff.1 h7).1
    have h9 : u = zv.cells[j % zv.cells.size]! := by
      have : j < (m - i.toNat) * zv.cells.size := by rw [hzs]; exact hjm
      simp [zs, Builtin.zeroCells, this] at h7; exact h7.symm
    have hlt : j % de.sz < zv.cells.size := by rw [hzs]; exact Nat.mod_lt _ hpos
    have h10 : zv.cells.toList[j % de.sz]? = some u := by
      rw [h9, hzs]; simp [hlt]
    have hzj : z[j % de.sz]? = some (z[j % de.sz]'(by omega)) := List.getElem?_eq_getElem (by omega)
    have h11 := cvsOf_at hzc _ _ _ hzj h10
    exact toD_zero h11 (toDs_at hdz _ _ _ hzj h8)
  obtain ⟨cur, ty', cap', hve', hh, hfit, hI', hx', hF'⟩ := hR.inv.storeFlat hR.fr hk hv0 hw (off := i.toNat * de.sz) (ds := (List.replicate (m - i.toNat) dz).flatten) (rows' := r.rows.take i.toNat ++ List.replicate (m - i.toNat) dz)
    (by simp; omega) (fun q hq => by
      simp at hq
      rcases hq with hq | ⟨_, rfl⟩
      · exact h1 q (List.mem_of_mem_take hq)
      · omega)
    (by
      rw [List.flatten_append, take_flatten hrs]
      simp only [splice]
      rw [List.drop_of_length_le (by rw [flatten_len hrs, hfl]; omega), List.append_nil])
    (by rw [hfl, hsz]; omega) hb zs (by rw [hzsl, hfl]) hzat
  have hcap : m ≤ cap' := by
    rcases hown.2 with ⟨_, h3⟩ | ⟨b, cap2, cur2, h2, _, _, hnc, _⟩
    · omega
    · rw [hve'] at h2; simp at h2; omega
  have hrun1 : (execOp a.eval o1).run P w = .ok (.value (.slice (some ⟨b, i.toNat * de.sz, none⟩) (m - i.toNat) (cap' - i.toNat))) w := by
    have hbd : (Instr.sliceBounds true m cap' (some (.int ki i)) none none).run P w = .ok (i.toNat, m, cap') w := by
      simp [Instr.sliceBounds, run_sliceBound w ki i m _ hi0 (by omega)]
    simp [execOp, hop, hve', hlov, Instr.sliceAt, Instr.slice, run_underlying hsl, ← hm, hbd, sizeOf, typeInfo, hi1, hisz, addr_add, show cap' ≠ i.toNat by omega]
  have hw1 : ∀ f, Region.wanted o1 f = true := fun f => by simp [Region.wanted, hg1]
  have hw2 : ∀ f, Region.wanted o2 f = true := fun f => by simp [Region.wanted, hg2]
  unfold wpList
  rw [if_pos (hw1 _)]
  refine .inl ?_
  unfold Oper.wp
  rw [hrun1, Oper.upon_value]
  unfold wpList
  rw [if_pos (hw2 _)]
  refine .inl ?_
  have hev : (a.put o1.dst (.slice (some ⟨b, i.toNat * de.sz, none⟩) (m - i.toNat) (cap' - i.toNat))).eval (.tmp d1) = .slice (some ⟨b, i.toNat * de.sz, none⟩) (m - i.toNat) (cap' - i.toNat) := by
    have : d1 < a.tmps.size := by rw [hR.size]; exact hdn1
    simp [Act.put, hdst, Act.eval, this]
  have hzr : ∀ w : World, (zeroValue e).run P w = .ok zv w := fun w => by simp [zeroValue, typeInfo, hi1, hzv]
  have hone : ∀ u ∈ zs, u.oneCell' = true := fun u hu => by
    obtain ⟨j, hj⟩ := List.getElem?_of_mem hu
    have hjl : j < (List.replicate (m - i.toNat) dz).flatten.length := by rw [hfl, ← hzsl]; exact (List.getElem?_eq_some_iff.1 hj).1
    exact RepD.oneCell (hzat j _ u (List.getElem?_eq_getElem hjl) hj)
  have hrun2 : (execOp (a.put o1.dst (.slice (some ⟨b, i.toNat * de.sz, none⟩) (m - i.toNat) (cap' - i.toNat))).eval o2).run P w = .ok (.value (.tuple #[])) (w.setRow b (splice cur.toList (i.toNat * de.sz) zs).toArray) := by
    rw [hex, hev]
    have := run_clear_own (P := P) (t := t) (e := e) (ty' := ty) (z := zv) (b := b) (o := i.toNat * de.sz) (n := m - i.toNat) (c := cap' - i.toNat) (cur := cur) (ty := ty') w hsl (hzr w) hh (by omega) (by rw [hzs, ← hzsl]; exact hfit) hone
    exact run_value this
  unfold Oper.wp
  rw [hrun2, Oper.upon_value]
  refine hQ _ g _ _ hK ⟨hI', hF', ?_, ?_, fun t' y hy => ?_⟩
  · cases o2.dst <;> simp [Act.put, hdst, hR.size]
  · cases o2.dst <;> simp [Act.put, hdst, hR.defers]
  · simp only at hy
    obtain ⟨u, h3, h4⟩ := hR.slot t' y hy
    refine ⟨u, ?_, RepV.ext hx' h4⟩
    have e1 : t' ≠ d1 := fun e => by subst e; rw [hl1] at hy; cases hy
    have e2 : ∀ d2, o2.dst = some d2 → t' ≠ d2 := fun d2 hd2 e => by subst e; rw [hl2 t' hd2] at hy; cases hy
    cases h5 : o2.dst with
    | none => simp [Act.put, hdst, Array.getElem?_setIfInBounds_ne (fun e' => e1 e'.symm), h3]
    | some d2 => simp [Act.put, hdst, Array.getElem?_setIfInBounds_ne (fun e' => e1 e'.symm), Array.getElem?_setIfInBounds_ne (fun e' => e2 d2 h5 e'.symm), h3]
/-- The rule, for a region with two operations ahead. -/
theorem T.rsClear {id : Nat} {p1 p2 o1 o2 : Oper} {y : Code} (h : ∀ K : St → Prop, (∀ s', T P n y Q s' → K s') → Ops P [p1, p2, o1, o2].toArray (fun _ => false) (clearP P o1 o2 K) 0 [p1, p2] s) : T P n (.seq (.region id [p1, p2, o1, o2].toArray false) y) Q s := by
  refine T.seq ?_
  intro hok w0 g0 g a w hR
  refine wp_region_list ?_
  have hd1 : dstsOk n [p1, p2] = true ∧ dstsOk n [o1, o2] = true := by
    simp only [codeOk, dstsOk, List.all_cons, List.all_nil, Bool.and_true, Bool.and_eq_true] at hok ⊢
    exact ⟨⟨hok.1, hok.2.1⟩, hok.2.2⟩
  refine aops_soundP (s := s) (a := a) (more := [o1, o2]) [p1, p2] 0 s g a w hd1.1 hR (h _ fun _ h => h).run fun s' g' a' w' hc hR' => ?_
  exact clear_sound hc hd1.2 hR' fun s'' g'' a'' w'' h1 h2 => ⟨s'', g'', h1, h2⟩
end
end Go.Av

namespace Go.Av
open Go
section
variable {P : Program} {n : Nat} {Q : Exit → St → Prop} {s s' : St} {y : Code}
structure OpsJ (P : Program) (all : Array Oper) (ow : Nat → Bool) (wv wa fs : List Nat) (m : Nat) (ex : List Nat) (V0 : List (List CV)) (A0 : List Arr) (K : St → Prop) (i : Nat) (ops : List Oper) (s : St) : Prop where
  mk ::
  run : aopsJ P all ow wv wa fs m ex V0 A0 K i ops s

theorem aopsJ_go {all : Array Oper} {ow : Nat → Bool} {wv wa fs : List Nat} {m : Nat} {ex : List Nat} {V0 : List (List CV)} {A0 : List Arr} {K : St → Prop} {i : Nat} {o : Oper} {rest : List Oper}
    (h : gdo all s o (astep P s (ow i) o fun x V A => ((i ∈ wv ∨ V = s.V) ∧ (i ∈ wa ∨ A = s.A)) ∧ (i ∈ wv ∨ i ∈ wa → i < m → V.take V0.length = exV ex (fun i => V.getD i []) V0 ∧ A.take A0.length = A0) ∧ (i ∈ fs → freeStep P s (ow i) o ex V0 A0 x) ∧
      (i ∈ wv → ∀ A2, astep P ⟨s.fr, s.V, A2⟩ (ow i) o fun y V' A' => y = x ∧ V' = V ∧ A' = A2) ∧ (i ∈ wa → isA o.op = false → ∀ V2, astep P ⟨s.fr, V2, s.A⟩ (ow i) o fun y V' A' => y = x ∧ V' = V2 ∧ A' = A) ∧ OpsJ P all ow wv wa fs m ex V0 A0 K (i + 1) rest (s.put o.dst x V A)) (OpsJ P all ow wv wa fs m ex V0 A0 K (i + 1) rest (s.put o.dst (.c .undef) s.V s.A))) : OpsJ P all ow wv wa fs m ex V0 A0 K i (o :: rest) s :=
  ⟨gdo_map (fun h => astep_map (fun _ _ _ h => ⟨h.1, h.2.1, h.2.2.1, h.2.2.2.1, h.2.2.2.2.1, h.2.2.2.2.2.run⟩) h) (fun h => h.run) h⟩
theorem aopsJ_end {all : Array Oper} {ow : Nat → Bool} {wv wa fs : List Nat} {m : Nat} {ex : List Nat} {V0 : List (List CV)} {A0 : List Arr} {K : St → Prop} {i : Nat} (h : K s) : OpsJ P all ow wv wa fs m ex V0 A0 K i [] s := ⟨h⟩

theorem T.rdJ {id : Nat} {l : List Oper} (hm : P.follows .mixedOrders = true) (ow : Nat → Bool) (wv wa fs : List Nat) (m : Nat) (ex : List Nat) (hd : drawOkJ l.toArray wv wa fs m = true) (h : ∀ K : St → Prop, (∀ s', T P n y Q s' → K s') → OpsJ P l.toArray ow wv wa fs m ex s.V s.A K 0 l s) : T P n (.seq (.region id l.toArray true) y) Q s :=
  T.seq (T.region_drawJ hm ow wv wa fs m ex hd (h _ fun _ h => h).run)
@[congr] theorem aopsJ_cong {all : Array Oper} {ow : Nat → Bool} {wv wa fs : List Nat} {m : Nat} {ex : List Nat} {V0 : List (List CV)} {A0 : List Arr} {K : St → Prop} {i i' : Nat} {ops : List Oper} (hi : i = i') (h : s = s') : OpsJ P all ow wv wa fs m ex V0 A0 K i ops s = OpsJ P all ow wv wa fs m ex V0 A0 K i' ops s' := by rw [h, hi]

theorem OpsJ.gen {all : Array Oper} {ow : Nat → Bool} {wv wa fs : List Nat} {m : Nat} {ex : List Nat} {V0 : List (List CV)} {A0 : List Arr} {K : St → Prop} {i : Nat} {ops : List Oper} {d : Nat} {b : Bool} {fr : List (Nat × AV)} {V : List (List CV)} {A : List Arr}
    (h : ∀ q : Bool, b = q → OpsJ P all ow wv wa fs m ex V0 A0 K i ops ⟨(d, .c (.d (.bool q))) :: fr, V, A⟩) : OpsJ P all ow wv wa fs m ex V0 A0 K i ops ⟨(d, .c (.d (.bool b))) :: fr, V, A⟩ := h b rfl
end
end Go.Av
