/- The operations' preconditions hold, one operation at a time (all but calls of Go functions). -/
import Derived.Test.YtdbffbmbbfbamaaA5
namespace Go.Av
open Go

section
variable {P : Program} {g g' g0 : Gh} {w w' w0 : World} {V V' : List (List CV)} {A A' : List Arr} {s : St} {a : Act} {K : AV → List (List CV) → List Arr → Prop}

abbrev Slots (g : Gh) (w : World) (s : St) (a : Act) : Prop := ∀ t x, look s.fr t = some x → ∃ u, a.tmps[t]? = some u ∧ RepV g w s.A x u

theorem run_value {m : Sem Value} {w w' : World} {v : Value} (h : m.run P w = .ok v w') : (do pure (Next.value (← m)) : Sem Next).run P w = .ok (.value v) w' := by
  rw [Sem.run_bind, h]; rfl

theorem run_skip {m : Sem Unit} {w w' : World} (h : m.run P w = .ok () w') : (do m; pure Next.skip : Sem Next).run P w = .ok .skip w' := by
  rw [Sem.run_bind, h]; rfl

theorem newRow_run (w : World) (e : TypeId) (cs : Array Value) : (newRow e cs).run P w = .ok ⟨w.heap.size, 0, none⟩ (w.alloc (.cells cs e)) := by
  simp [newRow]

/-- A new object out of cells. -/
theorem goes_obj (hI : Inv g w s.V s.A) (hF : Fr w0 g0 w g) {m : Sem Next} {cs : Array Value} {e : TypeId} {row : List CV} (hr : RepCs g w s.A row cs.toList)
    (hm : m.run P w = .ok (.value (.pointer (some ⟨w.heap.size, 0, none⟩))) (w.alloc (.cells cs e))) (hK : K (.c (.ptr s.V.length 0)) (s.V ++ [row]) s.A) : Goes P w0 g0 g w s.A m K := by
  obtain ⟨g', h1, h2, h3, h4⟩ := hI.newObj hF cs e row (by simpa using hr.1) (fun j c u hc hu => hr.2 j c u hc (by simpa using hu))
  exact ⟨_, _, _, _, _, _, g', hK, hm, .inl rfl, ⟨w.heap.size, h4, rfl⟩, h1, h2, h3⟩

theorem sound_alloc (hI : Inv g w s.V s.A) (hF : Fr w0 g0 w g) {e : TypeId} {d : TD} {z : List CV} (ht : td P e = some d) (hz : d.zero = some z) (hK : K (.c (.ptr s.V.length 0)) (s.V ++ [z]) s.A) :
    Goes P w0 g0 g w s.A (do pure (.value (← Instr.alloc e true (.tuple #[])))) K := by
  obtain ⟨i, hi, _, _, h0⟩ := td_info ht
  obtain ⟨v, hv, hc⟩ := h0 z hz
  refine goes_obj hI hF (cs := v.cells) (e := e) ⟨cvsOf_len hc, fun j c u h1 h2 => cvOf_sound (cvsOf_at hc j c u h1 h2)⟩ (run_value ?_) hK
  simp [Instr.alloc, zeroValue, typeInfo, hi, hv, newVar, newRow_run]

theorem sound_box (hI : Inv g w s.V s.A) (hF : Fr w0 g0 w g) {e : TypeId} {x : AV} {u : Value} (hx : RepV g w s.A x u) (hp : x.plain = true) (hK : K (.c (.ptr s.V.length 0)) (s.V ++ [x.cells]) s.A) :
    Goes P w0 g0 g w s.A (do pure (.value (← Instr.box e u))) K := by
  refine goes_obj hI hF (cs := u.cells) (e := e) (AV.plain_cells hx hp).1 (run_value ?_) hK
  simp [Instr.box, newVar, newRow_run]

theorem sound_load (hI : Inv g w s.V s.A) (hF : Fr w0 g0 w g) {t : TypeId} {d : TD} (ht : td P t = some d) {p : CV} {v : Value} (hp : RepC g w s.A p v) {cs : List CV} (hcs : cellsAt s p d.sz = some cs) {x : AV} (hx : mkV d.ag cs = some x) (hK : K x s.V s.A) :
    Goes P w0 g0 g w s.A (do pure (.value (← Instr.loadAt t v))) K := by
  obtain ⟨b, off, vs, rfl, hl, hr, hc⟩ := cellsAt_sound hI hp hcs
  obtain ⟨h1, h2⟩ := run_loadAt_av (P := P) ht hc (hr.1.trans hl)
  cases hag : d.ag with
  | true =>
    simp [mkV, hag] at hx; subst hx
    exact Goes.value hI hF (run_value (h1 hag)) (x := .agg cs) ⟨vs, rfl, hr.1, fun i c u h3 h4 => hr.2 i c u h3 h4⟩ hK
  | false =>
    simp only [mkV, hag, Bool.false_eq_true, if_false] at hx
    split at hx
    · rename_i c
      simp at hx; subst hx
      obtain ⟨u, rfl⟩ : ∃ u, vs = [u] := by
        have := hr.1
        simp at this
        exact List.length_eq_one_iff.1 this
      exact Goes.value hI hF (run_value (h2 hag u rfl)) (x := .c c) (hr.2 0 c u rfl rfl) hK
    · simp at hx

theorem run_storeAt_av {t : TypeId} {d : TD} (ht : td P t = some d) {b off : Nat} {v : Value} (hl : v.cells.size = d.sz) {cur : Array Value} {ty : TypeId} (hh : w.heap[b]? = some (.cells cur ty (0, 0))) (hfit : off + d.sz ≤ cur.size)
    (h1 : ∀ u ∈ v.cells.toList, u.oneCell' = true) :
    (Instr.storeAt t (.pointer (some ⟨b, off, none⟩)) v).run P w = .ok () (w.setRow b (splice cur.toList off v.cells.toList).toArray) := by
  obtain ⟨i, hi, hsz, _, _⟩ := td_info ht
  have hs : (sizeOf t).run P w = .ok i.size w := by simp [sizeOf, typeInfo, hi]
  have hst := run_storeCells_at P b off ty v.cells.toList 0 cur w hh (by simp; omega) h1
  simp only [Nat.add_zero] at hst
  show (storeVar t ⟨b, off, none⟩ v).run P w = _
  unfold storeVar
  rw [Sem.run_bind, hs]
  simp only [Result.andThen_ok]
  rw [if_neg (by omega)]
  simpa [splice] using hst

theorem splice_rep {cs : List CV} {vs : List Value} {row : List CV} {cur : List Value} {off : Nat} (hl : cur.length = row.length) (hr : ∀ (j : Nat) c u, row[j]? = some c → cur[j]? = some u → RepC g w A c u) (h : RepCs g w A cs vs) (hfit : off + cs.length ≤ row.length) :
    ∀ (j : Nat) c u, (splice row off cs)[j]? = some c → (splice cur off vs)[j]? = some u → RepC g w A c u := by
  intro j c u hc hu
  rw [splice_at (by omega)] at hc
  rw [splice_at (by rw [h.1]; omega), h.1] at hu
  split at hc
  · rename_i hj
    rw [if_pos hj] at hu
    exact h.2 _ c u hc hu
  · rename_i hj
    rw [if_neg hj] at hu
    exact hr j c u hc hu

theorem sound_store_obj (hI : Inv g w s.V s.A) (hF : Fr w0 g0 w g) {t : TypeId} {d : TD} (ht : td P t = some d) {l off : Nat} {p v : Value} (hp : RepC g w s.A (.ptr l off) p) {x : AV} (hx : RepV g w s.A x v) (hpl : x.plain = true) (hlen : x.cells.length = d.sz)
    {row : List CV} (hrow : s.V[l]? = some row) (hfit : off + d.sz ≤ row.length) (hK : K (.c .undef) (s.V.set l (splice row off x.cells)) s.A) :
    Goes P w0 g0 g w s.A (do Instr.storeAt t p v; pure .skip) K := by
  obtain ⟨b, hb, rfl⟩ := hp
  obtain ⟨hcs, h1⟩ := AV.plain_cells hx hpl
  obtain ⟨_, cur, ty, hh, hs, hr⟩ := hI.obj l row b hrow hb
  have hvl : v.cells.size = d.sz := by have := hcs.1; simp at this; omega
  have hrun := run_storeAt_av (P := P) ht hvl hh (off := off) (by omega) h1
  obtain ⟨k1, k2, k3⟩ := hI.setObj hF hrow hb (splice cur.toList off v.cells.toList).toArray (row' := splice row off x.cells)
    (by simp only [List.size_toArray]; rw [splice_len (by simp; omega), splice_len (by omega)]; simpa using hs)
    (fun j c u h3 h4 => splice_rep (cur := cur.toList) (by rw [Array.length_toList]; exact hs) (fun j c u h5 h6 => hr j c u h5 (by simpa using h6)) hcs (by omega) j c u h3 (by simpa using h4))
  exact ⟨_, _, _, _, undef, _, g, hK, run_skip hrun, .inr ⟨rfl, rfl⟩, rfl, k1, k2, k3⟩

theorem sealAs_get {cs : List CV} {k : Nat} (h : ∀ c ∈ cs, ∀ k' n, c = .own k' n → k' ≠ k) : ∀ {A : List Arr}, (sealAs A cs)[k]? = A[k]? := by
  induction cs with
  | nil => intro A; rfl
  | cons c cs ih =>
    intro A
    simp only [sealAs, List.foldl_cons]
    have := ih (fun c' hc' => h c' (by simp [hc'])) (A := sealA A c)
    simp only [sealAs] at this
    rw [this]
    cases c <;> try rfl
    rename_i k' n
    have hne := h (.own k' n) (by simp) k' n rfl
    simp only [sealA]
    cases hk : A[k']? with
    | none => rfl
    | some r => rw [List.getElem?_set_ne hne]

theorem sound_store_arr (hI : Inv g w s.V s.A) (hF : Fr w0 g0 w g) {t : TypeId} {d : TD} (ht : td P t = some d) {k n i off : Nat} {p v : Value} (hp : RepC g w s.A (.op k n i off) p) {x : AV} (hx : RepV g w s.A x v) (hpl : x.plain = true) (hlen : x.cells.length = d.sz)
    {r : Arr} (hk : s.A[k]? = some r) (hn : n = r.rows.length) (hw : r.wr = true) {row : List DV} (hrow : r.rows[i]? = some row) {ds : List DV} (hds : toDs s.A x.cells = some ds) (hfit : off + d.sz ≤ r.sz)
    (hall : (x.cells.all fun c => match c with | .own k' _ => k' ≠ k | _ => true) = true)
    (hK : K (.c .undef) s.V ((sealAs s.A x.cells).set k { r with rows := r.rows.set i (splice row off ds) })) :
    Goes P w0 g0 g w s.A (do Instr.storeAt t p v; pure .skip) K := by
  obtain ⟨hcs, h1⟩ := AV.plain_cells hx hpl
  obtain ⟨g1, hI1, hx1, hF1, ha1, ho1, hd1⟩ := seal_many hI hF hcs hds
  obtain ⟨b, e, rfl, r', hk', hn', hq⟩ := hp
  obtain rfl : r = r' := by rw [hk] at hk'; exact Option.some.inj hk'
  obtain ⟨cap, hv0, rfl⟩ := hq hn
  have hk1 : (sealAs s.A x.cells)[k]? = some r := by
    rw [sealAs_get fun c hc k' n' e => ?_]
    · exact hk
    · subst e
      have := List.all_eq_true.1 hall _ hc
      simpa using this
  have hdl := toDs_len hds
  have hvl : v.cells.size = d.sz := by have := hcs.1; simp at this; omega
  obtain ⟨cur, ty, cap', hv1, hh, hf1, hf2, hI2, hx2, hF2⟩ := hI1.storeArr hF1 hk1 (by rw [ha1]; exact hv0) hw hrow (ds := ds) (off := off) (by omega) (b := b) rfl v.cells.toList (by simp; omega) hd1
  have hrun := run_storeAt_av (P := P) ht hvl hh (off := i * r.sz + off) (by simp at hf1; omega) h1
  exact ⟨_, _, _, _, undef, _, g1, hK, run_skip hrun, .inr ⟨rfl, rfl⟩, rfl, hI2, hx1.trans hx2, hF2⟩

/-- Plain numbers, strings, truth values. -/
theorem run_binOp_av {op : BinOp} {t : TypeId} {ox oy : Operand} {x y r : AV} {u v : Value} (hx : RepV g w A x u) (hy : RepV g w A y v) (h : abin op x y = some r) :
    ∃ z, (do eqGuard op t ox oy u v; binOp op t u v : Sem Value).run P w = .ok z w ∧ RepV g w A r z := by
  unfold abin at h
  split at h
  · rename_i k a k' b
    simp only [RepV, RepE, RepC, RepD] at hx hy
    subst hx; subst hy
    split at h
    · rename_i hk
      subst hk
      have hg : ∀ op, (eqGuard op t ox oy (.int k a) (.int k b)).run P w = .ok () w := by
        intro op; cases op <;> simp [eqGuard]
      rw [Sem.run_bind, hg]
      simp only [Result.andThen_ok]
      split at h <;> first | (simp at h; done) | skip
      all_goals (try (split at h <;> first | (simp at h; done) | skip))
      all_goals (simp only [Option.some.injEq] at h; subst h; refine ⟨_, ?_, rfl⟩)
      all_goals first
        | (simp [binOp, Op.intArith]; done)
        | (rename_i hb; simp [binOp, Op.intDiv, hb]; done)
        | (simp [binOp, Op.intCmp]; done)
    · simp at h
  · rename_i a b
    simp only [RepV, RepE, RepC, RepD] at hx hy
    subst hx; subst hy
    have hg : ∀ op, (eqGuard op t ox oy (.string (bs a)) (.string (bs b))).run P w = .ok () w := by
      intro op; cases op <;> simp [eqGuard]
    rw [Sem.run_bind, hg]
    simp only [Result.andThen_ok]
    split at h <;> first | (simp at h; done) | skip
    · split at h
      · rename_i hle
        simp only [Option.some.injEq] at h; subst h
        refine ⟨.string (bs (a ++ b)), ?_, rfl⟩
        have hn : ¬ (((bs a).size + (bs b).size : Nat) : Int) > IntKind.i64.max := by rw [bs_size, bs_size]; simp [IntKind.max, IntKind.signed, IntKind.bits]; omega
        have happ : bs a ++ bs b = bs (a ++ b) := by
          simp only [bs]
          apply ByteArray.ext
          simp
        simp only [binOp, Op.stringOp, if_neg hn, happ, Sem.run_pure]
      · simp at h
    all_goals (simp only [Option.some.injEq] at h; subst h; refine ⟨_, ?_, rfl⟩; simp [binOp, Op.stringOp, bs_toList])
  · simp at h

theorem run_binOpB_av {op : BinOp} {t : TypeId} {d : TD} {ox oy : Operand} {x y r : AV} {u v : Value} (ht : td P t = some d) (hd : d.isB = true) (hx : RepV g w A x u) (hy : RepV g w A y v) (h : abinB op x y = some r) :
    ∃ z, (do eqGuard op t ox oy u v; binOp op t u v : Sem Value).run P w = .ok z w ∧ RepV g w A r z := by
  have hb := td_isB ht hd
  unfold abinB at h
  split at h
  · rename_i a b
    simp only [RepV, RepE, RepC, RepD] at hx hy
    subst hx; subst hy
    split at h <;> first | (simp at h; done) | skip
    all_goals (simp only [Option.some.injEq] at h; subst h; refine ⟨_, ?_, rfl⟩; rw [Sem.run_bind])
    · rw [show (eqGuard .eql t ox oy (.bool a) (.bool b)).run P w = .ok () w by simp [eqGuard]]
      simp only [Result.andThen_ok, run_eql_bool w t a b hb]
    · rw [show (eqGuard .neq t ox oy (.bool a) (.bool b)).run P w = .ok () w by simp [eqGuard]]
      simp only [Result.andThen_ok, run_neq_bool w t a b hb]
  · simp at h

theorem sqs_spec {d : Nat} {xs ys : Array Value} : ∀ {fs : List Field} {i : Nat} {ks : List Nat} {cs ds : List CV} {r : Bool}, sqs P i fs = some ks → cEq ks cs ds = some r →
    (∀ (j : Nat) c, cs[j]? = some c → ∃ u, xs[i + j]? = some u ∧ RepC g w A c u) → (∀ (j : Nat) c, ds[j]? = some c → ∃ u, ys[i + j]? = some u ∧ RepC g w A c u) → (Op.eqFields (d + 1) xs ys fs).run P w = .ok r w
  | [], i, ks, cs, ds, r, h1, h2, _, _ => by
    simp [sqs] at h1; subst h1
    cases cs <;> cases ds <;> simp [cEq] at h2
    subst h2
    simp [Op.eqFields]
  | f :: fs, i, ks, cs, ds, r, h1, h2, hx, hy => by
    simp only [sqs] at h1
    split at h1 <;> first | (simp at h1; done) | skip
    rename_i dd hu
    split at h1 <;> first | (simp at h1; done) | skip
    rename_i k ks' hk hks
    split at h1 <;> first | (simp at h1; done) | skip
    rename_i hn
    simp at h1; subst h1
    have key : ∀ (c c' : CV) cs' ds' (b r' : Bool), cs = c :: cs' → ds = c' :: ds' → (∀ u u', RepC g w A c u → RepC g w A c' u' → (part f.type xs f.offset).run P w = .ok u w → (part f.type ys f.offset).run P w = .ok u' w → (Op.equalIn (d + 1) f.type u u').run P w = .ok b w) → P.plainKey f.type = true → cEq ks' cs' ds' = some r' → (b && r') = r → (Op.eqFields (d + 1) xs ys (f :: fs)).run P w = .ok r w := by
      intro c c' cs' ds' b r' e1 e2 h3 hp h4 h5
      subst e1; subst e2
      obtain ⟨u, hu1, hu2⟩ := hx 0 c rfl
      obtain ⟨u', hu1', hu2'⟩ := hy 0 c' rfl
      have p1 := run_part_plain w hp (xs := xs) (off := f.offset) (v := u) (by rw [hn.2]; simpa using hu1)
      have p2 := run_part_plain w hp (xs := ys) (off := f.offset) (v := u') (by rw [hn.2]; simpa using hu1')
      have h6 := sqs_spec (d := d) (xs := xs) (ys := ys) hks h4 (fun j c hc => by
        obtain ⟨u, h7, h8⟩ := hx (j + 1) c (by simpa using hc)
        exact ⟨u, by rw [← h7]; congr 1; omega, h8⟩) (fun j c hc => by
        obtain ⟨u, h7, h8⟩ := hy (j + 1) c (by simpa using hc)
        exact ⟨u, by rw [← h7]; congr 1; omega, h8⟩)
      simp only [Op.eqFields, hn.1, ne_eq, not_false_eq_true, if_true, Sem.run_bind, p1, p2, h3 u u' hu2 hu2' p1 p2, Result.andThen_ok]
      subst h5
      cases b
      · simp
      · simpa using h6
    unfold cEq at h2
    split at h2 <;> first | (simp at h2; done) | skip
    · rename_i heq; simp at heq
    · rename_i q a cs' q' b ds' heq
      simp only [List.cons.injEq] at heq
      obtain ⟨rfl, rfl⟩ := heq
      split at h2 <;> first | (simp at h2; done) | skip
      rename_i e; subst e
      simp only [Option.map_eq_some_iff] at h2
      obtain ⟨r', h3, h4⟩ := h2
      cases dd <;> simp [kindOf] at hk
      exact key _ _ _ _ (a == b) r' rfl rfl (fun u u' h5 h6 _ _ => by simp only [RepC, RepD] at h5 h6; subst h5; subst h6; exact run_equalIn_int w d _ _ _ _ _ hu) (by simp [Program.plainKey, hu]) h3 h4
    · rename_i a cs' b ds' heq
      simp only [List.cons.injEq] at heq
      obtain ⟨rfl, rfl⟩ := heq
      simp only [Option.map_eq_some_iff] at h2
      obtain ⟨r', h3, h4⟩ := h2
      cases dd <;> simp [kindOf] at hk
      exact key _ _ _ _ (a == b) r' rfl rfl (fun u u' h5 h6 _ _ => by simp only [RepC, RepD] at h5 h6; subst h5; subst h6; exact run_equalIn_bool' w d _ _ _ hu) (by simp [Program.plainKey, hu]) h3 h4
    · rename_i a cs' b ds' heq
      simp only [List.cons.injEq] at heq
      obtain ⟨rfl, rfl⟩ := heq
      simp only [Option.map_eq_some_iff] at h2
      obtain ⟨r', h3, h4⟩ := h2
      cases dd <;> simp [kindOf] at hk
      exact key _ _ _ _ (a == b) r' rfl rfl (fun u u' h5 h6 _ _ => by simp only [RepC, RepD] at h5 h6; subst h5; subst h6; rw [run_equalIn_string w d _ _ _ hu, bs_toList, bs_toList]) (by simp [Program.plainKey, hu]) h3 h4

/-- Structs of plain cells. -/
theorem run_binOpS_av {op : BinOp} {t : TypeId} {ox oy : Operand} {x y r : AV} {u v : Value} (hx : RepV g w A x u) (hy : RepV g w A y v) (h : abinS P op t x y = some r) :
    ∃ z, (do eqGuard op t ox oy u v; binOp op t u v : Sem Value).run P w = .ok z w ∧ RepV g w A r z := by
  unfold abinS at h
  split at h <;> first | (simp at h; done) | skip
  rename_i xs ys
  split at h <;> first | (simp at h; done) | skip
  rename_i ks hks
  split at h <;> first | (simp at h; done) | skip
  rename_i b hb
  obtain ⟨us, rfl, hul, hur⟩ := hx
  obtain ⟨vs, rfl, hvl, hvr⟩ := hy
  unfold sq at hks
  split at hks <;> first | (simp at hks; done) | skip
  rename_i fs hu
  split at hks <;> first | (simp at hks; done) | skip
  rename_i hst
  have hfs : P.fieldsOf t = fs := by simp [Program.fieldsOf, hu]
  have heq : (Op.equal t (.agg us.toArray) (.agg vs.toArray)).run P w = .ok b w := by
    show (Op.equalIn (9999 + 1) t (.agg us.toArray) (.agg vs.toArray)).run P w = .ok b w
    rw [run_equalIn_struct w 9999 t _ _ (by rw [hfs]; exact hu) hst.1, hfs]
    refine sqs_spec (d := 9998) (g := g) (A := A) hks hb (fun j c hc => ?_) (fun j c hc => ?_)
    · have hj : j < us.length := by have := (List.getElem?_eq_some_iff.1 hc).1; omega
      exact ⟨us[j], by simp [hj], hur j c _ hc (List.getElem?_eq_getElem hj)⟩
    · have hj : j < vs.length := by have := (List.getElem?_eq_some_iff.1 hc).1; omega
      exact ⟨vs[j], by simp [hj], hvr j c _ hc (List.getElem?_eq_getElem hj)⟩
  have hg : ∀ op, (eqGuard op t ox oy (.agg us.toArray) (.agg vs.toArray)).run P w = .ok () w := by
    intro op; cases op <;> simp [eqGuard, hst.2]
  rw [Sem.run_bind, hg]
  simp only [Result.andThen_ok]
  split at h <;> first | (simp at h; done) | skip
  all_goals (simp only [Option.some.injEq] at h; subst h; refine ⟨_, ?_, rfl⟩)
  · simp [binOp, heq]
  · simp [binOp, heq]

theorem run_un_av {op : UnOp} {x r : AV} {u : Value} (hx : RepV g w A x u) (h : aun op x = some r) : ∃ z, (Op.unary op u).run P w = .ok z w ∧ RepV g w A r z := by
  unfold aun at h
  split at h <;> first | (simp at h; done) | skip
  all_goals (simp only [Option.some.injEq] at h; subst h; simp only [RepV, RepE, RepC, RepD] at hx; subst hx; refine ⟨_, ?_, rfl⟩)
  · simp [Op.unary]
  · simp [Op.unary, Op.intArith]

/-- The bytes of a slice, as numbers. -/
theorem bytesOf_spec : ∀ {rows : List (List DV)} {b : List UInt8}, bytesOf rows = some b → rows.length = b.length ∧ ∀ (i : Nat) row, rows[i]? = some row → ∃ n : Int, row = [.int .u8 n] ∧ b[i]? = some (UInt8.ofNat n.toNat)
  | [], b, h => by simp [bytesOf] at h; subst h; exact ⟨rfl, fun i row h => by simp at h⟩
  | r :: rs, b, h => by
    simp only [bytesOf] at h
    split at h
    · rename_i c l h1 h2
      simp at h; subst h
      obtain ⟨h3, h4⟩ := bytesOf_spec h2
      refine ⟨by simp [h3], fun i row hrow => ?_⟩
      cases i with
      | zero =>
        simp at hrow; subst hrow
        unfold byteOfRow at h1
        split at h1
        · rename_i n
          split at h1
          · simp at h1; subst h1; exact ⟨n, rfl, rfl⟩
          · simp at h1
        · simp at h1
      | succ i => simp at hrow; simpa using h4 i row hrow
    · simp at h

theorem sound_bytes {src dst e : TypeId} {ds dd de : TD} (hs : td P src = some ds) (hd : td P dst = some dd) (hdd : dd.isS = true) (hse : ds.el = some e) (he : td P e = some de) (hk : de.ik = some .u8) {rows : List (List DV)} {v : Value} (hv : RepD g.im w (.sl rows) v)
    {b : List UInt8} (hb : bytesOf rows = some b) : (convert src dst v).run P w = .ok (.string (bs b)) w := by
  have h1 := td_el hs hse
  have h2 := td_ik he hk
  have h3 := td_isS hd hdd
  obtain ⟨hl, hat⟩ := bytesOf_spec hb
  simp only [RepD] at hv
  obtain ⟨ad, cap, rfl, _, hr⟩ := hv
  rcases hr with rfl | ⟨bl, off, sz, rfl, _, hrr⟩
  · have hb0 : b = [] := List.eq_nil_of_length_eq_zero (by simpa using hl.symm)
    subst hb0
    cases ad with
    | none => exact run_convert_bytes_nil (P := P) w src e h1 h2 0 cap dst h3
    | some ad =>
      refine (run_convert_bytes_string w src dst e _ 0 cap h1 h2 h3).trans ?_
      simp [Conv.bytesToString, loadCells, loadCellsFrom]
      rfl
  · have hsz : ∀ i, i < rows.length → ∃ n : Int, rows[i]? = some [.int .u8 n] ∧ b[i]? = some (UInt8.ofNat n.toNat) := fun i hi => by
      obtain ⟨n, h4, h5⟩ := hat i _ (List.getElem?_eq_getElem hi)
      exact ⟨n, by rw [List.getElem?_eq_getElem hi, h4], h5⟩
    let xs : List Int := rows.map fun r => match r with | [.int .u8 n] => n | _ => 0
    have hx : strOfNums xs = bs b := by
      simp only [strOfNums, bs]
      congr 2
      apply List.ext_getElem?
      intro i
      by_cases hi : i < rows.length
      · obtain ⟨n, h4, h5⟩ := hsz i hi
        simp [xs, h4, h5]
      · simp [xs, List.getElem?_eq_none (show rows.length ≤ i by omega), List.getElem?_eq_none (show b.length ≤ i by omega)]
    rw [← hx]
    refine run_convert_bytes_arg w src e h1 h2 bl off rows.length cap xs (by simp [xs]) (fun i hi => ?_) dst h3
    obtain ⟨n, h4, _⟩ := hsz i hi
    obtain ⟨h6, h7⟩ := RepRows.at_ hrr h4
    have hsz1 : sz = 1 := by simpa using h6.symm
    subst hsz1
    simp only [RepRow, and_true] at h7
    obtain ⟨u, h8, h9⟩ := h7
    simp only [RepD] at h9; subst h9
    simpa [xs, h4] using h8
end
end Go.Av
