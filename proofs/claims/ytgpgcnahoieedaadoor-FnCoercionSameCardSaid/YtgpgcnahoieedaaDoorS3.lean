/- A part of the library of this seat: a value-semantic program logic over the model, plain models, and walks of functions. -/
import Derived.Test.YtgpgcnahoieedaaDoorS2
set_option linter.unusedVariables false
set_option linter.unusedSimpArgs false
namespace Go.Av
attribute [-simp] Go.Av.take_app_len Go.Av.MCo.kind_mk Go.Av.MCo.tag_mk Go.Av.MCo.label_mk Go.Av.MCo.kids_mk
open Go

/-- Like 'pairOkF'; but the allocation q need not be ordered behind what comes before it in the text; what comes behind it waits for it and for all before it. -/
def pairOkL (all : Array Oper) (ws fs : List Nat) (m q : Nat) (ms : List Nat) (oi oj : Oper) (i j : Nat) : Bool :=
  if j = q then oi.dst.isNone || oi.dst != oj.dst else pairOkF all ws fs m ms oi oj i j && (!(decide (i ≤ q) && decide (q < j)) || (ms.getD j 0).testBit i)

def drawOkL (all : Array Oper) (ws fs : List Nat) (m q : Nat) : Bool :=
  let l := all.toList.zipIdx
  let ms := masks all.toList []
  (l.all fun (o, j) => o.after.toList.all fun e => !Region.binds .any e || decide (e.on < j)) &&
  (l.all fun (oj, j) => l.all fun (oi, i) => !(decide (i < j)) || pairOkL all ws fs m q ms oi oj i j) &&
  (l.all fun (o, j) => !ws.contains j || !isS o.op) && (fs.all fun j => !ws.contains j) && (fs.all fun j => ws.all fun i => decide (i < m) || decide (j < i)) && ws.contains q

section
variable {P : Program} {n : Nat} {Q Q' : Exit → St → Prop} {s s' : St} {w0 : World} {g0 g g' : Gh} {a : Act} {w w' : World} {V : List (List CV)} {A A' : List Arr}

theorem Fr.trans (h : Fr w0 g0 w g) (k : Fr w g w' g') : Fr w0 g0 w' g' := by
  have notOb : ∀ b, b < w0.heap.size → b ∉ g0.ob → b ∉ g.ob := fun b hb h1 hm => by
    obtain ⟨new, e, hn⟩ := h.ob
    rw [e] at hm
    rcases List.mem_append.1 hm with q | q
    · exact h1 q
    · exact absurd (hn b q) (by omega)
  have notArb : ∀ b, b < w0.heap.size → b ∉ g0.arb → b ∉ g.arb := fun b hb h1 hm => by
    obtain ⟨k, v, q1, q2⟩ := Gh.mem_arb hm
    rcases h.ar k v b q1 q2 with q | q
    · omega
    · exact h1 q
  refine ⟨k.os.trans h.os, k.tape.trans h.tape, k.output.trans h.output, Nat.le_trans h.size k.size, fun b h1 h2 h3 => ?_, fun b h1 h2 => ?_, ?_, fun i v b h1 h2 => ?_, fun i v h1 => ?_, h.tab⟩
  · rw [k.blk b (Nat.lt_of_lt_of_le h1 h.size) (notOb b h1 h2) (notArb b h1 h3)]; exact h.blk b h1 h2 h3
  · rw [k.imeq b (Nat.lt_of_lt_of_le h1 h.size) (notArb b h1 h2)]; exact h.imeq b h1 h2
  · obtain ⟨new, e, hn⟩ := h.ob
    obtain ⟨new', e', hn'⟩ := k.ob
    refine ⟨new ++ new', by rw [e', e, List.append_assoc], fun b hb => ?_⟩
    rcases List.mem_append.1 hb with q | q
    · exact hn b q
    · exact Nat.le_trans h.size (hn' b q)
  · rcases k.ar i v b h1 h2 with q | q
    · exact .inl (Nat.le_trans h.size q)
    · obtain ⟨j, v', q1, q2⟩ := Gh.mem_arb q
      exact h.ar j v' b q1 q2
  · obtain ⟨v1, q1, q2, q3⟩ := h.arx i v h1
    obtain ⟨v2, q4, q5, q6⟩ := k.arx i v1 q1
    exact ⟨v2, q4, Nat.le_trans q2 q5, fun e => (q6 (by omega)).trans (q3 (by omega))⟩
theorem Fr.reg (h : Fr w0 g0 w g) {b : Nat} (hb : w0.heap.size ≤ b) : Fr w0 g0 w { g with ob := g.ob ++ [b] } := by
  refine ⟨h.os, h.tape, h.output, h.size, h.blk, h.imeq, ?_, h.ar, h.arx, h.tab⟩
  obtain ⟨new, e, hn⟩ := h.ob
  refine ⟨new ++ [b], by show g.ob ++ [b] = _; rw [e, List.append_assoc], fun c hc => ?_⟩
  rcases List.mem_append.1 hc with q | q
  · exact hn c q
  · simp at q; omega

/-- A block that nothing names becomes an object. -/
theorem Inv.reg (hi : Inv g w V A) {b : Nat} {cs : Array Value} {ty : TypeId} {row : List CV} (hb : w.heap[b]? = some (.cells cs ty)) (hs : cs.size = row.length) (hr : ∀ (j : Nat) c u, row[j]? = some c → cs[j]? = some u → ∀ g w A, RepC g w A c u)
    (h1 : b ∉ g.ob) (h2 : b ∉ g.arb) (h3 : g.im b = 0) : Inv { g with ob := g.ob ++ [b] } w (V ++ [row]) A ∧ Ext g w A { g with ob := g.ob ++ [b] } w A ∧ (g.ob ++ [b])[V.length]? = some b := by
  have hx2 : Ext g w A { g with ob := g.ob ++ [b] } w A :=
    ⟨fun l c hc => by show (g.ob ++ [b])[l]? = some c; rw [List.getElem?_append_left (List.getElem?_eq_some_iff.1 hc).1]; exact hc, .refl _ _, fun _ r h => ⟨r, h, rfl, Nat.le_refl _, fun _ => rfl⟩⟩
  have hall : ∀ (l c : Nat), (g.ob ++ [b])[l]? = some c → (g.ob[l]? = some c ∧ c ≠ b) ∨ (l = V.length ∧ c = b) := fun l c hc => by
    rcases Nat.lt_or_ge l g.ob.length with h | h
    · rw [List.getElem?_append_left h] at hc; exact .inl ⟨hc, fun e => h1 (e ▸ List.mem_of_getElem? hc)⟩
    · rw [List.getElem?_append_right h] at hc
      have h0 : l - g.ob.length = 0 := by
        have := (List.getElem?_eq_some_iff.1 hc).1
        simp at this; omega
      rw [h0] at hc; simp at hc
      exact .inr ⟨by rw [← hi.obl]; omega, hc.symm⟩
  refine ⟨⟨by simp [hi.obl], hi.arl, fun l row' c q1 q2 => ?_, fun k r v q1 q2 => ?_, fun l l' c q1 q2 => ?_, hi.arar, fun l k v c q1 q2 => ?_, hi.fresh⟩, hx2, ?_⟩
  · rcases hall l c q2 with ⟨h4, _⟩ | ⟨h4, h5⟩
    · have h5 : V[l]? = some row' := by
        have : l < V.length := by rw [← hi.obl]; exact (List.getElem?_eq_some_iff.1 h4).1
        rwa [List.getElem?_append_left this] at q1
      exact hi.objKeep hx2 h5 h4 rfl (hi.obj l row' c h5 h4).1
    · subst h4; subst h5
      simp at q1; subst q1
      exact ⟨h3, cs, ty, hb, hs, fun j c u h6 h7 => hr j c u h6 h7 _ _ _⟩
  · exact hi.arrKeep hx2 q1 q2 (fun _ _ => rfl) (fun _ _ => rfl)
  · rcases hall l c q1 with ⟨h4, h5⟩ | ⟨h4, h5⟩ <;> rcases hall l' c q2 with ⟨h6, h7⟩ | ⟨h6, h7⟩
    · exact hi.obob l l' c h4 h6
    · exact absurd h7 h5
    · exact absurd h5 h7
    · omega
  · rcases hall l c q1 with ⟨h4, h5⟩ | ⟨h4, h5⟩
    · exact hi.obar l k v c h4 q2
    · subst h5
      exact fun e => h2 (Gh.arb_mem q2 e)
  · rw [← hi.obl]; simp

set_option maxHeartbeats 2000000 in
theorem drawL_one {all : Array Oper} {ow : Nat → Bool} {ws fs : List Nat} {m q : Nat} {ex : List Nat} {V0 : List (List CV)} {A0 : List Arr} {σ : Nat → St} (hd : drawOkL all ws fs m q = true) (hdst : dstsOk n all.toList = true)
    (htr : ∀ (j : Nat) o, all[j]? = some o → StpF P all (ow j) fs j ex V0 A0 o (σ j) (σ (j + 1)) ∧ (j ∈ ws ∨ ((σ (j + 1)).V = (σ j).V ∧ (σ (j + 1)).A = (σ j).A)) ∧ (j < m → Pre ex V0 A0 (σ (j + 1)) ∨ ((σ (j + 1)).V = (σ j).V ∧ (σ (j + 1)).A = (σ j).A))) (h00 : (σ 0).V = V0 ∧ (σ 0).A = A0)
    {listed : Array Bool} {k0 : Nat} (hD : DSF all ws σ n w0 g0 listed k0 g a w) (hL : listed[q]? = some true → ∀ i, i < q → listed[i]? = some true) {j : Nat} (hj : j ∈ Region.ready .any all listed) (hq : j = q → ∀ i, i < q → listed[i]? = some true)
    {next : Act → World → Prop} {Q : Exit → Act → World → Prop} (ih : ∀ k1 o g' a' w', all[j]? = some o → (∀ t, o.dst ≠ some t → a'.tmps[t]? = a.tmps[t]?) → DSF all ws σ n w0 g0 (listed.setIfInBounds j true) k1 g' a' w' → Fr w g w' g' → next a' w') : wpOp P all Q j next a w := by
  simp only [drawOkL, Bool.and_eq_true, List.all_eq_true] at hd
  obtain ⟨⟨⟨⟨⟨hd1, hd2⟩, hd3⟩, hd4⟩, hd5⟩, hqw⟩ := hd
  have hqw : q ∈ ws := by simpa using hqw
  -- the checks, read
  have hmem : ∀ (j : Nat) o, all[j]? = some o → (o, j) ∈ all.toList.zipIdx := fun j o h => by
    rw [List.mem_iff_getElem?]
    exact ⟨j, by simp [List.getElem?_zipIdx, h]⟩
  have hedge : ∀ (j : Nat) o, all[j]? = some o → ∀ e ∈ o.after, Region.binds .any e = true → e.on < j := fun j o h e he hb => by
    have := hd1 _ (hmem j o h) e (Array.mem_toList_iff.2 he)
    simpa [hb] using this
  have hpairL : ∀ (i j : Nat) oi oj, all[i]? = some oi → all[j]? = some oj → i < j → pairOkL all ws fs m q (masks all.toList []) oi oj i j = true := fun i j oi oj h1 h2 hlt => by
    have := hd2 _ (hmem j oj h2) _ (hmem i oi h1)
    simpa [hlt] using this
  have hpairF : ∀ (i j : Nat) oi oj, all[i]? = some oi → all[j]? = some oj → i < j → j ≠ q → pairOkF all ws fs m (masks all.toList []) oi oj i j = true := fun i j oi oj h1 h2 hlt hne => by
    have := hpairL i j oi oj h1 h2 hlt
    simp only [pairOkL, if_neg hne, Bool.and_eq_true] at this
    exact this.1
  have hpair : ∀ (i j : Nat) oi oj, all[i]? = some oi → all[j]? = some oj → i < j → j ≠ q → i ∉ fs → j ∉ fs → pairOk all ws (masks all.toList []) oi oj i j = true := fun i j oi oj h1 h2 hlt hne hi hj => by
    have := hpairF i j oi oj h1 h2 hlt hne
    simpa [pairOkF, pairOk, hi, hj] using this
  have hwf : ∀ i, i ∈ ws → i ∉ fs := fun i hi hf => by
    have := hd4 i hf
    simp [hi] at this
  have hpre : ∀ k, k ≤ m → k ≤ all.size → Pre ex V0 A0 (σ k) := by
    intro k
    induction k with
    | zero =>
      intro _ _
      refine ⟨?_, by rw [h00.2]; simp⟩
      rw [h00.1, exV_same]; simp
    | succ k ih =>
      intro h1 h2
      have ho : all[k]? = some all[k] := Array.getElem?_eq_getElem (by omega)
      rcases (htr k _ ho).2.2 (by omega) with h3 | ⟨h3, h4⟩
      · exact h3
      · have := ih (by omega) (by omega)
        exact ⟨by rw [h3]; exact this.1, by rw [h4]; exact this.2⟩
  have hws : ∀ (j : Nat) o, all[j]? = some o → j ∈ ws → isS o.op = false := fun j o h hj => by
    have := hd3 _ (hmem j o h)
    simpa [hj] using this
  have hdne : ∀ (i j : Nat) oi oj d, all[i]? = some oi → all[j]? = some oj → i < j → oi.dst = some d → oj.dst ≠ some d := fun i j oi oj d h1 h2 hlt h3 h4 => by
    have := hpairL i j oi oj h1 h2 hlt
    simp only [pairOkL, pairOkF, h3, h4] at this
    split at this <;> simp at this
  have hdu : ∀ (i j : Nat) oi oj d, all[i]? = some oi → all[j]? = some oj → oi.dst = some d → oj.dst = some d → i = j := fun i j oi oj d h1 h2 h3 h4 => by
    rcases Nat.lt_trichotomy i j with h | h | h
    · exact absurd h4 (hdne i j oi oj d h1 h2 h h3)
    · exact h
    · exact absurd h3 (hdne j i oj oi d h2 h1 h h4)
  have hdn : ∀ (j : Nat) o d, all[j]? = some o → o.dst = some d → d < n := fun j o d h1 h2 => by
    have := List.all_eq_true.1 hdst o (by rw [Array.mem_toList_iff]; exact Array.mem_of_getElem? h1)
    simpa [h2] using this
  obtain ⟨hml, _, hms⟩ := masks_spec all.toList []
  -- the order that the edges force
  have hbit : ∀ {listed : Array Bool}, (∀ (i : Nat) o, all[i]? = some o → listed[i]? = some true → ∀ e ∈ o.after, Region.binds .any e = true → listed[e.on]? = some true) →
      ∀ (i : Nat) o, all[i]? = some o → (∀ e ∈ o.after, Region.binds .any e = true → listed[e.on]? = some true) → ∀ k, ((masks all.toList []).getD i 0).testBit k = true → listed[k]? = some true := by
    intro listed hcl i
    induction i using Nat.strongRecOn with
    | _ i ih =>
      intro o ho hafter k hk
      obtain ⟨pre, h1, h2, h3⟩ := hms i o (by simpa using ho)
      simp only [List.length_nil, Nat.zero_add] at h1 h3
      have h4 : (masks all.toList []).getD i 0 = mask1 pre o := by simp [List.getD, h3]
      rw [h4] at hk
      obtain ⟨e, he, hb, h5⟩ := mask1_spec hk
      have he1 := hafter e he hb
      rcases h5 with rfl | h5
      · exact he1
      · have hlt := hedge i o ho e he hb
        have h6 : pre.getD e.on 0 = (masks all.toList []).getD e.on 0 := by simp only [List.getD, h2 e.on (by omega)]
        rw [h6] at h5
        have hsz : e.on < all.size := by have := (Array.getElem?_eq_some_iff.1 ho).1; omega
        have hoe : all[e.on]? = some all[e.on] := Array.getElem?_eq_getElem hsz
        exact ih e.on hlt _ hoe (hcl e.on _ hoe he1) k h5
  -- frames
  have hstep : ∀ (j : Nat) o t, all[j]? = some o → o.dst ≠ some t → look (σ (j + 1)).fr t = look (σ j).fr t := fun j o t h1 h2 => by
    obtain ⟨⟨_, h3⟩, _⟩ := htr j o h1
    have hput : ∀ (x : AV) V A, look ((σ j).put o.dst x V A).fr t = look (σ j).fr t := fun x V A => by
      simp only [St.put]
      cases hdd : o.dst with
      | none => rfl
      | some d => simp only [look]; rw [if_neg (fun e => h2 (by rw [hdd, e]))]
    rcases h3 with ⟨_, x, V, A, h4, _, _⟩ | ⟨_, h4⟩
    · rw [h4]; exact hput x V A
    · rw [h4]; exact hput _ _ _
  have hfrB : ∀ (j t : Nat), j ≤ all.size → (∀ (i : Nat) o, i < j → all[i]? = some o → o.dst ≠ some t) → look (σ j).fr t = look (σ 0).fr t := by
    intro j
    induction j with
    | zero => intro t _ _; rfl
    | succ j ih =>
      intro t hj hno
      have ho : all[j]? = some all[j] := Array.getElem?_eq_getElem (by omega)
      rw [hstep j _ t ho (hno j _ (by omega) ho)]
      exact ih t (by omega) (fun i o hi => hno i o (by omega))
  have hfrA : ∀ (j i : Nat) oi t, j ≤ all.size → i < j → all[i]? = some oi → oi.dst = some t → look (σ j).fr t = look (σ (i + 1)).fr t := by
    intro j
    induction j with
    | zero => intro i oi t _ h; omega
    | succ j ih =>
      intro i oi t hj hij hoi hdt
      by_cases e : i = j
      · subst e; rfl
      · have ho : all[j]? = some all[j] := Array.getElem?_eq_getElem (by omega)
        rw [hstep j _ t ho (hdne i j oi _ t hoi ho (by omega) hdt)]
        exact ih i oi t (by omega) (by omega) hoi hdt
  have hVA : ∀ (b a : Nat), a ≤ b → b ≤ all.size → (∀ i, a ≤ i → i < b → i ∉ ws) → (σ b).V = (σ a).V ∧ (σ b).A = (σ a).A := by
    intro b
    induction b with
    | zero =>
      intro a h _ _
      obtain rfl : a = 0 := by omega
      exact ⟨rfl, rfl⟩
    | succ b ih =>
      intro a hab hb hno
      by_cases e : a = b + 1
      · subst e; exact ⟨rfl, rfl⟩
      · have ho : all[b]? = some all[b] := Array.getElem?_eq_getElem (by omega)
        obtain ⟨h1, h2⟩ := ih a (by omega) (by omega) (fun i hi hi' => hno i hi (by omega))
        rcases (htr b _ ho).2.1 with h3 | ⟨h3, h4⟩
        · exact absurd h3 (hno b (by omega) (by omega))
        · exact ⟨h3.trans h1, h4.trans h2⟩
  -- one operation
  obtain ⟨hun, o, ho, hafter⟩ := mem_ready.1 hj
  have hju := unlisted_of hun
  have hjn : j < all.size := (Array.getElem?_eq_some_iff.1 ho).1
  have hjl : j < listed.size := by rw [hD.lsize]; exact hjn
  have hne : ∀ i, j < i → listed[i]? = some true → i ≠ q := fun i h hl e => by
    subst e
    have := hL hl j h
    rw [hju] at this; simp at this
  have hafter' : ∀ e ∈ o.after, Region.binds .any e = true → listed[e.on]? = some true := fun e he hb => listed_iff.1 (hafter e he hb)
  have hbefore : ∀ k, ((masks all.toList []).getD j 0).testBit k = true → listed[k]? = some true := hbit hD.closed j o ho hafter'
  have hbehind : ∀ (i : Nat) oi, all[i]? = some oi → listed[i]? = some true → ((masks all.toList []).getD i 0).testBit j = false := fun i oi hoi hli => by
    cases hb : ((masks all.toList []).getD i 0).testBit j with
    | false => rfl
    | true => have := hbit hD.closed i oi hoi (hD.closed i oi hoi hli) j hb; rw [hju] at this; simp at this
  -- what the operation looks at
  have hlooks : ∀ t ∈ o.looksAt all, ∀ x, look (σ j).fr t = some x → ∃ u, a.tmps[t]? = some u ∧ RepV g w (σ k0).A x u := by
    intro t ht x hx
    by_cases hex : ∃ (i : Nat) (oi : Oper), i < j ∧ all[i]? = some oi ∧ oi.dst = some t
    · obtain ⟨i, oi, hij, hoi, hdt⟩ := hex
      rw [hfrA j i oi t (by omega) hij hoi hdt] at hx
      have hli : listed[i]? = some true := by
        by_cases e : j = q
        · exact hq e i (by omega)
        · have hp := hpairF i j oi o hoi ho hij e
          have htc : touch all oi o = true := by simp only [touch, hdt]; simpa using ht
          simp only [pairOkF, htc, Bool.and_eq_true, Bool.or_eq_true] at hp
          have hb : ((masks all.toList []).getD j 0).testBit i = true := by simpa using hp.2
          exact hbefore i hb
      exact hD.slot1 i oi t x hoi hli hdt hx
    · rw [hfrB j t (by omega) (fun i oi hij hoi hdt => hex ⟨i, oi, hij, hoi, hdt⟩)] at hx
      refine hD.slot0 t x (fun i oi hoi hli hdt => ?_) hx
      rcases Nat.lt_trichotomy i j with h | h | h
      · exact hex ⟨i, oi, h, hoi, hdt⟩
      · subst h; rw [hju] at hli; simp at hli
      · have hp := hpairF j i o oi ho hoi h (hne i h hli)
        have htc : touch all oi o = true := by simp only [touch, hdt]; simpa using ht
        have hb := hbehind i oi hoi hli
        simp only [pairOkF, htc, hb, Bool.and_eq_true, Bool.or_eq_true] at hp
        simp at hp
  let fr' := (σ j).fr.filter fun p => (o.looksAt all).contains p.1
  have hlk : ∀ t, look fr' t = if (o.looksAt all).contains t then look (σ j).fr t else none := fun t => look_filter (fun t => (o.looksAt all).contains t) (σ j).fr t
  have hS : ∀ (V : List (List CV)), Slots g w ⟨fr', V, (σ k0).A⟩ a := fun V t x hx => by
    simp only [hlk] at hx
    split at hx
    · rename_i hc; exact hlooks t (by simpa using hc) x hx
    · cases hx
  have hop : ∀ (V V' : List (List CV)) (A A' : List Arr), ∀ x ∈ o.op.operands.toList, aval ⟨fr', V, A⟩ x = aval ⟨(σ j).fr, V', A'⟩ x := fun V V' A A' x hx => by
    cases x with
    | tmp t =>
      simp only [aval, hlk]
      rw [if_pos]
      simp only [Oper.looksAt, List.contains_eq_mem, decide_eq_true_eq, List.mem_append, List.mem_filterMap]
      exact .inl ⟨.tmp t, hx, rfl⟩
    | _ => rfl
  have hRr : Rp n w0 g0 ⟨fr', (σ k0).V, (σ k0).A⟩ g a w := ⟨hD.inv, hD.fr, hD.size, hD.defers, hS _⟩
  -- the guard
  obtain ⟨⟨hgd, hst⟩, hor, _⟩ := htr j o ho
  have hgd' : gdo all ⟨fr', (σ k0).V, (σ k0).A⟩ o True True ∧ gw all ⟨fr', (σ k0).V, (σ k0).A⟩ o = gw all (σ j) o := by
    unfold gdo gw at *
    cases hgg : o.guard with
    | none => simp
    | some jw =>
      obtain ⟨q, want⟩ := jw
      simp only [hgg] at hgd ⊢
      obtain ⟨oq, h1, h2⟩ := onv_some hgd
      obtain ⟨t, h3, h4⟩ := onv_some h2
      have : look fr' t = look (σ j).fr t := by
        rw [hlk, if_pos]
        simp only [Oper.looksAt, hgg, List.contains_eq_mem, decide_eq_true_eq, List.mem_append]
        exact .inr (by simp [h1, h3])
      simp only [h1, onv, h3, Option.bind_some, this] at h4 ⊢
      exact ⟨h4, trivial⟩
  have hwant : Region.wanted o (yielded all a.tmps) = gw all (σ j) o := by
    rw [← hgd'.2]
    have h0 := gdo_mono hgd'.1
    -- both say the same
    have h1 := hgd'.1
    unfold gdo at h1
    unfold gw
    cases hgg : o.guard with
    | none => simp [Region.wanted, hgg]
    | some jw =>
      obtain ⟨q, want⟩ := jw
      simp only [hgg] at h1 ⊢
      obtain ⟨oq, h2, h3⟩ := onv_some h1
      obtain ⟨t, h4, h5⟩ := onv_some h3
      obtain ⟨x, h6, h7⟩ := onv_some h5
      obtain ⟨h8, h9⟩ := yielded_of hRr h2 h4 h6
      simp only [h2, Option.bind_some, h4, h6]
      split at h7
      · rename_i b; simp [Region.wanted, hgg, h8 b rfl]
      · simp [Region.wanted, hgg, h9 rfl]
      · exact h7.elim
  -- the state behind it
  have hset : ∀ i, (listed.setIfInBounds j true)[i]? = if i = j then some true else listed[i]? := fun i => by
    by_cases e : i = j
    · subst e; simp [hjl]
    · rw [if_neg e, Array.getElem?_setIfInBounds_ne (fun h => e h.symm)]
  have hoth : ∀ (v : Value) (t : Nat), o.dst ≠ some t → (a.put o.dst v).tmps[t]? = a.tmps[t]? := fun v t hne => by
    cases hdd : o.dst with
    | none => rfl
    | some d =>
      simp only [Act.put]
      rw [Array.getElem?_setIfInBounds_ne (fun e => hne (by rw [hdd, e]))]
  have hnext : ∀ (k1 : Nat) (x : AV) (v : Value) (w' : World) (g' : Gh), look (σ (j + 1)).fr = look ((σ j).put o.dst x [] []).fr → RepV g' w' (σ k1).A x v → Inv g' w' (σ k1).V (σ k1).A → Ext g w (σ k0).A g' w' (σ k1).A → Fr w0 g0 w' g' → k1 ≤ all.size → (k1 = 0 ∨ ∃ i ∈ ws, k1 = i + 1) →
      (∀ i ∈ ws, i < all.size → ((listed.setIfInBounds j true)[i]? = some true ↔ i < k1)) → DSF all ws σ n w0 g0 (listed.setIfInBounds j true) k1 g' (a.put o.dst v) w' := by
    intro k1 x v w' g' hfr hrv hI hx hF hk hkw hwp
    have hputs : ∀ t u, o.dst ≠ some t → a.tmps[t]? = some u → (a.put o.dst v).tmps[t]? = some u := fun t u hne hu => by
      cases hdd : o.dst with
      | none => exact hu
      | some d =>
        simp only [Act.put]
        rw [Array.getElem?_setIfInBounds_ne (fun e => hne (by rw [hdd, e]))]; exact hu
    refine ⟨hI, hF, ?_, ?_, by simp [hD.lsize], fun i oi t y hoi hli hdt hy => ?_, fun t y hno hy => ?_, hwp, hk, hkw, fun i oi hoi hli e he hb => ?_⟩
    · cases o.dst <;> simp [Act.put, hD.size]
    · cases o.dst <;> simp [Act.put, hD.defers]
    · rw [hset] at hli
      by_cases e : i = j
      · subst e
        obtain rfl : o = oi := by rw [ho] at hoi; exact Option.some.inj hoi
        rw [hfr] at hy
        simp only [St.put, hdt, look, if_true] at hy
        cases hy
        refine ⟨v, ?_, hrv⟩
        have : t < a.tmps.size := by rw [hD.size]; exact hdn i o t ho hdt
        simp [Act.put, hdt, this]
      · rw [if_neg e] at hli
        obtain ⟨u, h1, h2⟩ := hD.slot1 i oi t y hoi hli hdt hy
        exact ⟨u, hputs t u (fun h => e (hdu i j oi o t hoi ho hdt h)) h1, RepV.ext hx h2⟩
    · have hne : o.dst ≠ some t := hno j o ho (by rw [hset, if_pos rfl])
      obtain ⟨u, h1, h2⟩ := hD.slot0 t y (fun i oi hoi hli => hno i oi hoi (by
        rw [hset]
        by_cases e : i = j
        · rw [if_pos e]
        · rw [if_neg e]; exact hli)) hy
      exact ⟨u, hputs t u hne h1, RepV.ext hx h2⟩
    · rw [hset] at hli ⊢
      have : listed[e.on]? = some true := by
        by_cases e' : i = j
        · subst e'
          obtain rfl : o = oi := by rw [ho] at hoi; exact Option.some.inj hoi
          exact hafter' e he hb
        · rw [if_neg e'] at hli
          exact hD.closed i oi hoi hli e he hb
      by_cases e' : e.on = j
      · rw [if_pos e']
      · rw [if_neg e']; exact this
  have hwp0 : j ∉ ws → ∀ i ∈ ws, i < all.size → ((listed.setIfInBounds j true)[i]? = some true ↔ i < k0) := fun hjw i hi hin => by
    rw [hset, if_neg (fun e => hjw (by rw [← e]; exact hi))]
    exact hD.wprog i hi hin
  have hva : isS o.op = false → j ∉ fs → (σ j).V = (σ k0).V ∧ (σ j).A = (σ k0).A := by
    intro hns hjf
    rcases Nat.le_total j k0 with h | h
    · have := hVA k0 j h hD.kle (fun i h1 h2 h3 => by
        have hin : i < all.size := by have := hD.kle; omega
        have hli := (hD.wprog i h3 hin).2 h2
        have hoi : all[i]? = some all[i] := Array.getElem?_eq_getElem hin
        rcases Nat.lt_or_ge j i with h4 | h4
        · have hp := hpair j i o _ ho hoi h4 (hne i h4 hli) hjf (hwf i h3)
          have hb := hbehind i _ hoi hli
          simp only [pairOk, hb, Bool.and_eq_true, Bool.or_eq_true] at hp
          simp [h3, hns, -isS] at hp
        · obtain rfl : i = j := by omega
          rw [hju] at hli; simp at hli)
      exact ⟨this.1.symm, this.2.symm⟩
    · exact hVA j k0 h (by omega) (fun i h1 h2 h3 => by
        have hin : i < all.size := by omega
        have hoi : all[i]? = some all[i] := Array.getElem?_eq_getElem hin
        have hli : listed[i]? = some true := by
          by_cases e : j = q
          · exact hq e i (by omega)
          · have hp := hpair i j _ o hoi ho h2 e (hwf i h3) hjf
            simp only [pairOk, Bool.and_eq_true, Bool.or_eq_true] at hp
            rcases hp.2 with h4 | h4
            · simp [h3, hns, -isS] at h4
            · exact hbefore i h4
        have := (hD.wprog i h3 hin).1 hli
        omega)
  -- carried out, or passed over
  unfold wpOp
  simp only [ho]
  rcases hst with ⟨h1, x, V, A, h2, h3, h3f⟩ | ⟨h1, h2⟩
  · rw [if_pos (by rw [hwant, h1])]
    refine .inl ?_
    by_cases hs : isS o.op = true
    · -- slots alone
      have hjw : j ∉ ws := fun h => by have := hws j o ho h; rw [hs] at this; simp at this
      have h4 : astep P ⟨fr', (σ k0).V, (σ k0).A⟩ (ow j) o (fun y V' A' => y = x ∧ V' = (σ k0).V ∧ A' = (σ k0).A) := astep_S (s := σ j) (s' := ⟨fr', (σ k0).V, (σ k0).A⟩) hs (hop _ _ _ _) h3 ⟨rfl, rfl, rfl⟩
      obtain ⟨y, V', A', ⟨rfl, rfl, rfl⟩, h5⟩ := astep_wp hRr.inv (Fr.refl hRr.fr.now) hRr.slot h4
      refine h5 _ _ fun v w' g' h6 h7 h8 h9 => ih k0 o g' _ w' ho (hoth v) (hnext k0 y v w' g' (by rw [h2]; rfl) h6 h7 h8 (hD.fr.trans h9) hD.kle hD.kw (hwp0 hjw)) h9
    · have hns : isS o.op = false := by simpa using hs
      by_cases hjf : j ∈ fs
      · have hjw : j ∉ ws := fun h => hwf j h hjf
        have hk0m : k0 ≤ m := by
          rcases hD.kw with h | ⟨i, hi, hk⟩
          · omega
          · rcases Nat.lt_or_ge i m with h | h
            · omega
            · exfalso
              have hin : i < all.size := by have := hD.kle; omega
              have hoi : all[i]? = some all[i] := Array.getElem?_eq_getElem hin
              have hli := (hD.wprog i hi hin).2 (by omega)
              have hji : j < i := by
                have := hd5 j hjf i hi
                simp at this; omega
              have hp := hpairF j i o _ ho hoi hji (hne i hji hli)
              have hb := hbehind i _ hoi hli
              have hnm : ¬ i < m := by omega
              simp only [pairOkF, hb, Bool.and_eq_true, Bool.or_eq_true] at hp
              simp [-isS, hi, hns, hnm, hjf, hjw] at hp
        obtain ⟨hp1, hp2⟩ := hpre k0 hk0m hD.kle
        have h4 : astep P ⟨fr', (σ k0).V, (σ k0).A⟩ (ow j) o (fun y V' A' => y = x ∧ V' = (σ k0).V ∧ A' = (σ k0).A) := by
          have h5 := h3f hjf (fun i => (σ k0).V.getD i []) ((σ k0).V.drop V0.length) ((σ k0).A.drop A0.length)
          have e1 : exV ex (fun i => (σ k0).V.getD i []) V0 ++ (σ k0).V.drop V0.length = (σ k0).V := by
            rw [← hp1]; exact List.take_append_drop _ _
          have e2 : A0 ++ (σ k0).A.drop A0.length = (σ k0).A := by conv => lhs; arg 1; rw [← hp2]
                                                                   exact List.take_append_drop _ _
          rw [e1, e2] at h5
          exact astep_congr (fr := (σ j).fr) (hop _ _ _ _) h5
        obtain ⟨y, V', A', ⟨rfl, rfl, rfl⟩, h5⟩ := astep_wp hRr.inv (Fr.refl hRr.fr.now) hRr.slot h4
        exact h5 _ _ fun v w' g' h6 h7 h8 h9 => ih k0 o g' _ w' ho (hoth v) (hnext k0 y v w' g' (by rw [h2]; rfl) h6 h7 h8 (hD.fr.trans h9) hD.kle hD.kw (hwp0 hjw)) h9
      obtain ⟨hv1, hv2⟩ := hva hns hjf
      have h4 : astep P ⟨fr', (σ k0).V, (σ k0).A⟩ (ow j) o (fun y V' A' => y = x ∧ V' = V ∧ A' = A) := by
        rw [← hv1, ← hv2]
        exact astep_congr (fr := (σ j).fr) (hop _ _ _ _) (h3 _ ⟨rfl, rfl, rfl⟩)
      obtain ⟨y, V', A', ⟨rfl, rfl, rfl⟩, h5⟩ := astep_wp hRr.inv (Fr.refl hRr.fr.now) hRr.slot h4
      have hVj : (σ (j + 1)).V = V' := by rw [h2]; rfl
      have hAj : (σ (j + 1)).A = A' := by rw [h2]; rfl
      by_cases hjw : j ∈ ws
      · refine h5 _ _ fun v w' g' h6 h7 h8 h9 => ih (j + 1) o g' _ w' ho (hoth v) (hnext (j + 1) y v w' g' (by rw [h2]; rfl) (by rw [hAj]; exact h6) (by rw [hVj, hAj]; exact h7) (by rw [hAj]; exact h8) (hD.fr.trans h9) (by omega) (.inr ⟨j, hjw, rfl⟩) (fun i hi hin => ?_)) h9
        have hoi : all[i]? = some all[i] := Array.getElem?_eq_getElem hin
        rw [hset]
        by_cases e : i = j
        · subst e; simp
        · rw [if_neg e]
          constructor
          · intro hli
            rcases Nat.lt_or_ge j i with h | h
            · have hp := hpair j i o _ ho hoi h (hne i h hli) (hwf j hjw) (hwf i hi)
              have hb := hbehind i _ hoi hli
              simp only [pairOk, hb, Bool.and_eq_true, Bool.or_eq_true] at hp
              simp [hi, hns, -isS] at hp
            · omega
          · intro hlt
            by_cases e : j = q
            · exact hq e i (by omega)
            have hp := hpair i j _ o hoi ho (by omega) e (hwf i hi) (hwf j hjw)
            simp only [pairOk, Bool.and_eq_true, Bool.or_eq_true] at hp
            rcases hp.2 with h | h
            · simp [hi, hns, -isS] at h
            · exact hbefore i h
      · rcases hor with hor | ⟨ho1, ho2⟩
        · exact absurd hor hjw
        · refine h5 _ _ fun v w' g' h6 h7 h8 h9 => ih k0 o g' _ w' ho (hoth v) (hnext k0 y v w' g' (by rw [h2]; rfl) ?_ ?_ ?_ (hD.fr.trans h9) hD.kle hD.kw (hwp0 hjw)) h9
          · rw [← hv2, ← ho2, hAj]; exact h6
          · rw [← hv1, ← hv2, ← ho1, ← ho2, hVj, hAj]; exact h7
          · have e1 : (σ k0).A = A' := by rw [← hv2, ← ho2, hAj]
            rw [e1] at h8 ⊢; exact h8
  · rw [if_neg (by rw [hwant, h1]; simp)]
    have hVj : (σ (j + 1)).V = (σ j).V := by rw [h2]; rfl
    have hAj : (σ (j + 1)).A = (σ j).A := by rw [h2]; rfl
    by_cases hjw : j ∈ ws
    · have hns := hws j o ho hjw
      obtain ⟨hv1, hv2⟩ := hva hns (hwf j hjw)
      refine ih (j + 1) o g _ w ho (hoth undef) (hnext (j + 1) (.c .undef) undef w g (by rw [h2]; rfl) rfl ?_ ?_ hD.fr (by omega) (.inr ⟨j, hjw, rfl⟩) (fun i hi hin => ?_)) (.refl hD.fr.now)
      · rw [hVj, hAj, hv1, hv2]; exact hD.inv
      · rw [hAj, hv2]; exact .refl _ _ _
      · have hoi : all[i]? = some all[i] := Array.getElem?_eq_getElem hin
        rw [hset]
        by_cases e : i = j
        · subst e; simp
        · rw [if_neg e]
          constructor
          · intro hli
            rcases Nat.lt_or_ge j i with h | h
            · have hp := hpair j i o _ ho hoi h (hne i h hli) (hwf j hjw) (hwf i hi)
              have hb := hbehind i _ hoi hli
              simp only [pairOk, hb, Bool.and_eq_true, Bool.or_eq_true] at hp
              simp [hi, hns, -isS] at hp
            · omega
          · intro hlt
            by_cases e : j = q
            · exact hq e i (by omega)
            have hp := hpair i j _ o hoi ho (by omega) e (hwf i hi) (hwf j hjw)
            simp only [pairOk, Bool.and_eq_true, Bool.or_eq_true] at hp
            rcases hp.2 with h | h
            · simp [hi, hns, -isS] at h
            · exact hbefore i h
    · exact ih k0 o g _ w ho (hoth undef) (hnext k0 (.c .undef) undef w g (by rw [h2]; rfl) rfl hD.inv (.refl _ _ _) hD.fr hD.kle hD.kw (hwp0 hjw)) (.refl hD.fr.now)

/-- The allocation q has been carried out, and nothing knows of its block b yet. -/
structure Late (all : Array Oper) (ws : List Nat) (σ : Nat → St) (n : Nat) (w0 : World) (g0 : Gh) (q d : Nat) (row : List CV) (cs : Array Value) (ty : TypeId) (listed : Array Bool) (k0 : Nat) (b : Nat) (g : Gh) (a : Act) (w : World) : Prop where
  got : listed[q]? = some true
  base : DSF all ws σ n w0 g0 (listed.setIfInBounds q false) k0 g a w
  slot : a.tmps[d]? = some (.pointer (some ⟨b, 0, none⟩))
  mem : w.heap[b]? = some (.cells cs ty)
  ob : b ∉ g.ob
  arb : b ∉ g.arb
  im : g.im b = 0
  new : w0.heap.size ≤ b
  lt : b < w.heap.size
  closed : ∀ (i : Nat) o, all[i]? = some o → listed[i]? = some true → ∀ e ∈ o.after, Region.binds .any e = true → listed[e.on]? = some true

theorem Late.step {all : Array Oper} {ws : List Nat} {σ : Nat → St} {q d : Nat} {row : List CV} {cs : Array Value} {ty : TypeId} {listed : Array Bool} {k0 k1 b : Nat} {a' : Act} (h : Late all ws σ n w0 g0 q d row cs ty listed k0 b g a w) {j : Nat} (hjq : j ≠ q) (ha : a'.tmps[d]? = a.tmps[d]?)
    (hD : DSF all ws σ n w0 g0 ((listed.setIfInBounds q false).setIfInBounds j true) k1 g' a' w') (hF : Fr w g w' g') (hcl : ∀ (i : Nat) o, all[i]? = some o → (listed.setIfInBounds j true)[i]? = some true → ∀ e ∈ o.after, Region.binds .any e = true → (listed.setIfInBounds j true)[e.on]? = some true) : Late all ws σ n w0 g0 q d row cs ty (listed.setIfInBounds j true) k1 b g' a' w' := by
  refine ⟨by rw [Array.getElem?_setIfInBounds_ne hjq]; exact h.got, ?_, by rw [ha]; exact h.slot, by rw [hF.blk b h.lt h.ob h.arb]; exact h.mem, fun hm => ?_, fun hm => ?_, by rw [hF.imeq b h.lt h.arb]; exact h.im, h.new, Nat.lt_of_lt_of_le h.lt hF.size, hcl⟩
  · rw [Array.setIfInBounds_comm _ _ hjq]; exact hD
  · obtain ⟨new, e, hn⟩ := hF.ob
    rw [e] at hm
    rcases List.mem_append.1 hm with p | p
    · exact h.ob p
    · have := hn b p; have := h.lt; omega
  · obtain ⟨k, v, q1, q2⟩ := Gh.mem_arb hm
    rcases hF.ar k v b q1 q2 with p | p
    · have := h.lt; omega
    · exact h.arb p

/-- What is known of the allocation q. -/
structure LateOk (P : Program) (all : Array Oper) (ow : Nat → Bool) (σ : Nat → St) (q d : Nat) (row : List CV) (cs : Array Value) (ty : TypeId) (oq : Oper) : Prop where
  at_ : all[q]? = some oq
  guard : oq.guard = none
  dst : oq.dst = some d
  s0 : look (σ 0).fr d = none
  size : cs.size = row.length
  cells : ∀ (j : Nat) c u, row[j]? = some c → cs[j]? = some u → ∀ g w A, RepC g w A c u
  next : σ (q + 1) = (σ q).put (some d) (.c (.ptr (σ q).V.length 0)) ((σ q).V ++ [row]) (σ q).A
  run : ∀ (a : Act) (w : World), (execOp a.eval oq).run P w = .ok (.value (.pointer (some ⟨w.heap.size, 0, none⟩))) (w.alloc (.cells cs ty))

theorem setTF (l : Array Bool) (q : Nat) (h : l[q]? ≠ some true) (hq : q < l.size) : (l.setIfInBounds q true).setIfInBounds q false = l := by
  apply Array.ext_getElem?
  intro i
  rw [Array.getElem?_setIfInBounds]
  by_cases e : q = i
  · subst e
    have : l[q] = false := by
      rw [Array.getElem?_eq_getElem hq] at h
      cases hx : l[q] <;> simp_all
    simp [hq, this]
  · rw [if_neg e, Array.getElem?_setIfInBounds_ne e]

theorem hdrawL {all : Array Oper} {ws fs : List Nat} {m q : Nat} (hd : drawOkL all ws fs m q = true) : q ∈ ws ∧ (∀ (j : Nat) o, all[j]? = some o → ∀ e ∈ o.after, Region.binds .any e = true → e.on < j) ∧
    (∀ (i j : Nat) oi oj, all[i]? = some oi → all[j]? = some oj → i ≤ q → q < j → ((masks all.toList []).getD j 0).testBit i = true) ∧ (∀ (i j : Nat) oi oj d, all[i]? = some oi → all[j]? = some oj → i ≠ j → oi.dst = some d → oj.dst ≠ some d) := by
  simp only [drawOkL, Bool.and_eq_true, List.all_eq_true] at hd
  obtain ⟨⟨⟨⟨⟨hd1, hd2⟩, hd3⟩, hd4⟩, hd5⟩, hqw⟩ := hd
  have hmem : ∀ (j : Nat) o, all[j]? = some o → (o, j) ∈ all.toList.zipIdx := fun j o h => by
    rw [List.mem_iff_getElem?]
    exact ⟨j, by simp [List.getElem?_zipIdx, h]⟩
  have hpairL : ∀ (i j : Nat) oi oj, all[i]? = some oi → all[j]? = some oj → i < j → pairOkL all ws fs m q (masks all.toList []) oi oj i j = true := fun i j oi oj h1 h2 hlt => by
    have := hd2 _ (hmem j oj h2) _ (hmem i oi h1)
    simpa [hlt] using this
  have hlt' : ∀ (i j : Nat) oi oj d, all[i]? = some oi → all[j]? = some oj → i < j → oi.dst = some d → oj.dst ≠ some d := fun i j oi oj d h1 h2 hlt h3 h4 => by
    have := hpairL i j oi oj h1 h2 hlt
    simp only [pairOkL, pairOkF, h3, h4] at this
    split at this <;> simp at this
  refine ⟨by simpa using hqw, fun j o h e he hb => ?_, fun i j oi oj h1 h2 h3 h4 => ?_, fun i j oi oj d h1 h2 hne h3 h4 => ?_⟩
  · have := hd1 _ (hmem j o h) e (Array.mem_toList_iff.2 he)
    simpa [hb] using this
  · have := hpairL i j oi oj h1 h2 (by omega)
    simp only [pairOkL, if_neg (show ¬ j = q by omega), Bool.and_eq_true] at this
    simpa [h3, h4] using this.2
  · rcases Nat.lt_or_gt_of_ne hne with h | h
    · exact hlt' i j oi oj d h1 h2 h h3 h4
    · exact hlt' j i oj oi d h2 h1 h h4 h3

/-- What a listed operation waits for is listed. -/
theorem bit_listed {all : Array Oper} (hedge : ∀ (j : Nat) o, all[j]? = some o → ∀ e ∈ o.after, Region.binds .any e = true → e.on < j) {listed : Array Bool} (hcl : ∀ (i : Nat) o, all[i]? = some o → listed[i]? = some true → ∀ e ∈ o.after, Region.binds .any e = true → listed[e.on]? = some true) :
    ∀ (i : Nat) o, all[i]? = some o → (∀ e ∈ o.after, Region.binds .any e = true → listed[e.on]? = some true) → ∀ k, ((masks all.toList []).getD i 0).testBit k = true → listed[k]? = some true := by
  obtain ⟨hml, _, hms⟩ := masks_spec all.toList []
  intro i
  induction i using Nat.strongRecOn with
  | _ i ih =>
    intro o ho hafter k hk
    obtain ⟨pre, h1, h2, h3⟩ := hms i o (by simpa using ho)
    simp only [List.length_nil, Nat.zero_add] at h1 h3
    have h4 : (masks all.toList []).getD i 0 = mask1 pre o := by simp [List.getD, h3]
    rw [h4] at hk
    obtain ⟨e, he, hb, h5⟩ := mask1_spec hk
    have he1 := hafter e he hb
    rcases h5 with rfl | h5
    · exact he1
    · have hlt := hedge i o ho e he hb
      have h6 : pre.getD e.on 0 = (masks all.toList []).getD e.on 0 := by simp only [List.getD, h2 e.on (by omega)]
      rw [h6] at h5
      have hsz : e.on < all.size := by have := (Array.getElem?_eq_some_iff.1 ho).1; omega
      have hoe : all[e.on]? = some all[e.on] := Array.getElem?_eq_getElem hsz
      exact ih e.on hlt _ hoe (hcl e.on _ hoe he1) k h5

/-- The block becomes an object, when all that comes before it is done. -/
theorem Late.reg {all : Array Oper} {ow : Nat → Bool} {ws fs : List Nat} {m q : Nat} {σ : Nat → St} (hd : drawOkL all ws fs m q = true) {d : Nat} {row : List CV} {cs : Array Value} {ty : TypeId} {oq : Oper} (hk : LateOk P all ow σ q d row cs ty oq)
    (hw : ∀ (j : Nat) o, all[j]? = some o → j ∈ ws ∨ ((σ (j + 1)).V = (σ j).V ∧ (σ (j + 1)).A = (σ j).A))
    {listed : Array Bool} {k0 b : Nat} (h : Late all ws σ n w0 g0 q d row cs ty listed k0 b g a w) (hall : ∀ i, i < q → listed[i]? = some true) : ∃ g', DSF all ws σ n w0 g0 listed (q + 1) g' a w := by
  obtain ⟨hqw, hedge, hbits, hdu⟩ := hdrawL hd
  have hqn : q < all.size := (Array.getElem?_eq_some_iff.1 hk.at_).1
  have hset : ∀ i, i ≠ q → (listed.setIfInBounds q false)[i]? = listed[i]? := fun i hi => Array.getElem?_setIfInBounds_ne (fun e => hi e.symm)
  have hql : q < listed.size := (Array.getElem?_eq_some_iff.1 h.got).1
  have hsq : (listed.setIfInBounds q false)[q]? = some false := by simp [hql]
  have hno : ∀ i, q < i → listed[i]? ≠ some true := fun i hi hl => by
    have hin : i < all.size := by
      have := (Array.getElem?_eq_some_iff.1 hl).1
      have e := h.base.lsize
      simp at e; omega
    have hoi : all[i]? = some all[i] := Array.getElem?_eq_getElem hin
    have := bit_listed hedge h.base.closed i _ hoi (h.base.closed i _ hoi (by rw [hset i (by omega)]; exact hl)) q (hbits q i _ _ hk.at_ hoi (Nat.le_refl _) hi)
    rw [hsq] at this; simp at this
  have hk0 : k0 ≤ q := by
    rcases h.base.kw with e | ⟨i, hi, e⟩
    · omega
    · rcases Nat.lt_or_ge i q with h1 | h1
      · omega
      · have := h.base.kle
        have h2 := (h.base.wprog i hi (by omega)).2 (by omega)
        rcases Nat.eq_or_lt_of_le h1 with h3 | h3
        · subst h3; rw [hsq] at h2; simp at h2
        · rw [hset i (by omega)] at h2; exact absurd h2 (hno i h3)
  have hVA : ∀ c, k0 ≤ c → c ≤ q → (σ c).V = (σ k0).V ∧ (σ c).A = (σ k0).A := by
    intro c
    induction c with
    | zero => intro h1 _; obtain rfl : k0 = 0 := by omega
              exact ⟨rfl, rfl⟩
    | succ c ih =>
      intro h1 h2
      by_cases e : k0 = c + 1
      · subst e; exact ⟨rfl, rfl⟩
      · obtain ⟨h3, h4⟩ := ih (by omega) (by omega)
        rcases hw c _ (Array.getElem?_eq_getElem (by omega)) with h5 | ⟨h5, h6⟩
        · have := (h.base.wprog c h5 (by omega)).1 (by rw [hset c (by omega)]; exact hall c (by omega))
          omega
        · exact ⟨h5.trans h3, h6.trans h4⟩
  obtain ⟨hv1, hv2⟩ := hVA q hk0 (Nat.le_refl _)
  obtain ⟨hI, hx, hb⟩ := h.base.inv.reg h.mem hk.size hk.cells h.ob h.arb h.im
  have hVn : (σ (q + 1)).V = (σ k0).V ++ [row] := by rw [hk.next, ← hv1]; rfl
  have hAn : (σ (q + 1)).A = (σ k0).A := by rw [hk.next, ← hv2]; rfl
  refine ⟨{ g with ob := g.ob ++ [b] }, by rw [hVn, hAn]; exact hI, h.base.fr.reg h.new, h.base.size, h.base.defers, by simpa using h.base.lsize, fun i o t x ho hl hdt hx' => ?_, fun t x hno' hx' => ?_, fun i hi hin => ?_, by omega, .inr ⟨q, hqw, rfl⟩, fun i o ho hl e he hb' => ?_⟩
  · rw [hAn]
    by_cases e : i = q
    · subst e
      rw [hk.at_] at ho
      cases ho
      rw [hk.dst] at hdt
      cases hdt
      rw [hk.next] at hx'
      simp only [St.put, look, if_true] at hx'
      cases hx'
      exact ⟨_, h.slot, b, by rw [hv1]; exact hb, rfl⟩
    · obtain ⟨u, h1, h2⟩ := h.base.slot1 i o t x ho (by rw [hset i e]; exact hl) hdt hx'
      exact ⟨u, h1, RepV.ext hx h2⟩
  · rw [hAn]
    obtain ⟨u, h1, h2⟩ := h.base.slot0 t x (fun i o ho hl => by
      by_cases e : i = q
      · subst e; rw [hsq] at hl; simp at hl
      · rw [hset i e] at hl; exact hno' i o ho hl) hx'
    exact ⟨u, h1, RepV.ext hx h2⟩
  · constructor
    · intro hl
      rcases Nat.lt_or_ge q i with h1 | h1
      · exact absurd hl (hno i h1)
      · omega
    · intro hlt
      by_cases e : i = q
      · subst e; exact h.got
      · exact hall i (by omega)
  · have hlt := hedge i o ho e he hb'
    by_cases e' : i = q
    · subst e'; exact hall e.on hlt
    · by_cases e2 : e.on = q
      · rw [e2]; exact h.got
      · have := h.base.closed i o ho (by rw [hset i e']; exact hl) e he hb'
        rwa [hset _ e2] at this

set_option maxHeartbeats 1000000 in
theorem drawL_sound {all : Array Oper} {ow : Nat → Bool} {ws fs : List Nat} {m q : Nat} {ex : List Nat} {V0 : List (List CV)} {A0 : List Arr} {σ : Nat → St} {K : St → Prop} {Q : Exit → Act → World → Prop} (hd : drawOkL all ws fs m q = true) (hdst : dstsOk n all.toList = true)
    (htr : ∀ (j : Nat) o, all[j]? = some o → StpF P all (ow j) fs j ex V0 A0 o (σ j) (σ (j + 1)) ∧ (j ∈ ws ∨ ((σ (j + 1)).V = (σ j).V ∧ (σ (j + 1)).A = (σ j).A)) ∧ (j < m → Pre ex V0 A0 (σ (j + 1)) ∨ ((σ (j + 1)).V = (σ j).V ∧ (σ (j + 1)).A = (σ j).A))) (h00 : (σ 0).V = V0 ∧ (σ 0).A = A0)
    {d : Nat} {row : List CV} {cs : Array Value} {ty : TypeId} {oq : Oper} (hk : LateOk P all ow σ q d row cs ty oq)
    (hK : K (σ all.size)) (hQ : ∀ s' g' a' w', K s' → Rp n w0 g0 s' g' a' w' → Q .normal a' w') :
    ∀ (fuel : Nat) (listed : Array Bool) (k0 : Nat) (g : Gh) (a : Act) (w : World), ((List.range all.size).filter fun i => !listed.getD i true).length ≤ fuel →
      ((DSF all ws σ n w0 g0 listed k0 g a w ∧ (listed[q]? = some true → ∀ i, i < q → listed[i]? = some true)) ∨ ((∃ i, i < q ∧ listed[i]? ≠ some true) ∧ ∃ b, Late all ws σ n w0 g0 q d row cs ty listed k0 b g a w)) → wpAny P .any all Q fuel listed a w := by
  obtain ⟨hqw, hedge, hbits, hdu⟩ := hdrawL hd
  have hqn : q < all.size := (Array.getElem?_eq_some_iff.1 hk.at_).1
  have hready : ∀ {listed : Array Bool}, Region.ready .any all listed = [] → listed.size = all.size → ∀ i, i < all.size → listed[i]? = some true := by
    intro listed hr hls i
    induction i using Nat.strongRecOn with
    | _ i ih =>
      intro hi
      have ho : all[i]? = some all[i] := Array.getElem?_eq_getElem hi
      have hli : i < listed.size := by omega
      cases hl : listed[i] with
      | true => rw [Array.getElem?_eq_getElem hli, hl]
      | false =>
        exfalso
        have : i ∈ Region.ready .any all listed := mem_ready.2 ⟨by simp [hli, hl], _, ho, fun e he hb => listed_iff.2 (ih e.on (hedge i _ ho e he hb) (by have := hedge i _ ho e he hb; omega))⟩
        rw [hr] at this; simp at this
  have hend : ∀ {listed : Array Bool} {k0 : Nat} {g : Gh} {a : Act} {w : World}, ((DSF all ws σ n w0 g0 listed k0 g a w ∧ (listed[q]? = some true → ∀ i, i < q → listed[i]? = some true)) ∨ ((∃ i, i < q ∧ listed[i]? ≠ some true) ∧ ∃ b, Late all ws σ n w0 g0 q d row cs ty listed k0 b g a w)) →
      Region.ready .any all listed = [] → Q .normal a w := by
    intro listed k0 g a w hD hr
    rcases hD with ⟨hD, _⟩ | ⟨⟨i, hi, hl⟩, b, hD⟩
    rotate_left
    · have e := hD.base.lsize
      simp at e
      exact absurd (hready hr e i (by omega)) hl
    have hall := hready hr hD.lsize
    -- frames
    have hstep : ∀ (j : Nat) o t, all[j]? = some o → o.dst ≠ some t → look (σ (j + 1)).fr t = look (σ j).fr t := fun j o t h1 h2 => by
      obtain ⟨⟨_, h3⟩, _⟩ := htr j o h1
      have hput : ∀ (x : AV) V A, look ((σ j).put o.dst x V A).fr t = look (σ j).fr t := fun x V A => by
        simp only [St.put]
        cases hdd : o.dst with
        | none => rfl
        | some d => simp only [look]; rw [if_neg (fun e => h2 (by rw [hdd, e]))]
      rcases h3 with ⟨_, x, V, A, h4, _, _⟩ | ⟨_, h4⟩
      · rw [h4]; exact hput x V A
      · rw [h4]; exact hput _ _ _
    have hfrB : ∀ (j t : Nat), j ≤ all.size → (∀ (i : Nat) o, i < j → all[i]? = some o → o.dst ≠ some t) → look (σ j).fr t = look (σ 0).fr t := by
      intro j
      induction j with
      | zero => intro t _ _; rfl
      | succ j ih =>
        intro t hj hno
        have ho : all[j]? = some all[j] := Array.getElem?_eq_getElem (by omega)
        rw [hstep j _ t ho (hno j _ (by omega) ho)]
        exact ih t (by omega) (fun i o hi => hno i o (by omega))
    have hfrA : ∀ (j i : Nat) oi t, j ≤ all.size → i < j → all[i]? = some oi → oi.dst = some t → look (σ j).fr t = look (σ (i + 1)).fr t := by
      intro j
      induction j with
      | zero => intro i oi t _ h; omega
      | succ j ih =>
        intro i oi t hj hij hoi hdt
        by_cases e : i = j
        · subst e; rfl
        · have ho : all[j]? = some all[j] := Array.getElem?_eq_getElem (by omega)
          rw [hstep j _ t ho (hdu i j oi _ t hoi ho (by omega) hdt)]
          exact ih i oi t (by omega) (by omega) hoi hdt
    have hVA : ∀ c, k0 ≤ c → c ≤ all.size → (σ c).V = (σ k0).V ∧ (σ c).A = (σ k0).A := by
      intro c
      induction c with
      | zero => intro h1 _; obtain rfl : k0 = 0 := by omega
                exact ⟨rfl, rfl⟩
      | succ c ih =>
        intro h1 h2
        by_cases e : k0 = c + 1
        · subst e; exact ⟨rfl, rfl⟩
        · obtain ⟨h3, h4⟩ := ih (by omega) (by omega)
          rcases (htr c _ (Array.getElem?_eq_getElem (by omega))).2.1 with h5 | ⟨h5, h6⟩
          · have := (hD.wprog c h5 (by omega)).1 (hall c (by omega))
            omega
          · exact ⟨h5.trans h3, h6.trans h4⟩
    have hva := hVA all.size hD.kle (Nat.le_refl _)
    refine hQ _ g a w hK ⟨by rw [hva.1, hva.2]; exact hD.inv, hD.fr, hD.size, hD.defers, fun t x hx => ?_⟩
    rw [hva.2]
    by_cases hex : ∃ (i : Nat) (o : Oper), all[i]? = some o ∧ o.dst = some t
    · obtain ⟨i, o, ho, hdt⟩ := hex
      have hi := (Array.getElem?_eq_some_iff.1 ho).1
      rw [hfrA all.size i o t (Nat.le_refl _) hi ho hdt] at hx
      exact hD.slot1 i o t x ho (hall i hi) hdt hx
    · rw [hfrB all.size t (Nat.le_refl _) (fun i o _ ho hdt => hex ⟨i, o, ho, hdt⟩)] at hx
      exact hD.slot0 t x (fun i o ho _ hdt => hex ⟨i, o, ho, hdt⟩) hx
  intro fuel
  induction fuel with
  | zero =>
    intro listed k0 g a w hf hD
    have hnil : Region.ready .any all listed = [] := by
      have h0 : ((List.range all.size).filter fun i => !listed.getD i true) = [] := List.eq_nil_of_length_eq_zero (by omega)
      rcases hr : Region.ready .any all listed with _ | ⟨j, r⟩
      · rfl
      · have hj : j ∈ Region.ready .any all listed := by rw [hr]; simp
        obtain ⟨h1, o, h2, _⟩ := mem_ready.1 hj
        have : j ∈ ((List.range all.size).filter fun i => !listed.getD i true) := by
          rw [List.mem_filter, List.mem_range]
          exact ⟨(Array.getElem?_eq_some_iff.1 h2).1, by simp [h1]⟩
        rw [h0] at this; simp at this
    exact ⟨hnil, hend hD hnil⟩
  | succ fuel ih =>
    intro listed k0 g a w hf hD
    refine ⟨fun hr => hend hD hr, fun j hj => ?_⟩
    obtain ⟨hun, o, ho, hafter⟩ := mem_ready.1 hj
    have hju := unlisted_of hun
    have hjn : j < all.size := (Array.getElem?_eq_some_iff.1 ho).1
    have hls : listed.size = all.size := by
      rcases hD with ⟨hD, _⟩ | ⟨_, b, hD⟩
      · exact hD.lsize
      · simpa using hD.base.lsize
    have hjl : j < listed.size := by omega
    have hset : ∀ i, (listed.setIfInBounds j true)[i]? = if i = j then some true else listed[i]? := fun i => by
      by_cases e : i = j
      · subst e; simp [hjl]
      · rw [if_neg e, Array.getElem?_setIfInBounds_ne (fun h => e h.symm)]
    have hcount : ((List.range all.size).filter fun i => !(listed.setIfInBounds j true).getD i true).length ≤ fuel := by
      have hlt : ((List.range all.size).filter fun i => !(listed.setIfInBounds j true).getD i true).length < ((List.range all.size).filter fun i => !listed.getD i true).length := by
        have hsub : ∀ i, (!(listed.setIfInBounds j true).getD i true) = true → (!listed.getD i true) = true := fun i h => by
          by_cases e : i = j
          · subst e; simp [hjl] at h
          · have : (listed.setIfInBounds j true).getD i true = listed.getD i true := by
              simp only [Array.getD_eq_getD_getElem?, hset, if_neg e]
            rwa [this] at h
        exact filter_lt hsub (List.mem_range.2 hjn) (by simp [hun]) (by simp [hjl])
      omega
    have hafter' : ∀ e ∈ o.after, Region.binds .any e = true → listed[e.on]? = some true := fun e he hb => listed_iff.1 (hafter e he hb)
    rcases hD with ⟨hD, hL⟩ | ⟨⟨i0, hi0, hl0⟩, b, hD⟩
    · by_cases hjq : j = q ∧ ∃ i, i < q ∧ listed[i]? ≠ some true
      · -- the allocation, before its turn
        obtain ⟨rfl, hex⟩ := hjq
        obtain rfl : o = oq := by have := hk.at_; rw [ho] at this; exact Option.some.inj this
        unfold wpOp
        simp only [ho]
        rw [if_pos (by simp [Region.wanted, hk.guard])]
        refine .inl ?_
        unfold Oper.wp
        rw [hk.run]
        obtain ⟨g1, hg1, hI1, hx1⟩ := hD.inv.newBlock (.cells cs ty) 0
        have hF1 := (Fr.refl hD.fr.now).newBlock (.cells cs ty) 0
        rw [← hg1] at hF1
        have hput : ∀ t, t ≠ d → (a.put o.dst (.pointer (some ⟨w.heap.size, 0, none⟩))).tmps[t]? = a.tmps[t]? := fun t ht => by
          rw [hk.dst]
          simp only [Act.put]
          rw [Array.getElem?_setIfInBounds_ne (fun e => ht e.symm)]
        have hdn : d < n := by
          have := List.all_eq_true.1 hdst o (by rw [Array.mem_toList_iff]; exact Array.mem_of_getElem? ho)
          simpa [hk.dst] using this
        refine ih _ k0 g1 _ _ hcount (.inr ⟨?_, w.heap.size, ⟨by rw [hset, if_pos rfl], ?_, ?_, heap_alloc_new w _, fun hm => ?_, fun hm => ?_, by rw [hg1]; simp, hD.fr.size, by simp, fun i oi hoi hli e he hb => ?_⟩⟩)
        · obtain ⟨i, hi, hl⟩ := hex
          exact ⟨i, hi, by rw [hset, if_neg (by omega)]; exact hl⟩
        · rw [setTF listed j (by rw [hju]; simp) hjl]
          refine ⟨hI1, hD.fr.trans hF1, by rw [hk.dst]; simp [Act.put, hD.size], by rw [hk.dst]; simp [Act.put, hD.defers], hD.lsize, fun i oi t x hoi hli hdt hx => ?_, fun t x hno hx => ?_, hD.wprog, hD.kle, hD.kw, hD.closed⟩
          · have hij : i ≠ j := fun e => by subst e; rw [hju] at hli; simp at hli
            have htd : t ≠ d := fun e => by
              subst e
              exact hdu i j oi o t hoi ho hij hdt hk.dst
            obtain ⟨u, h1, h2⟩ := hD.slot1 i oi t x hoi hli hdt hx
            exact ⟨u, by rw [hput t htd]; exact h1, RepV.ext hx1 h2⟩
          · have htd : t ≠ d := fun e => by
              subst e
              rw [hk.s0] at hx; simp at hx
            obtain ⟨u, h1, h2⟩ := hD.slot0 t x hno hx
            exact ⟨u, by rw [hput t htd]; exact h1, RepV.ext hx1 h2⟩
        · have : d < a.tmps.size := by rw [hD.size]; exact hdn
          rw [hk.dst]; simp [Act.put, this]
        · rw [hg1] at hm
          obtain ⟨l, hl⟩ := List.getElem?_of_mem hm
          have := hD.inv.obLt hl
          omega
        · rw [hg1] at hm
          obtain ⟨k, v', q1, q2⟩ := Gh.mem_arb (g := g) (by simpa [Gh.arb] using hm)
          have := hD.inv.arLt q1 q2
          omega
        · rw [hset] at hli ⊢
          have : listed[e.on]? = some true := by
            by_cases e' : i = j
            · subst e'
              obtain rfl : o = oi := by rw [ho] at hoi; exact Option.some.inj hoi
              exact hafter' e he hb
            · rw [if_neg e'] at hli
              exact hD.closed i oi hoi hli e he hb
          by_cases e' : e.on = j
          · rw [if_pos e']
          · rw [if_neg e']; exact this
      · refine drawL_one hd hdst htr h00 hD hL hj (fun e i hi => ?_) fun k1 o' g' a' w' ho' hoth hD' hF => ih _ k1 g' a' w' hcount (.inl ⟨hD', fun hl i hi => ?_⟩)
        · by_cases hc : listed[i]? = some true
          · exact hc
          · exact absurd ⟨e, i, hi, hc⟩ hjq
        · rw [hset]
          by_cases e : i = j
          · rw [if_pos e]
          · rw [if_neg e]
            by_cases e' : j = q
            · by_cases hc : listed[i]? = some true
              · exact hc
              · exact absurd ⟨e', i, hi, hc⟩ hjq
            · rw [hset, if_neg (fun h => e' h.symm)] at hl
              exact hL hl i hi
    · -- with the block at hand
      have hjq : j ≠ q := fun e => by subst e; rw [hD.got] at hju; simp at hju
      have hjlt : j < q := by
        rcases Nat.lt_trichotomy j q with h | h | h
        · exact h
        · exact absurd h hjq
        · exact absurd (bit_listed hedge hD.closed j o ho hafter' i0 (hbits i0 j _ o (Array.getElem?_eq_getElem (by omega)) ho (by omega) h)) hl0
      have hready' : j ∈ Region.ready .any all (listed.setIfInBounds q false) := by
        refine mem_ready.2 ⟨?_, o, ho, fun e he hb => listed_iff.2 ?_⟩
        · have : (listed.setIfInBounds q false)[j]? = some false := by rw [Array.getElem?_setIfInBounds_ne (fun h => hjq h.symm)]; exact hju
          simp [Array.getD_eq_getD_getElem?, this]
        · have hlt := hedge j o ho e he hb
          rw [Array.getElem?_setIfInBounds_ne (by omega)]; exact hafter' e he hb
      have hqs : q < listed.size := by omega
      refine drawL_one hd hdst htr h00 hD.base (fun hl => by simp [hqs] at hl) hready' (fun e => absurd e hjq) fun k1 o' g' a' w' ho' hoth hD' hF => ?_
      have hLate := hD.step hjq (hoth d fun e => hdu j q o' oq d ho' hk.at_ hjq e hk.dst) hD' hF (fun i oi hoi hli e he hb => by
        rw [hset] at hli ⊢
        have : listed[e.on]? = some true := by
          by_cases e' : i = j
          · subst e'
            obtain rfl : o = oi := by rw [ho] at hoi; exact Option.some.inj hoi
            exact hafter' e he hb
          · rw [if_neg e'] at hli
            exact hD.closed i oi hoi hli e he hb
        by_cases e' : e.on = j
        · rw [if_pos e']
        · rw [if_neg e']; exact this)
      by_cases hx : ∃ i, i < q ∧ (listed.setIfInBounds j true)[i]? ≠ some true
      · exact ih _ k1 g' a' w' hcount (.inr ⟨hx, b, hLate⟩)
      · have hall : ∀ i, i < q → (listed.setIfInBounds j true)[i]? = some true := fun i hi => by
          by_cases hc : (listed.setIfInBounds j true)[i]? = some true
          · exact hc
          · exact absurd ⟨i, hi, hc⟩ hx
        obtain ⟨g'', hD''⟩ := hLate.reg hd hk (fun j o ho => (htr j o ho).2.1) hall
        exact ih _ (q + 1) g'' a' w' hcount (.inl ⟨hD'', fun _ => hall⟩)

/-- A REGION THAT DRAWS ITS ORDER, with an allocation q that may come early. -/
theorem T.region_drawL {id : Nat} {ops : Array Oper} (hm : P.follows .mixedOrders = true) (ow : Nat → Bool) (ws fs : List Nat) (m : Nat) (ex : List Nat) (q d : Nat) {e : TypeId} {D : TD} {row : List CV} {oq : Oper} (hd : drawOkL ops ws fs m q = true)
    (hq : ops[q]? = some oq) (hop : oq.op = .alloc e) (hg : oq.guard = none) (hdq : oq.dst = some d) (ht : td P e = some D) (hz : D.zero = some row) (hs0 : look s.fr d = none)
    (h : aopsF P ops ow ws fs m ex s.V s.A (fun s' => Q .normal s') 0 ops.toList s) : T P n (.region id ops true) Q s := by
  intro hok w0 g0 g a w hR
  obtain ⟨σ, h0, hK, htr⟩ := aopsF_trace ops.toList 0 s h
  obtain ⟨hI, hx⟩ := hR.inv.heap (w' := { w with drawn := w.drawn + 1 }) rfl
  obtain ⟨inf, hi, _, _, hzz⟩ := td_info ht
  obtain ⟨v, hv, hc⟩ := hzz _ hz
  have htr' : ∀ (j : Nat) o, ops[j]? = some o → StpF P ops (ow j) fs j ex s.V s.A o (σ j) (σ (j + 1)) ∧ (j ∈ ws ∨ ((σ (j + 1)).V = (σ j).V ∧ (σ (j + 1)).A = (σ j).A)) ∧ (j < m → Pre ex s.V s.A (σ (j + 1)) ∨ ((σ (j + 1)).V = (σ j).V ∧ (σ (j + 1)).A = (σ j).A)) := fun j o ho => by
    have := htr j o (by simpa using ho)
    simpa only [Nat.zero_add] using this
  have hnext : σ (q + 1) = (σ q).put (some d) (.c (.ptr (σ q).V.length 0)) ((σ q).V ++ [row]) (σ q).A := by
    rcases (htr' q oq hq).1.2 with ⟨_, x, V, A, h1, h2, _⟩ | ⟨h1, _⟩
    · have h3 := h2 (fun y V' A' => y = x ∧ V' = V ∧ A' = A) ⟨rfl, rfl, rfl⟩
      simp only [astep, hop, wpo, onv, ht, hz] at h3
      obtain ⟨rfl, rfl, rfl⟩ := h3
      rw [h1, hdq]
    · simp [gw, hg] at h1
  have hkk : LateOk P ops ow σ q d row v.cells e oq := by
    refine ⟨hq, hg, hdq, by rw [h0]; exact hs0, ?_, fun j c u h1 h2 g w A => ?_, hnext, fun a w => ?_⟩
    · have := cvsOf_len hc; simpa using this
    · exact cvOf_sound (cvsOf_at hc j c u h1 (by simpa using h2))
    · simp [execOp, hop, Instr.alloc, zeroValue, typeInfo, hi, hv, newVar, newRow_run]
  refine wp_region_any hm (drawL_sound (ex := ex) (K := fun s' => Q .normal s') (w0 := w0) (g0 := g0) (n := n) (σ := σ) (ow := ow) hd hok htr' ⟨by rw [h0], by rw [h0]⟩ hkk ?_ (fun s' g' a' w' h1 h2 => ⟨s', g', h1, h2⟩) ops.size (Array.replicate ops.size false) 0 g a _ ?_ (.inl ⟨?_, fun hl => ?_⟩))
  · simpa using hK
  · exact Nat.le_trans (List.length_filter_le _ _) (by simp)
  · refine ⟨by rw [h0]; exact hI, hR.fr.heap rfl rfl rfl rfl, hR.size, hR.defers, by simp, fun i o t x ho hl => ?_, fun t x _ hx' => ?_, fun i _ hin => ?_, Nat.zero_le _, .inl rfl, fun i o ho hl => ?_⟩
    · have hi := (Array.getElem?_eq_some_iff.1 ho).1
      simp [hi] at hl
    · rw [h0] at hx' ⊢
      obtain ⟨u, h1, h2⟩ := hR.slot t x hx'
      exact ⟨u, h1, RepV.ext hx h2⟩
    · simp [hin]
    · have hi := (Array.getElem?_eq_some_iff.1 ho).1
      simp [hi] at hl
  · have hi := (Array.getElem?_eq_some_iff.1 hq).1
    simp [hi] at hl

theorem T.rdL {id : Nat} {l : List Oper} {y : Code} (hm : P.follows .mixedOrders = true) (ow : Nat → Bool) (ws fs : List Nat) (m : Nat) (ex : List Nat) (q d : Nat) {e : TypeId} {D : TD} {row : List CV} {oq : Oper} (hd : drawOkL l.toArray ws fs m q = true)
    (hq : l.toArray[q]? = some oq) (hop : oq.op = .alloc e) (hg : oq.guard = none) (hdq : oq.dst = some d) (ht : td P e = some D) (hz : D.zero = some row) (hs0 : look s.fr d = none)
    (h : ∀ K : St → Prop, (∀ s', T P n y Q s' → K s') → OpsF P l.toArray ow ws fs m ex s.V s.A K 0 l s) : T P n (.seq (.region id l.toArray true) y) Q s :=
  T.seq (T.region_drawL hm ow ws fs m ex q d hd hq hop hg hdq ht hz hs0 (h _ fun _ h => h).run)
theorem TX.rdL {id : Nat} {l : List Oper} {y : Code} {α : Type} {Q : α → Exit → St → Prop} (hm : P.follows .mixedOrders = true) (ow : Nat → Bool) (ws fs : List Nat) (m : Nat) (ex : List Nat) (q d : Nat) {e : TypeId} {D : TD} {row : List CV} {oq : Oper} (hd : drawOkL l.toArray ws fs m q = true)
    (hq : l.toArray[q]? = some oq) (hop : oq.op = .alloc e) (hg : oq.guard = none) (hdq : oq.dst = some d) (ht : td P e = some D) (hz : D.zero = some row) (hs0 : look s.fr d = none)
    (h : ∀ K : St → Prop, (∀ s', TX P n y Q s' → K s') → OpsF P l.toArray ow ws fs m ex s.V s.A K 0 l s) : TX P n (.seq (.region id l.toArray true) y) Q s := by
  obtain ⟨s', ⟨x, hx⟩, h2⟩ := aopsF_det l 0 s (h (fun s' => TX P n y Q s') fun _ h => h).run
  exact ⟨x, T.rdL hm ow ws fs m ex q d hd hq hop hg hdq ht hz hs0 fun K hK => ⟨h2 _ (hK _ hx)⟩⟩
end
end Go.Av
