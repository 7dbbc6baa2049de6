/- A part of the library of this seat: a value-semantic program logic over the model, plain models, and walks of functions. -/
import Derived.Test.YtiffndccihaopaaK9
set_option linter.unusedVariables false
set_option linter.unusedSimpArgs false
namespace Go.Proofs.Ytiffndccihaopaa
attribute [-simp] Go.Av.innAsH Go.Av.AV.innH Go.Av.CV.innH Go.Av.innHs Go.Av.AV.outnH Go.Av.CV.outnH
open Go Go.Av
attribute [local irreducible] T ACalls TX EX LX Draws Some_ ACallsX eTy eTm MTy.kind MTy.kids MTm.kind MTm.name MTm.num MTm.ty MTm.fr MTm.label MTm.kids
attribute [local simp] eTy_def eTm_def
set_option linter.unusedSimpArgs false
set_option linter.unusedVariables false
set_option maxHeartbeats 16000000
set_option maxRecDepth 8000
attribute [local simp] Option.bind

/-- What l4Insert answers at a term that has a type. -/
def L4I (ctx : List MBd) (e : MTm) : Prop := ∀ (n : Int) (e' : MTm) (t : MTy) (m : Int), 0 ≤ n → n + nTm e ≤ 1073741824 → elabM ctx e n = (some (e', t), m) →
  ACalls Try.prog 65 [.l (ctx.map eBd), aTm e, .i (n + 1)] [] (.tup [aTm e', aTy t, .i (m + 1)]) [] []

theorem l4Insert_non (ctx : List MBd) (e : MTm) (hk : 0 < e.kind ∧ e.kind < 14) (h5 : e.kind ≠ 5)  (hl : ctx.length ≤ 1073741824) (hlen : kidsM e.kind = e.kids.length)
    (n : Int) (e' : MTm) (t : MTy) (m : Int) (es0 : List MTm) (ts0 : List MTy) (c0 : Int) (ws : List MTy) (h0 : 0 ≤ n) (hn : n + nTm e ≤ 1073741824) (hsz : nTm e ≤ 1099511627776)
    (hS : elabS ctx e.kids n = (some (es0, ts0), c0)) (hwt : ∀ u ∈ ts0, shapeTy 4 u = true) (hw : L4W e ts0 ws t) (hm : m = (castS c0 es0 ts0 ws).2) (hne : e.kind ≠ 13 → e' = .mk e.kind e.name e.num e.ty e.fr e.label (castS c0 es0 ts0 ws).1) (hne' : e.kind = 13 → (castS c0 es0 ts0 ws).1.head? = some e')
    (hty : ACalls Try.prog 57 [.l (ctx.map eBd), aTm e] [] (.tup [aTy t, .b true]) [] [])
    (hs : ∀ u ∈ e.kids, ∀ (n : Int) x t m, elabM ctx u n = (some (x, t), m) → shapeTy 4 t = true) (ih : ∀ u ∈ e.kids, L4I ctx u) :
    ACalls Try.prog 65 [.l (ctx.map eBd), aTm e, .i (n + 1)] [] (.tup [aTm e', aTy t, .i (m + 1)]) [] [] := by
  have hkl : e.kids.length ≤ 3 := by have := kidsM_le e.kind; omega
  have hnS : n + nTmS e.kids ≤ 1073741824 := by rw [nTm_def] at hn; omega
  have hcp := l2Copy_ok e hsz
  obtain ⟨hles, hlts⟩ := elabS_len hS
  refine ACalls.of_body Try.func65 (by kernel_rfl) rfl (by kernel_rfl) (by simp [Try.ntmps65]) (by simp) ?_
  rw [Try.ntmps65]
  repeat' first
    | ((first | refine aops_end (hK _ ?_)); clear hK K)
    | ((first | refine aops_go ?_); simp [h5]; (try (refine gen fun q hq => ?_; cases q <;> (try simp [h5] at hq) <;> (try (have hh : True := hq; clear hh hq)))))
    | (refine wpcall_pure rfl (hty) ?_; simp [h5]; (try (refine gen fun q hq => ?_; cases q <;> (try simp [h5] at hq) <;> (try (have hh : True := hq; clear hh hq)))))
    | (refine wpcall_pure rfl (hcp) ?_; simp [h5]; (try (refine gen fun q hq => ?_; cases q <;> (try simp [h5] at hq) <;> (try (have hh : True := hq; clear hh hq)))))
    | refine T.rs (id := 6) (fun i => i == 0) fun K hK => ?_
    | refine T.rs (id := 0) (fun _ => false) fun K hK => ?_
    | refine T.rs (id := 1) (fun _ => false) fun K hK => ?_
    | refine T.rs (id := 2) (fun _ => false) fun K hK => ?_
    | refine T.rs (id := 3) (fun _ => false) fun K hK => ?_
    | refine T.rs (id := 4) (fun _ => false) fun K hK => ?_
    | refine T.rs (id := 7) (fun _ => false) fun K hK => ?_
    | refine T.cond rfl (fun hcnd => absurd hcnd (by decide)) (fun hcnd => ?_)
    | refine T.seq ?_
    | refine T.block ?_
    | refine T.skip ?_
  refine T.ownifyObj 4 8 9 28 (row := [.d (.i e.kind), .d (.str e.name), .d (.i e.num), .d (.i e.ty.kind), .d (.sl (e.ty.kids.map eTy)), .d (.i e.fr.kind), .d (.sl (e.fr.kids.map eTy)), .d (.i e.label), .nil]) (by simp) (by simp) ?_
  refine T.loopK (α := Nat × List MTm × List MTy × Int × List (List CV)) [0, 4, 6, 7, 8, 9, 11] (fun x => [(2, .i (x.2.2.2.1 + 1)), (12, .c (.own 0 x.1)), (13, .i x.1)]) (fun x => [(4, [.d (.i e.kind), .d (.str e.name), .d (.i e.num), .d (.i e.ty.kind), .d (.sl (e.ty.kids.map eTy)), .d (.i e.fr.kind), .d (.sl (e.fr.kids.map eTy)), .d (.i e.label), .own 1 x.1])]) (fun x => x.2.2.2.2) (fun x _ => [{ sz := 2, ety := 25, rows := x.2.2.1.map eTy, wr := true }, { sz := 9, ety := 28, rows := x.2.1.map eTm, wr := true }]) (fun x => e.kids.length + 1 - x.1)
    (fun x => x.1 ≤ e.kids.length ∧ x.2.1.length = x.1 ∧ x.2.2.1.length = x.1 ∧ 0 ≤ x.2.2.2.1 ∧ x.2.2.2.1 + nTmS (e.kids.drop x.1) ≤ 1073741824 ∧ afterE x.2.1 x.2.2.1 (elabS ctx (e.kids.drop x.1) x.2.2.2.1) = (some (es0, ts0), c0)) (by simp; rfl) (fun x hx => ?_) (0, [], [], n, []) (by simp [afterE_nil, hS]; omega) (by simp) (by simp) (by simp)
  obtain ⟨p, es, ts, c, G⟩ := x
  obtain ⟨hi, hes, hts, hc0, hcn, he⟩ := hx
  dsimp only at hi hes hts hc0 hcn he ⊢
  simp only [ups, List.set_cons_zero, List.set_cons_succ, List.cons_append, List.nil_append]
  by_cases hlt : p < e.kids.length
  · obtain ⟨u, ht⟩ := get_lt hlt
    have htm : u ∈ e.kids := List.mem_of_getElem? ht
    have hgt : e.kids[p] = u := by rw [List.getElem?_eq_getElem hlt] at ht; exact Option.some.inj ht
    have hdr : e.kids.drop p = u :: e.kids.drop (p + 1) := by rw [List.drop_eq_getElem_cons hlt, hgt]
    rw [hdr] at he hcn
    simp only [nTmS] at hcn
    have hu := ih u htm
    have hle := elab_le u ctx c
    rw [elabS] at he
    cases hb : elabM ctx u c with
    | mk o m1 =>
      rw [hb] at he hle
      cases o with
      | none =>
        simp only [consE, afterE] at he
        exact absurd (congrArg Prod.fst he) (by simp)
      | some q =>
        obtain ⟨x, t1⟩ := q
        have hu := ih u htm c x t1 m1 hc0 (by omega) hb
        simp only at hle
        rw [afterE_cons] at he
        repeat' first
          | ((first | refine aops_end (hK _ ?_)); clear hK K)
          | ((first | refine aops_go ?_); simp [hlt, hgt, hes, hts]; (try simp (disch := omega) only [wrap64]); (try (refine gen fun q hq => ?_; cases q <;> (try simp [hlt, hgt, hes, hts] at hq) <;> (try (have hh : True := hq; clear hh hq)))))
          | (refine wpcall_pure rfl (hu) ?_; simp [hlt, hgt, hes, hts]; (try simp (disch := omega) only [wrap64]); (try (refine gen fun q hq => ?_; cases q <;> (try simp [hlt, hgt, hes, hts] at hq) <;> (try (have hh : True := hq; clear hh hq)))))
          | (refine ⟨by omega, by omega, ?_⟩)
          | refine T.rs (fun _ => false) fun K hK => ?_
          | refine T.rs1 (fun _ => false) fun K hK => ?_
          | refine T.cond rfl (fun hcnd => ?_) (fun hcnd => absurd hcnd (by decide))
          | refine T.seq ?_
          | refine T.block ?_
          | refine T.skip ?_
        refine ⟨(p + 1, es ++ [x], ts ++ [t1], m1, _), by dsimp only; omega, ⟨by dsimp only; omega, by simp [hes], by simp [hts], by dsimp only at hle ⊢; omega, by dsimp only at hle ⊢; omega, he⟩, rfl, ?_, ?_⟩
        · simp [eTm_def, eTy_def]
        · simp (disch := omega) [wrap64]
  · have hp' : p = e.kids.length := by omega
    subst hp'
    simp [elabS, afterE] at he
    obtain ⟨⟨rfl, rfl⟩, rfl⟩ := he
    obtain ⟨ws', hwl, hwn, hwc, hwk⟩ := hw
    rw [← hwc] at hm hne hne'
    repeat' first
      | ((first | refine aops_end (hK _ ?_)); clear hK K)
      | ((first | refine aops_go ?_); simp [hlt, hts]; (try (refine gen fun q hq => ?_; cases q <;> (try simp [hlt, hts] at hq) <;> (try (have hh : True := hq; clear hh hq)))))
      | (refine wpcall_pure ?_ (hwk) ?_; (focus (solve | simp [hlt, hts])); simp [hlt, hts]; (try (refine gen fun q hq => ?_; cases q <;> (try simp [hlt, hts] at hq) <;> (try (have hh : True := hq; clear hh hq)))))
      | refine T.rs (fun _ => false) fun K hK => ?_
      | refine T.cond rfl (fun hcnd => absurd hcnd (by decide)) (fun hcnd => ?_)
      | refine T.seq ?_
      | refine T.block ?_
      | refine T.exit ?_
    obtain ⟨F, hF⟩ : ∃ F, castS c es ts ws' = F := ⟨_, rfl⟩
    rw [hF] at hm hne hne'
    refine T.loopK (α := Nat × List MTm × Int × List (List CV)) [4, 6, 7, 8, 9, 11, 12, 17] (fun x => [(2, .i (x.2.2.1 + 1)), (18, .i x.1)]) (fun x => []) (fun x => x.2.2.2) (fun x _ => [{ sz := 2, ety := 25, rows := ts.map eTy, wr := false }, { sz := 9, ety := 28, rows := x.2.1.map eTm, wr := true }]) (fun x => ts.length + 1 - x.1)
      (fun x => x.1 ≤ ts.length ∧ x.2.1.length = ts.length ∧ 0 ≤ x.2.2.1 ∧ x.2.2.1 ≤ c + x.1 ∧ (x.2.1.take x.1 ++ (castS x.2.2.1 (x.2.1.drop x.1) (ts.drop x.1) (ws'.drop x.1)).1, (castS x.2.2.1 (x.2.1.drop x.1) (ts.drop x.1) (ws'.drop x.1)).2) = F) (by simp; rfl) (fun x hx => ?_) (0, es, c, []) (by simp [hes, hts, hF, hc0]) (by simp) (by simp) (by simp)
    clear hF
    obtain ⟨p, cur, c2, G2⟩ := x
    obtain ⟨hp, hcl, hc20, hc2, hFF⟩ := hx
    dsimp only at hp hcl hc20 hc2 hFF ⊢
    simp only [ups, List.set_cons_zero, List.set_cons_succ, List.cons_append, List.nil_append]
    by_cases hp2 : p < ts.length
    · have hpl : p < ws'.length := by omega
      have hp3 : p < cur.length := by omega
      obtain ⟨w, hw⟩ : ∃ w, ws'[p] = w := ⟨_, rfl⟩
      obtain ⟨h, hh⟩ : ∃ h, ts[p] = h := ⟨_, rfl⟩
      obtain ⟨x, hx⟩ : ∃ x, cur[p] = x := ⟨_, rfl⟩
      rw [drop_cons hpl, drop_cons hp2, drop_cons hp3, hw, hh, hx] at hFF
      have hhm : h ∈ ts := by rw [← hh]; exact List.getElem_mem hp2
      have hwm : w ∈ ws' := by rw [← hw]; exact List.getElem_mem hpl
      have hcast := l4Cast_ok c2 hc20 (by omega) x h w (by have := shape4 (hwt h hhm); omega) (by have := hwn w hwm; omega)
      have hcle := castM_le c2 x h w
      simp only [castS] at hFF
      have hst : ∀ y, (cur.set p y).take (p + 1) = cur.take p ++ [y] := fun y => by rw [List.take_add_one, List.getElem?_set_self hp3, List.take_set_of_le (Nat.le_refl p)]; rfl
      have hsd : ∀ y, (cur.set p y).drop (p + 1) = cur.drop (p + 1) := fun y => by rw [List.drop_set]; simp
      generalize castM c2 x h w = CM at *
      obtain ⟨y, m2⟩ := CM
      dsimp only at hFF hcle hcast
      have hp4 : p < e.kids.length := by omega
      repeat' first
        | ((first | refine aops_end (hK _ ?_) | refine aopsD_end (hK _ ?_)); clear hK K)
        | ((first | refine aops_go ?_ | refine aopsD_go ?_); simp [hpl, hp2, hp3, hp4, hw, hh, hx, hts, hcl, hwl]; (try simp (disch := omega) only [wrap64]); (try (refine gen fun q hq => ?_; cases q <;> (try simp [hpl, hp2, hp3, hp4, hw, hh, hx, hts, hcl, hwl] at hq) <;> (try (have hh : True := hq; clear hh hq)))))
        | (refine wpcall_pure rfl (hcast) ?_; simp [hpl, hp2, hp3, hp4, hw, hh, hx, hts, hcl, hwl]; (try simp (disch := omega) only [wrap64]); (try (refine gen fun q hq => ?_; cases q <;> (try simp [hpl, hp2, hp3, hp4, hw, hh, hx, hts, hcl, hwl] at hq) <;> (try (have hh : True := hq; clear hh hq)))))
        | refine T.rd1 (id := 18) mixed (fun _ => false) [22] (by kernel_rfl) fun K hK => ?_
        | refine T.rs (fun _ => false) fun K hK => ?_
        | refine T.rs1 (fun _ => false) fun K hK => ?_
        | refine T.cond rfl (fun hcnd => ?_) (fun hcnd => absurd hcnd (by decide))
        | refine T.seq ?_
        | refine T.block ?_
        | refine T.skip ?_
      refine ⟨(p + 1, cur.set p y, m2, _), by dsimp only; omega, ⟨by dsimp only; omega, by simp [hcl], by dsimp only; omega, by dsimp only; omega, by dsimp only; rw [hst, hsd]; simpa using hFF⟩, (by simp only [ups, List.set_cons_zero, List.cons_append, List.append_assoc, List.nil_append]; rfl), ?_, ?_⟩
      · simp [eTm_def]
      · simp (disch := omega) [wrap64]
    · have hpe : p = ts.length := by omega
      subst hpe
      rw [List.drop_length, ← hwl, List.drop_length, castS_nil, hwl, ← hcl, List.take_length, List.drop_length, List.append_nil] at hFF
      subst hFF
      dsimp only at hm hne hne'
      subst hm
      by_cases h13 : e.kind = 13
      · have hc1 : cur.length = 1 := by rw [hcl, hts]; rw [h13] at hlen; simp [kidsM] at hlen; omega
        match cur, hc1, hne' h13 with
        | [x], _, hx =>
          simp only [List.head?_cons, Option.some.injEq] at hx
          subst hx
          have hk1 : e.kids.length = 1 := by simp at hcl; omega
          have ht1 : ts.length = 1 := by simp at hcl; omega
          repeat' first
            | ((first | refine aops_end (hK _ ?_) | refine aopsG_end (hK _ ?_)); clear hK K)
            | ((first | refine aops_go ?_ | refine aopsG_go ?_); simp [h13, hk1, ht1]; (try (refine gen fun q hq => ?_; cases q <;> (try simp [h13, hk1, ht1] at hq) <;> (try (have hh : True := hq; clear hh hq)))))
            | (refine T.ret (Done.tup (Or.inr rfl) ?_) <;> simp [resAs, Try.results65, eTm_def] <;> omega)
            | refine T.rdG (id := 20) mixed (fun _ => false) [6, 7] [4] 7 [1] [] (by kernel_rfl) fun K hK => ?_
            | refine T.rs (fun _ => false) fun K hK => ?_
            | refine T.cond rfl (fun hcnd => ?_) (fun hcnd => absurd hcnd (by decide))
            | refine T.cond rfl (fun hcnd => absurd hcnd (by decide)) (fun hcnd => ?_)
            | refine T.seq ?_
            | refine T.exit ?_
      · rw [hne h13]
        repeat' first
          | ((first | refine aops_end (hK _ ?_) | refine aopsG_end (hK _ ?_)); clear hK K)
          | ((first | refine aops_go ?_ | refine aopsG_go ?_); simp [hp2, h13, hcl, hts, hwl]; (try (refine gen fun q hq => ?_; cases q <;> (try simp [hp2, h13, hcl, hts, hwl] at hq) <;> (try (have hh : True := hq; clear hh hq)))))
          | (refine T.ret (Done.tup (Or.inr rfl) ?_) <;> simp [resAs, Try.results65, eTm_def, hcl, hts] <;> omega)
          | refine T.rdG (id := 21) mixed (fun _ => false) [3, 4] [1] 4 [1] [] (by kernel_rfl) fun K hK => ?_
          | refine T.rs (fun _ => false) fun K hK => ?_
          | refine T.cond rfl (fun hcnd => absurd hcnd (by decide)) (fun hcnd => ?_)
          | refine T.seq ?_
          | refine T.skip ?_
          | refine T.exit ?_

theorem l4Insert_lam (ctx : List MBd) (e : MTm) (hk : 0 < e.kind ∧ e.kind < 14) (h5 : e.kind = 5) (ins : List MBd) (hmore : ACalls Try.prog 95 [.l (ctx.map eBd), .s e.name, aTy e.ty] [] (.l (ins.map eBd)) [] []) (hl : ctx.length ≤ 1073741824) (hlen : kidsM e.kind = e.kids.length)
    (n : Int) (e' : MTm) (t : MTy) (m : Int) (es0 : List MTm) (ts0 : List MTy) (c0 : Int) (ws : List MTy) (h0 : 0 ≤ n) (hn : n + nTm e ≤ 1073741824) (hsz : nTm e ≤ 1099511627776)
    (hS : elabS ins e.kids n = (some (es0, ts0), c0)) (hwt : ∀ u ∈ ts0, shapeTy 4 u = true) (hw : L4W e ts0 ws t) (hm : m = (castS c0 es0 ts0 ws).2) (hne : e.kind ≠ 13 → e' = .mk e.kind e.name e.num e.ty e.fr e.label (castS c0 es0 ts0 ws).1) (hne' : e.kind = 13 → (castS c0 es0 ts0 ws).1.head? = some e')
    (hty : ACalls Try.prog 57 [.l (ctx.map eBd), aTm e] [] (.tup [aTy t, .b true]) [] [])
    (hs : ∀ u ∈ e.kids, ∀ (n : Int) x t m, elabM ins u n = (some (x, t), m) → shapeTy 4 t = true) (ih : ∀ u ∈ e.kids, L4I ins u) :
    ACalls Try.prog 65 [.l (ctx.map eBd), aTm e, .i (n + 1)] [] (.tup [aTm e', aTy t, .i (m + 1)]) [] [] := by
  have hkl : e.kids.length ≤ 3 := by have := kidsM_le e.kind; omega
  have hnS : n + nTmS e.kids ≤ 1073741824 := by rw [nTm_def] at hn; omega
  have hcp := l2Copy_ok e hsz
  obtain ⟨hles, hlts⟩ := elabS_len hS
  refine ACalls.of_body Try.func65 (by kernel_rfl) rfl (by kernel_rfl) (by simp [Try.ntmps65]) (by simp) ?_
  rw [Try.ntmps65]
  repeat' first
    | ((first | refine aops_end (hK _ ?_)); clear hK K)
    | ((first | refine aops_go ?_); simp [h5]; (try (refine gen fun q hq => ?_; cases q <;> (try simp [h5] at hq) <;> (try (have hh : True := hq; clear hh hq)))))
    | (refine wpcall_pure ?_ (hty) ?_; (focus (solve | simp [h5])); simp [h5]; (try (refine gen fun q hq => ?_; cases q <;> (try simp [h5] at hq) <;> (try (have hh : True := hq; clear hh hq)))))
    | (refine wpcall_pure ?_ (hcp) ?_; (focus (solve | simp [h5])); simp [h5]; (try (refine gen fun q hq => ?_; cases q <;> (try simp [h5] at hq) <;> (try (have hh : True := hq; clear hh hq)))))
    | (refine wpcall_pure rfl (hmore) ?_; simp [h5]; (try (refine gen fun q hq => ?_; cases q <;> (try simp [h5] at hq) <;> (try (have hh : True := hq; clear hh hq)))))
    | refine T.rs (id := 6) (fun i => i == 0) fun K hK => ?_
    | refine T.rs (id := 0) (fun _ => false) fun K hK => ?_
    | refine T.rs (id := 1) (fun _ => false) fun K hK => ?_
    | refine T.rs (id := 2) (fun _ => false) fun K hK => ?_
    | refine T.rs (id := 3) (fun _ => false) fun K hK => ?_
    | refine T.rs (id := 4) (fun _ => false) fun K hK => ?_
    | refine T.rs1 (id := 5) (fun _ => false) fun K hK => ?_
    | refine T.rs (id := 7) (fun _ => false) fun K hK => ?_
    | refine T.cond rfl (fun hcnd => ?_) (fun hcnd => absurd hcnd (by decide))
    | refine T.seq ?_
    | refine T.block ?_
  refine T.ownifyObj 4 8 9 28 (row := [.d (.i 5), .d (.str e.name), .d (.i e.num), .d (.i e.ty.kind), .d (.sl (e.ty.kids.map eTy)), .d (.i e.fr.kind), .d (.sl (e.fr.kids.map eTy)), .d (.i e.label), .nil]) (by simp) (by simp) ?_
  refine T.loopK (α := Nat × List MTm × List MTy × Int × List (List CV)) [0, 4, 6, 7, 8, 9, 11] (fun x => [(2, .i (x.2.2.2.1 + 1)), (12, .c (.own 0 x.1)), (13, .i x.1)]) (fun x => [(4, [.d (.i 5), .d (.str e.name), .d (.i e.num), .d (.i e.ty.kind), .d (.sl (e.ty.kids.map eTy)), .d (.i e.fr.kind), .d (.sl (e.fr.kids.map eTy)), .d (.i e.label), .own 1 x.1])]) (fun x => x.2.2.2.2) (fun x _ => [{ sz := 2, ety := 25, rows := x.2.2.1.map eTy, wr := true }, { sz := 9, ety := 28, rows := x.2.1.map eTm, wr := true }]) (fun x => e.kids.length + 1 - x.1)
    (fun x => x.1 ≤ e.kids.length ∧ x.2.1.length = x.1 ∧ x.2.2.1.length = x.1 ∧ 0 ≤ x.2.2.2.1 ∧ x.2.2.2.1 + nTmS (e.kids.drop x.1) ≤ 1073741824 ∧ afterE x.2.1 x.2.2.1 (elabS ins (e.kids.drop x.1) x.2.2.2.1) = (some (es0, ts0), c0)) (by simp; rfl) (fun x hx => ?_) (0, [], [], n, []) (by simp [afterE_nil, hS]; omega) (by simp) (by simp) (by simp)
  obtain ⟨p, es, ts, c, G⟩ := x
  obtain ⟨hi, hes, hts, hc0, hcn, he⟩ := hx
  dsimp only at hi hes hts hc0 hcn he ⊢
  simp only [ups, List.set_cons_zero, List.set_cons_succ, List.cons_append, List.nil_append]
  by_cases hlt : p < e.kids.length
  · obtain ⟨u, ht⟩ := get_lt hlt
    have htm : u ∈ e.kids := List.mem_of_getElem? ht
    have hgt : e.kids[p] = u := by rw [List.getElem?_eq_getElem hlt] at ht; exact Option.some.inj ht
    have hdr : e.kids.drop p = u :: e.kids.drop (p + 1) := by rw [List.drop_eq_getElem_cons hlt, hgt]
    rw [hdr] at he hcn
    simp only [nTmS] at hcn
    have hu := ih u htm
    have hle := elab_le u ins c
    rw [elabS] at he
    cases hb : elabM ins u c with
    | mk o m1 =>
      rw [hb] at he hle
      cases o with
      | none =>
        simp only [consE, afterE] at he
        exact absurd (congrArg Prod.fst he) (by simp)
      | some q =>
        obtain ⟨x, t1⟩ := q
        have hu := ih u htm c x t1 m1 hc0 (by omega) hb
        simp only at hle
        rw [afterE_cons] at he
        repeat' first
          | ((first | refine aops_end (hK _ ?_)); clear hK K)
          | ((first | refine aops_go ?_); simp [hlt, hgt, hes, hts]; (try simp (disch := omega) only [wrap64]); (try (refine gen fun q hq => ?_; cases q <;> (try simp [hlt, hgt, hes, hts] at hq) <;> (try (have hh : True := hq; clear hh hq)))))
          | (refine wpcall_pure rfl (hu) ?_; simp [hlt, hgt, hes, hts]; (try simp (disch := omega) only [wrap64]); (try (refine gen fun q hq => ?_; cases q <;> (try simp [hlt, hgt, hes, hts] at hq) <;> (try (have hh : True := hq; clear hh hq)))))
          | (refine ⟨by omega, by omega, ?_⟩)
          | refine T.rs (fun _ => false) fun K hK => ?_
          | refine T.rs1 (fun _ => false) fun K hK => ?_
          | refine T.cond rfl (fun hcnd => ?_) (fun hcnd => absurd hcnd (by decide))
          | refine T.seq ?_
          | refine T.block ?_
          | refine T.skip ?_
        refine ⟨(p + 1, es ++ [x], ts ++ [t1], m1, _), by dsimp only; omega, ⟨by dsimp only; omega, by simp [hes], by simp [hts], by dsimp only at hle ⊢; omega, by dsimp only at hle ⊢; omega, he⟩, rfl, ?_, ?_⟩
        · simp [eTm_def, eTy_def]
        · simp (disch := omega) [wrap64]
  · have hp' : p = e.kids.length := by omega
    subst hp'
    simp [elabS, afterE] at he
    obtain ⟨⟨rfl, rfl⟩, rfl⟩ := he
    obtain ⟨ws', hwl, hwn, hwc, hwk⟩ := hw
    rw [← hwc] at hm hne hne'
    repeat' first
      | ((first | refine aops_end (hK _ ?_)); clear hK K)
      | ((first | refine aops_go ?_); simp [hlt, hts, h5]; (try (refine gen fun q hq => ?_; cases q <;> (try simp [hlt, hts, h5] at hq) <;> (try (have hh : True := hq; clear hh hq)))))
      | (refine wpcall_pure ?_ (hwk) ?_; (focus (solve | simp [hlt, hts, h5])); simp [hlt, hts, h5]; (try (refine gen fun q hq => ?_; cases q <;> (try simp [hlt, hts, h5] at hq) <;> (try (have hh : True := hq; clear hh hq)))))
      | refine T.rs (fun _ => false) fun K hK => ?_
      | refine T.cond rfl (fun hcnd => absurd hcnd (by decide)) (fun hcnd => ?_)
      | refine T.seq ?_
      | refine T.block ?_
      | refine T.exit ?_
    obtain ⟨F, hF⟩ : ∃ F, castS c es ts ws' = F := ⟨_, rfl⟩
    rw [hF] at hm hne hne'
    refine T.loopK (α := Nat × List MTm × Int × List (List CV)) [4, 6, 7, 8, 9, 11, 12, 17] (fun x => [(2, .i (x.2.2.1 + 1)), (18, .i x.1)]) (fun x => []) (fun x => x.2.2.2) (fun x _ => [{ sz := 2, ety := 25, rows := ts.map eTy, wr := false }, { sz := 9, ety := 28, rows := x.2.1.map eTm, wr := true }]) (fun x => ts.length + 1 - x.1)
      (fun x => x.1 ≤ ts.length ∧ x.2.1.length = ts.length ∧ 0 ≤ x.2.2.1 ∧ x.2.2.1 ≤ c + x.1 ∧ (x.2.1.take x.1 ++ (castS x.2.2.1 (x.2.1.drop x.1) (ts.drop x.1) (ws'.drop x.1)).1, (castS x.2.2.1 (x.2.1.drop x.1) (ts.drop x.1) (ws'.drop x.1)).2) = F) (by simp; rfl) (fun x hx => ?_) (0, es, c, []) (by simp [hes, hts, hF, hc0]) (by simp) (by simp) (by simp)
    clear hF
    obtain ⟨p, cur, c2, G2⟩ := x
    obtain ⟨hp, hcl, hc20, hc2, hFF⟩ := hx
    dsimp only at hp hcl hc20 hc2 hFF ⊢
    simp only [ups, List.set_cons_zero, List.set_cons_succ, List.cons_append, List.nil_append]
    by_cases hp2 : p < ts.length
    · have hpl : p < ws'.length := by omega
      have hp3 : p < cur.length := by omega
      obtain ⟨w, hw⟩ : ∃ w, ws'[p] = w := ⟨_, rfl⟩
      obtain ⟨h, hh⟩ : ∃ h, ts[p] = h := ⟨_, rfl⟩
      obtain ⟨x, hx⟩ : ∃ x, cur[p] = x := ⟨_, rfl⟩
      rw [drop_cons hpl, drop_cons hp2, drop_cons hp3, hw, hh, hx] at hFF
      have hhm : h ∈ ts := by rw [← hh]; exact List.getElem_mem hp2
      have hwm : w ∈ ws' := by rw [← hw]; exact List.getElem_mem hpl
      have hcast := l4Cast_ok c2 hc20 (by omega) x h w (by have := shape4 (hwt h hhm); omega) (by have := hwn w hwm; omega)
      have hcle := castM_le c2 x h w
      simp only [castS] at hFF
      have hst : ∀ y, (cur.set p y).take (p + 1) = cur.take p ++ [y] := fun y => by rw [List.take_add_one, List.getElem?_set_self hp3, List.take_set_of_le (Nat.le_refl p)]; rfl
      have hsd : ∀ y, (cur.set p y).drop (p + 1) = cur.drop (p + 1) := fun y => by rw [List.drop_set]; simp
      generalize castM c2 x h w = CM at *
      obtain ⟨y, m2⟩ := CM
      dsimp only at hFF hcle hcast
      have hp4 : p < e.kids.length := by omega
      repeat' first
        | ((first | refine aops_end (hK _ ?_) | refine aopsD_end (hK _ ?_)); clear hK K)
        | ((first | refine aops_go ?_ | refine aopsD_go ?_); simp [hpl, hp2, hp3, hp4, hw, hh, hx, hts, hcl, hwl]; (try simp (disch := omega) only [wrap64]); (try (refine gen fun q hq => ?_; cases q <;> (try simp [hpl, hp2, hp3, hp4, hw, hh, hx, hts, hcl, hwl] at hq) <;> (try (have hh : True := hq; clear hh hq)))))
        | (refine wpcall_pure rfl (hcast) ?_; simp [hpl, hp2, hp3, hp4, hw, hh, hx, hts, hcl, hwl]; (try simp (disch := omega) only [wrap64]); (try (refine gen fun q hq => ?_; cases q <;> (try simp [hpl, hp2, hp3, hp4, hw, hh, hx, hts, hcl, hwl] at hq) <;> (try (have hh : True := hq; clear hh hq)))))
        | refine T.rd1 (id := 18) mixed (fun _ => false) [22] (by kernel_rfl) fun K hK => ?_
        | refine T.rs (fun _ => false) fun K hK => ?_
        | refine T.rs1 (fun _ => false) fun K hK => ?_
        | refine T.cond rfl (fun hcnd => ?_) (fun hcnd => absurd hcnd (by decide))
        | refine T.seq ?_
        | refine T.block ?_
        | refine T.skip ?_
      refine ⟨(p + 1, cur.set p y, m2, _), by dsimp only; omega, ⟨by dsimp only; omega, by simp [hcl], by dsimp only; omega, by dsimp only; omega, by dsimp only; rw [hst, hsd]; simpa using hFF⟩, (by simp only [ups, List.set_cons_zero, List.cons_append, List.append_assoc, List.nil_append]; rfl), ?_, ?_⟩
      · simp [eTm_def]
      · simp (disch := omega) [wrap64]
    · have hpe : p = ts.length := by omega
      subst hpe
      rw [List.drop_length, ← hwl, List.drop_length, castS_nil, hwl, ← hcl, List.take_length, List.drop_length, List.append_nil] at hFF
      subst hFF
      dsimp only at hm hne hne'
      subst hm
      by_cases h13 : e.kind = 13
      · exact absurd h13 (by omega)
      · rw [hne h13]
        repeat' first
          | ((first | refine aops_end (hK _ ?_) | refine aopsG_end (hK _ ?_)); clear hK K)
          | ((first | refine aops_go ?_ | refine aopsG_go ?_); simp [hp2, h13, hcl, hts, hwl, h5]; (try (refine gen fun q hq => ?_; cases q <;> (try simp [hp2, h13, hcl, hts, hwl, h5] at hq) <;> (try (have hh : True := hq; clear hh hq)))))
          | (refine T.ret (Done.tup (Or.inr rfl) ?_) <;> simp [resAs, Try.results65, eTm_def, hcl, hts, h5] <;> omega)
          | refine T.rdG (id := 21) mixed (fun _ => false) [3, 4] [1] 4 [1] [] (by kernel_rfl) fun K hK => ?_
          | refine T.rs (fun _ => false) fun K hK => ?_
          | refine T.cond rfl (fun hcnd => absurd hcnd (by decide)) (fun hcnd => ?_)
          | refine T.seq ?_
          | refine T.skip ?_
          | refine T.exit ?_

theorem l4Insert_ok : ∀ (e : MTm) (d : Nat) (ctx : List MBd), shapeTm 14 d e = true → ctx.length + d ≤ 1073741824 → okCtx ctx → L4I ctx e := by
  intro e
  induction e using MTm.ind with
  | h e ih =>
    intro d ctx hs hl hc n e' t m h0 hn hel
    have hs0 := hs
    obtain ⟨d', rfl, hne, hlen, hown, hkids⟩ := shapeTm_kids hs
    have hb := kidsM_lt e.kind _ hlen
    have hin : okCtx (insideM ctx e) := by
      simp only [insideM]
      split
      · rename_i h5
        exact hc.app (own_typed hown (by simp [typedM, h5]))
      · exact hc
    have hil : (insideM ctx e).length ≤ ctx.length + 1 := by simp only [insideM]; split <;> simp
    have hty : typeM ctx e = some t := by
      have := elab_type e (d' + 1) ctx n hs0 hc
      rw [hel] at this; exact this.symm
    have hst := typeM_shape e (d' + 1) 14 ctx t hs0 hc hty
    obtain ⟨t', h1, h2⟩ := l3Type_ok e (d' + 1) ctx hs0 (by omega) hc
    obtain rfl := h1 t hty
    rw [hty] at h2
    simp only [Option.isSome_some] at h2
    have hsh : ∀ u ∈ e.kids, ∀ (n : Int) x t m, elabM (insideM ctx e) u n = (some (x, t), m) → shapeTy 4 t = true := by
      intro u hu n x t m h
      have h1 := elab_type u d' (insideM ctx e) n (hkids u hu) hin
      rw [h] at h1
      exact typeM_shape u d' 14 _ t (hkids u hu) hin (by simpa using h1.symm)
    have hih : ∀ u ∈ e.kids, L4I (insideM ctx e) u := fun u hu => ih u hu d' (insideM ctx e) (hkids u hu) (by omega) hin
    rw [elabM_def] at hel
    obtain ⟨es0, ts0, c0, ws, hS, hw, _, hm, hk1, hk2⟩ := finM_some hel
    have hts0 : ∀ u ∈ ts0, shapeTy 4 u = true := by
      have : ∀ (l : List MTm), (∀ u ∈ l, u ∈ e.kids) → ∀ (n : Int) es ts m, elabS (insideM ctx e) l n = (some (es, ts), m) → ∀ u ∈ ts, shapeTy 4 u = true := by
        intro l
        induction l with
        | nil => intro _ n es ts m h; simp [elabS] at h; obtain ⟨⟨rfl, rfl⟩, rfl⟩ := h; simp
        | cons x r ihl =>
          intro hm n es ts m h
          obtain ⟨a', ta, k, es', ts', h1, h2, rfl, rfl⟩ := elabS_cons h
          intro u hu
          simp only [List.mem_cons] at hu
          rcases hu with rfl | hu
          · exact hsh x (hm x (by simp)) _ _ _ _ h1
          · exact ihl (fun v hv => hm v (by simp [hv])) _ _ _ _ h2 u hu
      exact this e.kids (fun _ h => h) n es0 ts0 c0 hS
    have hl4 := l4Want_ok ctx e ts0 ws t' ⟨by omega, by omega⟩ hts0 hst (by rw [(elabS_len hS).2]; exact hlen.symm) hw
    by_cases h5 : e.kind = 5
    · have hmore := l3More_ok ctx e.name e.ty (by omega)
      have hi : insideM ctx e = ctx ++ [⟨e.name, e.ty⟩] := by simp [insideM, h5]
      rw [← hi] at hmore
      exact l4Insert_lam ctx e ⟨by omega, by omega⟩ h5 (insideM ctx e) hmore (by omega) hlen n e' t' m es0 ts0 c0 ws h0 hn (by omega) hS hts0 hl4 hm hk1 hk2 h2 hsh hih
    · have hi : insideM ctx e = ctx := by simp [insideM, h5]
      rw [hi] at hsh hih hS
      exact l4Insert_non ctx e ⟨by omega, by omega⟩ h5 (by omega) hlen n e' t' m es0 ts0 c0 ws h0 hn (by omega) hS hts0 hl4 hm hk1 hk2 h2 hsh hih
end Go.Proofs.Ytiffndccihaopaa

namespace Go.Proofs.Ytiffndccihaopaa
attribute [-simp] Go.Av.innAsH Go.Av.AV.innH Go.Av.CV.innH Go.Av.innHs Go.Av.AV.outnH Go.Av.CV.outnH
open Go Go.Av
attribute [local irreducible] T ACalls TX EX LX Draws Some_ ACallsX eTy eTm MTy.kind MTy.kids MTm.kind MTm.name MTm.num MTm.ty MTm.fr MTm.label MTm.kids
attribute [local simp] eTy_def eTm_def
set_option linter.unusedSimpArgs false
set_option linter.unusedVariables false
set_option maxHeartbeats 16000000
set_option maxRecDepth 8000
attribute [local simp] Option.bind

theorem exactS_at : ∀ {ws ts : List MTy}, exactS ws ts = true → ws.length ≤ ts.length ∧ ∀ (i : Nat) w h, ws[i]? = some w → ts[i]? = some h → w = h
  | [], ts, _ => ⟨by simp, fun i w h hw => by simp at hw⟩
  | w :: ws, h :: hs, hq => by
    simp only [exactS, Bool.and_eq_true] at hq
    obtain ⟨h1, h2⟩ := exactS_at hq.2
    refine ⟨by simp; exact h1, fun i w' h' hw hh => ?_⟩
    cases i with
    | zero => simp at hw hh; subst hw; subst hh; exact sameTy_iff.1 hq.1
    | succ i => simp at hw hh; exact h2 i _ _ hw hh
  | _ :: _, [], hq => by simp [exactS] at hq

theorem castTy_shape {nt : Int} {d : Nat} {ctx : List MBd} {e : MTm} {t : MTy} (hs : shapeTm nt d e = true) (h : castTyM ctx e = some t) : shapeTy 4 t = true := by
  obtain ⟨d', rfl, _, _, hown, _⟩ := shapeTm_kids hs
  rw [castTyM_def] at h
  cases hk : castTyS (insideM ctx e) e.kids with
  | none => rw [hk] at h; simp at h
  | some ts =>
    rw [hk] at h
    simp only at h
    by_cases h14 : e.kind = 14
    · rw [if_pos h14] at h
      cases ts with
      | nil => simp at h
      | cons x r =>
        simp only at h
        split at h
        · simp at h; subst h; exact own_typed hown (by simp [typedM, h14])
        · simp at h
    · rw [if_neg h14] at h
      cases hw : wantM ctx e.kind e.name e.ty ts with
      | none => rw [hw] at h; simp at h
      | some p =>
        obtain ⟨ws, u⟩ := p
        rw [hw] at h
        simp only at h
        split at h
        · rename_i hq; simp at h; subst h; exact hq.1
        · simp at h

def CTy (ctx : List MBd) (e : MTm) : Prop := ∀ t, castTyM ctx e = some t → ACalls Try.prog 73 [aBds ctx, aTm e] [] (.tup [aTy t, .b true]) [] []

theorem castType_non (ctx : List MBd) (e : MTm) (hk : 0 < e.kind ∧ e.kind < 15) (h5 : e.kind ≠ 5)  (hl : ctx.length ≤ 1073741824) (hlen : kidsM e.kind = e.kids.length)
    (ts0 : List MTy) (hS : castTyS ctx e.kids = some ts0) (hlts : ts0.length = e.kids.length) (hsh : ∀ u ∈ ts0, shapeTy 4 u = true) (ih : ∀ u ∈ e.kids, CTy ctx u) (t : MTy) (htn : nTy t ≤ 1000)
    (hcast : e.kind = 14 → ∃ x, ts0 = [x] ∧ x = e.fr ∧ t = e.ty) (hwant : e.kind ≠ 14 → ∃ ws, wantM ctx e.kind e.name e.ty ts0 = some (ws, t) ∧ shapeTy 4 t = true ∧ exactS ws ts0 = true) :
    ACalls Try.prog 73 [aBds ctx, aTm e] [] (.tup [aTy t, .b true]) [] [] := by
  have hkl : e.kids.length ≤ 3 := by have := kidsM_le e.kind; omega
  refine ACalls.of_body Try.func73 (by kernel_rfl) rfl (by kernel_rfl) (by simp [Try.ntmps73]) (by simp) ?_
  rw [Try.ntmps73]
  repeat' first
    | ((first | refine aops_end (hK _ ?_)); clear hK K)
    | ((first | refine aops_go ?_); simp [h5]; (try (refine gen fun q hq => ?_; cases q <;> (try simp [h5] at hq) <;> (try (have hh : True := hq; clear hh hq)))))
    | refine T.rs (fun _ => false) fun K hK => ?_
    | refine T.cond rfl (fun hcnd => absurd hcnd (by decide)) (fun hcnd => ?_)
    | refine T.seq ?_
    | refine T.block ?_
    | refine T.skip ?_
  refine T.ownify 7 2 25 (by simp) ?_
  refine T.loopK (α := Nat × List MTy × List (List CV)) [0, 3, 4, 6, 31, 32] (fun x => [(5, .b false), (7, .c (.own 0 x.1)), (33, .i x.1)]) (fun x => []) (fun x => x.2.2) (fun x _ => [{ sz := 2, ety := 25, rows := x.2.1.map eTy, wr := true }]) (fun x => e.kids.length + 1 - x.1)
    (fun x => x.1 ≤ e.kids.length ∧ x.2.1.length = x.1 ∧ (castTyS ctx (e.kids.drop x.1)).map (x.2.1 ++ ·) = some ts0) (by simp; rfl) (fun x hx => ?_) (0, [], []) (by simp [hS]) (by simp) (by simp) (by simp)
  obtain ⟨p, ts, G⟩ := x
  obtain ⟨hi, hts, he⟩ := hx
  dsimp only at hi hts he ⊢
  simp only [ups, List.set_cons_zero, List.set_cons_succ, List.cons_append, List.nil_append]
  by_cases hlt : p < e.kids.length
  · obtain ⟨u, ht⟩ := get_lt hlt
    have htm : u ∈ e.kids := List.mem_of_getElem? ht
    have hgt : e.kids[p] = u := by rw [List.getElem?_eq_getElem hlt] at ht; exact Option.some.inj ht
    have hdr : e.kids.drop p = u :: e.kids.drop (p + 1) := by rw [List.drop_eq_getElem_cons hlt, hgt]
    rw [hdr] at he
    simp only [castTyS] at he
    cases hb : castTyM ctx u with
    | none => rw [hb] at he; simp at he
    | some tu =>
      have hu := ih u htm tu hb
      rw [hb] at he
      have he' : (castTyS ctx (e.kids.drop (p + 1))).map ((ts ++ [tu]) ++ ·) = some ts0 := by
        rw [← he]
        cases castTyS ctx (e.kids.drop (p + 1)) <;> simp
      repeat' first
        | ((first | refine aops_end (hK _ ?_)); clear hK K)
        | ((first | refine aops_go ?_); simp [hlt, hgt, hts]; (try simp (disch := omega) only [wrap64]); (try (refine gen fun q hq => ?_; cases q <;> (try simp [hlt, hgt, hts] at hq) <;> (try (have hh : True := hq; clear hh hq)))))
        | (refine wpcall_pure rfl (hu) ?_; simp [hlt, hgt, hts]; (try simp (disch := omega) only [wrap64]); (try (refine gen fun q hq => ?_; cases q <;> (try simp [hlt, hgt, hts] at hq) <;> (try (have hh : True := hq; clear hh hq)))))
        | (refine ⟨by omega, by omega, ?_⟩)
        | refine T.rs (fun _ => false) fun K hK => ?_
        | refine T.rs1 (fun _ => false) fun K hK => ?_
        | refine T.cond rfl (fun hcnd => ?_) (fun hcnd => absurd hcnd (by decide))
        | refine T.cond rfl (fun hcnd => absurd hcnd (by decide)) (fun hcnd => ?_)
        | refine T.seq ?_
        | refine T.block ?_
        | refine T.skip ?_
      refine ⟨(p + 1, ts ++ [tu], _), by dsimp only; omega, ⟨by dsimp only; omega, by simp [hts], he'⟩, rfl, ?_, ?_⟩
      · simp [eTy_def]
      · simp (disch := omega) [wrap64]
  · have hp' : p = e.kids.length := by omega
    subst hp'
    simp [castTyS] at he
    subst he
    by_cases h14 : e.kind = 14
    · obtain ⟨x, rfl, rfl, rfl⟩ := hcast h14
      have hk1 : e.kids.length = 1 := by simpa using hlts.symm
      have hsame := TypeSame_ok e.fr e.fr (by have := shape4 (hsh e.fr (by simp)); omega)
      rw [sameTy_refl] at hsame
      repeat' first
        | ((first | refine aops_end (hK _ ?_) | refine aopsD_end (hK _ ?_)); clear hK K)
        | ((first | refine aops_go ?_ | refine aopsD_go ?_); simp [hlt, h14, hk1]; (try (refine gen fun q hq => ?_; cases q <;> (try simp [hlt, h14, hk1] at hq) <;> (try (have hh : True := hq; clear hh hq)))))
        | (refine wpcall_pure rfl (hsame) ?_; simp [hlt, h14, hk1]; (try (refine gen fun q hq => ?_; cases q <;> (try simp [hlt, h14, hk1] at hq) <;> (try (have hh : True := hq; clear hh hq)))))
        | (refine T.ret (Done.tup (Or.inr rfl) ?_) <;> simp [resAs, Try.results73] <;> omega)
        | refine T.rd (id := 14) mixed (fun _ => false) [8] (by kernel_rfl) fun K hK => ?_
        | refine T.rs (fun _ => false) fun K hK => ?_
        | refine T.cond rfl (fun hcnd => ?_) (fun hcnd => absurd hcnd (by decide))
        | refine T.cond rfl (fun hcnd => absurd hcnd (by decide)) (fun hcnd => ?_)
        | refine T.seq ?_
        | refine T.exit ?_
    · obtain ⟨ws, hwr, hst, hex⟩ := hwant h14
      obtain ⟨ws', t', hw1, hw2⟩ := wanted_ok ctx (by omega) e ts ⟨hk.1, by omega⟩ (by rw [hlts]; exact hlen.symm) hsh
      have hpp := hw1 _ hwr
      simp only [Prod.mk.injEq] at hpp
      obtain ⟨rfl, rfl⟩ := hpp
      rw [hwr] at hw2
      simp only [Option.isSome_some] at hw2
      have htv := TypeValid_ok t (by omega)
      rw [hst] at htv
      obtain ⟨hwl, hwe⟩ := exactS_at hex
      repeat' first
        | ((first | refine aops_end (hK _ ?_)); clear hK K)
        | ((first | refine aops_go ?_); simp [hlt, h14, hts]; (try (refine gen fun q hq => ?_; cases q <;> (try simp [hlt, h14, hts] at hq) <;> (try (have hh : True := hq; clear hh hq)))))
        | (refine wpcall_pure ?_ (hw2) ?_; (focus (solve | simp [hlt, h14, hts])); simp [hlt, h14, hts]; (try (refine gen fun q hq => ?_; cases q <;> (try simp [hlt, h14, hts] at hq) <;> (try (have hh : True := hq; clear hh hq)))))
        | (refine wpcall_pure rfl (htv) ?_; simp [hlt, h14, hts]; (try (refine gen fun q hq => ?_; cases q <;> (try simp [hlt, h14, hts] at hq) <;> (try (have hh : True := hq; clear hh hq)))))
        | refine T.rs (fun _ => false) fun K hK => ?_
        | refine T.cond rfl (fun hcnd => absurd hcnd (by decide)) (fun hcnd => ?_)
        | refine T.seq ?_
        | refine T.block ?_
        | refine T.skip ?_
        | refine T.exit ?_
      refine T.loopK (α := Nat × List (List CV)) [4, 7, 13, 78, 79] (fun x => [(5, .b false), (80, .i x.1)]) (fun x => []) (fun x => x.2) (fun x A => A) (fun x => ws.length + 1 - x.1) (fun x => x.1 ≤ ws.length) (by simp; rfl) (fun x hx => ?_) (0, []) (by simp) (by simp) (by simp) (by simp)
      obtain ⟨p, G2⟩ := x
      dsimp only at hx ⊢
      simp only [ups, List.set_cons_zero, List.set_cons_succ, List.cons_append, List.nil_append]
      by_cases hpl : p < ws.length
      · have hp2 : p < ts.length := by omega
        obtain ⟨w, hw⟩ := get_lt hpl
        obtain ⟨h, hh⟩ := get_lt hp2
        obtain rfl := hwe p w h hw hh
        have hgw : ws[p] = w := by rw [List.getElem?_eq_getElem hpl] at hw; exact Option.some.inj hw
        have hgh : ts[p] = w := by rw [List.getElem?_eq_getElem hp2] at hh; exact Option.some.inj hh
        have hsame := TypeSame_ok w w (by have := shape4 (hsh w (List.mem_of_getElem? hh)); omega)
        rw [sameTy_refl] at hsame
        have hp4 : p < e.kids.length := by omega
        repeat' first
          | ((first | refine aops_end (hK _ ?_) | refine aopsD_end (hK _ ?_)); clear hK K)
          | ((first | refine aops_go ?_ | refine aopsD_go ?_); simp [hpl, hp2, hp4, hgw, hgh, hts]; (try simp (disch := omega) only [wrap64]); (try (refine gen fun q hq => ?_; cases q <;> (try simp [hpl, hp2, hp4, hgw, hgh, hts] at hq) <;> (try (have hh : True := hq; clear hh hq)))))
          | (refine wpcall_pure rfl (hsame) ?_; simp [hpl, hp2, hp4, hgw, hgh, hts]; (try simp (disch := omega) only [wrap64]); (try (refine gen fun q hq => ?_; cases q <;> (try simp [hpl, hp2, hp4, hgw, hgh, hts] at hq) <;> (try (have hh : True := hq; clear hh hq)))))
          | refine T.rd (id := 21) mixed (fun _ => false) [] (by kernel_rfl) fun K hK => ?_
          | refine T.rs (fun _ => false) fun K hK => ?_
          | refine T.rs1 (fun _ => false) fun K hK => ?_
          | refine T.cond rfl (fun hcnd => ?_) (fun hcnd => absurd hcnd (by decide))
          | refine T.cond rfl (fun hcnd => absurd hcnd (by decide)) (fun hcnd => ?_)
          | refine T.seq ?_
          | refine T.block ?_
          | refine T.skip ?_
        refine ⟨(p + 1, _), by dsimp only; omega, by dsimp only; omega, (by simp only [ups, List.set_cons_zero, List.cons_append, List.append_assoc, List.nil_append]; rfl), ?_, ?_⟩
        · simp [eTy_def]
        · simp (disch := omega) [wrap64]
      · have hpe : p = ws.length := by omega
        subst hpe
        repeat' first
          | ((first | refine aops_end (hK _ ?_)); clear hK K)
          | ((first | refine aops_go ?_); simp [hpl]; (try (refine gen fun q hq => ?_; cases q <;> (try simp [hpl] at hq) <;> (try (have hh : True := hq; clear hh hq)))))
          | (refine T.ret (Done.tup (Or.inr rfl) ?_) <;> simp [resAs, Try.results73] <;> omega)
          | refine T.rs (fun _ => false) fun K hK => ?_
          | refine T.cond rfl (fun hcnd => absurd hcnd (by decide)) (fun hcnd => ?_)
          | refine T.seq ?_
          | refine T.exit ?_

theorem castType_lam (ctx : List MBd) (e : MTm) (hk : 0 < e.kind ∧ e.kind < 15) (h5 : e.kind = 5) (ins : List MBd) (hins : ins = ctx ++ [⟨e.name, e.ty⟩]) (hl : ctx.length ≤ 1073741824) (hlen : kidsM e.kind = e.kids.length)
    (ts0 : List MTy) (hS : castTyS ins e.kids = some ts0) (hlts : ts0.length = e.kids.length) (hsh : ∀ u ∈ ts0, shapeTy 4 u = true) (ih : ∀ u ∈ e.kids, CTy ins u) (t : MTy) (htn : nTy t ≤ 1000)
    (hcast : e.kind = 14 → ∃ x, ts0 = [x] ∧ x = e.fr ∧ t = e.ty) (hwant : e.kind ≠ 14 → ∃ ws, wantM ctx e.kind e.name e.ty ts0 = some (ws, t) ∧ shapeTy 4 t = true ∧ exactS ws ts0 = true) :
    ACalls Try.prog 73 [aBds ctx, aTm e] [] (.tup [aTy t, .b true]) [] [] := by
  have hkl : e.kids.length ≤ 3 := by have := kidsM_le e.kind; omega
  refine ACalls.of_body Try.func73 (by kernel_rfl) rfl (by kernel_rfl) (by simp [Try.ntmps73]) (by simp) ?_
  rw [Try.ntmps73]
  repeat' first
    | ((first | refine aops_end (hK _ ?_) | refine aopsG_end (hK _ ?_)); clear hK K)
    | ((first | refine aops_go ?_ | refine aopsG_go ?_); simp [h5]; (try (refine gen fun q hq => ?_; cases q <;> (try simp [h5] at hq) <;> (try (have hh : True := hq; clear hh hq)))))
    | (refine wpcall_own rfl (cloneBd_own ctx (by omega)) ?_; simp [h5]; (try (refine gen fun q hq => ?_; cases q <;> (try simp [h5] at hq) <;> (try (have hh : True := hq; clear hh hq)))))
    | (refine ⟨by omega, by omega, ?_⟩)
    | refine T.rdG1 (id := 3) mixed (fun _ => false) [1, 8] [3, 5, 6, 7] 2 [] [] (by kernel_rfl) fun K hK => ?_
    | refine T.rs (fun _ => false) fun K hK => ?_
    | refine T.cond rfl (fun hcnd => ?_) (fun hcnd => absurd hcnd (by decide))
    | refine T.seq ?_
    | refine T.block ?_
  refine T.seal 6 0 (ctx.length + 1) (r := { sz := 3, ety := 41, rows := ins.map eBd, wr := true }) (by simp) (by simp [hins, eBd]) (by simp [hins]) ?_
  clear hins
  refine T.ownify 7 2 25 (by simp) ?_
  refine T.loopK (α := Nat × List MTy × List (List CV)) [0, 3, 4, 6, 31, 32] (fun x => [(5, .b false), (7, .c (.own 1 x.1)), (33, .i x.1)]) (fun x => []) (fun x => x.2.2) (fun x _ => [{ sz := 3, ety := 41, rows := ins.map eBd, wr := false },{ sz := 2, ety := 25, rows := x.2.1.map eTy, wr := true }]) (fun x => e.kids.length + 1 - x.1)
    (fun x => x.1 ≤ e.kids.length ∧ x.2.1.length = x.1 ∧ (castTyS ins (e.kids.drop x.1)).map (x.2.1 ++ ·) = some ts0) (by simp; rfl) (fun x hx => ?_) (0, [], []) (by simp [hS]) (by simp) (by simp) (by simp)
  obtain ⟨p, ts, G⟩ := x
  obtain ⟨hi, hts, he⟩ := hx
  dsimp only at hi hts he ⊢
  simp only [ups, List.set_cons_zero, List.set_cons_succ, List.cons_append, List.nil_append]
  by_cases hlt : p < e.kids.length
  · obtain ⟨u, ht⟩ := get_lt hlt
    have htm : u ∈ e.kids := List.mem_of_getElem? ht
    have hgt : e.kids[p] = u := by rw [List.getElem?_eq_getElem hlt] at ht; exact Option.some.inj ht
    have hdr : e.kids.drop p = u :: e.kids.drop (p + 1) := by rw [List.drop_eq_getElem_cons hlt, hgt]
    rw [hdr] at he
    simp only [castTyS] at he
    cases hb : castTyM ins u with
    | none => rw [hb] at he; simp at he
    | some tu =>
      have hu := ih u htm tu hb
      rw [hb] at he
      have he' : (castTyS ins (e.kids.drop (p + 1))).map ((ts ++ [tu]) ++ ·) = some ts0 := by
        rw [← he]
        cases castTyS ins (e.kids.drop (p + 1)) <;> simp
      repeat' first
        | ((first | refine aops_end (hK _ ?_)); clear hK K)
        | ((first | refine aops_go ?_); simp [hlt, hgt, hts]; (try simp (disch := omega) only [wrap64]); (try (refine gen fun q hq => ?_; cases q <;> (try simp [hlt, hgt, hts] at hq) <;> (try (have hh : True := hq; clear hh hq)))))
        | (refine wpcall_pure rfl (hu) ?_; simp [hlt, hgt, hts]; (try simp (disch := omega) only [wrap64]); (try (refine gen fun q hq => ?_; cases q <;> (try simp [hlt, hgt, hts] at hq) <;> (try (have hh : True := hq; clear hh hq)))))
        | (refine ⟨by omega, by omega, ?_⟩)
        | refine T.rs (fun _ => false) fun K hK => ?_
        | refine T.rs1 (fun _ => false) fun K hK => ?_
        | refine T.cond rfl (fun hcnd => ?_) (fun hcnd => absurd hcnd (by decide))
        | refine T.cond rfl (fun hcnd => absurd hcnd (by decide)) (fun hcnd => ?_)
        | refine T.seq ?_
        | refine T.block ?_
        | refine T.skip ?_
      refine ⟨(p + 1, ts ++ [tu], _), by dsimp only; omega, ⟨by dsimp only; omega, by simp [hts], he'⟩, rfl, ?_, ?_⟩
      · simp [eTy_def]
      · simp (disch := omega) [wrap64]
  · have hp' : p = e.kids.length := by omega
    subst hp'
    simp [castTyS] at he
    subst he
    by_cases h14 : e.kind = 14
    · exact absurd h14 (by omega)
    · obtain ⟨ws, hwr, hst, hex⟩ := hwant h14
      obtain ⟨ws', t', hw1, hw2⟩ := wanted_ok ctx (by omega) e ts ⟨hk.1, by omega⟩ (by rw [hlts]; exact hlen.symm) hsh
      have hpp := hw1 _ hwr
      simp only [Prod.mk.injEq] at hpp
      obtain ⟨rfl, rfl⟩ := hpp
      rw [hwr] at hw2
      simp only [Option.isSome_some] at hw2
      have htv := TypeValid_ok t (by omega)
      rw [hst] at htv
      obtain ⟨hwl, hwe⟩ := exactS_at hex
      repeat' first
        | ((first | refine aops_end (hK _ ?_)); clear hK K)
        | ((first | refine aops_go ?_); simp [hlt, h14, hts, h5]; (try (refine gen fun q hq => ?_; cases q <;> (try simp [hlt, h14, hts, h5] at hq) <;> (try (have hh : True := hq; clear hh hq)))))
        | (refine wpcall_pure ?_ (hw2) ?_; (focus (solve | simp [hlt, h14, hts, h5])); simp [hlt, h14, hts, h5]; (try (refine gen fun q hq => ?_; cases q <;> (try simp [hlt, h14, hts, h5] at hq) <;> (try (have hh : True := hq; clear hh hq)))))
        | (refine wpcall_pure rfl (htv) ?_; simp [hlt, h14, hts, h5]; (try (refine gen fun q hq => ?_; cases q <;> (try simp [hlt, h14, hts, h5] at hq) <;> (try (have hh : True := hq; clear hh hq)))))
        | refine T.rs (fun _ => false) fun K hK => ?_
        | refine T.cond rfl (fun hcnd => absurd hcnd (by decide)) (fun hcnd => ?_)
        | refine T.seq ?_
        | refine T.block ?_
        | refine T.skip ?_
        | refine T.exit ?_
      refine T.loopK (α := Nat × List (List CV)) [4, 7, 13, 78, 79] (fun x => [(5, .b false), (80, .i x.1)]) (fun x => []) (fun x => x.2) (fun x A => A) (fun x => ws.length + 1 - x.1) (fun x => x.1 ≤ ws.length) (by simp; rfl) (fun x hx => ?_) (0, []) (by simp) (by simp) (by simp) (by simp)
      obtain ⟨p, G2⟩ := x
      dsimp only at hx ⊢
      simp only [ups, List.set_cons_zero, List.set_cons_succ, List.cons_append, List.nil_append]
      by_cases hpl : p < ws.length
      · have hp2 : p < ts.length := by omega
        obtain ⟨w, hw⟩ := get_lt hpl
        obtain ⟨h, hh⟩ := get_lt hp2
        obtain rfl := hwe p w h hw hh
        have hgw : ws[p] = w := by rw [List.getElem?_eq_getElem hpl] at hw; exact Option.some.inj hw
        have hgh : ts[p] = w := by rw [List.getElem?_eq_getElem hp2] at hh; exact Option.some.inj hh
        have hsame := TypeSame_ok w w (by have := shape4 (hsh w (List.mem_of_getElem? hh)); omega)
        rw [sameTy_refl] at hsame
        have hp4 : p < e.kids.length := by omega
        repeat' first
          | ((first | refine aops_end (hK _ ?_) | refine aopsD_end (hK _ ?_)); clear hK K)
          | ((first | refine aops_go ?_ | refine aopsD_go ?_); simp [hpl, hp2, hp4, hgw, hgh, hts]; (try simp (disch := omega) only [wrap64]); (try (refine gen fun q hq => ?_; cases q <;> (try simp [hpl, hp2, hp4, hgw, hgh, hts] at hq) <;> (try (have hh : True := hq; clear hh hq)))))
          | (refine wpcall_pure rfl (hsame) ?_; simp [hpl, hp2, hp4, hgw, hgh, hts]; (try simp (disch := omega) only [wrap64]); (try (refine gen fun q hq => ?_; cases q <;> (try simp [hpl, hp2, hp4, hgw, hgh, hts] at hq) <;> (try (have hh : True := hq; clear hh hq)))))
          | refine T.rd (id := 21) mixed (fun _ => false) [] (by kernel_rfl) fun K hK => ?_
          | refine T.rs (fun _ => false) fun K hK => ?_
          | refine T.rs1 (fun _ => false) fun K hK => ?_
          | refine T.cond rfl (fun hcnd => ?_) (fun hcnd => absurd hcnd (by decide))
          | refine T.cond rfl (fun hcnd => absurd hcnd (by decide)) (fun hcnd => ?_)
          | refine T.seq ?_
          | refine T.block ?_
          | refine T.skip ?_
        refine ⟨(p + 1, _), by dsimp only; omega, by dsimp only; omega, (by simp only [ups, List.set_cons_zero, List.cons_append, List.append_assoc, List.nil_append]; rfl), ?_, ?_⟩
        · simp [eTy_def]
        · simp (disch := omega) [wrap64]
      · have hpe : p = ws.length := by omega
        subst hpe
        repeat' first
          | ((first | refine aops_end (hK _ ?_)); clear hK K)
          | ((first | refine aops_go ?_); simp [hpl]; (try (refine gen fun q hq => ?_; cases q <;> (try simp [hpl] at hq) <;> (try (have hh : True := hq; clear hh hq)))))
          | (refine T.ret (Done.tup (Or.inr rfl) ?_) <;> simp [resAs, Try.results73] <;> omega)
          | refine T.rs (fun _ => false) fun K hK => ?_
          | refine T.cond rfl (fun hcnd => absurd hcnd (by decide)) (fun hcnd => ?_)
          | refine T.seq ?_
          | refine T.exit ?_

theorem castTyS_len : ∀ {c : List MBd} {l : List MTm} {ts : List MTy}, castTyS c l = some ts → ts.length = l.length
  | c, [], ts, h => by simp [castTyS] at h; subst h; rfl
  | c, e :: r, ts, h => by
    simp only [castTyS] at h
    cases h1 : castTyM c e with
    | none => rw [h1] at h; simp at h
    | some t =>
      rw [h1] at h
      cases h2 : castTyS c r with
      | none => rw [h2] at h; simp at h
      | some us => rw [h2] at h; simp at h; subst h; simp [castTyS_len h2]
theorem castTyS_shape {nt : Int} {d : Nat} : ∀ {c : List MBd} {l : List MTm} {ts : List MTy}, (∀ u ∈ l, shapeTm nt d u = true) → castTyS c l = some ts → ∀ u ∈ ts, shapeTy 4 u = true
  | c, [], ts, _, h => by simp [castTyS] at h; subst h; simp
  | c, e :: r, ts, hs, h => by
    simp only [castTyS] at h
    cases h1 : castTyM c e with
    | none => rw [h1] at h; simp at h
    | some t =>
      rw [h1] at h
      cases h2 : castTyS c r with
      | none => rw [h2] at h; simp at h
      | some us =>
        rw [h2] at h; simp at h; subst h
        intro u hu
        simp only [List.mem_cons] at hu
        rcases hu with rfl | hu
        · exact castTy_shape (hs e (by simp)) h1
        · exact castTyS_shape (fun v hv => hs v (by simp [hv])) h2 u hu

theorem castType_ok : ∀ (e : MTm) (d : Nat) (ctx : List MBd), shapeTm 13 d e = true → ctx.length + d ≤ 1073741824 → CTy ctx e := by
  intro e
  induction e using MTm.ind with
  | h e ih =>
    intro d ctx hs hl t ht
    have hst := castTy_shape hs ht
    have htn : nTy t ≤ 1000 := by have := shape4 hst; omega
    obtain ⟨d', rfl, hne, hlen, hown, hkids⟩ := shapeTm_kids hs
    have hb := kidsM_lt e.kind _ hlen
    have hil : (insideM ctx e).length ≤ ctx.length + 1 := by simp only [insideM]; split <;> simp
    have hih : ∀ u ∈ e.kids, CTy (insideM ctx e) u := fun u hu => ih u hu d' (insideM ctx e) (hkids u hu) (by omega)
    rw [castTyM_def] at ht
    cases hS : castTyS (insideM ctx e) e.kids with
    | none => rw [hS] at ht; simp at ht
    | some ts0 =>
      rw [hS] at ht
      simp only at ht
      have hlts := castTyS_len hS
      have hsh := castTyS_shape hkids hS
      have hcast : e.kind = 14 → ∃ x, ts0 = [x] ∧ x = e.fr ∧ t = e.ty := by
        intro h14
        rw [if_pos h14] at ht
        have h1 : e.kids.length = 1 := by rw [h14] at hlen; simp [kidsM] at hlen; omega
        match ts0, hlts, ht with
        | [x], _, ht =>
          simp only at ht
          split at ht
          · rename_i hq; simp at ht; exact ⟨x, rfl, sameTy_iff.1 hq, ht.symm⟩
          · simp at ht
        | [], hlts, _ => simp at hlts; omega
        | _ :: _ :: _, hlts, _ => simp at hlts; omega
      have hwant : e.kind ≠ 14 → ∃ ws, wantM ctx e.kind e.name e.ty ts0 = some (ws, t) ∧ shapeTy 4 t = true ∧ exactS ws ts0 = true := by
        intro h14
        rw [if_neg h14] at ht
        cases hw : wantM ctx e.kind e.name e.ty ts0 with
        | none => rw [hw] at ht; simp at ht
        | some p =>
          obtain ⟨ws, u⟩ := p
          rw [hw] at ht
          simp only at ht
          split at ht
          · rename_i hq; simp at ht; subst ht; exact ⟨ws, rfl, hq.1, hq.2⟩
          · simp at ht
      by_cases h5 : e.kind = 5
      · exact castType_lam ctx e hb h5 (insideM ctx e) (by simp [insideM, h5]) (by omega) hlen ts0 hS hlts hsh hih t htn hcast hwant
      · have hi : insideM ctx e = ctx := by simp [insideM, h5]
        rw [hi] at hih hS
        exact castType_non ctx e hb h5 (by omega) hlen ts0 hS hlts hsh hih t htn hcast hwant

theorem CastTypeOf_some (e : MTm) (t : MTy) (hn : nTm e ≤ 1099511627776) (hv : castValidM e = true) (ht : castTyM [] e = some t) : ACalls Try.prog 35 [aTm e] [] (.tup [aTy t, .b true]) [] [] := by
  have hs : shapeTm 13 40 e = true := by simp only [castValidM, Bool.and_eq_true] at hv; exact hv.1
  have h1 := CastValid_ok e hn
  rw [hv] at h1
  have h2 := castType_ok e 40 [] hs (by simp) t ht
  have h3 := ownType_ok t (by have := shape4 (castTy_shape hs ht); omega)
  refine ACalls.of_body Try.func35 (by kernel_rfl) rfl (by kernel_rfl) (by simp [Try.ntmps35]) (by simp) ?_
  rw [Try.ntmps35]
  repeat' first
    | ((first | refine aops_end (hK _ ?_)); clear hK K)
    | ((first | refine aops_go ?_); simp; (try (refine gen fun q hq => ?_; cases q <;> (try simp at hq) <;> (try (have hh : True := hq; clear hh hq)))))
    | (refine wpcall_pure rfl (h1) ?_; simp; (try (refine gen fun q hq => ?_; cases q <;> (try simp at hq) <;> (try (have hh : True := hq; clear hh hq)))))
    | (refine wpcall_pure ?_ (h2) ?_; (focus (solve | simp)); simp; (try (refine gen fun q hq => ?_; cases q <;> (try simp at hq) <;> (try (have hh : True := hq; clear hh hq)))))
    | (refine wpcall_pure rfl (h3) ?_; simp; (try (refine gen fun q hq => ?_; cases q <;> (try simp at hq) <;> (try (have hh : True := hq; clear hh hq)))))
    | (refine T.ret (Done.tup (Or.inr rfl) ?_) <;> simp [resAs, Try.results35] <;> omega)
    | refine T.rs (fun _ => false) fun K hK => ?_
    | refine T.cond rfl (fun hcnd => absurd hcnd (by decide)) (fun hcnd => ?_)
    | refine T.seq ?_
    | refine T.skip ?_

theorem own_ok (e : MTm) (hn : nTm e ≤ 1099511627776) : ACalls Try.prog 64 [aTm e] [] (aTm e) [] [] := by
  have h := mapped_ok 109 (fun x => x) (fun _ => True) (fun _ _ _ _ => trivial) (fun e _ => by have := own1_ok (.mk e.kind e.name e.num e.ty e.fr e.label (e.kids.map (mapM fun x => x))); rw [mapM_def]; exact this) e trivial hn
  rw [mapM_id] at h
  refine ACalls.of_body Try.func64 (by kernel_rfl) rfl (by kernel_rfl) (by simp [Try.ntmps64]) (by simp) ?_
  rw [Try.ntmps64]
  repeat' first
    | ((first | refine aops_end (hK _ ?_)); clear hK K)
    | ((first | refine aops_go ?_); simp; (try (refine gen fun q hq => ?_; cases q <;> (try simp at hq) <;> (try (have hh : True := hq; clear hh hq)))))
    | (refine wpcall_pure rfl (h) ?_; simp; (try (refine gen fun q hq => ?_; cases q <;> (try simp at hq) <;> (try (have hh : True := hq; clear hh hq)))))
    | (refine T.ret (Done.val (Or.inr rfl) ?_) <;> simp [resAs, Try.results64] <;> omega)
    | refine T.rs (fun _ => false) fun K hK => ?_

theorem bare1_ok (e : MTm) (hl : kidsM e.kind = e.kids.length) : ACalls Try.prog 112 [aTm e] [] (aTm (bareG e)) [] [] := by
  have hb := base_ok 1
  by_cases h13 : e.kind = 13
  · have h1 : e.kids.length = 1 := by rw [h13] at hl; simp [kidsM] at hl; omega
    match hk : e.kids, h1 with
    | [x], _ =>
      rw [show bareG e = x by simp [bareG, h13, hk]]
      refine ACalls.of_body Try.func112 (by kernel_rfl) rfl (by kernel_rfl) (by simp [Try.ntmps112]) (by simp) ?_
      rw [Try.ntmps112]
      repeat' first
        | ((first | refine aops_end (hK _ ?_)); clear hK K)
        | ((first | refine aops_go ?_); simp [h13, hk]; (try (refine gen fun q hq => ?_; cases q <;> (try simp [h13, hk] at hq) <;> (try (have hh : True := hq; clear hh hq)))))
        | (refine T.ret (Done.val (Or.inr rfl) ?_) <;> simp [resAs, Try.results112, eTm_def] <;> omega)
        | refine T.rs (fun _ => false) fun K hK => ?_
        | refine T.cond rfl (fun hcnd => ?_) (fun hcnd => absurd hcnd (by decide))
        | refine T.seq ?_
        | refine T.block ?_
        | refine T.skip ?_
  by_cases h14 : e.kind = 14
  · have h1 : e.kids.length = 1 := by rw [h14] at hl; simp [kidsM] at hl; omega
    match hk : e.kids, h1 with
    | [x], _ =>
      rw [show bareG e = x by simp [bareG, h14, hk]]
      refine ACalls.of_body Try.func112 (by kernel_rfl) rfl (by kernel_rfl) (by simp [Try.ntmps112]) (by simp) ?_
      rw [Try.ntmps112]
      repeat' first
        | ((first | refine aops_end (hK _ ?_)); clear hK K)
        | ((first | refine aops_go ?_); simp [h14, hk]; (try (refine gen fun q hq => ?_; cases q <;> (try simp [h14, hk] at hq) <;> (try (have hh : True := hq; clear hh hq)))))
        | (refine T.ret (Done.val (Or.inr rfl) ?_) <;> simp [resAs, Try.results112, eTm_def] <;> omega)
        | refine T.rs (fun _ => false) fun K hK => ?_
        | refine T.rs1 (fun _ => false) fun K hK => ?_
        | refine T.cond rfl (fun hcnd => ?_) (fun hcnd => absurd hcnd (by decide))
        | refine T.cond rfl (fun hcnd => absurd hcnd (by decide)) (fun hcnd => ?_)
        | refine T.seq ?_
        | refine T.block ?_
  by_cases h5 : e.kind = 5
  · rw [show bareG e = .mk 5 e.name e.num anyT e.fr e.label e.kids by simp [bareG, h5]]
    refine ACalls.of_body Try.func112 (by kernel_rfl) rfl (by kernel_rfl) (by simp [Try.ntmps112]) (by simp) ?_
    rw [Try.ntmps112]
    repeat' first
      | ((first | refine aops_end (hK _ ?_)); clear hK K)
      | ((first | refine aops_go ?_); simp [h5]; (try (refine gen fun q hq => ?_; cases q <;> (try simp [h5] at hq) <;> (try (have hh : True := hq; clear hh hq)))))
      | (refine wpcall_pure rfl (hb) ?_; simp [h5]; (try (refine gen fun q hq => ?_; cases q <;> (try simp [h5] at hq) <;> (try (have hh : True := hq; clear hh hq)))))
      | (refine T.ret (Done.val (Or.inr rfl) ?_) <;> simp [resAs, Try.results112, h5] <;> omega)
      | refine T.rs (fun _ => false) fun K hK => ?_
      | refine T.rs1 (fun _ => false) fun K hK => ?_
      | refine T.cond rfl (fun hcnd => ?_) (fun hcnd => absurd hcnd (by decide))
      | refine T.cond rfl (fun hcnd => absurd hcnd (by decide)) (fun hcnd => ?_)
      | refine T.seq ?_
      | refine T.block ?_
  · rw [show bareG e = e by simp [bareG, h13, h14, h5]]
    refine ACalls.of_body Try.func112 (by kernel_rfl) rfl (by kernel_rfl) (by simp [Try.ntmps112]) (by simp) ?_
    rw [Try.ntmps112]
    repeat' first
      | ((first | refine aops_end (hK _ ?_)); clear hK K)
      | ((first | refine aops_go ?_); simp [h13, h14, h5]; (try (refine gen fun q hq => ?_; cases q <;> (try simp [h13, h14, h5] at hq) <;> (try (have hh : True := hq; clear hh hq)))))
      | (refine T.ret (Done.val (Or.inr rfl) ?_) <;> simp [resAs, Try.results112] <;> omega)
      | refine T.rs (fun _ => false) fun K hK => ?_
      | refine T.rs1 (fun _ => false) fun K hK => ?_
      | refine T.cond rfl (fun hcnd => absurd hcnd (by decide)) (fun hcnd => ?_)
      | refine T.seq ?_
      | refine T.block ?_
      | refine T.skip ?_

/-- Every node has as_ many operands as_ its kind asks. -/
def fitM (e : MTm) : Prop := ∃ nt d, shapeTm nt d e = true
theorem bare_ok (e : MTm) (hq : fitM e) (hn : nTm e ≤ 1099511627776) : ACalls Try.prog 67 [aTm e] [] (aTm (mapM bareG e)) [] [] := by
  have h := mapped_ok 112 bareG fitM (fun e h u hu => by obtain ⟨nt, d, h⟩ := h; obtain ⟨d', rfl, _, _, _, hk⟩ := shapeTm_kids h; exact ⟨nt, d', hk u hu⟩)
    (fun e h => by obtain ⟨nt, d, h⟩ := h; obtain ⟨d', rfl, _, hl, _, _⟩ := shapeTm_kids h; rw [mapM_def]; exact bare1_ok _ (by simpa using hl)) e hq hn
  generalize mapM bareG e = R at h
  refine ACalls.of_body Try.func67 (by kernel_rfl) rfl (by kernel_rfl) (by simp [Try.ntmps67]) (by simp) ?_
  rw [Try.ntmps67]
  repeat' first
    | ((first | refine aops_end (hK _ ?_)); clear hK K)
    | ((first | refine aops_go ?_); simp; (try (refine gen fun q hq => ?_; cases q <;> (try simp at hq) <;> (try (have hh : True := hq; clear hh hq)))))
    | (refine wpcall_pure rfl (h) ?_; simp; (try (refine gen fun q hq => ?_; cases q <;> (try simp at hq) <;> (try (have hh : True := hq; clear hh hq)))))
    | (refine T.ret (Done.val (Or.inr rfl) ?_) <;> simp [resAs, Try.results67] <;> omega)
    | refine T.rs (fun _ => false) fun K hK => ?_
theorem BareTerm_some (e : MTm) (hn : nTm e ≤ 1099511627776) (hv : termValidM e = true ∨ castValidM e = true) : ACalls Try.prog 32 [aTm e] [] (.tup [aTm (mapM bareG e), .b true]) [] [] := by
  have hf : fitM e := by
    rcases hv with h | h
    · simp only [termValidM, Bool.and_eq_true] at h; exact ⟨14, 12, h.1⟩
    · simp only [castValidM, Bool.and_eq_true] at h; exact ⟨13, 40, h.1⟩
  have h1 := TermValid_ok e hn
  have h2 := CastValid_ok e hn
  have h3 := bare_ok e hf hn
  generalize mapM bareG e = R at h3
  cases ht : termValidM e with
  | true =>
    rw [ht] at h1
    refine ACalls.of_body Try.func32 (by kernel_rfl) rfl (by kernel_rfl) (by simp [Try.ntmps32]) (by simp) ?_
    rw [Try.ntmps32]
    repeat' first
      | ((first | refine aops_end (hK _ ?_)); clear hK K)
      | ((first | refine aops_go ?_); simp; (try (refine gen fun q hq => ?_; cases q <;> (try simp at hq) <;> (try (have hh : True := hq; clear hh hq)))))
      | (refine wpcall_pure rfl (h1) ?_; simp; (try (refine gen fun q hq => ?_; cases q <;> (try simp at hq) <;> (try (have hh : True := hq; clear hh hq)))))
      | (refine wpcall_pure rfl (h3) ?_; simp; (try (refine gen fun q hq => ?_; cases q <;> (try simp at hq) <;> (try (have hh : True := hq; clear hh hq)))))
      | (refine T.ret (Done.tup (Or.inr rfl) ?_) <;> simp [resAs, Try.results32] <;> omega)
      | refine T.rs (fun _ => false) fun K hK => ?_
      | refine T.cond rfl (fun hcnd => absurd hcnd (by decide)) (fun hcnd => ?_)
      | refine T.seq ?_
      | refine T.skip ?_
  | false =>
    rw [ht] at h1
    rw [show castValidM e = true by rcases hv with h | h; rw [ht] at h; cases h; exact h] at h2
    refine ACalls.of_body Try.func32 (by kernel_rfl) rfl (by kernel_rfl) (by simp [Try.ntmps32]) (by simp) ?_
    rw [Try.ntmps32]
    repeat' first
      | ((first | refine aops_end (hK _ ?_)); clear hK K)
      | ((first | refine aops_go ?_); simp; (try (refine gen fun q hq => ?_; cases q <;> (try simp at hq) <;> (try (have hh : True := hq; clear hh hq)))))
      | (refine wpcall_pure rfl (h1) ?_; simp; (try (refine gen fun q hq => ?_; cases q <;> (try simp at hq) <;> (try (have hh : True := hq; clear hh hq)))))
      | (refine wpcall_pure rfl (h2) ?_; simp; (try (refine gen fun q hq => ?_; cases q <;> (try simp at hq) <;> (try (have hh : True := hq; clear hh hq)))))
      | (refine wpcall_pure rfl (h3) ?_; simp; (try (refine gen fun q hq => ?_; cases q <;> (try simp at hq) <;> (try (have hh : True := hq; clear hh hq)))))
      | (refine T.ret (Done.tup (Or.inr rfl) ?_) <;> simp [resAs, Try.results32] <;> omega)
      | refine T.rs (fun _ => false) fun K hK => ?_
      | refine T.cond rfl (fun hcnd => absurd hcnd (by decide)) (fun hcnd => ?_)
      | refine T.seq ?_
      | refine T.skip ?_

/-- Casts inserted, as_ InsertCasts answers it. -/
def insertM (e : MTm) : Option (MTm × MTy) := if termValidM e = true then (elabM [] e 0).1 else none
/-- What is known of a term with casts inserted. -/
theorem insert_some {e x : MTm} {t : MTy} (h : insertM e = some (x, t)) : termValidM e = true ∧ typeInM [] e = some t ∧ ∃ m, elabM [] e 0 = (some (x, t), m) ∧ EV [] e 0 x t m ∧ TmV 13 24 x ∧ shapeTy 4 t = true ∧ 0 ≤ m ∧ m + 1 ≤ nodesM e ∧ nodesM e ≤ 30 ∧ nodesM x + 1 ≤ 2 * nodesM e ∧ castTyM [] x = some t ∧ nTm x ≤ 100000 := by
  simp only [insertM] at h
  by_cases hv : termValidM e = true
  · rw [if_pos hv] at h
    obtain ⟨m, hm⟩ : ∃ m, elabM [] e 0 = (some (x, t), m) := ⟨(elabM [] e 0).2, by rw [← h]⟩
    obtain ⟨hv1, hv2⟩ := termValidM_iff.1 hv
    have ev := EV.of hv1 hm
    obtain ⟨l1, l2, l3, l4, l5, l6⟩ := ev.law (d := 12) (fun b hb => by simp at hb) hv1 (by omega) (by omega)
    have hsm := l1.small
    refine ⟨hv, ?_, m, hm, ev, l1, l2, l3, by omega, hv2, l5, l6, by omega⟩
    have := elab_type e 12 [] 0 hv1.shape (fun b hb => by simp at hb)
    rw [hm] at this
    rw [typeOf_of hv]; exact this.symm
  · rw [if_neg hv] at h; simp at h
theorem insert_none {e : MTm} (h : insertM e = none) : typeInM [] e = none := by
  simp only [insertM] at h
  by_cases hv : termValidM e = true
  · rw [if_pos hv] at h
    have := elab_type e 12 [] 0 (termValidM_iff.1 hv).1.shape (fun b hb => by simp at hb)
    rw [h] at this
    rw [typeOf_of hv]; exact this.symm
  · have hv' : termValidM e = false := by simpa using hv
    simp [typeInM, hv']

theorem InsertCasts_ok (e : MTm) (hn : nTm e ≤ 1073741824) : ACalls Try.prog 29 [aTm e] [] (.tup (elRes (insertM e))) [] [] := by
  have h1 := TermValid_ok e (by omega)
  cases hv : termValidM e with
  | false =>
    rw [hv] at h1
    simp only [insertM, hv, Bool.false_eq_true, if_false, elRes]
    refine ACalls.of_body Try.func29 (by kernel_rfl) rfl (by kernel_rfl) (by simp [Try.ntmps29]) (by simp) ?_
    rw [Try.ntmps29]
    repeat' first
      | ((first | refine aops_end (hK _ ?_)); clear hK K)
      | ((first | refine aops_go ?_); simp; (try (refine gen fun q hq => ?_; cases q <;> (try simp at hq) <;> (try (have hh : True := hq; clear hh hq)))))
      | (refine wpcall_pure rfl (h1) ?_; simp; (try (refine gen fun q hq => ?_; cases q <;> (try simp at hq) <;> (try (have hh : True := hq; clear hh hq)))))
      | (refine T.ret (Done.tup (Or.inr rfl) ?_) <;> simp [resAs, Try.results29] <;> omega)
      | refine T.rs (fun _ => false) fun K hK => ?_
      | refine T.cond rfl (fun hcnd => ?_) (fun hcnd => absurd hcnd (by decide))
      | refine T.seq ?_
  | true =>
    rw [hv] at h1
    have h2 := term_ok e 12 [] 0 (termValidM_iff.1 hv).1.shape (by simp) (fun b hb => by simp at hb) (by omega) (by omega)
    cases hr : insertM e with
    | none =>
      have hr' := hr
      simp only [insertM, hv, if_true] at hr'
      rw [hr'] at h2
      generalize (elabM [] e 0).2 = m at h2
      simp only [elRes] at h2 ⊢
      refine ACalls.of_body Try.func29 (by kernel_rfl) rfl (by kernel_rfl) (by simp [Try.ntmps29]) (by simp) ?_
      rw [Try.ntmps29]
      repeat' first
        | ((first | refine aops_end (hK _ ?_)); clear hK K)
        | ((first | refine aops_go ?_); simp; (try (refine gen fun q hq => ?_; cases q <;> (try simp at hq) <;> (try (have hh : True := hq; clear hh hq)))))
        | (refine wpcall_pure rfl (h1) ?_; simp; (try (refine gen fun q hq => ?_; cases q <;> (try simp at hq) <;> (try (have hh : True := hq; clear hh hq)))))
        | (refine wpcall_g [3] (by simp) rfl rfl h2 ?_; simp)
        | (refine T.ret (Done.tup (Or.inr rfl) ?_) <;> simp [resAs, Try.results29] <;> omega)
        | refine T.rs (fun _ => false) fun K hK => ?_
        | refine T.cond rfl (fun hcnd => ?_) (fun hcnd => absurd hcnd (by decide))
        | refine T.cond rfl (fun hcnd => absurd hcnd (by decide)) (fun hcnd => ?_)
        | refine T.seq ?_
        | refine T.skip ?_
    | some p =>
      obtain ⟨x, t⟩ := p
      obtain ⟨_, _, m, hm, _, _, hst, _, _, _, _, _, hnx⟩ := insert_some hr
      rw [hm] at h2
      have h3 := own_ok x (by omega)
      have h4 := ownType_ok t (by have := shape4 hst; omega)
      simp only [elRes] at h2 ⊢
      refine ACalls.of_body Try.func29 (by kernel_rfl) rfl (by kernel_rfl) (by simp [Try.ntmps29]) (by simp) ?_
      rw [Try.ntmps29]
      repeat' first
        | ((first | refine aops_end (hK _ ?_) | refine aopsD_end (hK _ ?_)); clear hK K)
        | ((first | refine aops_go ?_ | refine aopsD_go ?_); simp; (try (refine gen fun q hq => ?_; cases q <;> (try simp at hq) <;> (try (have hh : True := hq; clear hh hq)))))
        | (refine wpcall_pure rfl (h1) ?_; simp; (try (refine gen fun q hq => ?_; cases q <;> (try simp at hq) <;> (try (have hh : True := hq; clear hh hq)))))
        | (refine wpcall_pure rfl (h3) ?_; simp; (try (refine gen fun q hq => ?_; cases q <;> (try simp at hq) <;> (try (have hh : True := hq; clear hh hq)))))
        | (refine wpcall_pure rfl (h4) ?_; simp; (try (refine gen fun q hq => ?_; cases q <;> (try simp at hq) <;> (try (have hh : True := hq; clear hh hq)))))
        | (refine wpcall_g [3] (by simp) rfl rfl h2 ?_; simp)
        | (refine T.ret (Done.tup (Or.inr rfl) ?_) <;> simp [resAs, Try.results29] <;> omega)
        | refine T.rd (id := 6) mixed (fun _ => false) [4, 5] (by kernel_rfl) fun K hK => ?_
        | refine T.rs (fun _ => false) fun K hK => ?_
        | refine T.cond rfl (fun hcnd => absurd hcnd (by decide)) (fun hcnd => ?_)
        | refine T.seq ?_
        | refine T.skip ?_

theorem InsertCastsS_ok (e : MTm) (hn : nTm e ≤ 1073741824) : ACalls Try.prog 30 [aTm e] [] (.tup (elRes (insertM e))) [] [] := by
  have h1 := TypeOfS_ok e (by omega)
  cases hr : insertM e with
  | none =>
    rw [insert_none hr] at h1
    simp only [tyRes] at h1
    simp only [elRes]
    refine ACalls.of_body Try.func30 (by kernel_rfl) rfl (by kernel_rfl) (by simp [Try.ntmps30]) (by simp) ?_
    rw [Try.ntmps30]
    repeat' first
      | ((first | refine aops_end (hK _ ?_)); clear hK K)
      | ((first | refine aops_go ?_); simp; (try (refine gen fun q hq => ?_; cases q <;> (try simp at hq) <;> (try (have hh : True := hq; clear hh hq)))))
      | (refine wpcall_pure rfl (h1) ?_; simp; (try (refine gen fun q hq => ?_; cases q <;> (try simp at hq) <;> (try (have hh : True := hq; clear hh hq)))))
      | (refine T.ret (Done.tup (Or.inr rfl) ?_) <;> simp [resAs, Try.results30] <;> omega)
      | refine T.rs (fun _ => false) fun K hK => ?_
      | refine T.cond rfl (fun hcnd => ?_) (fun hcnd => absurd hcnd (by decide))
      | refine T.seq ?_
  | some p =>
    obtain ⟨x, t⟩ := p
    obtain ⟨hv, hty, m, hm, _⟩ := insert_some hr
    rw [hty] at h1
    have h2 := l4Insert_ok e 12 [] (termValidM_iff.1 hv).1.shape (by simp) (fun b hb => by simp at hb) 0 x t m (by omega) (by omega) hm
    simp only [tyRes] at h1
    simp only [elRes]
    refine ACalls.of_body Try.func30 (by kernel_rfl) rfl (by kernel_rfl) (by simp [Try.ntmps30]) (by simp) ?_
    rw [Try.ntmps30]
    repeat' first
      | ((first | refine aops_end (hK _ ?_) | refine aopsF_end (hK _ ?_)); clear hK K)
      | ((first | refine aops_go ?_ | refine aopsF_go ?_); simp; (try (refine gen fun q hq => ?_; cases q <;> (try simp at hq) <;> (try (have hh : True := hq; clear hh hq)))))
      | (refine wpcall_pure rfl (h1) ?_; simp; (try (refine gen fun q hq => ?_; cases q <;> (try simp at hq) <;> (try (have hh : True := hq; clear hh hq)))))
      | (refine wpcall_pure ?_ (h2) ?_; (focus (solve | simp)); simp; (try (refine gen fun q hq => ?_; cases q <;> (try simp at hq) <;> (try (have hh : True := hq; clear hh hq)))))
      | (refine T.ret (Done.tup (Or.inr rfl) ?_) <;> simp [resAs, Try.results30] <;> omega)
      | refine T.rdF (id := 5) mixed (fun _ => false) [2, 3] [1] 3 [1] (by kernel_rfl) fun K hK => ?_
      | refine T.rs (fun _ => false) fun K hK => ?_
      | refine T.cond rfl (fun hcnd => absurd hcnd (by decide)) (fun hcnd => ?_)
      | refine T.seq ?_
      | refine T.skip ?_
end Go.Proofs.Ytiffndccihaopaa

namespace Go.Proofs.Ytiffndccihaopaa
attribute [-simp] Go.Av.innAsH Go.Av.AV.innH Go.Av.CV.innH Go.Av.innHs Go.Av.AV.outnH Go.Av.CV.outnH
open Go Go.Av
attribute [local irreducible] T ACalls TX EX LX Draws Some_ ACallsX eTy eTm MTy.kind MTy.kids MTm.kind MTm.name MTm.num MTm.ty MTm.fr MTm.label MTm.kids
attribute [local simp] eTy_def eTm_def
set_option linter.unusedSimpArgs false
set_option linter.unusedVariables false
set_option maxHeartbeats 16000000
set_option maxRecDepth 8000

theorem lawInsertBare_ok (b : List Int) (hb : ∀ n ∈ b, 0 ≤ n ∧ n ≤ 255) : ACalls Try.prog 9 [.l (rB b)] [] (.b true) [] [] := by
  by_cases h1 : (1048576 : Int) < b.length
  · refine ACalls.of_body Try.func9 (by kernel_rfl) rfl (by kernel_rfl) (by simp [Try.ntmps9]) (by simp) ?_
    rw [Try.ntmps9]
    repeat' first
      | ((first | refine aops_end (hK _ ?_)); clear hK K)
      | ((first | refine aops_go ?_); simp [h1, rB_len]; (try (refine gen fun q hq => ?_; cases q <;> (try simp [h1, rB_len] at hq) <;> (try (have hh : True := hq; clear hh hq)))))
      | (refine T.ret (Done.data (Or.inr rfl) ?_ ?_) <;> simp [Try.results9] <;> omega)
      | refine T.rs (fun _ => false) fun K hK => ?_
      | refine T.cond rfl (fun hcnd => ?_) (fun hcnd => absurd hcnd (by decide))
      | refine T.seq ?_
  obtain ⟨e, he, d1⟩ := (DrawInsertCasts_ok b hb).elim
  have k1 := InsertCasts_ok e (by omega)
  have k2 := InsertCastsS_ok e (by omega)
  cases hr : insertM e with
  | none =>
    have kz := TermSame_ok zeroE zeroE (by simp [nTm_mk, nTmS, nTy_mk, nTyS])
    rw [sameTm_refl] at kz
    rw [hr] at k1 k2
    simp only [elRes] at k1 k2
    refine ACalls.of_body Try.func9 (by kernel_rfl) rfl (by kernel_rfl) (by simp [Try.ntmps9]) (by simp) ?_
    rw [Try.ntmps9]
    repeat' first
      | ((first | refine aops_end (hK _ ?_)); clear hK K)
      | ((first | refine aops_go ?_); simp [h1, rB_len]; (try (refine gen fun q hq => ?_; cases q <;> (try simp [h1, rB_len] at hq) <;> (try (have hh : True := hq; clear hh hq)))))
      | (refine wpcall_pure rfl (d1) ?_; simp [h1, rB_len]; (try (refine gen fun q hq => ?_; cases q <;> (try simp [h1, rB_len] at hq) <;> (try (have hh : True := hq; clear hh hq)))))
      | (refine wpcall_pure rfl (k1) ?_; simp [h1, rB_len]; (try (refine gen fun q hq => ?_; cases q <;> (try simp [h1, rB_len] at hq) <;> (try (have hh : True := hq; clear hh hq)))))
      | (refine wpcall_pure rfl (k2) ?_; simp [h1, rB_len]; (try (refine gen fun q hq => ?_; cases q <;> (try simp [h1, rB_len] at hq) <;> (try (have hh : True := hq; clear hh hq)))))
      | (refine wpcall_pure ?_ (kz) ?_; (focus (solve | simp [h1, rB_len])); simp [h1, rB_len]; (try (refine gen fun q hq => ?_; cases q <;> (try simp [h1, rB_len] at hq) <;> (try (have hh : True := hq; clear hh hq)))))
      | (refine T.ret (Done.data (Or.inr rfl) ?_ ?_) <;> simp [Try.results9] <;> omega)
      | refine T.rs (fun _ => false) fun K hK => ?_
      | refine T.cond rfl (fun hcnd => ?_) (fun hcnd => absurd hcnd (by decide))
      | refine T.cond rfl (fun hcnd => absurd hcnd (by decide)) (fun hcnd => ?_)
      | refine T.seq ?_
      | refine T.skip ?_
  | some p =>
    obtain ⟨x, t⟩ := p
    obtain ⟨hv, hty, m, hm, hev, hvx, hst, h0m, hmn, hn30, hnx, hct, hsm⟩ := insert_some hr
    have hvv := (termValidM_iff.1 hv).1
    have hcv : castValidM x = true := castValidM_iff.2 ⟨hvx.mono (by omega), by omega⟩
    have hbv := bare_valid hvv (.inr rfl)
    have hba : termValidM (mapM bareG e) = true := termValidM_iff.2 ⟨hbv.1, by omega⟩
    have hbs := hbv.1.small
    have hbn : nTm (mapM bareG e) ≤ 100000 := by omega
    have k3 := TermSame_ok x x (by omega)
    rw [sameTm_refl] at k3
    have k4 := BareTerm_some e (by omega) (.inl hv)
    have k5 := BareTerm_some x (by omega) (.inr hcv)
    rw [hev.bare] at k5
    generalize mapM bareG e = a at *
    have k6 := TermSame_ok a a (by omega)
    rw [sameTm_refl] at k6
    have k7 := TermValid_ok a (by omega)
    rw [hba] at k7
    rw [hr] at k1 k2
    simp only [elRes] at k1 k2
    refine ACalls.of_body Try.func9 (by kernel_rfl) rfl (by kernel_rfl) (by simp [Try.ntmps9]) (by simp) ?_
    rw [Try.ntmps9]
    repeat' first
      | ((first | refine aops_end (hK _ ?_)); clear hK K)
      | ((first | refine aops_go ?_); simp [h1, rB_len]; (try (refine gen fun q hq => ?_; cases q <;> (try simp [h1, rB_len] at hq) <;> (try (have hh : True := hq; clear hh hq)))))
      | (refine wpcall_pure rfl (d1) ?_; simp [h1, rB_len]; (try (refine gen fun q hq => ?_; cases q <;> (try simp [h1, rB_len] at hq) <;> (try (have hh : True := hq; clear hh hq)))))
      | (refine wpcall_pure rfl (k1) ?_; simp [h1, rB_len]; (try (refine gen fun q hq => ?_; cases q <;> (try simp [h1, rB_len] at hq) <;> (try (have hh : True := hq; clear hh hq)))))
      | (refine wpcall_pure rfl (k2) ?_; simp [h1, rB_len]; (try (refine gen fun q hq => ?_; cases q <;> (try simp [h1, rB_len] at hq) <;> (try (have hh : True := hq; clear hh hq)))))
      | (refine wpcall_pure rfl (k3) ?_; simp [h1, rB_len]; (try (refine gen fun q hq => ?_; cases q <;> (try simp [h1, rB_len] at hq) <;> (try (have hh : True := hq; clear hh hq)))))
      | (refine wpcall_pure rfl (k4) ?_; simp [h1, rB_len]; (try (refine gen fun q hq => ?_; cases q <;> (try simp [h1, rB_len] at hq) <;> (try (have hh : True := hq; clear hh hq)))))
      | (refine wpcall_pure rfl (k5) ?_; simp [h1, rB_len]; (try (refine gen fun q hq => ?_; cases q <;> (try simp [h1, rB_len] at hq) <;> (try (have hh : True := hq; clear hh hq)))))
      | (refine wpcall_pure rfl (k6) ?_; simp [h1, rB_len]; (try (refine gen fun q hq => ?_; cases q <;> (try simp [h1, rB_len] at hq) <;> (try (have hh : True := hq; clear hh hq)))))
      | (refine wpcall_pure rfl (k7) ?_; simp [h1, rB_len]; (try (refine gen fun q hq => ?_; cases q <;> (try simp [h1, rB_len] at hq) <;> (try (have hh : True := hq; clear hh hq)))))
      | (refine T.ret (Done.data (Or.inr rfl) ?_ ?_) <;> simp [Try.results9] <;> omega)
      | refine T.rs (fun _ => false) fun K hK => ?_
      | refine T.cond rfl (fun hcnd => absurd hcnd (by decide)) (fun hcnd => ?_)
      | refine T.seq ?_
      | refine T.skip ?_

theorem lawInsertTyped_ok (b : List Int) (hb : ∀ n ∈ b, 0 ≤ n ∧ n ≤ 255) : ACalls Try.prog 11 [.l (rB b)] [] (.b true) [] [] := by
  by_cases h1 : (1048576 : Int) < b.length
  · refine ACalls.of_body Try.func11 (by kernel_rfl) rfl (by kernel_rfl) (by simp [Try.ntmps11]) (by simp) ?_
    rw [Try.ntmps11]
    repeat' first
      | ((first | refine aops_end (hK _ ?_)); clear hK K)
      | ((first | refine aops_go ?_); simp [h1, rB_len]; (try (refine gen fun q hq => ?_; cases q <;> (try simp [h1, rB_len] at hq) <;> (try (have hh : True := hq; clear hh hq)))))
      | (refine T.ret (Done.data (Or.inr rfl) ?_ ?_) <;> simp [Try.results11] <;> omega)
      | refine T.rs (fun _ => false) fun K hK => ?_
      | refine T.cond rfl (fun hcnd => ?_) (fun hcnd => absurd hcnd (by decide))
      | refine T.seq ?_
  obtain ⟨e, he, d1⟩ := (DrawInsertCasts_ok b hb).elim
  have k1 := InsertCasts_ok e (by omega)
  have k2 := InsertCastsS_ok e (by omega)
  have k8 := TypeOf_ok e (by omega)
  cases hr : insertM e with
  | none =>
    have kz := TermSame_ok zeroE zeroE (by simp [nTm_mk, nTmS, nTy_mk, nTyS])
    have ky := TypeSame_ok zeroT zeroT (by simp [nTy_mk, nTyS])
    rw [sameTm_refl] at kz
    rw [sameTy_refl] at ky
    rw [hr] at k1 k2
    rw [insert_none hr] at k8
    simp only [elRes, tyRes] at k1 k2 k8
    refine ACalls.of_body Try.func11 (by kernel_rfl) rfl (by kernel_rfl) (by simp [Try.ntmps11]) (by simp) ?_
    rw [Try.ntmps11]
    repeat' first
      | ((first | refine aops_end (hK _ ?_)); clear hK K)
      | ((first | refine aops_go ?_); simp [h1, rB_len]; (try (refine gen fun q hq => ?_; cases q <;> (try simp [h1, rB_len] at hq) <;> (try (have hh : True := hq; clear hh hq)))))
      | (refine wpcall_pure rfl (d1) ?_; simp [h1, rB_len]; (try (refine gen fun q hq => ?_; cases q <;> (try simp [h1, rB_len] at hq) <;> (try (have hh : True := hq; clear hh hq)))))
      | (refine wpcall_pure rfl (k1) ?_; simp [h1, rB_len]; (try (refine gen fun q hq => ?_; cases q <;> (try simp [h1, rB_len] at hq) <;> (try (have hh : True := hq; clear hh hq)))))
      | (refine wpcall_pure rfl (k2) ?_; simp [h1, rB_len]; (try (refine gen fun q hq => ?_; cases q <;> (try simp [h1, rB_len] at hq) <;> (try (have hh : True := hq; clear hh hq)))))
      | (refine wpcall_pure rfl (k8) ?_; simp [h1, rB_len]; (try (refine gen fun q hq => ?_; cases q <;> (try simp [h1, rB_len] at hq) <;> (try (have hh : True := hq; clear hh hq)))))
      | (refine wpcall_pure ?_ (kz) ?_; (focus (solve | simp [h1, rB_len])); simp [h1, rB_len]; (try (refine gen fun q hq => ?_; cases q <;> (try simp [h1, rB_len] at hq) <;> (try (have hh : True := hq; clear hh hq)))))
      | (refine wpcall_pure ?_ (ky) ?_; (focus (solve | simp [h1, rB_len])); simp [h1, rB_len]; (try (refine gen fun q hq => ?_; cases q <;> (try simp [h1, rB_len] at hq) <;> (try (have hh : True := hq; clear hh hq)))))
      | (refine T.ret (Done.data (Or.inr rfl) ?_ ?_) <;> simp [Try.results11] <;> omega)
      | refine T.rs (fun _ => false) fun K hK => ?_
      | refine T.cond rfl (fun hcnd => ?_) (fun hcnd => absurd hcnd (by decide))
      | refine T.cond rfl (fun hcnd => absurd hcnd (by decide)) (fun hcnd => ?_)
      | refine T.seq ?_
      | refine T.skip ?_
  | some p =>
    obtain ⟨x, t⟩ := p
    obtain ⟨hv, hty, m, hm, hev, hvx, hst, h0m, hmn, hn30, hnx, hct, hsm⟩ := insert_some hr
    have hcv : castValidM x = true := castValidM_iff.2 ⟨hvx.mono (by omega), by omega⟩
    have k3 := TermSame_ok x x (by omega)
    rw [sameTm_refl] at k3
    have k4 := TypeSame_ok t t (by have := shape4 hst; omega)
    rw [sameTy_refl] at k4
    have k5 := CastTypeOf_some x t (by omega) hcv hct
    have k6 := CastValid_ok x (by omega)
    rw [hcv] at k6
    rw [hr] at k1 k2
    rw [hty] at k8
    simp only [elRes, tyRes] at k1 k2 k8
    refine ACalls.of_body Try.func11 (by kernel_rfl) rfl (by kernel_rfl) (by simp [Try.ntmps11]) (by simp) ?_
    rw [Try.ntmps11]
    repeat' first
      | ((first | refine aops_end (hK _ ?_)); clear hK K)
      | ((first | refine aops_go ?_); simp [h1, rB_len]; (try (refine gen fun q hq => ?_; cases q <;> (try simp [h1, rB_len] at hq) <;> (try (have hh : True := hq; clear hh hq)))))
      | (refine wpcall_pure rfl (d1) ?_; simp [h1, rB_len]; (try (refine gen fun q hq => ?_; cases q <;> (try simp [h1, rB_len] at hq) <;> (try (have hh : True := hq; clear hh hq)))))
      | (refine wpcall_pure rfl (k1) ?_; simp [h1, rB_len]; (try (refine gen fun q hq => ?_; cases q <;> (try simp [h1, rB_len] at hq) <;> (try (have hh : True := hq; clear hh hq)))))
      | (refine wpcall_pure rfl (k2) ?_; simp [h1, rB_len]; (try (refine gen fun q hq => ?_; cases q <;> (try simp [h1, rB_len] at hq) <;> (try (have hh : True := hq; clear hh hq)))))
      | (refine wpcall_pure rfl (k8) ?_; simp [h1, rB_len]; (try (refine gen fun q hq => ?_; cases q <;> (try simp [h1, rB_len] at hq) <;> (try (have hh : True := hq; clear hh hq)))))
      | (refine wpcall_pure rfl (k3) ?_; simp [h1, rB_len]; (try (refine gen fun q hq => ?_; cases q <;> (try simp [h1, rB_len] at hq) <;> (try (have hh : True := hq; clear hh hq)))))
      | (refine wpcall_pure rfl (k4) ?_; simp [h1, rB_len]; (try (refine gen fun q hq => ?_; cases q <;> (try simp [h1, rB_len] at hq) <;> (try (have hh : True := hq; clear hh hq)))))
      | (refine wpcall_pure rfl (k5) ?_; simp [h1, rB_len]; (try (refine gen fun q hq => ?_; cases q <;> (try simp [h1, rB_len] at hq) <;> (try (have hh : True := hq; clear hh hq)))))
      | (refine wpcall_pure rfl (k6) ?_; simp [h1, rB_len]; (try (refine gen fun q hq => ?_; cases q <;> (try simp [h1, rB_len] at hq) <;> (try (have hh : True := hq; clear hh hq)))))
      | (refine T.ret (Done.data (Or.inr rfl) ?_ ?_) <;> simp [Try.results11] <;> omega)
      | refine T.rs (fun _ => false) fun K hK => ?_
      | refine T.cond rfl (fun hcnd => absurd hcnd (by decide)) (fun hcnd => ?_)
      | refine T.seq ?_
      | refine T.skip ?_
end Go.Proofs.Ytiffndccihaopaa

namespace Go.Proofs.Ytiffndccihaopaa
open Go Go.Av
attribute [local irreducible] T ACalls TX EX LX Draws Some_ ACallsX eTy eTm MTy.kind MTy.kids MTm.kind MTm.name MTm.num MTm.ty MTm.fr MTm.label MTm.kids
attribute [local simp] eTy_def eTm_def
set_option linter.unusedSimpArgs false
set_option linter.unusedVariables false
set_option maxHeartbeats 16000000
set_option maxRecDepth 8000

theorem alike1_ok (f : FuncId) (a b : MTm) (R : Bool) (h : ACalls Try.prog 61 [aTm a, aTm b, .c (.fn f [])] [] (.b R) [] []) :
    ACalls Try.prog 104 [aTm a, aTm b, .c (.ptr 0 0)] [[.fn f []]] (.b R) [[.fn f []]] [] := by
  refine ACalls.of_body Try.func104 (by kernel_rfl) rfl (by kernel_rfl) (by simp [Try.ntmps104]) (by simp) ?_
  rw [Try.ntmps104]
  repeat' first
    | ((first | refine aops_end (hK _ ?_)); clear hK K)
    | ((first | refine aops_go ?_); simp)
    | (refine wpcall_pure rfl (h) ?_; simp)
    | refine T.rs (fun _ => false) fun K hK => ?_
  all_goals (first | refine T.ret (Done.gt (Or.inr rfl) ?_ ?_) | refine T.ret (Done.g1 (Or.inr rfl) ?_ ?_)) <;> (simp [resAs, Try.results104])

theorem equalFuncTm_fn (f g : FuncId) (l m : List MTm) (q : MTm → MTm → Bool) (hl : l.length ≤ 4611686018427387904) (hf : ∀ a ∈ l, ∀ b ∈ m, ACalls Try.prog f [aTm a, aTm b, .c (.ptr 0 0)] [[.fn g []]] (.b (q a b)) [[.fn g []]] []) :
    ACalls Try.prog 66 [.l (l.map eTm), .l (m.map eTm), .c (.fn f [0])] [[.fn g []]] (.b (all2 q l m)) [[.fn g []]] [] := by
  refine ACalls.of_body Try.func66 (by kernel_rfl) rfl (by kernel_rfl) (by simp [Try.ntmps66]) (by simp) ?_
  rw [Try.ntmps66]
  by_cases hlm : l.length = m.length
  rotate_left
  · have hne : ¬ (l.length : Int) = m.length := by omega
    repeat' first
      | ((first | refine aops_end (hK _ ?_)); clear hK K)
      | ((first | refine aops_go ?_); simp [hne]; (try (refine gen fun q hq => ?_; cases q <;> (try simp [hne] at hq) <;> (try (have hh : True := hq; clear hh hq)))))
      | refine T.rs (fun _ => false) fun K hK => ?_
      | refine T.cond rfl (fun hcnd => ?_) (fun hcnd => absurd hcnd (by decide))
      | refine T.seq ?_
    all_goals (first | refine T.ret (Done.gt (Or.inr rfl) ?_ ?_) | refine T.ret (Done.g1 (Or.inr rfl) ?_ ?_)) <;> (simp [resAs, Try.results66, all2_ne hlm])
  repeat' first
    | ((first | refine aops_end (hK _ ?_)); clear hK K)
    | ((first | refine aops_go ?_); simp [hlm]; (try (refine gen fun q hq => ?_; cases q <;> (try simp [hlm] at hq) <;> (try (have hh : True := hq; clear hh hq)))))
    | refine T.rs (fun _ => false) fun K hK => ?_
    | refine T.cond rfl (fun hcnd => absurd hcnd (by decide)) (fun hcnd => ?_)
    | refine T.seq ?_
    | refine T.block ?_
    | refine T.skip ?_
  obtain ⟨R, hR⟩ : ∃ R, all2 q l m = R := ⟨_, rfl⟩
  rw [hR]
  refine T.loopF (fun x : Nat × List (List CV) => ⟨[(0, .l (l.map eTm)), (1, .l (m.map eTm)), (2, .c (.fn f [0])), (15, .l (l.map eTm)), (16, .i m.length), (17, .i x.1)], [.fn g []] :: x.2, []⟩) (fun x => l.length + 1 - x.1) (fun x => x.1 ≤ l.length ∧ all2 q (l.drop x.1) (m.drop x.1) = R) (fun x hp => ?_) (0, []) (by simpa using hR) (by simp)
  obtain ⟨p, G⟩ := x
  obtain ⟨hi, he⟩ := hp
  dsimp only at hi he ⊢
  by_cases hlt : p < l.length
  · have hlt2 : p < m.length := by omega
    obtain ⟨u, ht⟩ := get_lt hlt
    have htm : u ∈ l := List.mem_of_getElem? ht
    have hgt : l[p] = u := by rw [List.getElem?_eq_getElem hlt] at ht; exact Option.some.inj ht
    have hdr : l.drop p = u :: l.drop (p + 1) := by rw [List.drop_eq_getElem_cons hlt, hgt]
    obtain ⟨v, hv⟩ := get_lt hlt2
    have hvm : v ∈ m := List.mem_of_getElem? hv
    have hgv : m[p] = v := by rw [List.getElem?_eq_getElem hlt2] at hv; exact Option.some.inj hv
    have hu := hf u htm v hvm
    rw [hdr, drop_cons hlt2, hgv, all2_cons] at he
    cases hb : q u v <;> rw [hb] at hu he
    · repeat' first
        | ((first | refine aops_end (hK _ ?_)); clear hK K)
        | ((first | refine aops_go ?_); simp [hlt, hlt2, hgt, hgv]; (try simp (disch := omega) only [wrap64]); (try (refine gen fun q hq => ?_; cases q <;> (try simp [hlt, hlt2, hgt, hgv] at hq) <;> (try (have hh : True := hq; clear hh hq)))))
        | (refine wpcall_g [0] (by simp) rfl rfl hu ?_; simp)
        | refine T.rs (fun _ => false) fun K hK => ?_
        | refine T.cond rfl (fun hcnd => ?_) (fun hcnd => absurd hcnd (by decide))
        | refine T.seq ?_
        | refine T.block ?_
        | refine T.skip ?_
      all_goals (first | refine T.ret (Done.gt (Or.inr rfl) ?_ ?_) | refine T.ret (Done.g1 (Or.inr rfl) ?_ ?_)) <;> (simp [resAs, Try.results66, ← he])
    · repeat' first
        | ((first | refine aops_end (hK _ ?_)); clear hK K)
        | ((first | refine aops_go ?_); simp [hlt, hlt2, hgt, hgv]; (try simp (disch := omega) only [wrap64]); (try (refine gen fun q hq => ?_; cases q <;> (try simp [hlt, hlt2, hgt, hgv] at hq) <;> (try (have hh : True := hq; clear hh hq)))))
        | (refine wpcall_g [0] (by simp) rfl rfl hu ?_; simp)
        | (refine ⟨(p + 1, _), by dsimp only; omega, ⟨by dsimp only; omega, by simpa using he⟩, rfl, rfl, ?_⟩; simp (disch := omega) [wrap64])
        | refine T.rs (fun _ => false) fun K hK => ?_
        | refine T.rs1 (fun _ => false) fun K hK => ?_
        | refine T.cond rfl (fun hcnd => ?_) (fun hcnd => absurd hcnd (by decide))
        | refine T.cond rfl (fun hcnd => absurd hcnd (by decide)) (fun hcnd => ?_)
        | refine T.seq ?_
        | refine T.block ?_
        | refine T.skip ?_
  · have hp' : p = l.length := by omega
    subst hp'
    rw [List.drop_length, hlm, List.drop_length, all2_nil] at he
    repeat' first
      | ((first | refine aops_end (hK _ ?_)); clear hK K)
      | ((first | refine aops_go ?_); simp [hlt, hlm]; (try (refine gen fun q hq => ?_; cases q <;> (try simp [hlt, hlm] at hq) <;> (try (have hh : True := hq; clear hh hq)))))
      | refine T.rs (fun _ => false) fun K hK => ?_
      | refine T.cond rfl (fun hcnd => absurd hcnd (by decide)) (fun hcnd => ?_)
      | refine T.seq ?_
      | refine T.exit ?_
    all_goals (first | refine T.ret (Done.gt (Or.inr rfl) ?_ ?_) | refine T.ret (Done.g1 (Or.inr rfl) ?_ ?_)) <;> (simp [resAs, Try.results66, ← he])

theorem alike_ok (f : FuncId) (q : MTy → MTy → Bool) (hf : ∀ s t, nTy s ≤ 1099511627776 → ACalls Try.prog f [aTy s, aTy t] [] (.b (q s t)) [] []) : (a b : MTm) → nTm a ≤ 1099511627776 → ACalls Try.prog 61 [aTm a, aTm b, .c (.fn f [])] [] (.b (alikeM q a b)) [] []
  | .mk k s n t fr lb l, b, hn => by
    obtain ⟨hnt, hnf, hnk, hnu⟩ := nTm_parts hn
    have hnt : nTy t ≤ 1099511627776 := by simpa using hnt
    have hnk : l.length ≤ 1099511627776 := by simpa using hnk
    have hnu : ∀ u ∈ l, nTm u ≤ 1099511627776 := by simpa using hnu
    have hc := equalFuncTm_fn 104 f l b.kids (alikeM q) (by omega) (fun u hu v hv => alike1_ok f u v _ (alike_ok f q hf u v (by have := hnu u hu; omega)))
    have h1 := hf t b.ty hnt
    have h2 := hasType_ok (.mk k s n t fr lb l)
    rw [alikeM_def]
    simp only [MTm.kids_mk, MTm.kind_mk, MTm.name_mk, MTm.num_mk, MTm.ty_mk] at h2 ⊢
    generalize all2 (alikeM q) l b.kids = R at hc ⊢
    generalize q t b.ty = R1 at h1 ⊢
    generalize hasTyM k = R2 at h2 ⊢
    refine ACalls.of_body Try.func61 (by kernel_rfl) rfl (by kernel_rfl) (by simp [Try.ntmps61]) (by simp) ?_
    rw [Try.ntmps61]
    repeat' first
      | ((first | refine aops_end (hK _ ?_)); clear hK K)
      | ((first | refine aops_go ?_); simp; (try (refine gen fun q hq => ?_; cases q <;> (try simp at hq) <;> (try (have hh : True := hq; clear hh hq)))))
      | (refine wpcall_pure ?_ (h2) ?_; (focus (solve | simp)); simp; (try (refine gen fun q hq => ?_; cases q <;> (try simp at hq) <;> (try (have hh : True := hq; clear hh hq)))))
      | (refine wpcall_pure ?_ (h1) ?_; (focus (solve | simp)); simp; (try (refine gen fun q hq => ?_; cases q <;> (try simp at hq) <;> (try (have hh : True := hq; clear hh hq)))))
      | (refine wpcall_g [2] (by simp) rfl rfl hc ?_; simp)
      | (refine T.ret (Done.data (Or.inr rfl) ?_ ?_) <;> simp [Try.results61, *] <;> omega)
      | refine T.rs (fun _ => false) fun K hK => ?_
      | refine T.cond rfl (fun hcnd => ?_) (fun hcnd => absurd hcnd (by decide))
      | refine T.cond rfl (fun hcnd => absurd hcnd (by decide)) (fun hcnd => ?_)
      | refine T.seq ?_
      | refine T.skip ?_
termination_by a => SizeOf.sizeOf a
decreasing_by have := List.sizeOf_lt_of_mem hu; simp; omega

theorem TermPrecise_ok (a b : MTm) (ha : nTm a ≤ 1099511627776) (hb : nTm b ≤ 1099511627776) : ACalls Try.prog 26 [aTm a, aTm b] [] (.b (termValidM a && termValidM b && alikeM precTy a b)) [] [] := by
  have h1 := alike_ok 62 precTy (fun s t hs => precise_ok s t hs) a b ha
  refine ACalls.of_body Try.func26 (by kernel_rfl) rfl (by kernel_rfl) (by simp [Try.ntmps26]) (by simp) ?_
  rw [Try.ntmps26]
  repeat' first
    | ((first | refine aops_end (hK _ ?_)); clear hK K)
    | ((first | refine aops_go ?_); simp; (try (refine gen fun q hq => ?_; cases q <;> (try simp at hq) <;> (try (have hh : True := hq; clear hh hq)))))
    | (refine wpcall_pure rfl (TermValid_ok a ha) ?_; simp; (try (refine gen fun q hq => ?_; cases q <;> (try simp at hq) <;> (try (have hh : True := hq; clear hh hq)))))
    | (refine wpcall_pure rfl (TermValid_ok b hb) ?_; simp; (try (refine gen fun q hq => ?_; cases q <;> (try simp at hq) <;> (try (have hh : True := hq; clear hh hq)))))
    | (refine wpcall_pure rfl (h1) ?_; simp; (try (refine gen fun q hq => ?_; cases q <;> (try simp at hq) <;> (try (have hh : True := hq; clear hh hq)))))
    | (refine T.ret (Done.data (Or.inr rfl) ?_ ?_) <;> simp [Try.results26, *] <;> omega)
    | refine T.rs (fun _ => false) fun K hK => ?_

theorem l2Types_lam (e : MTm) (h5 : e.kind = 5) (ts : List MTy) (hn : nTm e ≤ 1099511627776) (hl : (ts ++ [e.ty]).length + (typesS e.kids).length ≤ 1099511627776)
    (ih : ∀ u ∈ e.kids, ∀ (ts : List MTy), ts.length + (typesM u).length ≤ 1099511627776 → ACallsG Try.prog 128 [.c (.own 0 ts.length), aTm u] [] [{ sz := 2, ety := 25, rows := ts.map eTy, wr := true }] (.c (.own 0 (ts ++ typesM u).length)) [] [{ sz := 2, ety := 25, rows := (ts ++ typesM u).map eTy, wr := true }]) :
    ACallsG Try.prog 128 [.c (.own 0 ts.length), aTm e] [] [{ sz := 2, ety := 25, rows := ts.map eTy, wr := true }] (.c (.own 0 (ts ++ ([e.ty] ++ typesS e.kids)).length)) [] [{ sz := 2, ety := 25, rows := (ts ++ ([e.ty] ++ typesS e.kids)).map eTy, wr := true }] := by
  obtain ⟨hnt, hnf, hnk, hnu⟩ := nTm_parts hn
  have h1 := l1Copy_ok e.ty hnt
  obtain ⟨ts1, hts1⟩ : ∃ ts1, ts ++ [e.ty] = ts1 := ⟨_, rfl⟩
  rw [← List.append_assoc, hts1]
  rw [hts1] at hl
  have hlts : ts.length ≤ 1099511627776 := by rw [← hts1, List.length_append] at hl; omega
  refine ACallsG.of_body Try.func128 (by kernel_rfl) rfl (by kernel_rfl) (by simp [Try.ntmps128]) (by simp) ?_
  rw [Try.ntmps128]
  repeat' first
    | ((first | refine aops_end (hK _ ?_)); clear hK K)
    | ((first | refine aops_go ?_); simp [h5]; (try (refine gen fun q hq => ?_; cases q <;> (try simp [h5] at hq) <;> (try (have hh : True := hq; clear hh hq)))))
    | (refine wpcall_pure rfl (h1) ?_; simp [h5]; (try (refine gen fun q hq => ?_; cases q <;> (try simp [h5] at hq) <;> (try (have hh : True := hq; clear hh hq)))))
    | (refine ⟨by omega, by omega, ?_⟩)
    | refine T.rs (fun _ => false) fun K hK => ?_
    | refine T.rs1 (fun _ => false) fun K hK => ?_
    | refine T.cond rfl (fun hcnd => ?_) (fun hcnd => absurd hcnd (by decide))
    | refine T.seq ?_
    | refine T.block ?_
  refine T.loopK (α := Nat × List (List CV)) [3, 4] (fun x => [(0, .c (.own 0 (ts1 ++ typesS (e.kids.take x.1)).length)), (5, .i x.1)]) (fun x => []) (fun x => x.2) (fun x _ => [{ sz := 2, ety := 25, rows := (ts1 ++ typesS (e.kids.take x.1)).map eTy, wr := true }]) (fun x => e.kids.length + 1 - x.1)
    (fun x => x.1 ≤ e.kids.length) (by simp; rfl) (fun x hx => ?_) (0, []) (by simp) (by simp) (by simp [← hts1, typesS, eTy_def]) (by simp [← hts1, typesS])
  obtain ⟨p, G⟩ := x
  dsimp only at hx ⊢
  simp only [ups, List.cons_append, List.nil_append]
  by_cases hlt : p < e.kids.length
  · obtain ⟨u, ht⟩ := get_lt hlt
    have htm : u ∈ e.kids := List.mem_of_getElem? ht
    have hgt : e.kids[p] = u := by rw [List.getElem?_eq_getElem hlt] at ht; exact Option.some.inj ht
    have hdr : e.kids.drop p = u :: e.kids.drop (p + 1) := by rw [List.drop_eq_getElem_cons hlt, hgt]
    have hle := typesS_le e.kids (p + 1)
    rw [typesS_take ht] at hle
    have hu := ih u htm (ts1 ++ typesS (e.kids.take p)) (by simp only [List.length_append] at *; omega)
    have htk : ts1 ++ typesS (e.kids.take (p + 1)) = ts1 ++ typesS (e.kids.take p) ++ typesM u := by rw [typesS_take ht, List.append_assoc]
    rw [← htk] at hu
    obtain ⟨Z', hZ'⟩ : ∃ Z', ts1 ++ typesS (e.kids.take (p + 1)) = Z' := ⟨_, rfl⟩
    rw [hZ'] at hu
    clear htk
    generalize (ts1 ++ typesS (e.kids.take p)) = Z at *
    repeat' first
      | ((first | refine aops_end (hK _ ?_)); clear hK K)
      | ((first | refine aops_go ?_); simp [hlt, hgt]; (try simp (disch := omega) only [wrap64]); (try (refine gen fun q hq => ?_; cases q <;> (try simp [hlt, hgt] at hq) <;> (try (have hh : True := hq; clear hh hq)))))
      | (refine wpcall_hand 0 hu rfl rfl rfl rfl ?_; simp [back])
      | (refine ⟨(p + 1, _), by dsimp only; omega, by dsimp only; omega, rfl, ?_, ?_⟩ <;> simp (disch := omega) [wrap64, ← hZ'])
      | refine T.rs (fun _ => false) fun K hK => ?_
      | refine T.rs1 (fun _ => false) fun K hK => ?_
      | refine T.cond rfl (fun hcnd => ?_) (fun hcnd => absurd hcnd (by decide))
      | refine T.seq ?_
      | refine T.block ?_
      | refine T.skip ?_
  · have hp' : p = e.kids.length := by omega
    subst hp'
    rw [List.take_length]
    repeat' first
      | ((first | refine aops_end (hK _ ?_)); clear hK K)
      | ((first | refine aops_go ?_); simp [hlt]; (try (refine gen fun q hq => ?_; cases q <;> (try simp [hlt] at hq) <;> (try (have hh : True := hq; clear hh hq)))))
      | refine T.rs (fun _ => false) fun K hK => ?_
      | refine T.cond rfl (fun hcnd => absurd hcnd (by decide)) (fun hcnd => ?_)
      | refine T.seq ?_
      | refine T.exit ?_
    all_goals (refine T.ret (DoneG.one (Or.inr rfl) ?_ ?_) <;> simp [resAs, Try.results128])

theorem l2Types_as (e : MTm) (h5 : ¬ e.kind = 5) (h13 : e.kind = 13) (ts : List MTy) (hn : nTm e ≤ 1099511627776) (hl : (ts ++ [e.ty]).length + (typesS e.kids).length ≤ 1099511627776)
    (ih : ∀ u ∈ e.kids, ∀ (ts : List MTy), ts.length + (typesM u).length ≤ 1099511627776 → ACallsG Try.prog 128 [.c (.own 0 ts.length), aTm u] [] [{ sz := 2, ety := 25, rows := ts.map eTy, wr := true }] (.c (.own 0 (ts ++ typesM u).length)) [] [{ sz := 2, ety := 25, rows := (ts ++ typesM u).map eTy, wr := true }]) :
    ACallsG Try.prog 128 [.c (.own 0 ts.length), aTm e] [] [{ sz := 2, ety := 25, rows := ts.map eTy, wr := true }] (.c (.own 0 (ts ++ ([e.ty] ++ typesS e.kids)).length)) [] [{ sz := 2, ety := 25, rows := (ts ++ ([e.ty] ++ typesS e.kids)).map eTy, wr := true }] := by
  obtain ⟨hnt, hnf, hnk, hnu⟩ := nTm_parts hn
  have h1 := l1Copy_ok e.ty hnt
  obtain ⟨ts1, hts1⟩ : ∃ ts1, ts ++ [e.ty] = ts1 := ⟨_, rfl⟩
  rw [← List.append_assoc, hts1]
  rw [hts1] at hl
  have hlts : ts.length ≤ 1099511627776 := by rw [← hts1, List.length_append] at hl; omega
  refine ACallsG.of_body Try.func128 (by kernel_rfl) rfl (by kernel_rfl) (by simp [Try.ntmps128]) (by simp) ?_
  rw [Try.ntmps128]
  repeat' first
    | ((first | refine aops_end (hK _ ?_)); clear hK K)
    | ((first | refine aops_go ?_); simp [h5, h13]; (try (refine gen fun q hq => ?_; cases q <;> (try simp [h5, h13] at hq) <;> (try (have hh : True := hq; clear hh hq)))))
    | (refine wpcall_pure rfl (h1) ?_; simp [h5, h13]; (try (refine gen fun q hq => ?_; cases q <;> (try simp [h5, h13] at hq) <;> (try (have hh : True := hq; clear hh hq)))))
    | (refine ⟨by omega, by omega, ?_⟩)
    | refine T.rs (fun _ => false) fun K hK => ?_
    | refine T.rs1 (fun _ => false) fun K hK => ?_
    | refine T.cond rfl (fun hcnd => ?_) (fun hcnd => absurd hcnd (by decide))
    | refine T.seq ?_
    | refine T.block ?_
  refine T.loopK (α := Nat × List (List CV)) [3, 4] (fun x => [(0, .c (.own 0 (ts1 ++ typesS (e.kids.take x.1)).length)), (5, .i x.1)]) (fun x => []) (fun x => x.2) (fun x _ => [{ sz := 2, ety := 25, rows := (ts1 ++ typesS (e.kids.take x.1)).map eTy, wr := true }]) (fun x => e.kids.length + 1 - x.1)
    (fun x => x.1 ≤ e.kids.length) (by simp; rfl) (fun x hx => ?_) (0, []) (by simp) (by simp) (by simp [← hts1, typesS, eTy_def]) (by simp [← hts1, typesS])
  obtain ⟨p, G⟩ := x
  dsimp only at hx ⊢
  simp only [ups, List.cons_append, List.nil_append]
  by_cases hlt : p < e.kids.length
  · obtain ⟨u, ht⟩ := get_lt hlt
    have htm : u ∈ e.kids := List.mem_of_getElem? ht
    have hgt : e.kids[p] = u := by rw [List.getElem?_eq_getElem hlt] at ht; exact Option.some.inj ht
    have hdr : e.kids.drop p = u :: e.kids.drop (p + 1) := by rw [List.drop_eq_getElem_cons hlt, hgt]
    have hle := typesS_le e.kids (p + 1)
    rw [typesS_take ht] at hle
    have hu := ih u htm (ts1 ++ typesS (e.kids.take p)) (by simp only [List.length_append] at *; omega)
    have htk : ts1 ++ typesS (e.kids.take (p + 1)) = ts1 ++ typesS (e.kids.take p) ++ typesM u := by rw [typesS_take ht, List.append_assoc]
    rw [← htk] at hu
    obtain ⟨Z', hZ'⟩ : ∃ Z', ts1 ++ typesS (e.kids.take (p + 1)) = Z' := ⟨_, rfl⟩
    rw [hZ'] at hu
    clear htk
    generalize (ts1 ++ typesS (e.kids.take p)) = Z at *
    repeat' first
      | ((first | refine aops_end (hK _ ?_)); clear hK K)
      | ((first | refine aops_go ?_); simp [hlt, hgt]; (try simp (disch := omega) only [wrap64]); (try (refine gen fun q hq => ?_; cases q <;> (try simp [hlt, hgt] at hq) <;> (try (have hh : True := hq; clear hh hq)))))
      | (refine wpcall_hand 0 hu rfl rfl rfl rfl ?_; simp [back])
      | (refine ⟨(p + 1, _), by dsimp only; omega, by dsimp only; omega, rfl, ?_, ?_⟩ <;> simp (disch := omega) [wrap64, ← hZ'])
      | refine T.rs (fun _ => false) fun K hK => ?_
      | refine T.rs1 (fun _ => false) fun K hK => ?_
      | refine T.cond rfl (fun hcnd => ?_) (fun hcnd => absurd hcnd (by decide))
      | refine T.seq ?_
      | refine T.block ?_
      | refine T.skip ?_
  · have hp' : p = e.kids.length := by omega
    subst hp'
    rw [List.take_length]
    repeat' first
      | ((first | refine aops_end (hK _ ?_)); clear hK K)
      | ((first | refine aops_go ?_); simp [hlt]; (try (refine gen fun q hq => ?_; cases q <;> (try simp [hlt] at hq) <;> (try (have hh : True := hq; clear hh hq)))))
      | refine T.rs (fun _ => false) fun K hK => ?_
      | refine T.cond rfl (fun hcnd => absurd hcnd (by decide)) (fun hcnd => ?_)
      | refine T.seq ?_
      | refine T.exit ?_
    all_goals (refine T.ret (DoneG.one (Or.inr rfl) ?_ ?_) <;> simp [resAs, Try.results128])

theorem l2Types_non (e : MTm) (h5 : ¬ e.kind = 5) (h13 : ¬ e.kind = 13) (ts : List MTy) (hn : nTm e ≤ 1099511627776) (hl : (ts ++ []).length + (typesS e.kids).length ≤ 1099511627776)
    (ih : ∀ u ∈ e.kids, ∀ (ts : List MTy), ts.length + (typesM u).length ≤ 1099511627776 → ACallsG Try.prog 128 [.c (.own 0 ts.length), aTm u] [] [{ sz := 2, ety := 25, rows := ts.map eTy, wr := true }] (.c (.own 0 (ts ++ typesM u).length)) [] [{ sz := 2, ety := 25, rows := (ts ++ typesM u).map eTy, wr := true }]) :
    ACallsG Try.prog 128 [.c (.own 0 ts.length), aTm e] [] [{ sz := 2, ety := 25, rows := ts.map eTy, wr := true }] (.c (.own 0 (ts ++ ([] ++ typesS e.kids)).length)) [] [{ sz := 2, ety := 25, rows := (ts ++ ([] ++ typesS e.kids)).map eTy, wr := true }] := by
  obtain ⟨hnt, hnf, hnk, hnu⟩ := nTm_parts hn
  have h1 := l1Copy_ok e.ty hnt
  obtain ⟨ts1, hts1⟩ : ∃ ts1, ts ++ [] = ts1 := ⟨_, rfl⟩
  rw [← List.append_assoc, hts1]
  rw [hts1] at hl
  have hlts : ts.length ≤ 1099511627776 := by rw [← hts1, List.length_append] at hl; omega
  refine ACallsG.of_body Try.func128 (by kernel_rfl) rfl (by kernel_rfl) (by simp [Try.ntmps128]) (by simp) ?_
  rw [Try.ntmps128]
  repeat' first
    | ((first | refine aops_end (hK _ ?_)); clear hK K)
    | ((first | refine aops_go ?_); simp [h5, h13]; (try (refine gen fun q hq => ?_; cases q <;> (try simp [h5, h13] at hq) <;> (try (have hh : True := hq; clear hh hq)))))
    | refine T.rs (fun _ => false) fun K hK => ?_
    | refine T.cond rfl (fun hcnd => absurd hcnd (by decide)) (fun hcnd => ?_)
    | refine T.seq ?_
    | refine T.block ?_
    | refine T.skip ?_
  refine T.loopK (α := Nat × List (List CV)) [3, 4] (fun x => [(0, .c (.own 0 (ts1 ++ typesS (e.kids.take x.1)).length)), (5, .i x.1)]) (fun x => []) (fun x => x.2) (fun x _ => [{ sz := 2, ety := 25, rows := (ts1 ++ typesS (e.kids.take x.1)).map eTy, wr := true }]) (fun x => e.kids.length + 1 - x.1)
    (fun x => x.1 ≤ e.kids.length) (by simp; rfl) (fun x hx => ?_) (0, []) (by simp) (by simp) (by simp [← hts1, typesS, eTy_def]) (by simp [← hts1, typesS])
  obtain ⟨p, G⟩ := x
  dsimp only at hx ⊢
  simp only [ups, List.cons_append, List.nil_append]
  by_cases hlt : p < e.kids.length
  · obtain ⟨u, ht⟩ := get_lt hlt
    have htm : u ∈ e.kids := List.mem_of_getElem? ht
    have hgt : e.kids[p] = u := by rw [List.getElem?_eq_getElem hlt] at ht; exact Option.some.inj ht
    have hdr : e.kids.drop p = u :: e.kids.drop (p + 1) := by rw [List.drop_eq_getElem_cons hlt, hgt]
    have hle := typesS_le e.kids (p + 1)
    rw [typesS_take ht] at hle
    have hu := ih u htm (ts1 ++ typesS (e.kids.take p)) (by simp only [List.length_append] at *; omega)
    have htk : ts1 ++ typesS (e.kids.take (p + 1)) = ts1 ++ typesS (e.kids.take p) ++ typesM u := by rw [typesS_take ht, List.append_assoc]
    rw [← htk] at hu
    obtain ⟨Z', hZ'⟩ : ∃ Z', ts1 ++ typesS (e.kids.take (p + 1)) = Z' := ⟨_, rfl⟩
    rw [hZ'] at hu
    clear htk
    generalize (ts1 ++ typesS (e.kids.take p)) = Z at *
    repeat' first
      | ((first | refine aops_end (hK _ ?_)); clear hK K)
      | ((first | refine aops_go ?_); simp [hlt, hgt]; (try simp (disch := omega) only [wrap64]); (try (refine gen fun q hq => ?_; cases q <;> (try simp [hlt, hgt] at hq) <;> (try (have hh : True := hq; clear hh hq)))))
      | (refine wpcall_hand 0 hu rfl rfl rfl rfl ?_; simp [back])
      | (refine ⟨(p + 1, _), by dsimp only; omega, by dsimp only; omega, rfl, ?_, ?_⟩ <;> simp (disch := omega) [wrap64, ← hZ'])
      | refine T.rs (fun _ => false) fun K hK => ?_
      | refine T.rs1 (fun _ => false) fun K hK => ?_
      | refine T.cond rfl (fun hcnd => ?_) (fun hcnd => absurd hcnd (by decide))
      | refine T.seq ?_
      | refine T.block ?_
      | refine T.skip ?_
  · have hp' : p = e.kids.length := by omega
    subst hp'
    rw [List.take_length]
    repeat' first
      | ((first | refine aops_end (hK _ ?_)); clear hK K)
      | ((first | refine aops_go ?_); simp [hlt]; (try (refine gen fun q hq => ?_; cases q <;> (try simp [hlt] at hq) <;> (try (have hh : True := hq; clear hh hq)))))
      | refine T.rs (fun _ => false) fun K hK => ?_
      | refine T.cond rfl (fun hcnd => absurd hcnd (by decide)) (fun hcnd => ?_)
      | refine T.seq ?_
      | refine T.exit ?_
    all_goals (refine T.ret (DoneG.one (Or.inr rfl) ?_ ?_) <;> simp [resAs, Try.results128])

theorem l2Types_ok : ∀ (e : MTm), nTm e ≤ 1099511627776 → ∀ (ts : List MTy), ts.length + (typesM e).length ≤ 1099511627776 →
    ACallsG Try.prog 128 [.c (.own 0 ts.length), aTm e] [] [{ sz := 2, ety := 25, rows := ts.map eTy, wr := true }] (.c (.own 0 (ts ++ typesM e).length)) [] [{ sz := 2, ety := 25, rows := (ts ++ typesM e).map eTy, wr := true }] := by
  intro e
  induction e using MTm.ind with
  | h e ih =>
    intro hn ts hl
    obtain ⟨_, _, _, hnu⟩ := nTm_parts hn
    have ih' := fun u hu => ih u hu (hnu u hu)
    rw [typesM_def] at hl ⊢
    by_cases h5 : e.kind = 5
    · rw [if_pos (by simp [hasTyM, h5])] at hl ⊢
      exact l2Types_lam e h5 ts hn (by simp only [List.length_append] at *; omega) ih'
    · by_cases h13 : e.kind = 13
      · rw [if_pos (by simp [hasTyM, h13])] at hl ⊢
        exact l2Types_as e h5 h13 ts hn (by simp only [List.length_append] at *; omega) ih'
      · rw [if_neg (by simp [hasTyM, h5, h13])] at hl ⊢
        exact l2Types_non e h5 h13 ts hn (by simp only [List.length_append] at *; omega) ih'

/-- The types of a valid term. -/
def termTypesM (e : MTm) : List MTy := if termValidM e = true then typesM e else []
theorem TermTypesS_own (e : MTm) (hn : nTm e ≤ 1073741824) : ACalls Try.prog 101 [aTm e] [] (.c (.own 0 (termTypesM e).length)) [] [{ sz := 2, ety := 25, rows := (termTypesM e).map eTy, wr := true }] := by
  have h1 := TermValidS_ok e (by omega)
  have h2 := l2Types_ok e (by omega) [] (by have := (typesM_small e).2; simp; omega)
  simp only [List.nil_append] at h2
  simp only [termTypesM]
  cases hv : termValidM e with
  | false =>
    rw [hv] at h1
    simp only [Bool.false_eq_true, if_false]
    refine ACalls.of_body Try.func101 (by kernel_rfl) rfl (by kernel_rfl) (by simp [Try.ntmps101]) (by simp) ?_
    rw [Try.ntmps101]
    repeat' first
      | ((first | refine aops_end (hK _ ?_)); clear hK K)
      | ((first | refine aops_go ?_); simp; (try (refine gen fun q hq => ?_; cases q <;> (try simp at hq) <;> (try (have hh : True := hq; clear hh hq)))))
      | (refine wpcall_pure rfl (h1) ?_; simp; (try (refine gen fun q hq => ?_; cases q <;> (try simp at hq) <;> (try (have hh : True := hq; clear hh hq)))))
      | refine T.rs (id := 2) (fun i => i == 0) fun K hK => ?_
      | refine T.rs (id := 0) (fun _ => false) fun K hK => ?_
      | refine T.rs (id := 1) (fun _ => false) fun K hK => ?_
      | refine T.cond rfl (fun hcnd => ?_) (fun hcnd => absurd hcnd (by decide))
      | refine T.seq ?_
    refine T.ret (Done.own1 0 (Or.inr rfl) (ys := [_]) ?_ rfl ?_) <;> simp [resAs, Try.results101]
  | true =>
    rw [hv] at h1
    simp only [if_true]
    generalize typesM e = ts at *
    refine ACalls.of_body Try.func101 (by kernel_rfl) rfl (by kernel_rfl) (by simp [Try.ntmps101]) (by simp) ?_
    rw [Try.ntmps101]
    repeat' first
      | ((first | refine aops_end (hK _ ?_)); clear hK K)
      | ((first | refine aops_go ?_); simp; (try (refine gen fun q hq => ?_; cases q <;> (try simp at hq) <;> (try (have hh : True := hq; clear hh hq)))))
      | (refine wpcall_pure rfl (h1) ?_; simp; (try (refine gen fun q hq => ?_; cases q <;> (try simp at hq) <;> (try (have hh : True := hq; clear hh hq)))))
      | (refine wpcall_hand 0 h2 rfl rfl rfl rfl ?_; simp [back])
      | refine T.rs (id := 3) (fun i => i == 0) fun K hK => ?_
      | refine T.rs (id := 0) (fun _ => false) fun K hK => ?_
      | refine T.rs (id := 1) (fun _ => false) fun K hK => ?_
      | refine T.cond rfl (fun hcnd => absurd hcnd (by decide)) (fun hcnd => ?_)
      | refine T.seq ?_
      | refine T.skip ?_
    refine T.ret (Done.own1 0 (Or.inr rfl) (ys := [_]) ?_ rfl ?_) <;> simp [resAs, Try.results101]
end Go.Proofs.Ytiffndccihaopaa

namespace Go.Proofs.Ytiffndccihaopaa
open Go Go.Av
attribute [local irreducible] T ACalls TX EX LX Draws Some_ ACallsX eTy eTm MTy.kind MTy.kids MTm.kind MTm.name MTm.num MTm.ty MTm.fr MTm.label MTm.kids
attribute [local simp] eTy_def eTm_def
set_option linter.unusedSimpArgs false
set_option linter.unusedVariables false
set_option maxHeartbeats 16000000
set_option maxRecDepth 8000

theorem l2With_lam (e : MTm) (h5 : e.kind = 5) (ts : List MTy) (a : Nat) (hn : nTm e ≤ 1099511627776) (hts : ∀ t ∈ ts, nTy t ≤ 1099511627776) (hl : a + 1 + (typesS e.kids).length ≤ ts.length) (hl2 : ts.length ≤ 1099511627776) (tx : MTy) (hx : tx = ts[a]?.getD tx)
    (ih : ∀ u ∈ e.kids, ∀ (a : Nat) (i : Int), i = a → a + (typesM u).length ≤ ts.length → ACalls Try.prog 129 [aTm u, .l (ts.map eTy), .i i] [] (.tup [aTm (withM u (ts.drop a)), .i (i + (typesM u).length)]) [] []) :
    ACalls Try.prog 129 [aTm e, .l (ts.map eTy), .i a] [] (.tup [aTm (.mk e.kind e.name e.num tx e.fr e.label (withS e.kids (ts.drop (a + 1)))), .i ((a : Int) + 1 + (typesS e.kids).length)]) [] [] := by
  obtain ⟨hnt, hnf, hnk, hnu⟩ := nTm_parts hn
  have h1 := l1Copy_ok e.ty hnt
  have h2 := l1Copy_ok e.fr hnf
  refine ACalls.of_body Try.func129 (by kernel_rfl) rfl (by kernel_rfl) (by simp [Try.ntmps129]) (by simp) ?_
  rw [Try.ntmps129]
  have hlt0 : a < ts.length := by omega
  have hget : ts[a] = tx := by rw [List.getElem?_eq_getElem hlt0] at hx; exact hx.symm
  have h3 := l1Copy_ok tx (hts tx (by rw [← hget]; exact List.getElem_mem hlt0))
  repeat' first
    | ((first | refine aops_end (hK _ ?_)); clear hK K)
    | ((first | refine aops_go ?_); simp [h5, hlt0, hget]; (try simp (disch := omega) only [wrap64]); (try (refine gen fun q hq => ?_; cases q <;> (try simp [h5, hlt0, hget] at hq) <;> (try (have hh : True := hq; clear hh hq)))))
    | (refine wpcall_pure rfl (h1) ?_; simp [h5, hlt0, hget]; (try simp (disch := omega) only [wrap64]); (try (refine gen fun q hq => ?_; cases q <;> (try simp [h5, hlt0, hget] at hq) <;> (try (have hh : True := hq; clear hh hq)))))
    | (refine wpcall_pure rfl (h2) ?_; simp [h5, hlt0, hget]; (try simp (disch := omega) only [wrap64]); (try (refine gen fun q hq => ?_; cases q <;> (try simp [h5, hlt0, hget] at hq) <;> (try (have hh : True := hq; clear hh hq)))))
    | (refine wpcall_pure rfl (h3) ?_; simp [h5, hlt0, hget]; (try simp (disch := omega) only [wrap64]); (try (refine gen fun q hq => ?_; cases q <;> (try simp [h5, hlt0, hget] at hq) <;> (try (have hh : True := hq; clear hh hq)))))
    | refine T.rs (fun _ => false) fun K hK => ?_
    | refine T.rs1 (fun _ => false) fun K hK => ?_
    | refine T.cond rfl (fun hcnd => ?_) (fun hcnd => absurd hcnd (by decide))
    | refine T.seq ?_
    | refine T.block ?_
  refine T.ownifyObj 2 8 9 28 rfl rfl ?_
  refine T.loopK (α := Nat × List (List CV)) [1, 3, 6, 7, 8] (fun x => [(2, .i ((a : Int) + 1 + (typesS (e.kids.take x.1)).length)), (9, .i x.1)]) (fun x => [(2, [.d (.i e.kind), .d (.str e.name), .d (.i e.num), .d (.i (tx).kind), .d (.sl ((tx).kids.map eTy)), .d (.i e.fr.kind), .d (.sl (e.fr.kids.map eTy)), .d (.i e.label), .own 0 x.1])]) (fun x => x.2)
    (fun x _ => [{ sz := 9, ety := 28, rows := ((withS e.kids (ts.drop (a + 1))).take x.1).map eTm, wr := true }]) (fun x => e.kids.length + 1 - x.1) (fun x => x.1 ≤ e.kids.length) (by simp; rfl) (fun x hx => ?_) (0, []) (by simp) (by simp [h5]) (by simp) (by simp [typesS])
  obtain ⟨p, G⟩ := x
  dsimp only at hx ⊢
  simp only [ups, List.set_cons_zero, List.set_cons_succ, List.cons_append, List.nil_append]
  have hwl : (withS e.kids (ts.drop (a + 1))).length = e.kids.length := withS_len _ _
  by_cases hlt : p < e.kids.length
  · obtain ⟨u, ht⟩ := get_lt hlt
    have htm : u ∈ e.kids := List.mem_of_getElem? ht
    have hgt : e.kids[p] = u := by rw [List.getElem?_eq_getElem hlt] at ht; exact Option.some.inj ht
    have hdr : e.kids.drop p = u :: e.kids.drop (p + 1) := by rw [List.drop_eq_getElem_cons hlt, hgt]
    have hle := typesS_le e.kids (p + 1)
    rw [typesS_take ht, List.length_append] at hle
    have hu := ih u htm (a + 1 + (typesS (e.kids.take p)).length) ((a : Int) + 1 + (typesS (e.kids.take p)).length) (by push_cast; omega) (by omega)
    have hwt := withS_take (ts.drop (a + 1)) ht
    rw [List.drop_drop] at hwt
    have htk : (a : Int) + 1 + ((typesS (e.kids.take (p + 1))).length : Int) = (a : Int) + 1 + (typesS (e.kids.take p)).length + (typesM u).length := by rw [typesS_take ht]; push_cast [List.length_append]; omega
    generalize (typesS (e.kids.take p)).length = n1 at *
    generalize (withM u (ts.drop (a + 1 + n1))) = wu at *
    generalize (withS e.kids (ts.drop (a + 1))) = Z at *
    have hmin : min p e.kids.length = p := by omega
    repeat' first
      | ((first | refine aops_end (hK _ ?_)); clear hK K)
      | ((first | refine aops_go ?_); simp [hlt, hgt, hmin, hwl]; (try simp (disch := omega) only [wrap64]); (try (refine gen fun q hq => ?_; cases q <;> (try simp [hlt, hgt, hmin, hwl] at hq) <;> (try (have hh : True := hq; clear hh hq)))))
      | (refine wpcall_pure ?_ (hu) ?_; (focus (solve | simp [hlt, hgt, hmin, hwl])); simp [hlt, hgt, hmin, hwl]; (try simp (disch := omega) only [wrap64]); (try (refine gen fun q hq => ?_; cases q <;> (try simp [hlt, hgt, hmin, hwl] at hq) <;> (try (have hh : True := hq; clear hh hq)))))
      | (refine ⟨(p + 1, _), by dsimp only; omega, by dsimp only; omega, rfl, ?_, ?_⟩ <;> simp (disch := omega) [wrap64, hwt, htk, eTm_def])
      | refine T.rs (fun _ => false) fun K hK => ?_
      | refine T.rs1 (fun _ => false) fun K hK => ?_
      | (refine ⟨by omega, ?_⟩)
      | refine T.cond rfl (fun hcnd => ?_) (fun hcnd => absurd hcnd (by decide))
      | refine T.seq ?_
      | refine T.block ?_
      | refine T.skip ?_
  · have hp' : p = e.kids.length := by omega
    subst hp'
    rw [List.take_length, List.take_of_length_le (by omega)]
    repeat' first
      | ((first | refine aops_end (hK _ ?_)); clear hK K)
      | ((first | refine aops_go ?_); simp [hlt]; (try (refine gen fun q hq => ?_; cases q <;> (try simp [hlt] at hq) <;> (try (have hh : True := hq; clear hh hq)))))
      | (refine T.ret (Done.tup (Or.inr rfl) ?_) <;> simp [resAs, Try.results129, eTm_def, hwl] <;> omega)
      | refine T.rs (fun _ => false) fun K hK => ?_
      | refine T.cond rfl (fun hcnd => absurd hcnd (by decide)) (fun hcnd => ?_)
      | refine T.seq ?_
      | refine T.exit ?_

theorem l2With_as (e : MTm) (h5 : ¬ e.kind = 5) (h13 : e.kind = 13) (ts : List MTy) (a : Nat) (hn : nTm e ≤ 1099511627776) (hts : ∀ t ∈ ts, nTy t ≤ 1099511627776) (hl : a + 1 + (typesS e.kids).length ≤ ts.length) (hl2 : ts.length ≤ 1099511627776) (tx : MTy) (hx : tx = ts[a]?.getD tx)
    (ih : ∀ u ∈ e.kids, ∀ (a : Nat) (i : Int), i = a → a + (typesM u).length ≤ ts.length → ACalls Try.prog 129 [aTm u, .l (ts.map eTy), .i i] [] (.tup [aTm (withM u (ts.drop a)), .i (i + (typesM u).length)]) [] []) :
    ACalls Try.prog 129 [aTm e, .l (ts.map eTy), .i a] [] (.tup [aTm (.mk e.kind e.name e.num tx e.fr e.label (withS e.kids (ts.drop (a + 1)))), .i ((a : Int) + 1 + (typesS e.kids).length)]) [] [] := by
  obtain ⟨hnt, hnf, hnk, hnu⟩ := nTm_parts hn
  have h1 := l1Copy_ok e.ty hnt
  have h2 := l1Copy_ok e.fr hnf
  refine ACalls.of_body Try.func129 (by kernel_rfl) rfl (by kernel_rfl) (by simp [Try.ntmps129]) (by simp) ?_
  rw [Try.ntmps129]
  have hlt0 : a < ts.length := by omega
  have hget : ts[a] = tx := by rw [List.getElem?_eq_getElem hlt0] at hx; exact hx.symm
  have h3 := l1Copy_ok tx (hts tx (by rw [← hget]; exact List.getElem_mem hlt0))
  repeat' first
    | ((first | refine aops_end (hK _ ?_)); clear hK K)
    | ((first | refine aops_go ?_); simp [h5, h13, hlt0, hget]; (try simp (disch := omega) only [wrap64]); (try (refine gen fun q hq => ?_; cases q <;> (try simp [h5, h13, hlt0, hget] at hq) <;> (try (have hh : True := hq; clear hh hq)))))
    | (refine wpcall_pure rfl (h1) ?_; simp [h5, h13, hlt0, hget]; (try simp (disch := omega) only [wrap64]); (try (refine gen fun q hq => ?_; cases q <;> (try simp [h5, h13, hlt0, hget] at hq) <;> (try (have hh : True := hq; clear hh hq)))))
    | (refine wpcall_pure rfl (h2) ?_; simp [h5, h13, hlt0, hget]; (try simp (disch := omega) only [wrap64]); (try (refine gen fun q hq => ?_; cases q <;> (try simp [h5, h13, hlt0, hget] at hq) <;> (try (have hh : True := hq; clear hh hq)))))
    | (refine wpcall_pure rfl (h3) ?_; simp [h5, h13, hlt0, hget]; (try simp (disch := omega) only [wrap64]); (try (refine gen fun q hq => ?_; cases q <;> (try simp [h5, h13, hlt0, hget] at hq) <;> (try (have hh : True := hq; clear hh hq)))))
    | refine T.rs (fun _ => false) fun K hK => ?_
    | refine T.rs1 (fun _ => false) fun K hK => ?_
    | refine T.cond rfl (fun hcnd => ?_) (fun hcnd => absurd hcnd (by decide))
    | refine T.seq ?_
    | refine T.block ?_
  refine T.ownifyObj 2 8 9 28 rfl rfl ?_
  refine T.loopK (α := Nat × List (List CV)) [1, 3, 6, 7, 8] (fun x => [(2, .i ((a : Int) + 1 + (typesS (e.kids.take x.1)).length)), (9, .i x.1)]) (fun x => [(2, [.d (.i e.kind), .d (.str e.name), .d (.i e.num), .d (.i (tx).kind), .d (.sl ((tx).kids.map eTy)), .d (.i e.fr.kind), .d (.sl (e.fr.kids.map eTy)), .d (.i e.label), .own 0 x.1])]) (fun x => x.2)
    (fun x _ => [{ sz := 9, ety := 28, rows := ((withS e.kids (ts.drop (a + 1))).take x.1).map eTm, wr := true }]) (fun x => e.kids.length + 1 - x.1) (fun x => x.1 ≤ e.kids.length) (by simp; rfl) (fun x hx => ?_) (0, []) (by simp) (by simp [h5, h13]) (by simp) (by simp [typesS])
  obtain ⟨p, G⟩ := x
  dsimp only at hx ⊢
  simp only [ups, List.set_cons_zero, List.set_cons_succ, List.cons_append, List.nil_append]
  have hwl : (withS e.kids (ts.drop (a + 1))).length = e.kids.length := withS_len _ _
  by_cases hlt : p < e.kids.length
  · obtain ⟨u, ht⟩ := get_lt hlt
    have htm : u ∈ e.kids := List.mem_of_getElem? ht
    have hgt : e.kids[p] = u := by rw [List.getElem?_eq_getElem hlt] at ht; exact Option.some.inj ht
    have hdr : e.kids.drop p = u :: e.kids.drop (p + 1) := by rw [List.drop_eq_getElem_cons hlt, hgt]
    have hle := typesS_le e.kids (p + 1)
    rw [typesS_take ht, List.length_append] at hle
    have hu := ih u htm (a + 1 + (typesS (e.kids.take p)).length) ((a : Int) + 1 + (typesS (e.kids.take p)).length) (by push_cast; omega) (by omega)
    have hwt := withS_take (ts.drop (a + 1)) ht
    rw [List.drop_drop] at hwt
    have htk : (a : Int) + 1 + ((typesS (e.kids.take (p + 1))).length : Int) = (a : Int) + 1 + (typesS (e.kids.take p)).length + (typesM u).length := by rw [typesS_take ht]; push_cast [List.length_append]; omega
    generalize (typesS (e.kids.take p)).length = n1 at *
    generalize (withM u (ts.drop (a + 1 + n1))) = wu at *
    generalize (withS e.kids (ts.drop (a + 1))) = Z at *
    have hmin : min p e.kids.length = p := by omega
    repeat' first
      | ((first | refine aops_end (hK _ ?_)); clear hK K)
      | ((first | refine aops_go ?_); simp [hlt, hgt, hmin, hwl]; (try simp (disch := omega) only [wrap64]); (try (refine gen fun q hq => ?_; cases q <;> (try simp [hlt, hgt, hmin, hwl] at hq) <;> (try (have hh : True := hq; clear hh hq)))))
      | (refine wpcall_pure ?_ (hu) ?_; (focus (solve | simp [hlt, hgt, hmin, hwl])); simp [hlt, hgt, hmin, hwl]; (try simp (disch := omega) only [wrap64]); (try (refine gen fun q hq => ?_; cases q <;> (try simp [hlt, hgt, hmin, hwl] at hq) <;> (try (have hh : True := hq; clear hh hq)))))
      | (refine ⟨(p + 1, _), by dsimp only; omega, by dsimp only; omega, rfl, ?_, ?_⟩ <;> simp (disch := omega) [wrap64, hwt, htk, eTm_def])
      | refine T.rs (fun _ => false) fun K hK => ?_
      | refine T.rs1 (fun _ => false) fun K hK => ?_
      | (refine ⟨by omega, ?_⟩)
      | refine T.cond rfl (fun hcnd => ?_) (fun hcnd => absurd hcnd (by decide))
      | refine T.seq ?_
      | refine T.block ?_
      | refine T.skip ?_
  · have hp' : p = e.kids.length := by omega
    subst hp'
    rw [List.take_length, List.take_of_length_le (by omega)]
    repeat' first
      | ((first | refine aops_end (hK _ ?_)); clear hK K)
      | ((first | refine aops_go ?_); simp [hlt]; (try (refine gen fun q hq => ?_; cases q <;> (try simp [hlt] at hq) <;> (try (have hh : True := hq; clear hh hq)))))
      | (refine T.ret (Done.tup (Or.inr rfl) ?_) <;> simp [resAs, Try.results129, eTm_def, hwl] <;> omega)
      | refine T.rs (fun _ => false) fun K hK => ?_
      | refine T.cond rfl (fun hcnd => absurd hcnd (by decide)) (fun hcnd => ?_)
      | refine T.seq ?_
      | refine T.exit ?_

theorem l2With_non (e : MTm) (h5 : ¬ e.kind = 5) (h13 : ¬ e.kind = 13) (ts : List MTy) (a : Nat) (hn : nTm e ≤ 1099511627776) (hts : ∀ t ∈ ts, nTy t ≤ 1099511627776) (hl : a + (typesS e.kids).length ≤ ts.length) (hl2 : ts.length ≤ 1099511627776) (tx : MTy) (hx : tx = ts[a]?.getD tx)
    (ih : ∀ u ∈ e.kids, ∀ (a : Nat) (i : Int), i = a → a + (typesM u).length ≤ ts.length → ACalls Try.prog 129 [aTm u, .l (ts.map eTy), .i i] [] (.tup [aTm (withM u (ts.drop a)), .i (i + (typesM u).length)]) [] []) :
    ACalls Try.prog 129 [aTm e, .l (ts.map eTy), .i a] [] (.tup [aTm (.mk e.kind e.name e.num e.ty e.fr e.label (withS e.kids (ts.drop (a)))), .i ((a : Int) + (typesS e.kids).length)]) [] [] := by
  obtain ⟨hnt, hnf, hnk, hnu⟩ := nTm_parts hn
  have h1 := l1Copy_ok e.ty hnt
  have h2 := l1Copy_ok e.fr hnf
  refine ACalls.of_body Try.func129 (by kernel_rfl) rfl (by kernel_rfl) (by simp [Try.ntmps129]) (by simp) ?_
  rw [Try.ntmps129]
  repeat' first
    | ((first | refine aops_end (hK _ ?_)); clear hK K)
    | ((first | refine aops_go ?_); simp [h5, h13]; (try (refine gen fun q hq => ?_; cases q <;> (try simp [h5, h13] at hq) <;> (try (have hh : True := hq; clear hh hq)))))
    | (refine wpcall_pure rfl (h1) ?_; simp [h5, h13]; (try (refine gen fun q hq => ?_; cases q <;> (try simp [h5, h13] at hq) <;> (try (have hh : True := hq; clear hh hq)))))
    | (refine wpcall_pure rfl (h2) ?_; simp [h5, h13]; (try (refine gen fun q hq => ?_; cases q <;> (try simp [h5, h13] at hq) <;> (try (have hh : True := hq; clear hh hq)))))
    | refine T.rs (fun _ => false) fun K hK => ?_
    | refine T.cond rfl (fun hcnd => absurd hcnd (by decide)) (fun hcnd => ?_)
    | refine T.seq ?_
    | refine T.block ?_
    | refine T.skip ?_
  refine T.ownifyObj 2 8 9 28 rfl rfl ?_
  refine T.loopK (α := Nat × List (List CV)) [1, 3, 6, 7, 8] (fun x => [(2, .i ((a : Int) + (typesS (e.kids.take x.1)).length)), (9, .i x.1)]) (fun x => [(2, [.d (.i e.kind), .d (.str e.name), .d (.i e.num), .d (.i (e.ty).kind), .d (.sl ((e.ty).kids.map eTy)), .d (.i e.fr.kind), .d (.sl (e.fr.kids.map eTy)), .d (.i e.label), .own 0 x.1])]) (fun x => x.2)
    (fun x _ => [{ sz := 9, ety := 28, rows := ((withS e.kids (ts.drop (a))).take x.1).map eTm, wr := true }]) (fun x => e.kids.length + 1 - x.1) (fun x => x.1 ≤ e.kids.length) (by simp; rfl) (fun x hx => ?_) (0, []) (by simp) (by simp [h5, h13]) (by simp) (by simp [typesS])
  obtain ⟨p, G⟩ := x
  dsimp only at hx ⊢
  simp only [ups, List.set_cons_zero, List.set_cons_succ, List.cons_append, List.nil_append]
  have hwl : (withS e.kids (ts.drop (a))).length = e.kids.length := withS_len _ _
  by_cases hlt : p < e.kids.length
  · obtain ⟨u, ht⟩ := get_lt hlt
    have htm : u ∈ e.kids := List.mem_of_getElem? ht
    have hgt : e.kids[p] = u := by rw [List.getElem?_eq_getElem hlt] at ht; exact Option.some.inj ht
    have hdr : e.kids.drop p = u :: e.kids.drop (p + 1) := by rw [List.drop_eq_getElem_cons hlt, hgt]
    have hle := typesS_le e.kids (p + 1)
    rw [typesS_take ht, List.length_append] at hle
    have hu := ih u htm (a + (typesS (e.kids.take p)).length) ((a : Int) + (typesS (e.kids.take p)).length) (by push_cast; omega) (by omega)
    have hwt := withS_take (ts.drop (a)) ht
    rw [List.drop_drop] at hwt
    have htk : (a : Int) + ((typesS (e.kids.take (p + 1))).length : Int) = (a : Int) + (typesS (e.kids.take p)).length + (typesM u).length := by rw [typesS_take ht]; push_cast [List.length_append]; omega
    generalize (typesS (e.kids.take p)).length = n1 at *
    generalize (withM u (ts.drop (a + n1))) = wu at *
    generalize (withS e.kids (ts.drop (a))) = Z at *
    have hmin : min p e.kids.length = p := by omega
    repeat' first
      | ((first | refine aops_end (hK _ ?_)); clear hK K)
      | ((first | refine aops_go ?_); simp [hlt, hgt, hmin, hwl]; (try simp (disch := omega) only [wrap64]); (try (refine gen fun q hq => ?_; cases q <;> (try simp [hlt, hgt, hmin, hwl] at hq) <;> (try (have hh : True := hq; clear hh hq)))))
      | (refine wpcall_pure ?_ (hu) ?_; (focus (solve | simp [hlt, hgt, hmin, hwl])); simp [hlt, hgt, hmin, hwl]; (try simp (disch := omega) only [wrap64]); (try (refine gen fun q hq => ?_; cases q <;> (try simp [hlt, hgt, hmin, hwl] at hq) <;> (try (have hh : True := hq; clear hh hq)))))
      | (refine ⟨(p + 1, _), by dsimp only; omega, by dsimp only; omega, rfl, ?_, ?_⟩ <;> simp (disch := omega) [wrap64, hwt, htk, eTm_def])
      | refine T.rs (fun _ => false) fun K hK => ?_
      | refine T.rs1 (fun _ => false) fun K hK => ?_
      | (refine ⟨by omega, ?_⟩)
      | refine T.cond rfl (fun hcnd => ?_) (fun hcnd => absurd hcnd (by decide))
      | refine T.seq ?_
      | refine T.block ?_
      | refine T.skip ?_
  · have hp' : p = e.kids.length := by omega
    subst hp'
    rw [List.take_length, List.take_of_length_le (by omega)]
    repeat' first
      | ((first | refine aops_end (hK _ ?_)); clear hK K)
      | ((first | refine aops_go ?_); simp [hlt]; (try (refine gen fun q hq => ?_; cases q <;> (try simp [hlt] at hq) <;> (try (have hh : True := hq; clear hh hq)))))
      | (refine T.ret (Done.tup (Or.inr rfl) ?_) <;> simp [resAs, Try.results129, eTm_def, hwl] <;> omega)
      | refine T.rs (fun _ => false) fun K hK => ?_
      | refine T.cond rfl (fun hcnd => absurd hcnd (by decide)) (fun hcnd => ?_)
      | refine T.seq ?_
      | refine T.exit ?_

theorem l2With_ok (ts : List MTy) (hts : ∀ t ∈ ts, nTy t ≤ 1099511627776) (hl2 : ts.length ≤ 1099511627776) : ∀ (e : MTm), nTm e ≤ 1099511627776 → ∀ (a : Nat) (i : Int), i = a → a + (typesM e).length ≤ ts.length → ACalls Try.prog 129 [aTm e, .l (ts.map eTy), .i i] [] (.tup [aTm (withM e (ts.drop a)), .i (i + (typesM e).length)]) [] [] := by
  intro e
  induction e using MTm.ind with
  | h e ih =>
    intro hn a i hi hl
    obtain ⟨_, _, _, hnu⟩ := nTm_parts hn
    subst hi
    have ih' := fun u hu => ih u hu (hnu u hu)
    rw [typesM_def] at hl ⊢
    rw [withM_def]
    by_cases h5 : e.kind = 5
    · rw [if_pos (by simp [hasTyM, h5])] at hl ⊢
      rw [if_pos (by simp [hasTyM, h5]), if_pos (by simp [hasTyM, h5])]
      simp only [List.length_append, List.length_singleton] at hl ⊢
      have hlt : a < ts.length := by omega
      have := l2With_lam e h5 ts a hn hts (by omega) hl2 (ts[a]) (by simp [hlt]) ih'
      rw [List.drop_drop, List.drop_eq_getElem_cons hlt, List.headD_cons]
      push_cast
      rw [← Int.add_assoc]
      exact this
    · by_cases h13 : e.kind = 13
      · rw [if_pos (by simp [hasTyM, h13])] at hl ⊢
        rw [if_pos (by simp [hasTyM, h13]), if_pos (by simp [hasTyM, h13])]
        simp only [List.length_append, List.length_singleton] at hl ⊢
        have hlt : a < ts.length := by omega
        have := l2With_as e h5 h13 ts a hn hts (by omega) hl2 (ts[a]) (by simp [hlt]) ih'
        rw [List.drop_drop, List.drop_eq_getElem_cons hlt, List.headD_cons]
        push_cast
        rw [← Int.add_assoc]
        exact this
      · have hq : ¬ hasTyM e.kind = true := by simp [hasTyM, h5, h13]
        rw [if_neg hq] at hl ⊢
        rw [if_neg hq, if_neg hq]
        simp only [List.nil_append] at hl ⊢
        have := l2With_non e h5 h13 ts a hn hts (by omega) hl2 (ts[a]?.getD e.ty) (by cases ts[a]? <;> rfl) ih'
        simpa using this

theorem WithTypesS_ok (e : MTm) (ts : List MTy) (hn : nTm e ≤ 1073741824) (hts : ∀ t ∈ ts, nTy t ≤ 1099511627776) (hl2 : ts.length ≤ 1099511627776) : ACalls Try.prog 102 [aTm e, .l (ts.map eTy)] [] (.tup (tmRes (withTypesM e ts))) [] [] := by
  have h1 := TermTypesS_own e hn
  have h2 := TermValidS_ok e (by omega)
  simp only [withTypesM]
  cases hv : termValidM e with
  | false =>
    rw [hv] at h2
    simp only [termTypesM, hv, Bool.false_eq_true, if_false, Bool.false_and, tmRes, List.length_nil] at h1 ⊢
    refine ACalls.of_body Try.func102 (by kernel_rfl) rfl (by kernel_rfl) (by simp [Try.ntmps102]) (by simp) ?_
    rw [Try.ntmps102]
    repeat' first
      | ((first | refine aops_end (hK _ ?_)); clear hK K)
      | ((first | refine aops_go ?_); simp; (try (refine gen fun q hq => ?_; cases q <;> (try simp at hq) <;> (try (have hh : True := hq; clear hh hq)))))
      | (refine wpcall_pure rfl (h2) ?_; simp; (try (refine gen fun q hq => ?_; cases q <;> (try simp at hq) <;> (try (have hh : True := hq; clear hh hq)))))
      | (refine wpcall_own rfl (h1) ?_; simp; (try (refine gen fun q hq => ?_; cases q <;> (try simp at hq) <;> (try (have hh : True := hq; clear hh hq)))))
      | (refine T.ret (Done.tup (Or.inr rfl) ?_) <;> simp [resAs, Try.results102] <;> omega)
      | refine T.rs (fun _ => false) fun K hK => ?_
      | refine T.cond rfl (fun hcnd => ?_) (fun hcnd => absurd hcnd (by decide))
      | refine T.seq ?_
  | true =>
    rw [hv] at h2
    simp only [termTypesM, hv, if_true, Bool.true_and] at h1 ⊢
    by_cases hl : ts.length = (typesM e).length
    rotate_left
    · have hne : ¬ ((typesM e).length : Int) = ts.length := by omega
      simp only [hl, decide_false, Bool.false_and, Bool.false_eq_true, if_false, tmRes]
      refine ACalls.of_body Try.func102 (by kernel_rfl) rfl (by kernel_rfl) (by simp [Try.ntmps102]) (by simp) ?_
      rw [Try.ntmps102]
      repeat' first
        | ((first | refine aops_end (hK _ ?_)); clear hK K)
        | ((first | refine aops_go ?_); simp [hne]; (try (refine gen fun q hq => ?_; cases q <;> (try simp [hne] at hq) <;> (try (have hh : True := hq; clear hh hq)))))
        | (refine wpcall_own rfl (h1) ?_; simp [hne]; (try (refine gen fun q hq => ?_; cases q <;> (try simp [hne] at hq) <;> (try (have hh : True := hq; clear hh hq)))))
        | (refine T.ret (Done.tup (Or.inr rfl) ?_) <;> simp [resAs, Try.results102] <;> omega)
        | refine T.rs (fun _ => false) fun K hK => ?_
        | refine T.cond rfl (fun hcnd => ?_) (fun hcnd => absurd hcnd (by decide))
        | refine T.seq ?_
    have he : ((typesM e).length : Int) = ts.length := by omega
    simp only [hl, decide_true, Bool.true_and]
    obtain ⟨R, hR⟩ : ∃ R, ts.all (shapeTy 4) = R := ⟨_, rfl⟩
    rw [hR]
    have h3 := l2With_ok ts hts hl2 e (by omega) 0 0 rfl (by omega)
    rw [List.drop_zero] at h3
    generalize withM e ts = x at h3 ⊢
    refine ACalls.of_body Try.func102 (by kernel_rfl) rfl (by kernel_rfl) (by simp [Try.ntmps102]) (by simp) ?_
    rw [Try.ntmps102]
    repeat' first
      | ((first | refine aops_end (hK _ ?_)); clear hK K)
      | ((first | refine aops_go ?_); simp [he]; (try (refine gen fun q hq => ?_; cases q <;> (try simp [he] at hq) <;> (try (have hh : True := hq; clear hh hq)))))
      | (refine wpcall_pure rfl (h2) ?_; simp [he]; (try (refine gen fun q hq => ?_; cases q <;> (try simp [he] at hq) <;> (try (have hh : True := hq; clear hh hq)))))
      | (refine wpcall_own rfl (h1) ?_; simp [he]; (try (refine gen fun q hq => ?_; cases q <;> (try simp [he] at hq) <;> (try (have hh : True := hq; clear hh hq)))))
      | refine T.rs (fun _ => false) fun K hK => ?_
      | refine T.cond rfl (fun hcnd => absurd hcnd (by decide)) (fun hcnd => ?_)
      | refine T.seq ?_
      | refine T.block ?_
      | refine T.skip ?_
    refine T.loopK (α := Nat × List (List CV)) [1, 2, 4] (fun x => [(5, .b false), (6, .i x.1)]) (fun x => []) (fun x => x.2) (fun x A => A) (fun x => ts.length + 1 - x.1) (fun x => x.1 ≤ ts.length ∧ (ts.drop x.1).all (shapeTy 4) = R) (by simp; rfl) (fun x hx => ?_) (0, []) (by simpa using hR) (by simp) (by simp) (by simp)
    obtain ⟨p, G⟩ := x
    obtain ⟨hi, hq⟩ := hx
    dsimp only at hi hq ⊢
    simp only [ups, List.set_cons_zero, List.set_cons_succ, List.cons_append, List.nil_append]
    by_cases hlt : p < ts.length
    · obtain ⟨u, ht⟩ := get_lt hlt
      have htm : u ∈ ts := List.mem_of_getElem? ht
      have hgt : ts[p] = u := by rw [List.getElem?_eq_getElem hlt] at ht; exact Option.some.inj ht
      have hdr : ts.drop p = u :: ts.drop (p + 1) := by rw [List.drop_eq_getElem_cons hlt, hgt]
      have hu := TypeValidS_ok u (hts u htm)
      rw [hdr, List.all_cons] at hq
      cases hb : shapeTy 4 u <;> rw [hb] at hu hq
      · simp only [Bool.false_and] at hq
        subst hq
        simp only [Bool.false_eq_true, if_false, tmRes]
        repeat' first
          | ((first | refine aops_end (hK _ ?_)); clear hK K)
          | ((first | refine aops_go ?_); simp [hlt, hgt]; (try simp (disch := omega) only [wrap64]); (try (refine gen fun q hq => ?_; cases q <;> (try simp [hlt, hgt] at hq) <;> (try (have hh : True := hq; clear hh hq)))))
          | (refine wpcall_pure rfl (hu) ?_; simp [hlt, hgt]; (try simp (disch := omega) only [wrap64]); (try (refine gen fun q hq => ?_; cases q <;> (try simp [hlt, hgt] at hq) <;> (try (have hh : True := hq; clear hh hq)))))
          | (refine T.ret (Done.tup (Or.inr rfl) ?_) <;> simp [resAs, Try.results102] <;> omega)
          | refine T.rs (fun _ => false) fun K hK => ?_
          | refine T.cond rfl (fun hcnd => ?_) (fun hcnd => absurd hcnd (by decide))
          | refine T.seq ?_
          | refine T.block ?_
          | refine T.skip ?_
      · repeat' first
          | ((first | refine aops_end (hK _ ?_)); clear hK K)
          | ((first | refine aops_go ?_); simp [hlt, hgt]; (try simp (disch := omega) only [wrap64]); (try (refine gen fun q hq => ?_; cases q <;> (try simp [hlt, hgt] at hq) <;> (try (have hh : True := hq; clear hh hq)))))
          | (refine wpcall_pure rfl (hu) ?_; simp [hlt, hgt]; (try simp (disch := omega) only [wrap64]); (try (refine gen fun q hq => ?_; cases q <;> (try simp [hlt, hgt] at hq) <;> (try (have hh : True := hq; clear hh hq)))))
          | (refine ⟨(p + 1, _), by dsimp only; omega, ⟨by dsimp only; omega, by simpa using hq⟩, rfl, ?_, ?_⟩ <;> simp (disch := omega) [wrap64])
          | refine T.rs (fun _ => false) fun K hK => ?_
          | refine T.rs1 (fun _ => false) fun K hK => ?_
          | refine T.cond rfl (fun hcnd => ?_) (fun hcnd => absurd hcnd (by decide))
          | refine T.cond rfl (fun hcnd => absurd hcnd (by decide)) (fun hcnd => ?_)
          | refine T.seq ?_
          | refine T.block ?_
          | refine T.skip ?_
    · have hp' : p = ts.length := by omega
      subst hp'
      simp at hq
      subst hq
      simp only [if_true, tmRes]
      repeat' first
        | ((first | refine aops_end (hK _ ?_)); clear hK K)
        | ((first | refine aops_go ?_); simp [hlt]; (try (refine gen fun q hq => ?_; cases q <;> (try simp [hlt] at hq) <;> (try (have hh : True := hq; clear hh hq)))))
        | (refine wpcall_pure ?_ (h3) ?_; (focus (solve | simp [hlt])); simp [hlt]; (try (refine gen fun q hq => ?_; cases q <;> (try simp [hlt] at hq) <;> (try (have hh : True := hq; clear hh hq)))))
        | (refine T.ret (Done.tup (Or.inr rfl) ?_) <;> simp [resAs, Try.results102] <;> omega)
        | refine T.rs (fun _ => false) fun K hK => ?_
        | refine T.cond rfl (fun hcnd => absurd hcnd (by decide)) (fun hcnd => ?_)
        | refine T.seq ?_
        | refine T.exit ?_
end Go.Proofs.Ytiffndccihaopaa

namespace Go.Proofs.Ytiffndccihaopaa
open Go Go.Av
attribute [local irreducible] T ACalls TX EX LX Draws Some_ ACallsX eTy eTm MTy.kind MTy.kids MTm.kind MTm.name MTm.num MTm.ty MTm.fr MTm.label MTm.kids
attribute [local simp] eTy_def eTm_def
set_option linter.unusedSimpArgs false
set_option linter.unusedVariables false
set_option maxHeartbeats 16000000
set_option maxRecDepth 8000

theorem l3Blur_ok (b : List Int) (hb : okB b) (e : MTm) (hn : nTm e ≤ 100000000) (p : Nat) (hp : p + 8000 ≤ 1099511627776) : Draws Try.prog 60 [aTm e] b p 8000 (RV aTm noA fun u => nTm u ≤ 9000) := by
  have h1 := TermTypesS_own e (by omega)
  cases hv : termValidM e with
  | false =>
    have hz := WithTypesS_ok e [] (by omega) (by simp) (by simp)
    have hz1 : withTypesM e [] = none := by simp [withTypesM, hv]
    rw [hz1] at hz
    simp only [tmRes] at hz
    simp only [termTypesM, hv, Bool.false_eq_true, if_false] at h1
    refine Draws.of_body Try.func60 (by kernel_rfl) rfl (by kernel_rfl) (by simp [Try.ntmps60]) ?_
    rw [Try.ntmps60]
    repeat' first
      | ((first | refine aops_end (hK _ ?_)); clear hK K)
      | ((first | refine aops_go ?_); simp; (try (refine gen fun q hq => ?_; cases q <;> (try simp at hq) <;> (try (have hh : True := hq; clear hh hq)))))
      | (refine wpcall_own rfl (h1) ?_; simp; (try (refine gen fun q hq => ?_; cases q <;> (try simp at hq) <;> (try (have hh : True := hq; clear hh hq)))))
      | refine TX.rs (fun _ => false) fun K hK => ?_
      | refine TX.seq ?_
      | refine TX.block ?_
    refine TX.loopK (α := Unit) [0, 3, 4, 5] (fun x => [(6, .i 0)]) (fun x => []) (fun x => []) (fun x A => A) (fun x => 0) (fun x => True) (by simp; rfl) (fun x hx => ?_) () trivial (by simp) (by simp) (by simp)
    simp only [ups, List.set_cons_zero, List.set_cons_succ, List.cons_append, List.nil_append, List.append_nil]
    repeat' first
      | ((first | refine aops_end (hK _ ?_)); clear hK K)
      | ((first | refine aops_go ?_); simp; (try (refine gen fun q hq => ?_; cases q <;> (try simp at hq) <;> (try (have hh : True := hq; clear hh hq)))))
      | (refine wpcall_pure ?_ (hz) ?_; (focus (solve | simp)); simp; (try (refine gen fun q hq => ?_; cases q <;> (try simp at hq) <;> (try (have hh : True := hq; clear hh hq)))))
      | refine TX.rs (fun _ => false) fun K hK => ?_
      | refine TX.cond rfl (fun hcnd => absurd hcnd (by decide)) (fun hcnd => ?_)
      | refine TX.seq ?_
      | refine TX.exit ?_
      | refine EX.thenN ?_
      | refine EX.thenE ?_
      | refine EX.blockE ?_
      | refine EX.outE ?_
    all_goals (
      refine TX.ret ?_
      repeat' first | refine EX.outR ?_ | refine EX.thenR ?_ | refine EX.blockR ?_ | refine EX.unrR ?_
      apply EX.drA (ks := [])
      case he => exact Or.inr rfl
      case hys => simp [resAs, getAs, Try.results60, zeroE] <;> rfl
      case hv => first | (dsimp only [Av.one]; exact rfl) | dsimp only [Av.one]
      case hx => repeat' first | exact IsT2.var _ | exact IsV.tmv _ | exact IsTm.var _ | exact IsTy.row _ | exact IsTm.row _ | exact IsTys.nil | exact IsTms.nil | exact IsBds.nil | exact IsTys.map _ | exact IsTms.map _ | exact IsBds.map _ | exact IsV.int _ | exact IsV.str _ | exact IsV.bool _ | apply IsV.p2 | apply IsV.p3 | apply IsV.tm | apply IsV.ty | apply IsTm.node | apply IsTy.of | apply IsTys.cons | apply IsTms.cons | apply IsBds.cons | apply IsV.tys | apply IsV.tms | apply IsV.bds | apply IsT2.node | apply IsTys.app | apply IsTms.app | apply IsBds.app
      case hA => exact rfl
      case hks => simp
      case hV => exact rfl
      case h1 => omega
      case h2 => omega
      case hg => (simp [nTm_mk, nTmS, nTy_mk, nTyS]))
  | true =>
    obtain ⟨hvt, hvn⟩ := termValidM_iff.1 hv
    obtain ⟨hsh, hln⟩ := hvt.types
    simp only [termTypesM, hv, if_true] at h1
    obtain ⟨ts, hts⟩ : ∃ ts, typesM e = ts := ⟨_, rfl⟩
    rw [hts] at h1 hsh hln
    have hl30 : ts.length ≤ 30 := by omega
    refine Draws.of_body Try.func60 (by kernel_rfl) rfl (by kernel_rfl) (by simp [Try.ntmps60]) ?_
    rw [Try.ntmps60]
    repeat' first
      | ((first | refine aops_end (hK _ ?_)); clear hK K)
      | ((first | refine aops_go ?_); simp; (try simp (disch := omega) only [wrap64]); (try (refine gen fun q hq => ?_; cases q <;> (try simp at hq) <;> (try (have hh : True := hq; clear hh hq)))))
      | (refine wpcall_own rfl (h1) ?_; simp; (try simp (disch := omega) only [wrap64]); (try (refine gen fun q hq => ?_; cases q <;> (try simp at hq) <;> (try (have hh : True := hq; clear hh hq)))))
      | refine TX.rs (fun _ => false) fun K hK => ?_
      | refine TX.seq ?_
      | refine TX.block ?_
    refine TX.loopK (α := Nat × Nat × List MTy × List (List CV)) [0, 3, 4, 5] (fun x => [(6, .i x.1)]) (fun x => [(0, (rd b x.2.1).map CV.d)]) (fun x => x.2.2.2) (fun x _ => [{ sz := 2, ety := 25, rows := x.2.2.1.map eTy, wr := true }]) (fun x => ts.length + 1 - x.1)
      (fun x => x.1 ≤ ts.length ∧ p ≤ x.2.1 ∧ x.2.1 ≤ p + 256 * x.1 ∧ x.2.2.1.length = ts.length ∧ ∀ u ∈ x.2.2.1, shapeTy 4 u = true) (by simp; rfl) (fun x hx => ?_) (0, p, ts, []) (by exact ⟨by simp, by simp, by simp, rfl, hsh⟩) (by simp) (by simp) (by simp)
    obtain ⟨j, q, l, G⟩ := x
    obtain ⟨h2, h3, h4, h5, h6⟩ := hx
    dsimp only at h2 h3 h4 h5 h6 ⊢
    simp only [ups, List.set_cons_zero, List.set_cons_succ, List.cons_append, List.nil_append, List.append_nil]
    by_cases hlt : j < ts.length
    · have hlt2 : j < l.length := by omega
      obtain ⟨u, ht⟩ := get_lt hlt2
      have htm : u ∈ l := List.mem_of_getElem? ht
      have hgt : l[j] = u := by rw [List.getElem?_eq_getElem hlt2] at ht; exact Option.some.inj ht
      have hdr : l.drop j = u :: l.drop (j + 1) := by rw [List.drop_eq_getElem_cons hlt2, hgt]
      have hu := h6 u htm
      have hu4 := shape4 hu
      repeat' first
        | ((first | refine aops_end (hK _ ?_)); clear hK K)
        | ((first | refine aops_go ?_); simp [hlt, hlt2, hgt, h5]; (try simp (disch := omega) only [wrap64]); (try (refine gen fun q hq => ?_; cases q <;> (try simp [hlt, hlt2, hgt, h5] at hq) <;> (try (have hh : True := hq; clear hh hq)))))
        | (refine wpcall_dr 0 rfl rfl (l1Blur_ok b hb 4 u _ hu (by omega)) (fun x1 p1 hx1 hp1 hp1' => ?_); simp [hlt, hlt2, hgt, h5]; (try simp (disch := omega) only [wrap64]); (try (refine gen fun q hq => ?_; cases q <;> (try simp [hlt, hlt2, hgt, h5] at hq) <;> (try (have hh : True := hq; clear hh hq)))))
        | refine TX.rs (fun _ => false) fun K hK => ?_
        | refine TX.rs1 (fun _ => false) fun K hK => ?_
        | refine TX.cond rfl (fun hcnd => ?_) (fun hcnd => absurd hcnd (by decide))
        | refine TX.seq ?_
        | refine TX.block ?_
        | refine TX.skip ?_
        | refine EX.thenN ?_
        | refine EX.blockN ?_
      rw [show (4 : Nat) ^ 4 = 256 by decide] at hp1'
      refine EX.next (j + 1, p1, l.set j x1, G) (by dsimp only; omega) ⟨by dsimp only; omega, by dsimp only; omega, by dsimp only; omega, by simpa using h5, fun v hv => ?_⟩ ⟨?_, ?_, ?_⟩
      · rcases List.mem_or_eq_of_mem_set hv with hv | rfl
        · exact h6 v hv
        · assumption
      · simp
      · simp [eTy_def]
      · simp (disch := omega) [wrap64]
    · have hj : j = ts.length := by omega
      subst hj
      obtain ⟨x, hx⟩ : ∃ x, withTypesM e l = some x := ⟨withM e l, by simp [withTypesM, hv, hts, h5]; exact h6⟩
      obtain ⟨_, hvx, _⟩ := withTypes_some hx
      have hsm := valid_small hvx
      have hz := WithTypesS_ok e l (by omega) (fun t ht => by have := shape4 (h6 t ht); omega) (by omega)
      rw [hx] at hz
      simp only [tmRes] at hz
      repeat' first
        | ((first | refine aops_end (hK _ ?_)); clear hK K)
        | ((first | refine aops_go ?_); simp [hlt, h5]; (try simp (disch := omega) only [wrap64]); (try (refine gen fun q hq => ?_; cases q <;> (try simp [hlt, h5] at hq) <;> (try (have hh : True := hq; clear hh hq)))))
        | (refine wpcall_pure ?_ (hz) ?_; (focus (solve | simp [hlt, h5])); simp [hlt, h5]; (try simp (disch := omega) only [wrap64]); (try (refine gen fun q hq => ?_; cases q <;> (try simp [hlt, h5] at hq) <;> (try (have hh : True := hq; clear hh hq)))))
        | refine TX.rs (fun _ => false) fun K hK => ?_
        | refine TX.cond rfl (fun hcnd => absurd hcnd (by decide)) (fun hcnd => ?_)
        | refine TX.seq ?_
        | refine TX.exit ?_
        | refine EX.thenN ?_
        | refine EX.thenE ?_
        | refine EX.blockE ?_
        | refine EX.outE ?_
      all_goals (
        refine TX.ret ?_
        repeat' first | refine EX.outR ?_ | refine EX.thenR ?_ | refine EX.blockR ?_ | refine EX.unrR ?_
        apply EX.drA (ks := [])
        case he => exact Or.inr rfl
        case hys => simp [resAs, getAs, Try.results60] <;> rfl
        case hv => first | (dsimp only [Av.one]; exact rfl) | dsimp only [Av.one]
        case hx => repeat' first | exact IsT2.var _ | exact IsV.tmv _ | exact IsTm.var _ | exact IsTy.row _ | exact IsTm.row _ | exact IsTys.nil | exact IsTms.nil | exact IsBds.nil | exact IsTys.map _ | exact IsTms.map _ | exact IsBds.map _ | exact IsV.int _ | exact IsV.str _ | exact IsV.bool _ | apply IsV.p2 | apply IsV.p3 | apply IsV.tm | apply IsV.ty | apply IsTm.node | apply IsTy.of | apply IsTys.cons | apply IsTms.cons | apply IsBds.cons | apply IsV.tys | apply IsV.tms | apply IsV.bds | apply IsT2.node | apply IsTys.app | apply IsTms.app | apply IsBds.app
        case hA => exact rfl
        case hks => simp
        case hV => exact rfl
        case h1 => omega
        case h2 => omega
        case hg => omega)

theorem DrawTermPrecise_ok (b : List Int) (hb : ∀ n ∈ b, 0 ≤ n ∧ n ≤ 255) : Some_ Try.prog 25 [.l (rB b)] (RV (aP aTm aTm) noA fun x => nTm x.1 ≤ 3000000 ∧ nTm x.2 ≤ 3000000) := by
  obtain ⟨b, p, hb, hp, hc⟩ := l18Open_ok b hb
  refine Some_.of_body Try.func25 (by kernel_rfl) rfl (by kernel_rfl) (by simp [Try.ntmps25]) ?_
  rw [Try.ntmps25]
  repeat' first
    | ((first | refine aops_end (hK _ ?_) | refine aopsF_end (hK _ ?_)); clear hK K)
    | ((first | refine aops_go ?_ | refine aopsF_go ?_); simp; (try simp (disch := omega) only [wrap64]); (try (refine gen fun q hq => ?_; cases q <;> (try simp at hq) <;> (try (have hh : True := hq; clear hh hq)))))
    | (refine wpcall_dr 2 rfl rfl (pick_ok b hb _ (by omega) 4 (by omega)) (fun x1 p1 hx1 hp1 hp1' => ?_); simp; (try simp (disch := omega) only [wrap64]); (try (refine gen fun q hq => ?_; cases q <;> (try simp at hq) <;> (try (have hh : True := hq; clear hh hq)))))
    | (refine wpcall_dr 2 rfl rfl (l3Typed_ok b hb _ (by omega)) (fun x1 p1 hx1 hp1 hp1' => ?_); simp; (try simp (disch := omega) only [wrap64]); (try (refine gen fun q hq => ?_; cases q <;> (try simp at hq) <;> (try (have hh : True := hq; clear hh hq)))))
    | (refine wpcall_dr 2 rfl rfl (l3Blur_ok b hb _ (by omega) _ (by omega)) (fun x1 p1 hx1 hp1 hp1' => ?_); simp; (try simp (disch := omega) only [wrap64]); (try (refine gen fun q hq => ?_; cases q <;> (try simp at hq) <;> (try (have hh : True := hq; clear hh hq)))))
    | (refine wpcall_dr 2 rfl rfl (l2Mutate_ok b hb _ (by omega) _ (by omega)) (fun x1 p1 hx1 hp1 hp1' => ?_); simp; (try simp (disch := omega) only [wrap64]); (try (refine gen fun q hq => ?_; cases q <;> (try simp at hq) <;> (try (have hh : True := hq; clear hh hq)))))
    | (refine wpcall_new1 rfl hc ?_; simp [back])
    | refine TX.rdF (id := 5) mixed (fun _ => false) [2, 3, 4] [0] 3 [2, 0] (by kernel_rfl) fun K hK => ?_
    | refine TX.rdF (id := 7) mixed (fun _ => false) [2, 4, 5] [3] 5 [2, 0] (by kernel_rfl) fun K hK => ?_
    | refine TX.rdF (id := 8) mixed (fun _ => false) [2, 5, 6, 7] [4] 3 [2, 0] (by kernel_rfl) fun K hK => ?_
    | refine TX.rs (fun _ => false) fun K hK => ?_
    | refine TX.cond rfl (fun hcnd => ?_) (fun hcnd => absurd hcnd (by decide))
    | refine TX.cond rfl (fun hcnd => absurd hcnd (by decide)) (fun hcnd => ?_)
    | refine TX.seq ?_
    | refine TX.block ?_
    | refine TX.skip ?_
    | refine EX.thenN ?_
    | refine EX.blockN ?_
  all_goals (
    refine TX.ret ?_
    repeat' first | refine EX.outR ?_ | refine EX.thenR ?_ | refine EX.blockR ?_ | refine EX.unrR ?_
    apply EX.someA (ks := [])
    case he => exact Or.inr rfl
    case hys => simp [resAs, getAs, Try.results25] <;> rfl
    case hv => first | (dsimp only [Av.one]; exact rfl) | dsimp only [Av.one]
    case hx => repeat' first | exact IsT2.var _ | exact IsV.tmv _ | exact IsTm.var _ | exact IsTy.row _ | exact IsTm.row _ | exact IsTys.nil | exact IsTms.nil | exact IsBds.nil | exact IsTys.map _ | exact IsTms.map _ | exact IsBds.map _ | exact IsV.int _ | exact IsV.str _ | exact IsV.bool _ | apply IsV.p2 | apply IsV.p3 | apply IsV.tm | apply IsV.ty | apply IsTm.node | apply IsTy.of | apply IsTys.cons | apply IsTms.cons | apply IsBds.cons | apply IsV.tys | apply IsV.tms | apply IsV.bds | apply IsT2.node | apply IsTys.app | apply IsTms.app | apply IsBds.app
    case hA => exact rfl
    case hks => simp
    case hg => exact ⟨by dsimp only; omega, by dsimp only; omega⟩)
end Go.Proofs.Ytiffndccihaopaa

namespace Go.Proofs.Ytiffndccihaopaa
open Go Go.Av
attribute [local irreducible] T ACalls TX EX LX Draws Some_ ACallsX eTy eTm MTy.kind MTy.kids MTm.kind MTm.name MTm.num MTm.ty MTm.fr MTm.label MTm.kids
attribute [local simp] eTy_def eTm_def
set_option linter.unusedSimpArgs false
set_option linter.unusedVariables false
set_option maxHeartbeats 16000000
set_option maxRecDepth 8000

theorem gradual_of {a b : MTm} {t : MTy} (ht : typeInM [] a = some t) (ha : termValidM a = true) (hb : termValidM b = true) (h : alikeM precTy a b = true) : ∃ u, typeInM [] b = some u ∧ precTy t u = true ∧ shapeTy 4 t = true ∧ shapeTy 4 u = true := by
  obtain ⟨_, _, h3, h4, h5⟩ := typeIn_some ht
  have va := termValid_parts ha
  have vb := termValid_parts hb
  obtain ⟨u, h6, h7⟩ := typeM_gradual (AlV.of va vb h) va vb h4 h4 trivial h3
  have h8 : typeInM [] b = some u := by rw [typeIn_of rfl hb]; exact h6
  obtain ⟨_, _, _, _, h9⟩ := typeIn_some h8
  exact ⟨u, h8, h7, h5.shape, h9.shape⟩

theorem lawTypeGradual_ok (b : List Int) (hb : ∀ n ∈ b, 0 ≤ n ∧ n ≤ 255) : ACalls Try.prog 8 [.l (rB b)] [] (.b true) [] [] := by
  by_cases h1 : (1048576 : Int) < b.length
  · refine ACalls.of_body Try.func8 (by kernel_rfl) rfl (by kernel_rfl) (by simp [Try.ntmps8]) (by simp) ?_
    rw [Try.ntmps8]
    repeat' first
      | ((first | refine aops_end (hK _ ?_)); clear hK K)
      | ((first | refine aops_go ?_); simp [h1, rB_len]; (try (refine gen fun q hq => ?_; cases q <;> (try simp [h1, rB_len] at hq) <;> (try (have hh : True := hq; clear hh hq)))))
      | (refine T.ret (Done.data (Or.inr rfl) ?_ ?_) <;> simp [Try.results8] <;> omega)
      | refine T.rs (fun _ => false) fun K hK => ?_
      | refine T.cond rfl (fun hcnd => ?_) (fun hcnd => absurd hcnd (by decide))
      | refine T.seq ?_
  obtain ⟨⟨a, c⟩, ⟨ha, hc⟩, d1⟩ := (DrawTermPrecise_ok b hb).elim
  dsimp only at ha hc
  replace d1 : ACalls Try.prog 25 [.l (rB b)] [] (.tup [aTm a, aTm c]) [] [] := d1
  have k1 := TypeOf_ok a (by omega)
  have k2 := TypeOfS_ok a (by omega)
  have kz := TypeSame_ok zeroT zeroT (by simp [nTy_mk, nTyS])
  rw [sameTy_refl] at kz
  cases hr : typeInM [] a with
  | none =>
    rw [hr] at k1 k2
    simp only [tyRes] at k1 k2
    refine ACalls.of_body Try.func8 (by kernel_rfl) rfl (by kernel_rfl) (by simp [Try.ntmps8]) (by simp) ?_
    rw [Try.ntmps8]
    repeat' first
      | ((first | refine aops_end (hK _ ?_)); clear hK K)
      | ((first | refine aops_go ?_); simp [h1, rB_len]; (try (refine gen fun q hq => ?_; cases q <;> (try simp [h1, rB_len] at hq) <;> (try (have hh : True := hq; clear hh hq)))))
      | (refine wpcall_pure rfl (d1) ?_; simp [h1, rB_len]; (try (refine gen fun q hq => ?_; cases q <;> (try simp [h1, rB_len] at hq) <;> (try (have hh : True := hq; clear hh hq)))))
      | (refine wpcall_pure rfl (k1) ?_; simp [h1, rB_len]; (try (refine gen fun q hq => ?_; cases q <;> (try simp [h1, rB_len] at hq) <;> (try (have hh : True := hq; clear hh hq)))))
      | (refine wpcall_pure rfl (k2) ?_; simp [h1, rB_len]; (try (refine gen fun q hq => ?_; cases q <;> (try simp [h1, rB_len] at hq) <;> (try (have hh : True := hq; clear hh hq)))))
      | (refine wpcall_pure ?_ (kz) ?_; (focus (solve | simp [h1, rB_len])); simp [h1, rB_len]; (try (refine gen fun q hq => ?_; cases q <;> (try simp [h1, rB_len] at hq) <;> (try (have hh : True := hq; clear hh hq)))))
      | (refine T.ret (Done.data (Or.inr rfl) ?_ ?_) <;> simp [Try.results8] <;> omega)
      | refine T.rs (fun _ => false) fun K hK => ?_
      | refine T.cond rfl (fun hcnd => ?_) (fun hcnd => absurd hcnd (by decide))
      | refine T.cond rfl (fun hcnd => absurd hcnd (by decide)) (fun hcnd => ?_)
      | refine T.seq ?_
      | refine T.skip ?_
  | some t =>
    obtain ⟨_, _, _, _, htv⟩ := typeIn_some hr
    have st := shape4 htv.shape
    have k7 := TypeSame_ok t t (by omega)
    rw [sameTy_refl] at k7
    have k4 := TermPrecise_ok a c (by omega) (by omega)
    rw [hr] at k1 k2
    simp only [tyRes] at k1 k2
    cases hq : (termValidM a && termValidM c && alikeM precTy a c) with
    | false =>
      rw [hq] at k4
      refine ACalls.of_body Try.func8 (by kernel_rfl) rfl (by kernel_rfl) (by simp [Try.ntmps8]) (by simp) ?_
      rw [Try.ntmps8]
      repeat' first
        | ((first | refine aops_end (hK _ ?_)); clear hK K)
        | ((first | refine aops_go ?_); simp [h1, rB_len]; (try (refine gen fun q hq => ?_; cases q <;> (try simp [h1, rB_len] at hq) <;> (try (have hh : True := hq; clear hh hq)))))
        | (refine wpcall_pure rfl (d1) ?_; simp [h1, rB_len]; (try (refine gen fun q hq => ?_; cases q <;> (try simp [h1, rB_len] at hq) <;> (try (have hh : True := hq; clear hh hq)))))
        | (refine wpcall_pure rfl (k1) ?_; simp [h1, rB_len]; (try (refine gen fun q hq => ?_; cases q <;> (try simp [h1, rB_len] at hq) <;> (try (have hh : True := hq; clear hh hq)))))
        | (refine wpcall_pure rfl (k2) ?_; simp [h1, rB_len]; (try (refine gen fun q hq => ?_; cases q <;> (try simp [h1, rB_len] at hq) <;> (try (have hh : True := hq; clear hh hq)))))
        | (refine wpcall_pure rfl (k7) ?_; simp [h1, rB_len]; (try (refine gen fun q hq => ?_; cases q <;> (try simp [h1, rB_len] at hq) <;> (try (have hh : True := hq; clear hh hq)))))
        | (refine wpcall_pure rfl (k4) ?_; simp [h1, rB_len]; (try (refine gen fun q hq => ?_; cases q <;> (try simp [h1, rB_len] at hq) <;> (try (have hh : True := hq; clear hh hq)))))
        | (refine T.ret (Done.data (Or.inr rfl) ?_ ?_) <;> simp [Try.results8] <;> omega)
        | refine T.rs (fun _ => false) fun K hK => ?_
        | refine T.cond rfl (fun hcnd => ?_) (fun hcnd => absurd hcnd (by decide))
        | refine T.cond rfl (fun hcnd => absurd hcnd (by decide)) (fun hcnd => ?_)
        | refine T.seq ?_
        | refine T.skip ?_
    | true =>
      rw [hq] at k4
      simp only [Bool.and_eq_true] at hq
      obtain ⟨u, hu, hp, s1, s2⟩ := gradual_of hr hq.1.1 hq.1.2 hq.2
      have su := shape4 s2
      have k5 := TypeOf_ok c (by omega)
      have k6 := Precise_ok t u (by omega) (by omega)
      rw [hu] at k5
      rw [s1, s2, hp] at k6
      simp only [tyRes] at k5
      refine ACalls.of_body Try.func8 (by kernel_rfl) rfl (by kernel_rfl) (by simp [Try.ntmps8]) (by simp) ?_
      rw [Try.ntmps8]
      repeat' first
        | ((first | refine aops_end (hK _ ?_)); clear hK K)
        | ((first | refine aops_go ?_); simp [h1, rB_len]; (try (refine gen fun q hq => ?_; cases q <;> (try simp [h1, rB_len] at hq) <;> (try (have hh : True := hq; clear hh hq)))))
        | (refine wpcall_pure rfl (d1) ?_; simp [h1, rB_len]; (try (refine gen fun q hq => ?_; cases q <;> (try simp [h1, rB_len] at hq) <;> (try (have hh : True := hq; clear hh hq)))))
        | (refine wpcall_pure rfl (k1) ?_; simp [h1, rB_len]; (try (refine gen fun q hq => ?_; cases q <;> (try simp [h1, rB_len] at hq) <;> (try (have hh : True := hq; clear hh hq)))))
        | (refine wpcall_pure rfl (k2) ?_; simp [h1, rB_len]; (try (refine gen fun q hq => ?_; cases q <;> (try simp [h1, rB_len] at hq) <;> (try (have hh : True := hq; clear hh hq)))))
        | (refine wpcall_pure rfl (k7) ?_; simp [h1, rB_len]; (try (refine gen fun q hq => ?_; cases q <;> (try simp [h1, rB_len] at hq) <;> (try (have hh : True := hq; clear hh hq)))))
        | (refine wpcall_pure rfl (k4) ?_; simp [h1, rB_len]; (try (refine gen fun q hq => ?_; cases q <;> (try simp [h1, rB_len] at hq) <;> (try (have hh : True := hq; clear hh hq)))))
        | (refine wpcall_pure rfl (k5) ?_; simp [h1, rB_len]; (try (refine gen fun q hq => ?_; cases q <;> (try simp [h1, rB_len] at hq) <;> (try (have hh : True := hq; clear hh hq)))))
        | (refine wpcall_pure ?_ (k6) ?_; (focus (solve | simp [h1, rB_len])); simp [h1, rB_len]; (try (refine gen fun q hq => ?_; cases q <;> (try simp [h1, rB_len] at hq) <;> (try (have hh : True := hq; clear hh hq)))))
        | (refine T.ret (Done.data (Or.inr rfl) ?_ ?_) <;> simp [Try.results8] <;> omega)
        | refine T.rs (fun _ => false) fun K hK => ?_
        | refine T.cond rfl (fun hcnd => absurd hcnd (by decide)) (fun hcnd => ?_)
        | refine T.seq ?_
        | refine T.skip ?_
end Go.Proofs.Ytiffndccihaopaa

namespace Go.Proofs.Ytiffndccihaopaa
attribute [-simp] Go.Av.innAsH Go.Av.AV.innH Go.Av.CV.innH Go.Av.innHs Go.Av.AV.outnH Go.Av.CV.outnH
open Go Go.Av
attribute [local irreducible] T ACalls TX EX LX Draws Some_ ACallsX eTy eTm MTy.kind MTy.kids MTm.kind MTm.name MTm.num MTm.ty MTm.fr MTm.label MTm.kids
attribute [local simp] eTy_def eTm_def
set_option linter.unusedSimpArgs false
set_option linter.unusedVariables false
set_option maxHeartbeats 16000000
set_option maxRecDepth 8000

theorem DrawSubstTerm_ok (b : List Int) (hb : ∀ n ∈ b, 0 ≤ n ∧ n ≤ 255) : Some_ Try.prog 33 [.l (rB b)] (RV (fun x : MTm × List UInt8 × MTm => .tup [aTm x.1, .s x.2.1, aTm x.2.2]) noA fun x => nTm x.1 ≤ 3000000 ∧ nTm x.2.2 ≤ 3000000) := by
  obtain ⟨b, p, hb, hp, hc⟩ := l18Open_ok b hb
  refine Some_.of_body Try.func33 (by kernel_rfl) rfl (by kernel_rfl) (by simp [Try.ntmps33]) ?_
  rw [Try.ntmps33]
  repeat' first
    | ((first | refine aops_end (hK _ ?_) | refine aopsF_end (hK _ ?_)); clear hK K)
    | ((first | refine aops_go ?_ | refine aopsF_go ?_); simp; (try simp (disch := omega) only [wrap64]); (try (refine gen fun q hq => ?_; cases q <;> (try simp at hq) <;> (try (have hh : True := hq; clear hh hq)))))
    | (refine wpcall_dr 2 rfl rfl (num_ok b hb _ (by omega) [3, 2, 4, 3] (by simp) (by simp)) (fun x p1 hx hp1 hp1' => ?_); simp at hx; (have hx2 : x = 3 ∨ x = 2 ∨ x = 4 := by omega); clear hx; rcases hx2 with rfl | rfl | rfl <;> (simp; (try simp (disch := omega) only [wrap64])))
    | (refine wpcall_dr 2 rfl rfl (num_ok b hb _ (by omega) [1, 2, 1, 3] (by simp) (by simp)) (fun x p1 hx hp1 hp1' => ?_); simp at hx; (have hx2 : x = 1 ∨ x = 2 ∨ x = 3 := by omega); clear hx; rcases hx2 with rfl | rfl | rfl <;> (simp; (try simp (disch := omega) only [wrap64])))
    | (refine wpcall_dr 2 rfl rfl (l2Draw_ok b hb 4 [120, 122] _ (by omega) (by simp) (by omega)) (fun x1 p1 hx1 hp1 hp1' => ?_); simp; (try simp (disch := omega) only [wrap64]); (try (refine gen fun q hq => ?_; cases q <;> (try simp at hq) <;> (try (have hh : True := hq; clear hh hq)))))
    | (refine wpcall_dr 2 rfl rfl (l2Draw_ok b hb 3 [120, 122] _ (by omega) (by simp) (by omega)) (fun x1 p1 hx1 hp1 hp1' => ?_); simp; (try simp (disch := omega) only [wrap64]); (try (refine gen fun q hq => ?_; cases q <;> (try simp at hq) <;> (try (have hh : True := hq; clear hh hq)))))
    | (refine wpcall_dr 2 rfl rfl (l2Draw_ok b hb 2 [120, 122] _ (by omega) (by simp) (by omega)) (fun x1 p1 hx1 hp1 hp1' => ?_); simp; (try simp (disch := omega) only [wrap64]); (try (refine gen fun q hq => ?_; cases q <;> (try simp at hq) <;> (try (have hh : True := hq; clear hh hq)))))
    | (refine wpcall_dr 2 rfl rfl (l2Draw_ok b hb 1 [] _ (by omega) (by simp) (by omega)) (fun x1 p1 hx1 hp1 hp1' => ?_); simp; (try simp (disch := omega) only [wrap64]); (try (refine gen fun q hq => ?_; cases q <;> (try simp at hq) <;> (try (have hh : True := hq; clear hh hq)))))
    | (refine wpcall_dr 2 rfl rfl (l2Draw_ok b hb 2 [] _ (by omega) (by simp) (by omega)) (fun x1 p1 hx1 hp1 hp1' => ?_); simp; (try simp (disch := omega) only [wrap64]); (try (refine gen fun q hq => ?_; cases q <;> (try simp at hq) <;> (try (have hh : True := hq; clear hh hq)))))
    | (refine wpcall_dr 2 rfl rfl (l2Draw_ok b hb 3 [] _ (by omega) (by simp) (by omega)) (fun x1 p1 hx1 hp1 hp1' => ?_); simp; (try simp (disch := omega) only [wrap64]); (try (refine gen fun q hq => ?_; cases q <;> (try simp at hq) <;> (try (have hh : True := hq; clear hh hq)))))
    | (refine wpcall_dr 2 rfl rfl (pick_ok b hb _ (by omega) 12 (by omega)) (fun x1 p1 hx1 hp1 hp1' => ?_); simp; (try simp (disch := omega) only [wrap64]); (try (refine gen fun q hq => ?_; cases q <;> (try simp at hq) <;> (try (have hh : True := hq; clear hh hq)))))
    | (refine wpcall_dr 2 rfl rfl (l2Term_ok b hb _ (by omega)) (fun x1 p1 hx1 hp1 hp1' => ?_); simp; (try simp (disch := omega) only [wrap64]); (try (refine gen fun q hq => ?_; cases q <;> (try simp at hq) <;> (try (have hh : True := hq; clear hh hq)))))
    | (refine wpcall_dr 2 rfl rfl (l2Mutate_ok b hb _ (by omega) _ (by omega)) (fun x1 p1 hx1 hp1 hp1' => ?_); simp; (try simp (disch := omega) only [wrap64]); (try (refine gen fun q hq => ?_; cases q <;> (try simp at hq) <;> (try (have hh : True := hq; clear hh hq)))))
    | (refine wpcall_new1 rfl hc ?_; simp [back])
    | (refine wpcall_dr 2 rfl rfl (of_ok b hb _ (by omega) [[120], [122], [121], [120], [88], []] (by simp) (by simp)) (fun s p2 hs hp2 hp2' => ?_); simp)
    | refine TX.rdF (id := 6) mixed (fun _ => false) [2, 5, 7, 9] [4, 6] 8 [2, 0, 1] (by kernel_rfl) fun K hK => ?_
    | refine TX.rs (fun _ => false) fun K hK => ?_
    | refine TX.rs1 (fun _ => false) fun K hK => ?_
    | refine TX.cond rfl (fun hcnd => ?_) (fun hcnd => absurd hcnd (by decide))
    | refine TX.cond rfl (fun hcnd => absurd hcnd (by decide)) (fun hcnd => ?_)
    | refine TX.seq ?_
    | refine TX.skip ?_
    | refine EX.thenN ?_
  all_goals (
    refine TX.ret ?_
    repeat' first | refine EX.outR ?_ | refine EX.thenR ?_ | refine EX.blockR ?_ | refine EX.unrR ?_
    apply EX.someA (ks := [])
    case he => exact Or.inr rfl
    case hys => simp [resAs, getAs, Try.results33] <;> rfl
    case hv => first | (dsimp only [Av.one]; exact rfl) | dsimp only [Av.one]
    case hx => repeat' first | exact IsT2.var _ | exact IsV.tmv _ | exact IsTm.var _ | exact IsTy.row _ | exact IsTm.row _ | exact IsTys.nil | exact IsTms.nil | exact IsBds.nil | exact IsTys.map _ | exact IsTms.map _ | exact IsBds.map _ | exact IsV.int _ | exact IsV.str _ | exact IsV.bool _ | apply IsV.p2 | apply IsV.p3 | apply IsV.tm | apply IsV.ty | apply IsTm.node | apply IsTy.of | apply IsTys.cons | apply IsTms.cons | apply IsBds.cons | apply IsV.tys | apply IsV.tms | apply IsV.bds | apply IsT2.node | apply IsTys.app | apply IsTms.app | apply IsBds.app
    case hA => exact rfl
    case hks => simp
    case hg => exact ⟨by dsimp only; omega, by dsimp only; omega⟩)
end Go.Proofs.Ytiffndccihaopaa
