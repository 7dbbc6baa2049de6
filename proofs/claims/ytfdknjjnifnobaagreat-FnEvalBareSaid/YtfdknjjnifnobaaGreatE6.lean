/- A part of the library of this seat: a value-semantic program logic over the model, plain models, and walks of functions. -/
import Derived.Test.YtfdknjjnifnobaaGreatE5
set_option linter.unusedVariables false
set_option linter.unusedSimpArgs false
namespace Go.Proofs.YtfdknjjnifnobaaGreat
attribute [-simp] Go.Av.keepL Go.Av.ups Go.Av.take_app_len Go.Av.innVs Go.Av.putBack Go.Av.objCells Go.Av.back Go.Av.resVs Go.Av.one
open Go Go.Av
attribute [local irreducible] T ACalls eTy eTm MTy.kind MTy.kids MTm.kind MTm.name MTm.num MTm.ty MTm.fr MTm.label MTm.kids
attribute [local simp] eTy_def eTm_def
set_option linter.unusedSimpArgs false
set_option linter.unusedVariables false
set_option maxHeartbeats 4000000

/-- What l3Type answers. -/
def L3T (ctx : List MBd) (e : MTm) : Prop := ∃ t', (∀ t, typeM ctx e = some t → t' = t) ∧ ACalls Tryz.prog 156 [.l (ctx.map eBd), aTm e] [] (.tup [aTy t', .b (typeM ctx e).isSome]) [] []

theorem l3Type_leaf (ctx : List MBd) (e : MTm) (hl : ctx.length ≤ 1099511627776) (hc : okCtx ctx) (hlen : kidsM e.kind = e.kids.length) (hk : e.kind = 1 ∨ e.kind = 2 ∨ e.kind = 3 ∨ e.kind = 4) : L3T ctx e := by
  have hnil : e.kids = [] := by
    have : e.kids.length = 0 := by
      rcases hk with h | h | h | h <;> rw [h] at hlen <;> simp [kidsM] at hlen <;> omega
    exact List.eq_nil_of_length_eq_zero this
  have ht : typeM ctx e = nodeTy ctx e.kind e.name e.ty [] := by rw [typeM_def, hnil]; simp [typeMS]
  simp only [L3T, ht]
  have h3 := l3Int_ok
  have h4 := l3Bool_ok
  rcases hk with h | h | h | h
  · have hlk := l3Look_ok ctx e.name hl (fun b hb => by have := shape4 (hc b hb); omega)
    rw [show nodeTy ctx e.kind e.name e.ty [] = lookM ctx e.name by simp [nodeTy, h]]
    cases hr : lookM ctx e.name with
    | none =>
      rw [hr] at hlk
      refine ⟨zeroT, by simp, ?_⟩
      dsimp only at hlk ⊢
      refine ACalls.of_body Tryz.func156 (by kernel_rfl) rfl (by kernel_rfl) (by simp [Tryz.ntmps156]) (by simp) ?_
      rw [Tryz.ntmps156]
      repeat' first
        | ((first | refine aops_end (hK _ ?_)); clear hK K)
        | ((first | refine aops_go ?_); simp [h]; (try (refine gen fun q hq => ?_; cases q <;> (try simp [h] at hq) <;> (try (have hh : True := hq; clear hh hq)))))
        | (refine wpcall_pure rfl (hlk) ?_; simp [h]; (try (refine gen fun q hq => ?_; cases q <;> (try simp [h] at hq) <;> (try (have hh : True := hq; clear hh hq)))))
        | (refine T.ret (Done.tup (Or.inr rfl) ?_) <;> simp [resAs, Tryz.results156] <;> omega)
        | refine T.rs (fun _ => false) fun K hK => ?_
        | refine T.cond rfl (fun hcnd => ?_) (fun hcnd => absurd hcnd (by decide))
        | refine T.seq ?_
        | refine T.block ?_
    | some t =>
      rw [hr] at hlk
      refine ⟨t, by simp, ?_⟩
      dsimp only at hlk ⊢
      refine ACalls.of_body Tryz.func156 (by kernel_rfl) rfl (by kernel_rfl) (by simp [Tryz.ntmps156]) (by simp) ?_
      rw [Tryz.ntmps156]
      repeat' first
        | ((first | refine aops_end (hK _ ?_)); clear hK K)
        | ((first | refine aops_go ?_); simp [h]; (try (refine gen fun q hq => ?_; cases q <;> (try simp [h] at hq) <;> (try (have hh : True := hq; clear hh hq)))))
        | (refine wpcall_pure rfl (hlk) ?_; simp [h]; (try (refine gen fun q hq => ?_; cases q <;> (try simp [h] at hq) <;> (try (have hh : True := hq; clear hh hq)))))
        | (refine T.ret (Done.tup (Or.inr rfl) ?_) <;> simp [resAs, Tryz.results156] <;> omega)
        | refine T.rs (fun _ => false) fun K hK => ?_
        | refine T.cond rfl (fun hcnd => ?_) (fun hcnd => absurd hcnd (by decide))
        | refine T.seq ?_
        | refine T.block ?_
  · refine ⟨intT, by simp [nodeTy, h], ?_⟩
    rw [show (nodeTy ctx e.kind e.name e.ty []).isSome = true by simp [nodeTy, h]]
    refine ACalls.of_body Tryz.func156 (by kernel_rfl) rfl (by kernel_rfl) (by simp [Tryz.ntmps156]) (by simp) ?_
    rw [Tryz.ntmps156]
    repeat' first
      | ((first | refine aops_end (hK _ ?_)); clear hK K)
      | ((first | refine aops_go ?_); simp [h]; (try (refine gen fun q hq => ?_; cases q <;> (try simp [h] at hq) <;> (try (have hh : True := hq; clear hh hq)))))
      | (refine wpcall_pure rfl (h3) ?_; simp [h]; (try (refine gen fun q hq => ?_; cases q <;> (try simp [h] at hq) <;> (try (have hh : True := hq; clear hh hq)))))
      | (refine T.ret (Done.tup (Or.inr rfl) ?_) <;> simp [resAs, Tryz.results156] <;> omega)
      | refine T.rs (fun _ => false) fun K hK => ?_
      | refine T.cond rfl (fun hcnd => ?_) (fun hcnd => absurd hcnd (by decide))
      | refine T.cond rfl (fun hcnd => absurd hcnd (by decide)) (fun hcnd => ?_)
      | refine T.seq ?_
      | refine T.block ?_
  · refine ⟨boolT, by simp [nodeTy, h], ?_⟩
    rw [show (nodeTy ctx e.kind e.name e.ty []).isSome = true by simp [nodeTy, h]]
    refine ACalls.of_body Tryz.func156 (by kernel_rfl) rfl (by kernel_rfl) (by simp [Tryz.ntmps156]) (by simp) ?_
    rw [Tryz.ntmps156]
    repeat' first
      | ((first | refine aops_end (hK _ ?_)); clear hK K)
      | ((first | refine aops_go ?_); simp [h]; (try (refine gen fun q hq => ?_; cases q <;> (try simp [h] at hq) <;> (try (have hh : True := hq; clear hh hq)))))
      | (refine wpcall_pure rfl (h4) ?_; simp [h]; (try (refine gen fun q hq => ?_; cases q <;> (try simp [h] at hq) <;> (try (have hh : True := hq; clear hh hq)))))
      | (refine T.ret (Done.tup (Or.inr rfl) ?_) <;> simp [resAs, Tryz.results156] <;> omega)
      | refine T.rs (fun _ => false) fun K hK => ?_
      | refine T.cond rfl (fun hcnd => ?_) (fun hcnd => absurd hcnd (by decide))
      | refine T.cond rfl (fun hcnd => absurd hcnd (by decide)) (fun hcnd => ?_)
      | refine T.seq ?_
      | refine T.block ?_
      | refine T.skip ?_
  · refine ⟨boolT, by simp [nodeTy, h], ?_⟩
    rw [show (nodeTy ctx e.kind e.name e.ty []).isSome = true by simp [nodeTy, h]]
    refine ACalls.of_body Tryz.func156 (by kernel_rfl) rfl (by kernel_rfl) (by simp [Tryz.ntmps156]) (by simp) ?_
    rw [Tryz.ntmps156]
    repeat' first
      | ((first | refine aops_end (hK _ ?_)); clear hK K)
      | ((first | refine aops_go ?_); simp [h]; (try (refine gen fun q hq => ?_; cases q <;> (try simp [h] at hq) <;> (try (have hh : True := hq; clear hh hq)))))
      | (refine wpcall_pure rfl (h4) ?_; simp [h]; (try (refine gen fun q hq => ?_; cases q <;> (try simp [h] at hq) <;> (try (have hh : True := hq; clear hh hq)))))
      | (refine T.ret (Done.tup (Or.inr rfl) ?_) <;> simp [resAs, Tryz.results156] <;> omega)
      | refine T.rs (fun _ => false) fun K hK => ?_
      | refine T.rs1 (fun _ => false) fun K hK => ?_
      | refine T.cond rfl (fun hcnd => ?_) (fun hcnd => absurd hcnd (by decide))
      | refine T.cond rfl (fun hcnd => absurd hcnd (by decide)) (fun hcnd => ?_)
      | refine T.seq ?_
      | refine T.block ?_

theorem l3Type_lam (ctx : List MBd) (e b : MTm) (hl : ctx.length ≤ 1099511627776) (hk : e.kind = 5) (hb : e.kids = [b]) (hty : shapeTy 4 e.ty = true)
    (hs : ∀ t, typeM (ctx ++ [MBd.mk e.name e.ty]) b = some t → shapeTy 4 t = true) (ih : L3T (ctx ++ [MBd.mk e.name e.ty]) b) : L3T ctx e := by
  have ht : typeM ctx e = match typeM (ctx ++ [MBd.mk e.name e.ty]) b with | some t => twoM 4 e.ty t | none => none := by
    rw [typeM_def, hb]
    simp only [insideM, hk, typeMS, if_true]
    cases typeM (ctx ++ [MBd.mk e.name e.ty]) b with
    | none => rfl
    | some t => simp [nodeTy]
  obtain ⟨t', h1, h2⟩ := ih
  have hm := l3More_ok ctx e.name e.ty hl
  generalize ctx ++ [MBd.mk e.name e.ty] = ctx' at *
  simp only [L3T, ht]
  cases hr : typeM ctx' b with
  | none =>
    rw [hr] at h2
    refine ⟨zeroT, by simp, ?_⟩
    dsimp only [Option.isSome] at h2 ⊢
    refine ACalls.of_body Tryz.func156 (by kernel_rfl) rfl (by kernel_rfl) (by simp [Tryz.ntmps156]) (by simp) ?_
    rw [Tryz.ntmps156]
    repeat' first
      | ((first | refine aops_end (hK _ ?_) | refine aopsF_end (hK _ ?_)); clear hK K)
      | ((first | refine aops_go ?_ | refine aopsF_go ?_); simp [hk, hb]; (try (refine gen fun q hq => ?_; cases q <;> (try simp [hk, hb] at hq) <;> (try (have hh : True := hq; clear hh hq)))))
      | (refine wpcall_pure rfl (hm) ?_; simp [hk, hb]; (try (refine gen fun q hq => ?_; cases q <;> (try simp [hk, hb] at hq) <;> (try (have hh : True := hq; clear hh hq)))))
      | (refine wpcall_pure rfl (h2) ?_; simp [hk, hb]; (try (refine gen fun q hq => ?_; cases q <;> (try simp [hk, hb] at hq) <;> (try (have hh : True := hq; clear hh hq)))))
      | (refine T.ret (Done.tup (Or.inr rfl) ?_) <;> simp [resAs, Tryz.results156] <;> omega)
      | refine T.rdF (id := 10) mixed (fun _ => false) [14, 15] [2, 4, 5, 7, 8, 9, 10] 15 [] (by kernel_rfl) fun K hK => ?_
      | (refine ⟨?_, ?_⟩; (focus (intros; refine wpcall_pure rfl (hm) ?_; simp; done)))
      | (refine ⟨?_, ?_⟩; (focus (intros; refine wpcall_pure rfl (h2) ?_; simp; done)))
      | refine T.rs (fun _ => false) fun K hK => ?_
      | refine T.rs1 (fun _ => false) fun K hK => ?_
      | refine T.cond rfl (fun hcnd => ?_) (fun hcnd => absurd hcnd (by decide))
      | refine T.cond rfl (fun hcnd => absurd hcnd (by decide)) (fun hcnd => ?_)
      | refine T.seq ?_
      | refine T.block ?_
  | some t =>
    rw [hr] at h2
    obtain rfl := h1 t hr
    have htw := l3Two_ok 4 e.ty t' (by have := shape4 hty; omega) (by have := shape4 (hs t' hr); omega)
    refine ⟨.mk 4 [e.ty, t'], ?_, ?_⟩
    · intro u h; simp only [twoM] at h; split at h <;> simp at h; exact h
    simp only [Option.isSome_some] at h2
    dsimp only
    rw [show (twoM 4 e.ty t').isSome = shapeTy 4 (.mk 4 [e.ty, t']) by simp only [twoM]; split <;> simp [*]]
    generalize shapeTy 4 (.mk 4 [e.ty, t']) = c at htw
    refine ACalls.of_body Tryz.func156 (by kernel_rfl) rfl (by kernel_rfl) (by simp [Tryz.ntmps156]) (by simp) ?_
    rw [Tryz.ntmps156]
    repeat' first
      | ((first | refine aops_end (hK _ ?_) | refine aopsF_end (hK _ ?_)); clear hK K)
      | ((first | refine aops_go ?_ | refine aopsF_go ?_); simp [hk, hb]; (try (refine gen fun q hq => ?_; cases q <;> (try simp [hk, hb] at hq) <;> (try (have hh : True := hq; clear hh hq)))))
      | (refine wpcall_pure rfl (hm) ?_; simp [hk, hb]; (try (refine gen fun q hq => ?_; cases q <;> (try simp [hk, hb] at hq) <;> (try (have hh : True := hq; clear hh hq)))))
      | (refine wpcall_pure rfl (h2) ?_; simp [hk, hb]; (try (refine gen fun q hq => ?_; cases q <;> (try simp [hk, hb] at hq) <;> (try (have hh : True := hq; clear hh hq)))))
      | (refine wpcall_pure rfl (htw) ?_; simp [hk, hb]; (try (refine gen fun q hq => ?_; cases q <;> (try simp [hk, hb] at hq) <;> (try (have hh : True := hq; clear hh hq)))))
      | (refine T.ret (Done.tup (Or.inr rfl) ?_) <;> simp [resAs, Tryz.results156, eTy_def] <;> omega)
      | refine T.rdF (id := 10) mixed (fun _ => false) [14, 15] [2, 4, 5, 7, 8, 9, 10] 15 [] (by kernel_rfl) fun K hK => ?_
      | (refine ⟨?_, ?_⟩; (focus (intros; refine wpcall_pure rfl (hm) ?_; simp; done)))
      | (refine ⟨?_, ?_⟩; (focus (intros; refine wpcall_pure rfl (h2) ?_; simp; done)))
      | refine T.rs (fun _ => false) fun K hK => ?_
      | refine T.rs1 (fun _ => false) fun K hK => ?_
      | refine T.cond rfl (fun hcnd => ?_) (fun hcnd => absurd hcnd (by decide))
      | refine T.cond rfl (fun hcnd => absurd hcnd (by decide)) (fun hcnd => ?_)
      | refine T.seq ?_
      | refine T.block ?_
      | refine T.skip ?_

theorem l3Type_loop (ctx : List MBd) (e : MTm) (R : Option (List MTy)) (t' : MTy) (ok : Bool) (hl : ctx.length ≤ 1099511627776) (hk : 5 < e.kind ∧ e.kind < 14) (hlen : e.kids.length ≤ 3) (hR : typeMS ctx e.kids = R)
    (hs : ∀ u ∈ e.kids, ∀ t, typeM ctx u = some t → shapeTy 4 t = true) (ih : ∀ u ∈ e.kids, L3T ctx u) (hnone : R = none → t' = zeroT ∧ ok = false)
    (hsome : ∀ ts, R = some ts → (∀ u ∈ ts, shapeTy 4 u = true) → ACalls Tryz.prog 201 [aTm e, .l (ts.map eTy)] [] (.tup [aTy t', .b ok]) [] []) :
    ACalls Tryz.prog 156 [.l (ctx.map eBd), aTm e] [] (.tup [aTy t', .b ok]) [] [] := by
  have hk1 : ¬ e.kind = 1 := by omega
  have hk2 : ¬ e.kind = 2 := by omega
  have hk3 : ¬ e.kind = 3 := by omega
  have hk4 : ¬ e.kind = 4 := by omega
  have hk5 : ¬ e.kind = 5 := by omega
  refine ACalls.of_body Tryz.func156 (by kernel_rfl) rfl (by kernel_rfl) (by simp [Tryz.ntmps156]) (by simp) ?_
  rw [Tryz.ntmps156]
  repeat' first
    | ((first | refine aops_end (hK _ ?_)); clear hK K)
    | ((first | refine aops_go ?_); simp [hk1, hk2, hk3, hk4, hk5]; (try (refine gen fun q hq => ?_; cases q <;> (try simp [hk1, hk2, hk3, hk4, hk5] at hq) <;> (try (have hh : True := hq; clear hh hq)))))
    | refine T.rs (id := 14) (fun i => i == 0) fun K hK => ?_
    | refine T.rs (id := 0) (fun _ => false) fun K hK => ?_
    | refine T.rs (id := 1) (fun _ => false) fun K hK => ?_
    | refine T.rs (id := 2) (fun _ => false) fun K hK => ?_
    | refine T.rs (id := 4) (fun _ => false) fun K hK => ?_
    | refine T.rs (id := 6) (fun _ => false) fun K hK => ?_
    | refine T.rs1 (id := 7) (fun _ => false) fun K hK => ?_
    | refine T.rs (id := 9) (fun _ => false) fun K hK => ?_
    | refine T.rs (id := 15) (fun _ => false) fun K hK => ?_
    | refine T.cond rfl (fun hcnd => absurd hcnd (by decide)) (fun hcnd => ?_)
    | refine T.seq ?_
    | refine T.block ?_
    | refine T.skip ?_
  refine T.loopF (fun x : Nat × List MTy × List (List CV) => ⟨[(0, .l (ctx.map eBd)), (3, .c (.ptr 0 0)), (4, .c (.ptr 1 0)), (8, .c (.own 0 x.1)), (9, .i x.1)], (aTm e).cells :: [.d (.i 0), .nil] :: x.2.2, [{ sz := 2, ety := 25, rows := x.2.1.map eTy, wr := true }]⟩) (fun x => e.kids.length + 1 - x.1) (fun x => x.1 ≤ e.kids.length ∧ x.2.1.length = x.1 ∧ (∀ u ∈ x.2.1, shapeTy 4 u = true) ∧ (typeMS ctx (e.kids.drop x.1)).map (x.2.1 ++ ·) = R) (fun x hx => ?_) (0, [], []) (by simp [hR]) (by simp)
  obtain ⟨p, ts, G⟩ := x
  obtain ⟨hi, hp, hsh, he⟩ := hx
  dsimp only at hi hp hsh he ⊢
  by_cases hlt : p < e.kids.length
  · obtain ⟨u, ht⟩ := get_lt hlt
    have htm : u ∈ e.kids := List.mem_of_getElem? ht
    have hgt : e.kids[p] = u := by rw [List.getElem?_eq_getElem hlt] at ht; exact Option.some.inj ht
    have hdr : e.kids.drop p = u :: e.kids.drop (p + 1) := by rw [List.drop_eq_getElem_cons hlt, hgt]
    obtain ⟨tu, h1, h2⟩ := ih u htm
    have hsu := hs u htm
    rw [hdr] at he
    simp only [typeMS] at he
    cases hb : typeM ctx u with
    | none =>
      rw [hb] at h2 he
      simp only [Option.isSome_none] at h2
      obtain ⟨rfl, rfl⟩ := hnone (by simpa using he.symm)
      repeat' first
        | ((first | refine aops_end (hK _ ?_)); clear hK K)
        | ((first | refine aops_go ?_); simp [hlt, hgt, hp]; (try simp (disch := omega) only [wrap64]); (try (refine gen fun q hq => ?_; cases q <;> (try simp [hlt, hgt, hp] at hq) <;> (try (have hh : True := hq; clear hh hq)))))
        | (refine wpcall_pure rfl (h2) ?_; simp [hlt, hgt, hp]; (try simp (disch := omega) only [wrap64]); (try (refine gen fun q hq => ?_; cases q <;> (try simp [hlt, hgt, hp] at hq) <;> (try (have hh : True := hq; clear hh hq)))))
        | (refine T.ret (Done.tup (Or.inr rfl) ?_) <;> simp [resAs, Tryz.results156] <;> omega)
        | refine T.rs (id := 16) (fun _ => false) fun K hK => ?_
        | refine T.rs (id := 18) (fun _ => false) fun K hK => ?_
        | refine T.rs (id := 19) (fun _ => false) fun K hK => ?_
        | refine T.rs (id := 20) (fun _ => false) fun K hK => ?_
        | refine T.cond rfl (fun hcnd => ?_) (fun hcnd => absurd hcnd (by decide))
        | refine T.seq ?_
        | refine T.block ?_
        | refine T.skip ?_
    | some t =>
      obtain rfl := h1 t hb
      rw [hb] at h2 he
      simp only [Option.isSome_some] at h2
      have he' : (typeMS ctx (e.kids.drop (p + 1))).map ((ts ++ [tu]) ++ ·) = R := by
        rw [← he]
        cases typeMS ctx (e.kids.drop (p + 1)) <;> simp
      have hsh' : ∀ v ∈ ts ++ [tu], shapeTy 4 v = true := fun v hv => by
        rcases List.mem_append.1 hv with h | h
        · exact hsh v h
        · simp at h; subst h; exact hsu _ hb
      repeat' first
        | ((first | refine aops_end (hK _ ?_)); clear hK K)
        | ((first | refine aops_go ?_); simp [hlt, hgt, hp]; (try simp (disch := omega) only [wrap64]); (try (refine gen fun q hq => ?_; cases q <;> (try simp [hlt, hgt, hp] at hq) <;> (try (have hh : True := hq; clear hh hq)))))
        | (refine wpcall_pure rfl (h2) ?_; simp [hlt, hgt, hp]; (try simp (disch := omega) only [wrap64]); (try (refine gen fun q hq => ?_; cases q <;> (try simp [hlt, hgt, hp] at hq) <;> (try (have hh : True := hq; clear hh hq)))))
        | (refine ⟨by omega, by omega, ?_⟩)
        | (refine ⟨(p + 1, ts ++ [tu], _), by dsimp only; omega, ⟨by dsimp only; omega, by simp [hp], hsh', he'⟩, rfl, ?_, ?_⟩ <;> simp (disch := omega) [wrap64, eTy_def])
        | refine T.rs (id := 16) (fun _ => false) fun K hK => ?_
        | refine T.rs (id := 18) (fun _ => false) fun K hK => ?_
        | refine T.rs (id := 19) (fun _ => false) fun K hK => ?_
        | refine T.rs1 (id := 21) (fun _ => false) fun K hK => ?_
        | refine T.rs1 (id := 17) (fun _ => false) fun K hK => ?_
        | refine T.cond rfl (fun hcnd => ?_) (fun hcnd => absurd hcnd (by decide))
        | refine T.cond rfl (fun hcnd => absurd hcnd (by decide)) (fun hcnd => ?_)
        | refine T.seq ?_
        | refine T.block ?_
        | refine T.skip ?_
  · have hp' : p = e.kids.length := by omega
    subst hp'
    simp [typeMS] at he
    have hres := hsome ts he.symm hsh
    repeat' first
      | ((first | refine aops_end (hK _ ?_)); clear hK K)
      | ((first | refine aops_go ?_); simp [hlt, hp]; (try (refine gen fun q hq => ?_; cases q <;> (try simp [hlt, hp] at hq) <;> (try (have hh : True := hq; clear hh hq)))))
      | (refine wpcall_pure ?_ (hres) ?_; (focus (solve | simp [hlt, hp])); simp [hlt, hp]; (try (refine gen fun q hq => ?_; cases q <;> (try simp [hlt, hp] at hq) <;> (try (have hh : True := hq; clear hh hq)))))
      | (refine T.ret (Done.tup (Or.inr rfl) ?_) <;> simp [resAs, Tryz.results156] <;> omega)
      | refine T.rs (id := 16) (fun _ => false) fun K hK => ?_
      | refine T.rs (id := 22) (fun _ => false) fun K hK => ?_
      | refine T.cond rfl (fun hcnd => absurd hcnd (by decide)) (fun hcnd => ?_)
      | refine T.seq ?_
      | refine T.exit ?_

theorem l3Type_node (ctx : List MBd) (e : MTm) (hl : ctx.length ≤ 1099511627776) (hk : 5 < e.kind ∧ e.kind < 14) (hlen : kidsM e.kind = e.kids.length) (hty : typedM e.kind = true → shapeTy 4 e.ty = true)
    (hs : ∀ u ∈ e.kids, ∀ t, typeM ctx u = some t → shapeTy 4 t = true) (ih : ∀ u ∈ e.kids, L3T ctx u) : L3T ctx e := by
  have hk5 : ¬ e.kind = 5 := by omega
  have hk9 := kidsM_le e.kind
  have ht : typeM ctx e = (typeMS ctx e.kids).bind (nodeTy ctx e.kind e.name e.ty) := by
    rw [typeM_def, insideM, if_neg hk5]
    cases typeMS ctx e.kids <;> rfl
  simp only [L3T, ht]
  cases hr : typeMS ctx e.kids with
  | none =>
    refine ⟨zeroT, by simp, ?_⟩
    exact l3Type_loop ctx e none zeroT false hl hk (by omega) hr hs ih (fun _ => ⟨rfl, rfl⟩) (fun ts h => by simp at h)
  | some ts =>
    have hlt := typeMS_len hr
    have hsts : ∀ u ∈ ts, shapeTy 4 u = true := by
      have hl : ∀ (l : List MTm) (ts : List MTy), (∀ u ∈ l, u ∈ e.kids) → typeMS ctx l = some ts → ∀ u ∈ ts, shapeTy 4 u = true := by
        intro l
        induction l with
        | nil => intro ts _ h; simp [typeMS] at h; subst h; simp
        | cons x r ihl =>
          intro ts hm h
          simp only [typeMS] at h
          split at h
          · simp at h
          · rename_i tx htx
            split at h
            · simp at h
            · rename_i us hus
              simp at h; subst h
              intro u hu
              simp only [List.mem_cons] at hu
              rcases hu with rfl | hu
              · exact hs x (hm x (by simp)) _ htx
              · exact ihl us (fun v hv => hm v (by simp [hv])) hus u hu
      exact hl e.kids ts (fun _ h => h) hr
    obtain ⟨t', h1, h2⟩ := l3Result_ok ctx e ts hk (by rw [hlt]; exact hlen.symm) hsts hty
    refine ⟨t', by simpa using h1, ?_⟩
    rw [show ((some ts).bind (nodeTy ctx e.kind e.name e.ty)) = nodeTy ctx e.kind e.name e.ty ts from rfl]
    exact l3Type_loop ctx e (some ts) t' _ hl hk (by omega) hr hs ih (fun h => by simp at h) (fun us h _ => by simp at h; subst h; exact h2)

theorem kidsM_lt (k : Int) (n : Nat) (h : kidsM k = n) : 0 < k ∧ k < 15 := by
  simp only [kidsM] at h
  split at h
  · omega
  · split at h
    · omega
    · split at h
      · omega
      · split at h <;> omega

theorem l3Type_ok : ∀ (e : MTm) (d : Nat) (ctx : List MBd), shapeTm 14 d e = true → ctx.length + d ≤ 1099511627776 → okCtx ctx → L3T ctx e := by
  intro e
  induction e using MTm.ind with
  | h e ih =>
    intro d ctx hs hl hc
    obtain ⟨d', rfl, hne, hlen, hown, hkids⟩ := shapeTm_kids hs
    have hb := kidsM_lt e.kind _ hlen
    by_cases h5 : e.kind = 5
    · have hty : shapeTy 4 e.ty = true := own_typed hown (by simp [typedM, h5])
      have hl1 : e.kids.length = 1 := by rw [h5] at hlen; simp [kidsM] at hlen; omega
      match hk : e.kids, hl1 with
      | [b], _ =>
        have hbm : b ∈ e.kids := by simp [hk]
        have hc' : okCtx (ctx ++ [MBd.mk e.name e.ty]) := by
          intro x hx
          rcases List.mem_append.1 hx with h | h
          · exact hc x h
          · simp at h; subst h; exact hty
        exact l3Type_lam ctx e b (by omega) h5 hk hty (fun t h => typeM_shape b d' 14 _ t (hkids b hbm) hc' h) (ih b hbm d' _ (hkids b hbm) (by simp; omega) hc')
    · by_cases hsm : e.kind < 5
      · exact l3Type_leaf ctx e (by omega) hc hlen (by omega)
      · exact l3Type_node ctx e (by omega) ⟨by omega, by omega⟩ hlen (own_typed hown) (fun u hu t h => typeM_shape u d' 14 ctx t (hkids u hu) hc h) (fun u hu => ih u hu d' ctx (hkids u hu) (by omega) hc)

/-- The type of a term in a context, as_ TypeIn answers it. -/
def typeInM (ctx : List MBd) (e : MTm) : Option MTy := if ctxM ctx = true ∧ termValidM e = true then typeM ctx e else none

abbrev tyRes : Option MTy → List AV
  | some t => [aTy t, .b true]
  | none => [aTy zeroT, .b false]

theorem TypeInS_ok (ctx : List MBd) (e : MTm) (hl : ctx.length ≤ 1073741824) (hnc : ∀ b ∈ ctx, nTy b.ty ≤ 1099511627776) (hn : nTm e ≤ 1099511627776) : ACalls Tryz.prog 89 [.l (ctx.map eBd), aTm e] [] (.tup (tyRes (typeInM ctx e))) [] [] := by
  have h1 := CtxValidS_ok ctx (by omega) hnc
  have h2 := TermValidS_ok e hn
  cases hc : ctxM ctx with
  | false =>
    rw [show typeInM ctx e = none by simp [typeInM, hc]]
    rw [hc] at h1
    refine ACalls.of_body Tryz.func89 (by kernel_rfl) rfl (by kernel_rfl) (by simp [Tryz.ntmps89]) (by simp) ?_
    rw [Tryz.ntmps89]
    repeat' first
      | ((first | refine aops_end (hK _ ?_)); clear hK K)
      | ((first | refine aops_go ?_); simp; (try (refine gen fun q hq => ?_; cases q <;> (try simp at hq) <;> (try (have hh : True := hq; clear hh hq)))))
      | (refine wpcall_pure rfl (h1) ?_; simp; (try (refine gen fun q hq => ?_; cases q <;> (try simp at hq) <;> (try (have hh : True := hq; clear hh hq)))))
      | (refine T.ret (Done.tup (Or.inr rfl) ?_) <;> simp [resAs, Tryz.results89] <;> omega)
      | refine T.rs (fun _ => false) fun K hK => ?_
      | refine T.cond rfl (fun hcnd => ?_) (fun hcnd => absurd hcnd (by decide))
      | refine T.seq ?_
  | true =>
    rw [hc] at h1
    cases hv : termValidM e with
    | false =>
      rw [show typeInM ctx e = none by simp [typeInM, hv]]
      rw [hv] at h2
      refine ACalls.of_body Tryz.func89 (by kernel_rfl) rfl (by kernel_rfl) (by simp [Tryz.ntmps89]) (by simp) ?_
      rw [Tryz.ntmps89]
      repeat' first
        | ((first | refine aops_end (hK _ ?_)); clear hK K)
        | ((first | refine aops_go ?_); simp; (try (refine gen fun q hq => ?_; cases q <;> (try simp at hq) <;> (try (have hh : True := hq; clear hh hq)))))
        | (refine wpcall_pure rfl (h1) ?_; simp; (try (refine gen fun q hq => ?_; cases q <;> (try simp at hq) <;> (try (have hh : True := hq; clear hh hq)))))
        | (refine wpcall_pure rfl (h2) ?_; simp; (try (refine gen fun q hq => ?_; cases q <;> (try simp at hq) <;> (try (have hh : True := hq; clear hh hq)))))
        | (refine T.ret (Done.tup (Or.inr rfl) ?_) <;> simp [resAs, Tryz.results89] <;> omega)
        | refine T.rs (fun _ => false) fun K hK => ?_
        | refine T.cond rfl (fun hcnd => ?_) (fun hcnd => absurd hcnd (by decide))
        | refine T.seq ?_
    | true =>
      rw [hv] at h2
      have hok : okCtx ctx := fun b hb => by
        simp only [ctxM, Bool.and_eq_true, List.all_eq_true] at hc
        exact (hc.1 b hb).2
      have hsh : shapeTm 14 12 e = true := by simp only [termValidM, Bool.and_eq_true] at hv; exact hv.1
      obtain ⟨t', h3, h4⟩ := l3Type_ok e 12 ctx hsh (by omega) hok
      rw [show typeInM ctx e = typeM ctx e by simp [typeInM, hc, hv]]
      cases hr : typeM ctx e with
      | none =>
        rw [hr] at h4
        have h5 := l3Sure_ok t' false
        simp only [Option.isSome_none] at h4
        refine ACalls.of_body Tryz.func89 (by kernel_rfl) rfl (by kernel_rfl) (by simp [Tryz.ntmps89]) (by simp) ?_
        rw [Tryz.ntmps89]
        repeat' first
          | ((first | refine aops_end (hK _ ?_)); clear hK K)
          | ((first | refine aops_go ?_); simp; (try (refine gen fun q hq => ?_; cases q <;> (try simp at hq) <;> (try (have hh : True := hq; clear hh hq)))))
          | (refine wpcall_pure rfl (h1) ?_; simp; (try (refine gen fun q hq => ?_; cases q <;> (try simp at hq) <;> (try (have hh : True := hq; clear hh hq)))))
          | (refine wpcall_pure rfl (h2) ?_; simp; (try (refine gen fun q hq => ?_; cases q <;> (try simp at hq) <;> (try (have hh : True := hq; clear hh hq)))))
          | (refine wpcall_pure rfl (h4) ?_; simp; (try (refine gen fun q hq => ?_; cases q <;> (try simp at hq) <;> (try (have hh : True := hq; clear hh hq)))))
          | (refine wpcall_pure rfl (h5) ?_; simp; (try (refine gen fun q hq => ?_; cases q <;> (try simp at hq) <;> (try (have hh : True := hq; clear hh hq)))))
          | (refine T.ret (Done.tup (Or.inr rfl) ?_) <;> simp [resAs, Tryz.results89] <;> omega)
          | refine T.rs (fun _ => false) fun K hK => ?_
          | refine T.cond rfl (fun hcnd => absurd hcnd (by decide)) (fun hcnd => ?_)
          | refine T.seq ?_
          | refine T.skip ?_
      | some t =>
        obtain rfl := h3 t hr
        rw [hr] at h4
        have h5 := l3Sure_ok t' true
        simp only [Option.isSome_some] at h4
        refine ACalls.of_body Tryz.func89 (by kernel_rfl) rfl (by kernel_rfl) (by simp [Tryz.ntmps89]) (by simp) ?_
        rw [Tryz.ntmps89]
        repeat' first
          | ((first | refine aops_end (hK _ ?_)); clear hK K)
          | ((first | refine aops_go ?_); simp; (try (refine gen fun q hq => ?_; cases q <;> (try simp at hq) <;> (try (have hh : True := hq; clear hh hq)))))
          | (refine wpcall_pure rfl (h1) ?_; simp; (try (refine gen fun q hq => ?_; cases q <;> (try simp at hq) <;> (try (have hh : True := hq; clear hh hq)))))
          | (refine wpcall_pure rfl (h2) ?_; simp; (try (refine gen fun q hq => ?_; cases q <;> (try simp at hq) <;> (try (have hh : True := hq; clear hh hq)))))
          | (refine wpcall_pure rfl (h4) ?_; simp; (try (refine gen fun q hq => ?_; cases q <;> (try simp at hq) <;> (try (have hh : True := hq; clear hh hq)))))
          | (refine wpcall_pure rfl (h5) ?_; simp; (try (refine gen fun q hq => ?_; cases q <;> (try simp at hq) <;> (try (have hh : True := hq; clear hh hq)))))
          | (refine T.ret (Done.tup (Or.inr rfl) ?_) <;> simp [resAs, Tryz.results89] <;> omega)
          | refine T.rs (fun _ => false) fun K hK => ?_
          | refine T.cond rfl (fun hcnd => absurd hcnd (by decide)) (fun hcnd => ?_)
          | refine T.seq ?_
          | refine T.skip ?_

theorem TypeOfS_ok (e : MTm) (hn : nTm e ≤ 1099511627776) : ACalls Tryz.prog 31 [aTm e] [] (.tup (tyRes (typeInM [] e))) [] [] := by
  have h := TypeInS_ok [] e (by simp) (by simp) hn
  cases hr : typeInM [] e with
  | none =>
    rw [hr] at h
    refine ACalls.of_body Tryz.func31 (by kernel_rfl) rfl (by kernel_rfl) (by simp [Tryz.ntmps31]) (by simp) ?_
    rw [Tryz.ntmps31]
    repeat' first
      | ((first | refine aops_end (hK _ ?_)); clear hK K)
      | ((first | refine aops_go ?_); simp)
      | (refine wpcall_pure ?_ (h) ?_; (focus (solve | simp)); simp)
      | (refine T.ret (Done.tup (Or.inr rfl) ?_) <;> simp [resAs, Tryz.results31] <;> omega)
      | refine T.rs (fun _ => false) fun K hK => ?_
  | some t =>
    rw [hr] at h
    refine ACalls.of_body Tryz.func31 (by kernel_rfl) rfl (by kernel_rfl) (by simp [Tryz.ntmps31]) (by simp) ?_
    rw [Tryz.ntmps31]
    repeat' first
      | ((first | refine aops_end (hK _ ?_)); clear hK K)
      | ((first | refine aops_go ?_); simp)
      | (refine wpcall_pure ?_ (h) ?_; (focus (solve | simp)); simp)
      | (refine T.ret (Done.tup (Or.inr rfl) ?_) <;> simp [resAs, Tryz.results31] <;> omega)
      | refine T.rs (fun _ => false) fun K hK => ?_
end Go.Proofs.YtfdknjjnifnobaaGreat
