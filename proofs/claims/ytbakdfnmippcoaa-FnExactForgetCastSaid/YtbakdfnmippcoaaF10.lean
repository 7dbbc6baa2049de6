/- A part of the library of this seat: a value-semantic program logic over the model, plain models, and walks of functions. -/
import Derived.Test.YtbakdfnmippcoaaF9
set_option linter.unusedVariables false
set_option linter.unusedSimpArgs false
namespace Go.Proofs.Ytbakdfnmippcoaa
attribute [-simp] Go.Av.freeStepG Go.Av.exA Go.Av.innAsH Go.Av.AV.innH Go.Av.CV.innH Go.Av.innHs Go.Av.AV.outnH Go.Av.CV.outnH Go.Av.astepJ Go.Av.relC Go.Av.relL Go.Av.relV Go.Av.relVs Go.Av.callJ
open Go Go.Av
attribute [local irreducible] T ACalls TX EX LX Draws Some_ ACallsX eTy eTm MTy.kind MTy.kids MTm.kind MTm.name MTm.num MTm.ty MTm.fr MTm.label MTm.kids
attribute [local simp] eTy_def eTm_def
set_option maxHeartbeats 16000000
set_option maxRecDepth 8000

theorem base_ok (k : Int) : ACalls Try.prog 45 [.i k] [] (aTy (.mk k [])) [] [] := by
  refine ACalls.of_body Try.func45 (by kernel_rfl) rfl (by kernel_rfl) (by simp [Try.ntmps45]) (by simp) ?_
  rw [Try.ntmps45]
  repeat' first | (refine aops_end (hK _ ?_); clear hK K) | (refine aops_go ?_; simp; (try (refine gen fun q hq => ?_; cases q <;> (try simp at hq) <;> (try (have hh : True := hq; clear hh hq))))) | (refine T.ret (Done.val (Or.inr rfl) ?_) <;> simp [resAs, Try.results45] <;> omega) | refine T.r0 fun K hK => ?_

theorem both_ok (k : Int) (a b : MTy) : ACalls Try.prog 76 [.i k, aTy a, aTy b] [] (aTy (.mk k [a, b])) [] [] := by
  refine ACalls.of_body Try.func76 (by kernel_rfl) rfl (by kernel_rfl) (by simp [Try.ntmps76]) (by simp) ?_
  rw [Try.ntmps76]
  repeat' first | (refine aops_end (hK _ ?_); clear hK K) | (refine aops_go ?_; simp; (try (refine gen fun q hq => ?_; cases q <;> (try simp at hq) <;> (try (have hh : True := hq; clear hh hq))))) | (refine T.ret (Done.val (Or.inr rfl) ?_) <;> simp [resAs, Try.results76, eTy_def] <;> omega) | refine T.r0 fun K hK => ?_

theorem ownType_ok : ∀ (t : MTy), nTy t ≤ 1099511627776 → ACalls Try.prog 41 [aTy t] [] (aTy t) [] [] := by
  intro t
  induction t using MTy.ind with
  | h t ih =>
    intro hn
    rw [nTy_def] at hn
    have hlen := nTyS_len t.kids
    refine ACalls.of_body Try.func41 (by kernel_rfl) rfl (by kernel_rfl) (by simp [Try.ntmps41]) (by simp) ?_
    rw [Try.ntmps41]
    repeat' first | (refine aops_end (hK _ ?_); clear hK K) | (refine aops_go ?_; simp; (try (refine gen fun q hq => ?_; cases q <;> (try simp at hq) <;> (try (have hh : True := hq; clear hh hq))))) | refine T.r0 fun K hK => ?_ | refine T.seq ?_ | refine T.block ?_
    refine T.ownifyObj 2 1 2 31 (row := [.d (.i t.kind), .nil]) (by simp) (by simp) ?_
    refine T.loopK (α := Nat × List (List CV)) [2, 3, 10, 11] (fun x => [(12, .i x.1)]) (fun x => [(2, [.d (.i t.kind), .own 0 x.1])]) (fun x => x.2) (fun x _ => [{ sz := 2, ety := 31, rows := (t.kids.take x.1).map eTy, wr := true }]) (fun x => t.kids.length + 1 - x.1) (fun x => x.1 ≤ t.kids.length) (by simp; rfl) (fun x hx => ?_) (0, []) (by simp) (by simp) (by simp) (by simp)
    obtain ⟨p, G⟩ := x
    dsimp only at hx ⊢
    by_cases hlt : p < t.kids.length
    · obtain ⟨u, ht⟩ := get_lt hlt
      have htm : u ∈ t.kids := List.mem_of_getElem? ht
      have hgt : t.kids[p] = u := by rw [List.getElem?_eq_getElem hlt] at ht; exact Option.some.inj ht
      have hdr : t.kids.drop p = u :: t.kids.drop (p + 1) := by rw [List.drop_eq_getElem_cons hlt, hgt]
      have hu := ih u htm (by have := nTyS_mem htm; omega)
      have htk : t.kids.take (p + 1) = t.kids.take p ++ [u] := by rw [List.take_add_one, ht]; rfl
      have hmin : min p t.kids.length = p := by omega
      simp only [ups, List.set_cons_zero, List.set_cons_succ, List.cons_append, List.nil_append]
      repeat' first | ((first | refine aops_end (hK _ ?_) | refine aopsD_end (hK _ ?_)); clear hK K) | ((first | refine aops_go ?_ | refine aopsD_go ?_); simp [hlt, hgt, hmin]; (try simp (disch := omega) only [wrap64]); (try (refine gen fun q hq => ?_; cases q <;> (try simp [hlt, hgt, hmin] at hq) <;> (try (have hh : True := hq; clear hh hq))))) | (refine wpcall_pure rfl (hu) ?_; simp [hlt, hgt, hmin]; (try simp (disch := omega) only [wrap64]); (try (refine gen fun q hq => ?_; cases q <;> (try simp [hlt, hgt, hmin] at hq) <;> (try (have hh : True := hq; clear hh hq))))) | (refine ⟨by omega, by omega, ?_⟩) | (refine ⟨(p + 1, _), by dsimp only; omega, by dsimp only; omega, rfl, ?_, ?_⟩ <;> simp (disch := omega) [wrap64, htk, eTy_def]) | refine T.rd1 (id := 5) mixed (fun _ => false) [5, 7] (by kernel_rfl) fun K hK => ?_ | refine T.r0 fun K hK => ?_ | refine T.r1 fun K hK => ?_ | refine T.ct rfl ?_ | refine T.seq ?_ | refine T.block ?_ | refine T.skip ?_
    · have hp' : p = t.kids.length := by omega
      subst hp'
      simp only [ups, List.set_cons_zero, List.set_cons_succ, List.cons_append, List.nil_append]
      repeat' first | (refine aops_end (hK _ ?_); clear hK K) | (refine aops_go ?_; simp [hlt]; (try (refine gen fun q hq => ?_; cases q <;> (try simp [hlt] at hq) <;> (try (have hh : True := hq; clear hh hq))))) | (refine T.ret (Done.val (Or.inr rfl) ?_) <;> simp [resAs, Try.results41, eTy_def] <;> omega) | refine T.r0 fun K hK => ?_ | refine T.cf rfl ?_ | refine T.seq ?_ | refine T.exit ?_

theorem match_ok (k : Int) (hk : k ≠ 1) (t : MTy) (hl : t.kind = k → 2 ≤ t.kids.length) :
    ACalls Try.prog 77 [aTy t, .i k] [] (.tup (match matchM k t with | some (a, b) => [aTy a, aTy b, .b true] | none => [aTy zeroT, aTy zeroT, .b false])) [] [] := by
  have hany := base_ok 1
  simp only [matchM]
  by_cases hk1 : t.kind = 1
  · rw [if_pos hk1]
    have hk' : ¬ (1 : Int) = k := fun h => hk h.symm
    dsimp only
    refine ACalls.of_body Try.func77 (by kernel_rfl) rfl (by kernel_rfl) (by simp [Try.ntmps77]) (by simp) ?_
    rw [Try.ntmps77]
    repeat' first | (refine aops_end (hK _ ?_); clear hK K) | (refine aops_go ?_; simp [hk1, hk']; (try (refine gen fun q hq => ?_; cases q <;> (try simp [hk1, hk'] at hq) <;> (try (have hh : True := hq; clear hh hq))))) | (refine wpcall_pure rfl (hany) ?_; simp [hk1, hk']; (try (refine gen fun q hq => ?_; cases q <;> (try simp [hk1, hk'] at hq) <;> (try (have hh : True := hq; clear hh hq))))) | (refine T.ret (Done.tup (Or.inr rfl) ?_) <;> simp [resAs, Try.results77] <;> omega) | refine T.r0 fun K hK => ?_ | refine T.ct rfl ?_ | refine T.cf rfl ?_ | refine T.seq ?_ | refine T.block ?_
  rw [if_neg hk1]
  by_cases hk : t.kind = k
  rotate_left
  · rw [if_neg hk]
    dsimp only
    refine ACalls.of_body Try.func77 (by kernel_rfl) rfl (by kernel_rfl) (by simp [Try.ntmps77]) (by simp) ?_
    rw [Try.ntmps77]
    repeat' first | (refine aops_end (hK _ ?_); clear hK K) | (refine aops_go ?_; simp [hk1, hk]; (try (refine gen fun q hq => ?_; cases q <;> (try simp [hk1, hk] at hq) <;> (try (have hh : True := hq; clear hh hq))))) | (refine T.ret (Done.tup (Or.inr rfl) ?_) <;> simp [resAs, Try.results77] <;> omega) | refine T.r0 fun K hK => ?_ | refine T.cf rfl ?_ | refine T.seq ?_ | refine T.block ?_ | refine T.skip ?_
  rw [if_pos hk]
  have hl2 := hl hk
  match hkd : t.kids, hl2 with
  | a :: b :: r, _ =>
    dsimp only
    refine ACalls.of_body Try.func77 (by kernel_rfl) rfl (by kernel_rfl) (by simp [Try.ntmps77]) (by simp) ?_
    rw [Try.ntmps77]
    repeat' first | ((first | refine aops_end (hK _ ?_) | refine aopsF_end (hK _ ?_)); clear hK K) | ((first | refine aops_go ?_ | refine aopsF_go ?_); simp [hk, hkd]; (try (refine gen fun q hq => ?_; cases q <;> (try simp [hk, hkd] at hq) <;> (try (have hh : True := hq; clear hh hq))))) | (refine T.ret (Done.tup (Or.inr rfl) ?_) <;> simp [resAs, Try.results77] <;> omega) | refine T.rdF (id := 3) mixed (fun _ => false) [8, 9] [5, 6, 7] 9 [1] (by kernel_rfl) fun K hK => ?_ | refine T.r0 fun K hK => ?_ | refine T.ct rfl ?_ | refine T.seq ?_ | refine T.block ?_

theorem meet_ok : ∀ {d : Nat} {a : MTy}, VTy d a → d ≤ 4 → ∀ {b : MTy}, VTy d b → consTy a b = true → ACalls Try.prog 79 [aTy a, aTy b] [] (aTy (meetTy a b)) [] [] := by
  intro d a ha
  induction ha with
  | any d =>
    intro hd b hb hc
    have hn : nTy b ≤ 1099511627776 := by have := shape_nTy _ b hb.shape; have : 2 ^ (d + 1) ≤ 2 ^ 4 := Nat.pow_le_pow_right (by omega) hd; omega
    have ho := ownType_ok b hn
    rw [show meetTy anyT b = b by rw [meetTy_def]; simp]
    refine ACalls.of_body Try.func79 (by kernel_rfl) rfl (by kernel_rfl) (by simp [Try.ntmps79]) (by simp) ?_
    rw [Try.ntmps79]
    repeat' first | (refine aops_end (hK _ ?_); clear hK K) | (refine aops_go ?_; simp; (try (refine gen fun q hq => ?_; cases q <;> (try simp at hq) <;> (try (have hh : True := hq; clear hh hq))))) | (refine wpcall_pure rfl (ho) ?_; simp; (try (refine gen fun q hq => ?_; cases q <;> (try simp at hq) <;> (try (have hh : True := hq; clear hh hq))))) | (refine T.ret (Done.val (Or.inr rfl) ?_) <;> simp [resAs, Try.results79] <;> omega) | refine T.r0 fun K hK => ?_ | refine T.ct rfl ?_ | refine T.seq ?_ | refine T.block ?_
  | int d =>
    intro hd b hb hc
    have ho := ownType_ok intT (by simp [nTy_mk, nTyS])
    have e : meetTy intT b = intT := by cases hb <;> simp [meetTy, meetTyS] <;> simp [consTy] at hc
    rw [e]
    by_cases hb1 : b.kind = 1
    · refine ACalls.of_body Try.func79 (by kernel_rfl) rfl (by kernel_rfl) (by simp [Try.ntmps79]) (by simp) ?_
      rw [Try.ntmps79]
      repeat' first | (refine aops_end (hK _ ?_); clear hK K) | (refine aops_go ?_; simp [hb1]; (try (refine gen fun q hq => ?_; cases q <;> (try simp [hb1] at hq) <;> (try (have hh : True := hq; clear hh hq))))) | (refine wpcall_pure ?_ (ho) ?_; (focus (solve | simp [hb1])); simp [hb1]; (try (refine gen fun q hq => ?_; cases q <;> (try simp [hb1] at hq) <;> (try (have hh : True := hq; clear hh hq))))) | (refine T.ret (Done.val (Or.inr rfl) ?_) <;> simp [resAs, Try.results79] <;> omega) | refine T.r0 fun K hK => ?_ | refine T.ct rfl ?_ | refine T.cf rfl ?_ | refine T.seq ?_ | refine T.block ?_
    · refine ACalls.of_body Try.func79 (by kernel_rfl) rfl (by kernel_rfl) (by simp [Try.ntmps79]) (by simp) ?_
      rw [Try.ntmps79]
      repeat' first | (refine aops_end (hK _ ?_); clear hK K) | (refine aops_go ?_; simp [hb1]; (try (refine gen fun q hq => ?_; cases q <;> (try simp [hb1] at hq) <;> (try (have hh : True := hq; clear hh hq))))) | (refine wpcall_pure ?_ (ho) ?_; (focus (solve | simp [hb1])); simp [hb1]; (try (refine gen fun q hq => ?_; cases q <;> (try simp [hb1] at hq) <;> (try (have hh : True := hq; clear hh hq))))) | (refine T.ret (Done.val (Or.inr rfl) ?_) <;> simp [resAs, Try.results79] <;> omega) | refine T.r0 fun K hK => ?_ | refine T.ct rfl ?_ | refine T.cf rfl ?_ | refine T.seq ?_ | refine T.block ?_
  | bool d =>
    intro hd b hb hc
    have ho := ownType_ok boolT (by simp [nTy_mk, nTyS])
    have e : meetTy boolT b = boolT := by cases hb <;> simp [meetTy, meetTyS] <;> simp [consTy] at hc
    rw [e]
    by_cases hb1 : b.kind = 1
    · refine ACalls.of_body Try.func79 (by kernel_rfl) rfl (by kernel_rfl) (by simp [Try.ntmps79]) (by simp) ?_
      rw [Try.ntmps79]
      repeat' first | (refine aops_end (hK _ ?_); clear hK K) | (refine aops_go ?_; simp [hb1]; (try (refine gen fun q hq => ?_; cases q <;> (try simp [hb1] at hq) <;> (try (have hh : True := hq; clear hh hq))))) | (refine wpcall_pure ?_ (ho) ?_; (focus (solve | simp [hb1])); simp [hb1]; (try (refine gen fun q hq => ?_; cases q <;> (try simp [hb1] at hq) <;> (try (have hh : True := hq; clear hh hq))))) | (refine T.ret (Done.val (Or.inr rfl) ?_) <;> simp [resAs, Try.results79] <;> omega) | refine T.r0 fun K hK => ?_ | refine T.ct rfl ?_ | refine T.cf rfl ?_ | refine T.seq ?_ | refine T.block ?_
    · refine ACalls.of_body Try.func79 (by kernel_rfl) rfl (by kernel_rfl) (by simp [Try.ntmps79]) (by simp) ?_
      rw [Try.ntmps79]
      repeat' first | (refine aops_end (hK _ ?_); clear hK K) | (refine aops_go ?_; simp [hb1]; (try (refine gen fun q hq => ?_; cases q <;> (try simp [hb1] at hq) <;> (try (have hh : True := hq; clear hh hq))))) | (refine wpcall_pure ?_ (ho) ?_; (focus (solve | simp [hb1])); simp [hb1]; (try (refine gen fun q hq => ?_; cases q <;> (try simp [hb1] at hq) <;> (try (have hh : True := hq; clear hh hq))))) | (refine T.ret (Done.val (Or.inr rfl) ?_) <;> simp [resAs, Try.results79] <;> omega) | refine T.r0 fun K hK => ?_ | refine T.ct rfl ?_ | refine T.cf rfl ?_ | refine T.seq ?_ | refine T.block ?_
  | @fn d x y hx hy ih1 ih2 =>
    intro hd b hb hc
    by_cases hb1 : b.kind = 1
    · have e : b = anyT := by cases hb <;> simp at hb1 <;> rfl
      subst e
      have hn : nTy (.mk 4 [x, y]) ≤ 1099511627776 := by have := shape_nTy _ _ (VTy.fn hx hy).shape; have : 2 ^ (d + 1) ≤ 2 ^ 4 := Nat.pow_le_pow_right (by omega) hd; omega
      have ho := ownType_ok (.mk 4 [x, y]) hn
      rw [show meetTy (.mk 4 [x, y]) anyT = .mk 4 [x, y] by rw [meetTy_def]; simp]
      refine ACalls.of_body Try.func79 (by kernel_rfl) rfl (by kernel_rfl) (by simp [Try.ntmps79]) (by simp) ?_
      rw [Try.ntmps79]
      repeat' first | (refine aops_end (hK _ ?_); clear hK K) | (refine aops_go ?_; simp; (try (refine gen fun q hq => ?_; cases q <;> (try simp at hq) <;> (try (have hh : True := hq; clear hh hq))))) | (refine wpcall_pure ?_ (ho) ?_; (focus (solve | simp)); simp; (try (refine gen fun q hq => ?_; cases q <;> (try simp at hq) <;> (try (have hh : True := hq; clear hh hq))))) | (refine T.ret (Done.val (Or.inr rfl) ?_) <;> simp [resAs, Try.results79] <;> omega) | refine T.r0 fun K hK => ?_ | refine T.ct rfl ?_ | refine T.cf rfl ?_ | refine T.seq ?_ | refine T.block ?_
    · obtain ⟨u, v, e, hu, hv⟩ : ∃ u v, b = .mk 4 [u, v] ∧ VTy d u ∧ VTy d v := by
        cases hb with
        | any => simp at hb1
        | int => simp [consTy] at hc
        | bool => simp [consTy] at hc
        | fn h1 h2 => first | exact ⟨_, _, rfl, h1, h2⟩ | simp [consTy] at hc
        | pair h1 h2 => first | exact ⟨_, _, rfl, h1, h2⟩ | simp [consTy] at hc
      subst e
      rw [cons_two (by omega)] at hc
      simp only [Bool.and_eq_true] at hc
      have h1 := ih1 (by omega) hu hc.1
      have h2 := ih2 (by omega) hv hc.2
      have h3 := both_ok 4 (meetTy x u) (meetTy y v)
      rw [meet_two (by omega)]
      refine ACalls.of_body Try.func79 (by kernel_rfl) rfl (by kernel_rfl) (by simp [Try.ntmps79]) (by simp) ?_
      rw [Try.ntmps79]
      repeat' first | ((first | refine aops_end (hK _ ?_) | refine aopsD_end (hK _ ?_)); clear hK K) | ((first | refine aops_go ?_ | refine aopsD_go ?_); simp; (try (refine gen fun q hq => ?_; cases q <;> (try simp at hq) <;> (try (have hh : True := hq; clear hh hq))))) | (refine wpcall_pure rfl (h1) ?_; simp; (try (refine gen fun q hq => ?_; cases q <;> (try simp at hq) <;> (try (have hh : True := hq; clear hh hq))))) | (refine wpcall_pure rfl (h2) ?_; simp; (try (refine gen fun q hq => ?_; cases q <;> (try simp at hq) <;> (try (have hh : True := hq; clear hh hq))))) | (refine wpcall_pure rfl (h3) ?_; simp; (try (refine gen fun q hq => ?_; cases q <;> (try simp at hq) <;> (try (have hh : True := hq; clear hh hq))))) | (refine T.ret (Done.val (Or.inr rfl) ?_) <;> simp [resAs, Try.results79] <;> omega) | refine T.rd (id := 5) mixed (fun _ => false) [21] (by kernel_rfl) fun K hK => ?_ | refine T.r0 fun K hK => ?_ | refine T.cf rfl ?_ | refine T.seq ?_ | refine T.block ?_ | refine T.skip ?_
  | @pair d x y hx hy ih1 ih2 =>
    intro hd b hb hc
    by_cases hb1 : b.kind = 1
    · have e : b = anyT := by cases hb <;> simp at hb1 <;> rfl
      subst e
      have hn : nTy (.mk 5 [x, y]) ≤ 1099511627776 := by have := shape_nTy _ _ (VTy.pair hx hy).shape; have : 2 ^ (d + 1) ≤ 2 ^ 4 := Nat.pow_le_pow_right (by omega) hd; omega
      have ho := ownType_ok (.mk 5 [x, y]) hn
      rw [show meetTy (.mk 5 [x, y]) anyT = .mk 5 [x, y] by rw [meetTy_def]; simp]
      refine ACalls.of_body Try.func79 (by kernel_rfl) rfl (by kernel_rfl) (by simp [Try.ntmps79]) (by simp) ?_
      rw [Try.ntmps79]
      repeat' first | (refine aops_end (hK _ ?_); clear hK K) | (refine aops_go ?_; simp; (try (refine gen fun q hq => ?_; cases q <;> (try simp at hq) <;> (try (have hh : True := hq; clear hh hq))))) | (refine wpcall_pure ?_ (ho) ?_; (focus (solve | simp)); simp; (try (refine gen fun q hq => ?_; cases q <;> (try simp at hq) <;> (try (have hh : True := hq; clear hh hq))))) | (refine T.ret (Done.val (Or.inr rfl) ?_) <;> simp [resAs, Try.results79] <;> omega) | refine T.r0 fun K hK => ?_ | refine T.ct rfl ?_ | refine T.cf rfl ?_ | refine T.seq ?_ | refine T.block ?_
    · obtain ⟨u, v, e, hu, hv⟩ : ∃ u v, b = .mk 5 [u, v] ∧ VTy d u ∧ VTy d v := by
        cases hb with
        | any => simp at hb1
        | int => simp [consTy] at hc
        | bool => simp [consTy] at hc
        | fn h1 h2 => first | exact ⟨_, _, rfl, h1, h2⟩ | simp [consTy] at hc
        | pair h1 h2 => first | exact ⟨_, _, rfl, h1, h2⟩ | simp [consTy] at hc
      subst e
      rw [cons_two (by omega)] at hc
      simp only [Bool.and_eq_true] at hc
      have h1 := ih1 (by omega) hu hc.1
      have h2 := ih2 (by omega) hv hc.2
      have h3 := both_ok 5 (meetTy x u) (meetTy y v)
      rw [meet_two (by omega)]
      refine ACalls.of_body Try.func79 (by kernel_rfl) rfl (by kernel_rfl) (by simp [Try.ntmps79]) (by simp) ?_
      rw [Try.ntmps79]
      repeat' first | ((first | refine aops_end (hK _ ?_) | refine aopsD_end (hK _ ?_)); clear hK K) | ((first | refine aops_go ?_ | refine aopsD_go ?_); simp; (try (refine gen fun q hq => ?_; cases q <;> (try simp at hq) <;> (try (have hh : True := hq; clear hh hq))))) | (refine wpcall_pure rfl (h1) ?_; simp; (try (refine gen fun q hq => ?_; cases q <;> (try simp at hq) <;> (try (have hh : True := hq; clear hh hq))))) | (refine wpcall_pure rfl (h2) ?_; simp; (try (refine gen fun q hq => ?_; cases q <;> (try simp at hq) <;> (try (have hh : True := hq; clear hh hq))))) | (refine wpcall_pure rfl (h3) ?_; simp; (try (refine gen fun q hq => ?_; cases q <;> (try simp at hq) <;> (try (have hh : True := hq; clear hh hq))))) | (refine T.ret (Done.val (Or.inr rfl) ?_) <;> simp [resAs, Try.results79] <;> omega) | refine T.rd (id := 5) mixed (fun _ => false) [21] (by kernel_rfl) fun K hK => ?_ | refine T.r0 fun K hK => ?_ | refine T.cf rfl ?_ | refine T.seq ?_ | refine T.block ?_ | refine T.skip ?_
end Go.Proofs.Ytbakdfnmippcoaa

namespace Go.Proofs.Ytbakdfnmippcoaa
attribute [-simp] Go.Av.freeStepG Go.Av.exA Go.Av.innAsH Go.Av.AV.innH Go.Av.CV.innH Go.Av.innHs Go.Av.AV.outnH Go.Av.CV.outnH Go.Av.astepJ Go.Av.relC Go.Av.relL Go.Av.relV Go.Av.relVs Go.Av.callJ
open Go Go.Av
attribute [local irreducible] T ACalls TX EX LX Draws Some_ ACallsX eTy eTm MTy.kind MTy.kids MTm.kind MTm.name MTm.num MTm.ty MTm.fr MTm.label MTm.kids
attribute [local simp] eTy_def eTm_def
set_option maxHeartbeats 16000000
set_option maxRecDepth 8000

theorem TypeSame_ok : (a b : MTy) → nTy a ≤ 1099511627776 → ACalls Try.prog 59 [aTy a, aTy b] [] (.b (sameTy a b)) [] []
  | .mk k l, b, hn => by
    rw [nTy_def] at hn
    have hlen := nTyS_len l
    have hc := equalFuncTy_0 59 l b.kids sameTy (by simp at hn; omega) (fun u hu v hv => TypeSame_ok u v (by have := nTyS_mem hu; simp at hn; omega))
    rw [sameTy_def]
    simp only [MTy.kids_mk, MTy.kind_mk]
    generalize all2 sameTy l b.kids = R at hc ⊢
    refine ACalls.of_body Try.func59 (by kernel_rfl) rfl (by kernel_rfl) (by simp [Try.ntmps59]) (by simp) ?_
    rw [Try.ntmps59]
    repeat' first | (refine aops_end (hK _ ?_); clear hK K) | (refine aops_go ?_; simp; (try (refine gen fun q hq => ?_; cases q <;> (try simp at hq) <;> (try (have hh : True := hq; clear hh hq))))) | (refine wpcall_pure rfl (hc) ?_; simp; (try (refine gen fun q hq => ?_; cases q <;> (try simp at hq) <;> (try (have hh : True := hq; clear hh hq))))) | (refine T.ret (Done.data (Or.inr rfl) ?_ ?_) <;> simp [Try.results59, *] <;> omega) | refine T.r0 fun K hK => ?_
termination_by a => SizeOf.sizeOf a
decreasing_by have := List.sizeOf_lt_of_mem hu; simp; omega

end Go.Proofs.Ytbakdfnmippcoaa

namespace Go.Proofs.Ytbakdfnmippcoaa
attribute [-simp] Go.Av.freeStepG Go.Av.exA Go.Av.innAsH Go.Av.AV.innH Go.Av.CV.innH Go.Av.innHs Go.Av.AV.outnH Go.Av.CV.outnH Go.Av.astepJ Go.Av.relC Go.Av.relL Go.Av.relV Go.Av.relVs Go.Av.callJ
open Go Go.Av
attribute [local irreducible] T ACalls TX EX LX Draws Some_ ACallsX eTy eTm MTy.kind MTy.kids MTm.kind MTm.name MTm.num MTm.ty MTm.fr MTm.label MTm.kids
attribute [local simp] eTy_def eTm_def
set_option maxHeartbeats 16000000
set_option maxRecDepth 8000
attribute [local simp] Option.bind

theorem cloneBd_own (l : List MBd) (hl : l.length ≤ 1099511627776) : ACalls Try.prog 58 [aBds l] [] (.c (.own 0 l.length)) [] [{ sz := 3, ety := 77, rows := l.map eBd, wr := true }] := by
  refine ACalls.of_body Try.func58 (by kernel_rfl) rfl (by kernel_rfl) (by simp [Try.ntmps58]) (by simp) ?_
  rw [Try.ntmps58]
  refine T.rs (fun _ => false) fun K hK => ?_
  refine aops_go ?_
  simp
  refine aops_end (hK _ ?_)
  clear hK K
  refine T.seq ?_
  refine T.eqNil rfl rfl rfl rfl rfl rfl td_bindS rfl (by simp; rfl) fun bb hbb => ?_
  cases bb
  · repeat' first | (refine aops_end (hK _ ?_); clear hK K) | (refine aops_go ?_; simp [eBd]; (try (refine gen fun q hq => ?_; cases q <;> (try simp [eBd] at hq) <;> (try (have hh : True := hq; clear hh hq))))) | (refine ⟨by omega, by omega, ?_⟩) | refine T.rs (id := 3) (fun i => i == 0) fun K hK => ?_ | refine T.cf rfl ?_ | refine T.skip ?_
    refine T.ret (Done.own1 0 (Or.inr rfl) (ys := [_]) ?_ rfl ?_) <;> simp [resAs, Try.results58, eBd] <;> rfl
  · have : l = [] := by simpa using hbb rfl
    subst this
    refine T.cond rfl (fun hcnd => ?_) (fun hcnd => absurd hcnd (by decide))
    refine T.rs (fun _ => false) fun K hK => ?_
    refine aops_go ?_
    simp
    refine aops_end (hK _ ?_)
    clear hK K
    refine T.ownify 2 3 77 (by simp) ?_
    refine T.ret (Done.own1 0 (Or.inr rfl) (ys := [_]) ?_ rfl ?_) <;> simp [resAs, Try.results58]

theorem lookup_ok (ctx : List MBd) (s : List UInt8) (hl : ctx.length ≤ 1099511627776) :
    ACalls Try.prog 75 [aBds ctx, .s s] [] (.tup (match lookM ctx s with | some t => [aTy t, .b true] | none => [aTy zeroT, .b false])) [] [] := by
  have hlook : ∀ p, p < ctx.length → lookM (ctx.take (p + 1)) s = if (ctx[p]?.map MBd.name) = some s then ctx[p]?.map MBd.ty else lookM (ctx.take p) s := by
    have happ : ∀ (l : List MBd) (b : MBd), lookM (l ++ [b]) s = if b.name = s then some b.ty else lookM l s := by
      intro l
      induction l with
      | nil => intro b; simp [lookM]
      | cons x r ih =>
        intro b
        simp only [List.cons_append, lookM, ih b]
        by_cases hb : b.name = s
        · simp [hb]
        · simp [hb]
    intro p hp
    rw [List.take_add_one, List.getElem?_eq_getElem hp]
    simp only [Option.toList_some, happ, Option.map_some, Option.some.injEq]
  refine ACalls.of_body Try.func75 (by kernel_rfl) rfl (by kernel_rfl) (by simp [Try.ntmps75]) (by simp) ?_
  rw [Try.ntmps75]
  repeat' first | (refine aops_end (hK _ ?_); clear hK K) | (refine aops_go ?_; simp; (try simp (disch := omega) only [wrap64]); (try (refine gen fun q hq => ?_; cases q <;> (try simp at hq) <;> (try (have hh : True := hq; clear hh hq))))) | refine T.r0 fun K hK => ?_ | refine T.seq ?_ | refine T.block ?_
  obtain ⟨R, hR⟩ : ∃ R, lookM ctx s = R := ⟨_, rfl⟩
  rw [hR]
  refine T.loopK (α := Nat) [0, 1, 4] (fun p => [(6, .i ((p : Int) - 1))]) (fun p => []) (fun _ => []) (fun _ A => A) (fun p => p) (fun p => p ≤ ctx.length ∧ lookM (ctx.take p) s = R) (by simp; rfl) (fun p hp => ?_) ctx.length (by simpa using hR) (by simp) (by simp) (by simp)
  obtain ⟨hi, he⟩ := hp
  simp only [ups, List.append_nil, List.cons_append, List.nil_append]
  cases p with
  | zero =>
    simp [lookM] at he
    subst he
    repeat' first | (refine aops_end (hK _ ?_); clear hK K) | (refine aops_go ?_; simp; (try (refine gen fun q hq => ?_; cases q <;> (try simp at hq) <;> (try (have hh : True := hq; clear hh hq))))) | (refine T.ret (Done.tup (Or.inr rfl) ?_) <;> simp [resAs, Try.results75] <;> omega) | refine T.r0 fun K hK => ?_ | refine T.cf rfl ?_ | refine T.seq ?_ | refine T.exit ?_
  | succ p =>
    rw [hlook p (by omega)] at he
    have hlt : p < ctx.length := by omega
    obtain ⟨b, ht⟩ := get_lt hlt
    have htm : b ∈ ctx := List.mem_of_getElem? ht
    have hgt : ctx[p] = b := by rw [List.getElem?_eq_getElem hlt] at ht; exact Option.some.inj ht
    have hge : (0 : Int) ≤ (p : Int) + 1 - 1 := by omega
    have hpp : ((p : Int) + 1 - 1) = p := by omega
    rw [ht] at he
    by_cases hb : b.name = s
    · simp [hb] at he
      subst he
      repeat' first | (refine aops_end (hK _ ?_); clear hK K) | (refine aops_go ?_; simp [hlt, hgt, hge, hpp, hb, eBd]; (try simp (disch := omega) only [wrap64]); (try (refine gen fun q hq => ?_; cases q <;> (try simp [hlt, hgt, hge, hpp, hb, eBd] at hq) <;> (try (have hh : True := hq; clear hh hq))))) | (refine T.ret (Done.tup (Or.inr rfl) ?_) <;> simp [resAs, Try.results75] <;> omega) | refine T.r0 fun K hK => ?_ | refine T.ct rfl ?_ | refine T.seq ?_ | refine T.block ?_ | refine T.skip ?_
    · simp [hb] at he
      repeat' first | (refine aops_end (hK _ ?_); clear hK K) | (refine aops_go ?_; simp [hlt, hgt, hge, hpp, hb, eBd]; (try simp (disch := omega) only [wrap64]); (try (refine gen fun q hq => ?_; cases q <;> (try simp [hlt, hgt, hge, hpp, hb, eBd] at hq) <;> (try (have hh : True := hq; clear hh hq))))) | (refine ⟨p, by dsimp only; omega, ⟨by omega, he⟩, rfl, rfl, ?_⟩; simp (disch := omega) [wrap64]) | refine T.r0 fun K hK => ?_ | refine T.r1 fun K hK => ?_ | refine T.ct rfl ?_ | refine T.cf rfl ?_ | refine T.seq ?_ | refine T.block ?_ | refine T.skip ?_

/-- What 'wanted' answers. -/
def WT (ctx : List MBd) (e : MTm) (ts : List MTy) (r : Option (List MTy × MTy)) : Prop := ∃ ws t, (∀ p, r = some p → p = (ws, t)) ∧ ACalls Try.prog 60 [aBds ctx, aTm e, aTys ts] [] (.tup [aTys ws, aTy t, .b r.isSome]) [] []

theorem wanted1 (ctx : List MBd) (hl : ctx.length ≤ 1099511627776) (e : MTm) (hk : e.kind = 1) : WT ctx e [] (wantM ctx e.kind e.name e.ty []) := by
  have hint := base_ok 2
  have hbool := base_ok 3
  have hlk := lookup_ok ctx e.name hl
  rw [show wantM ctx e.kind e.name e.ty [] = (lookM ctx e.name).map fun t => ([], t) by simp [wantM, hk]]
  cases hr : lookM ctx e.name with
  | none =>
    rw [hr] at hlk
    refine ⟨[], zeroT, by simp, ?_⟩
    simp only [Option.map_none, Option.isSome_none] at hlk ⊢
    refine ACalls.of_body Try.func60 (by kernel_rfl) rfl (by kernel_rfl) (by simp [Try.ntmps60]) (by simp) ?_
    rw [Try.ntmps60]
    repeat' first | ((first | refine aops_end (hK _ ?_) | refine aopsD_end (hK _ ?_)); clear hK K) | ((first | refine aops_go ?_ | refine aopsD_go ?_); simp [hk]; (try (refine gen fun q hq => ?_; cases q <;> (try simp [hk] at hq) <;> (try (have hh : True := hq; clear hh hq))))) | (refine wpcall_pure rfl (hint) ?_; simp [hk]; (try (refine gen fun q hq => ?_; cases q <;> (try simp [hk] at hq) <;> (try (have hh : True := hq; clear hh hq))))) | (refine wpcall_pure rfl (hbool) ?_; simp [hk]; (try (refine gen fun q hq => ?_; cases q <;> (try simp [hk] at hq) <;> (try (have hh : True := hq; clear hh hq))))) | (refine wpcall_pure rfl (hlk) ?_; simp [hk]; (try (refine gen fun q hq => ?_; cases q <;> (try simp [hk] at hq) <;> (try (have hh : True := hq; clear hh hq))))) | (refine T.ret (Done.tup (Or.inr rfl) ?_) <;> simp [resAs, Try.results60] <;> omega) | refine T.rd (id := 5) mixed (fun _ => false) [3] (by kernel_rfl) fun K hK => ?_ | refine T.r0 fun K hK => ?_ | refine T.ct rfl ?_ | refine T.seq ?_ | refine T.block ?_
  | some t =>
    rw [hr] at hlk
    refine ⟨[], t, by simp, ?_⟩
    simp only [Option.map_some, Option.isSome_some] at hlk ⊢
    refine ACalls.of_body Try.func60 (by kernel_rfl) rfl (by kernel_rfl) (by simp [Try.ntmps60]) (by simp) ?_
    rw [Try.ntmps60]
    repeat' first | ((first | refine aops_end (hK _ ?_) | refine aopsD_end (hK _ ?_)); clear hK K) | ((first | refine aops_go ?_ | refine aopsD_go ?_); simp [hk]; (try (refine gen fun q hq => ?_; cases q <;> (try simp [hk] at hq) <;> (try (have hh : True := hq; clear hh hq))))) | (refine wpcall_pure rfl (hint) ?_; simp [hk]; (try (refine gen fun q hq => ?_; cases q <;> (try simp [hk] at hq) <;> (try (have hh : True := hq; clear hh hq))))) | (refine wpcall_pure rfl (hbool) ?_; simp [hk]; (try (refine gen fun q hq => ?_; cases q <;> (try simp [hk] at hq) <;> (try (have hh : True := hq; clear hh hq))))) | (refine wpcall_pure rfl (hlk) ?_; simp [hk]; (try (refine gen fun q hq => ?_; cases q <;> (try simp [hk] at hq) <;> (try (have hh : True := hq; clear hh hq))))) | (refine T.ret (Done.tup (Or.inr rfl) ?_) <;> simp [resAs, Try.results60] <;> omega) | refine T.rd (id := 5) mixed (fun _ => false) [3] (by kernel_rfl) fun K hK => ?_ | refine T.r0 fun K hK => ?_ | refine T.ct rfl ?_ | refine T.seq ?_ | refine T.block ?_

theorem wanted2 (ctx : List MBd) (e : MTm) (hk : e.kind = 2) : WT ctx e [] (wantM ctx e.kind e.name e.ty []) := by
  have hint := base_ok 2
  have hbool := base_ok 3
  rw [show wantM ctx e.kind e.name e.ty [] = some ([], intT) by simp [wantM, hk]]
  refine ⟨[], intT, by simp, ?_⟩
  simp only [Option.isSome_some]
  refine ACalls.of_body Try.func60 (by kernel_rfl) rfl (by kernel_rfl) (by simp [Try.ntmps60]) (by simp) ?_
  rw [Try.ntmps60]
  repeat' first | ((first | refine aops_end (hK _ ?_) | refine aopsD_end (hK _ ?_)); clear hK K) | ((first | refine aops_go ?_ | refine aopsD_go ?_); simp [hk]; (try (refine gen fun q hq => ?_; cases q <;> (try simp [hk] at hq) <;> (try (have hh : True := hq; clear hh hq))))) | (refine wpcall_pure rfl (hint) ?_; simp [hk]; (try (refine gen fun q hq => ?_; cases q <;> (try simp [hk] at hq) <;> (try (have hh : True := hq; clear hh hq))))) | (refine wpcall_pure rfl (hbool) ?_; simp [hk]; (try (refine gen fun q hq => ?_; cases q <;> (try simp [hk] at hq) <;> (try (have hh : True := hq; clear hh hq))))) | (refine T.ret (Done.tup (Or.inr rfl) ?_) <;> simp [resAs, Try.results60] <;> omega) | refine T.rd (id := 7) mixed (fun _ => false) [2] (by kernel_rfl) fun K hK => ?_ | refine T.r0 fun K hK => ?_ | refine T.ct rfl ?_ | refine T.cf rfl ?_ | refine T.seq ?_ | refine T.block ?_

theorem wanted3 (ctx : List MBd) (e : MTm) (hk : e.kind = 3) : WT ctx e [] (wantM ctx e.kind e.name e.ty []) := by
  have hint := base_ok 2
  have hbool := base_ok 3
  rw [show wantM ctx e.kind e.name e.ty [] = some ([], boolT) by simp [wantM, hk]]
  refine ⟨[], boolT, by simp, ?_⟩
  simp only [Option.isSome_some]
  refine ACalls.of_body Try.func60 (by kernel_rfl) rfl (by kernel_rfl) (by simp [Try.ntmps60]) (by simp) ?_
  rw [Try.ntmps60]
  repeat' first | ((first | refine aops_end (hK _ ?_) | refine aopsD_end (hK _ ?_)); clear hK K) | ((first | refine aops_go ?_ | refine aopsD_go ?_); simp [hk]; (try (refine gen fun q hq => ?_; cases q <;> (try simp [hk] at hq) <;> (try (have hh : True := hq; clear hh hq))))) | (refine wpcall_pure rfl (hint) ?_; simp [hk]; (try (refine gen fun q hq => ?_; cases q <;> (try simp [hk] at hq) <;> (try (have hh : True := hq; clear hh hq))))) | (refine wpcall_pure rfl (hbool) ?_; simp [hk]; (try (refine gen fun q hq => ?_; cases q <;> (try simp [hk] at hq) <;> (try (have hh : True := hq; clear hh hq))))) | (refine T.ret (Done.tup (Or.inr rfl) ?_) <;> simp [resAs, Try.results60] <;> omega) | refine T.rd (id := 10) mixed (fun _ => false) [2] (by kernel_rfl) fun K hK => ?_ | refine T.r0 fun K hK => ?_ | refine T.ct rfl ?_ | refine T.cf rfl ?_ | refine T.seq ?_ | refine T.block ?_ | refine T.skip ?_

theorem wanted4 (ctx : List MBd) (e : MTm) (hk : e.kind = 4) : WT ctx e [] (wantM ctx e.kind e.name e.ty []) := by
  have hint := base_ok 2
  have hbool := base_ok 3
  rw [show wantM ctx e.kind e.name e.ty [] = some ([], boolT) by simp [wantM, hk]]
  refine ⟨[], boolT, by simp, ?_⟩
  simp only [Option.isSome_some]
  refine ACalls.of_body Try.func60 (by kernel_rfl) rfl (by kernel_rfl) (by simp [Try.ntmps60]) (by simp) ?_
  rw [Try.ntmps60]
  repeat' first | ((first | refine aops_end (hK _ ?_) | refine aopsD_end (hK _ ?_)); clear hK K) | ((first | refine aops_go ?_ | refine aopsD_go ?_); simp [hk]; (try (refine gen fun q hq => ?_; cases q <;> (try simp [hk] at hq) <;> (try (have hh : True := hq; clear hh hq))))) | (refine wpcall_pure rfl (hint) ?_; simp [hk]; (try (refine gen fun q hq => ?_; cases q <;> (try simp [hk] at hq) <;> (try (have hh : True := hq; clear hh hq))))) | (refine wpcall_pure rfl (hbool) ?_; simp [hk]; (try (refine gen fun q hq => ?_; cases q <;> (try simp [hk] at hq) <;> (try (have hh : True := hq; clear hh hq))))) | (refine T.ret (Done.tup (Or.inr rfl) ?_) <;> simp [resAs, Try.results60] <;> omega) | refine T.rd (id := 10) mixed (fun _ => false) [2] (by kernel_rfl) fun K hK => ?_ | refine T.r0 fun K hK => ?_ | refine T.r1 fun K hK => ?_ | refine T.ct rfl ?_ | refine T.cf rfl ?_ | refine T.seq ?_ | refine T.block ?_

theorem wanted5 (ctx : List MBd) (e : MTm) (a : MTy) (hk : e.kind = 5) : WT ctx e [a] (wantM ctx e.kind e.name e.ty [a]) := by
  have hint := base_ok 2
  have hbool := base_ok 3
  have hb := both_ok 4 e.ty a
  rw [show wantM ctx e.kind e.name e.ty [a] = some ([], .mk 4 [e.ty, a]) by simp [wantM, hk]]
  refine ⟨[], .mk 4 [e.ty, a], by simp, ?_⟩
  simp only [Option.isSome_some]
  refine ACalls.of_body Try.func60 (by kernel_rfl) rfl (by kernel_rfl) (by simp [Try.ntmps60]) (by simp) ?_
  rw [Try.ntmps60]
  repeat' first | ((first | refine aops_end (hK _ ?_) | refine aopsD_end (hK _ ?_)); clear hK K) | ((first | refine aops_go ?_ | refine aopsD_go ?_); simp [hk]; (try (refine gen fun q hq => ?_; cases q <;> (try simp [hk] at hq) <;> (try (have hh : True := hq; clear hh hq))))) | (refine wpcall_pure rfl (hint) ?_; simp [hk]; (try (refine gen fun q hq => ?_; cases q <;> (try simp [hk] at hq) <;> (try (have hh : True := hq; clear hh hq))))) | (refine wpcall_pure rfl (hbool) ?_; simp [hk]; (try (refine gen fun q hq => ?_; cases q <;> (try simp [hk] at hq) <;> (try (have hh : True := hq; clear hh hq))))) | (refine wpcall_pure rfl (hb) ?_; simp [hk]; (try (refine gen fun q hq => ?_; cases q <;> (try simp [hk] at hq) <;> (try (have hh : True := hq; clear hh hq))))) | (refine T.ret (Done.tup (Or.inr rfl) ?_) <;> simp [resAs, Try.results60] <;> omega) | refine T.rd (id := 12) mixed (fun _ => false) [7] (by kernel_rfl) fun K hK => ?_ | refine T.r0 fun K hK => ?_ | refine T.r1 fun K hK => ?_ | refine T.ct rfl ?_ | refine T.cf rfl ?_ | refine T.seq ?_ | refine T.block ?_

theorem wanted6 (ctx : List MBd) (e : MTm) (a b : MTy) (hk : e.kind = 6) (ha : shapeTy 4 a = true) (hb : shapeTy 4 b = true) : WT ctx e [a, b] (wantM ctx e.kind e.name e.ty [a, b]) := by
  have hint := base_ok 2
  have hbool := base_ok 3
  have hm := match_ok 4 (by omega) a (shape_two (.inl rfl) ha)
  rw [show wantM ctx e.kind e.name e.ty [a, b] = match matchM 4 a with | some (x, y) => if consTy b x = true then some ([.mk 4 [x, y], x], y) else none | none => none by simp [wantM, hk]; rfl]
  cases hr : matchM 4 a with
  | none =>
    rw [hr] at hm
    have h2 := both_ok 4 zeroT zeroT
    refine ⟨[.mk 4 [zeroT, zeroT], zeroT], zeroT, by simp, ?_⟩
    simp only [Option.isSome_none] at hm ⊢
    refine ACalls.of_body Try.func60 (by kernel_rfl) rfl (by kernel_rfl) (by simp [Try.ntmps60]) (by simp) ?_
    rw [Try.ntmps60]
    repeat' first | ((first | refine aops_end (hK _ ?_) | refine aopsD_end (hK _ ?_)); clear hK K) | ((first | refine aops_go ?_ | refine aopsD_go ?_); simp [hk]; (try (refine gen fun q hq => ?_; cases q <;> (try simp [hk] at hq) <;> (try (have hh : True := hq; clear hh hq))))) | (refine wpcall_pure rfl (hint) ?_; simp [hk]; (try (refine gen fun q hq => ?_; cases q <;> (try simp [hk] at hq) <;> (try (have hh : True := hq; clear hh hq))))) | (refine wpcall_pure rfl (hbool) ?_; simp [hk]; (try (refine gen fun q hq => ?_; cases q <;> (try simp [hk] at hq) <;> (try (have hh : True := hq; clear hh hq))))) | (refine wpcall_pure rfl (hm) ?_; simp [hk]; (try (refine gen fun q hq => ?_; cases q <;> (try simp [hk] at hq) <;> (try (have hh : True := hq; clear hh hq))))) | (refine wpcall_pure ?_ (h2) ?_; (focus (solve | simp [hk])); simp [hk]; (try (refine gen fun q hq => ?_; cases q <;> (try simp [hk] at hq) <;> (try (have hh : True := hq; clear hh hq))))) | (refine T.ret (Done.tup (Or.inr rfl) ?_) <;> simp [resAs, Try.results60, eTy_def] <;> omega) | refine T.rd (id := 15) mixed (fun _ => false) [15] (by kernel_rfl) fun K hK => ?_ | refine T.r0 fun K hK => ?_ | refine T.r1 fun K hK => ?_ | refine T.ct rfl ?_ | refine T.cf rfl ?_ | refine T.seq ?_ | refine T.block ?_
  | some p =>
    obtain ⟨x, y⟩ := p
    rw [hr] at hm
    have h2 := both_ok 4 x y
    have h3 := consistent_ok b x (by have := shape4 hb; omega)
    refine ⟨[.mk 4 [x, y], x], y, ?_, ?_⟩
    · intro p h; dsimp only at h; split at h <;> simp at h; exact h.symm
    dsimp only at hm ⊢
    rw [show (if consTy b x = true then some ([MTy.mk 4 [x, y], x], y) else none).isSome = consTy b x by cases consTy b x <;> rfl]
    generalize consTy b x = c at h3
    refine ACalls.of_body Try.func60 (by kernel_rfl) rfl (by kernel_rfl) (by simp [Try.ntmps60]) (by simp) ?_
    rw [Try.ntmps60]
    repeat' first | ((first | refine aops_end (hK _ ?_) | refine aopsD_end (hK _ ?_)); clear hK K) | ((first | refine aops_go ?_ | refine aopsD_go ?_); simp [hk]; (try (refine gen fun q hq => ?_; cases q <;> (try simp [hk] at hq) <;> (try (have hh : True := hq; clear hh hq))))) | (refine wpcall_pure rfl (hint) ?_; simp [hk]; (try (refine gen fun q hq => ?_; cases q <;> (try simp [hk] at hq) <;> (try (have hh : True := hq; clear hh hq))))) | (refine wpcall_pure rfl (hbool) ?_; simp [hk]; (try (refine gen fun q hq => ?_; cases q <;> (try simp [hk] at hq) <;> (try (have hh : True := hq; clear hh hq))))) | (refine wpcall_pure rfl (hm) ?_; simp [hk]; (try (refine gen fun q hq => ?_; cases q <;> (try simp [hk] at hq) <;> (try (have hh : True := hq; clear hh hq))))) | (refine wpcall_pure rfl (h2) ?_; simp [hk]; (try (refine gen fun q hq => ?_; cases q <;> (try simp [hk] at hq) <;> (try (have hh : True := hq; clear hh hq))))) | (refine wpcall_pure rfl (h3) ?_; simp [hk]; (try (refine gen fun q hq => ?_; cases q <;> (try simp [hk] at hq) <;> (try (have hh : True := hq; clear hh hq))))) | (refine T.ret (Done.tup (Or.inr rfl) ?_) <;> simp [resAs, Try.results60, eTy_def] <;> omega) | refine T.rd (id := 15) mixed (fun _ => false) [15] (by kernel_rfl) fun K hK => ?_ | refine T.r0 fun K hK => ?_ | refine T.r1 fun K hK => ?_ | refine T.ct rfl ?_ | refine T.cf rfl ?_ | refine T.seq ?_ | refine T.block ?_

theorem wanted7 (ctx : List MBd) (e : MTm) (a b : MTy) (hk : e.kind = 7) (ha : shapeTy 4 a = true) (hb : shapeTy 4 b = true) : WT ctx e [a, b] (wantM ctx e.kind e.name e.ty [a, b]) := by
  have hint := base_ok 2
  have hbool := base_ok 3
  have h1 := consistent_ok a intT (by have := shape4 ha; omega)
  have h2 := consistent_ok b intT (by have := shape4 hb; omega)
  rw [show wantM ctx e.kind e.name e.ty [a, b] = if consTy a intT = true ∧ consTy b intT = true then some ([intT, intT], intT) else none by simp [wantM, hk]]
  refine ⟨[intT, intT], intT, ?_, ?_⟩
  · intro p h; split at h <;> simp at h; exact h.symm
  rw [show (if consTy a intT = true ∧ consTy b intT = true then some ([intT, intT], intT) else none).isSome = (consTy a intT && consTy b intT) by cases consTy a intT <;> cases consTy b intT <;> rfl]
  generalize consTy a intT = c1 at h1 ⊢
  generalize consTy b intT = c2 at h2 ⊢
  refine ACalls.of_body Try.func60 (by kernel_rfl) rfl (by kernel_rfl) (by simp [Try.ntmps60]) (by simp) ?_
  rw [Try.ntmps60]
  repeat' first | ((first | refine aops_end (hK _ ?_) | refine aopsD_end (hK _ ?_)); clear hK K) | ((first | refine aops_go ?_ | refine aopsD_go ?_); simp [hk]; (try (refine gen fun q hq => ?_; cases q <;> (try simp [hk] at hq) <;> (try (have hh : True := hq; clear hh hq))))) | (refine wpcall_pure rfl (hint) ?_; simp [hk]; (try (refine gen fun q hq => ?_; cases q <;> (try simp [hk] at hq) <;> (try (have hh : True := hq; clear hh hq))))) | (refine wpcall_pure rfl (hbool) ?_; simp [hk]; (try (refine gen fun q hq => ?_; cases q <;> (try simp [hk] at hq) <;> (try (have hh : True := hq; clear hh hq))))) | (refine wpcall_pure ?_ (h1) ?_; (focus (solve | simp [hk])); simp [hk]; (try (refine gen fun q hq => ?_; cases q <;> (try simp [hk] at hq) <;> (try (have hh : True := hq; clear hh hq))))) | (refine wpcall_pure ?_ (h2) ?_; (focus (solve | simp [hk])); simp [hk]; (try (refine gen fun q hq => ?_; cases q <;> (try simp [hk] at hq) <;> (try (have hh : True := hq; clear hh hq))))) | (refine T.ret (Done.tup (Or.inr rfl) ?_) <;> simp [resAs, Try.results60, *, eTy_def] <;> omega) | refine T.rd (id := 21) mixed (fun _ => false) [17] (by kernel_rfl) fun K hK => ?_ | refine T.r0 fun K hK => ?_ | refine T.r1 fun K hK => ?_ | refine T.ct rfl ?_ | refine T.cf rfl ?_ | refine T.seq ?_ | refine T.block ?_ | refine T.skip ?_

theorem wanted8 (ctx : List MBd) (e : MTm) (a b : MTy) (hk : e.kind = 8) (ha : shapeTy 4 a = true) (hb : shapeTy 4 b = true) : WT ctx e [a, b] (wantM ctx e.kind e.name e.ty [a, b]) := by
  have hint := base_ok 2
  have hbool := base_ok 3
  have h1 := consistent_ok a intT (by have := shape4 ha; omega)
  have h2 := consistent_ok b intT (by have := shape4 hb; omega)
  rw [show wantM ctx e.kind e.name e.ty [a, b] = if consTy a intT = true ∧ consTy b intT = true then some ([intT, intT], boolT) else none by simp [wantM, hk]]
  refine ⟨[intT, intT], boolT, ?_, ?_⟩
  · intro p h; split at h <;> simp at h; exact h.symm
  rw [show (if consTy a intT = true ∧ consTy b intT = true then some ([intT, intT], boolT) else none).isSome = (consTy a intT && consTy b intT) by cases consTy a intT <;> cases consTy b intT <;> rfl]
  generalize consTy a intT = c1 at h1 ⊢
  generalize consTy b intT = c2 at h2 ⊢
  refine ACalls.of_body Try.func60 (by kernel_rfl) rfl (by kernel_rfl) (by simp [Try.ntmps60]) (by simp) ?_
  rw [Try.ntmps60]
  repeat' first | ((first | refine aops_end (hK _ ?_) | refine aopsD_end (hK _ ?_)); clear hK K) | ((first | refine aops_go ?_ | refine aopsD_go ?_); simp [hk]; (try (refine gen fun q hq => ?_; cases q <;> (try simp [hk] at hq) <;> (try (have hh : True := hq; clear hh hq))))) | (refine wpcall_pure rfl (hint) ?_; simp [hk]; (try (refine gen fun q hq => ?_; cases q <;> (try simp [hk] at hq) <;> (try (have hh : True := hq; clear hh hq))))) | (refine wpcall_pure rfl (hbool) ?_; simp [hk]; (try (refine gen fun q hq => ?_; cases q <;> (try simp [hk] at hq) <;> (try (have hh : True := hq; clear hh hq))))) | (refine wpcall_pure ?_ (h1) ?_; (focus (solve | simp [hk])); simp [hk]; (try (refine gen fun q hq => ?_; cases q <;> (try simp [hk] at hq) <;> (try (have hh : True := hq; clear hh hq))))) | (refine wpcall_pure ?_ (h2) ?_; (focus (solve | simp [hk])); simp [hk]; (try (refine gen fun q hq => ?_; cases q <;> (try simp [hk] at hq) <;> (try (have hh : True := hq; clear hh hq))))) | (refine T.ret (Done.tup (Or.inr rfl) ?_) <;> simp [resAs, Try.results60, *, eTy_def] <;> omega) | refine T.rd (id := 21) mixed (fun _ => false) [17] (by kernel_rfl) fun K hK => ?_ | refine T.r0 fun K hK => ?_ | refine T.r1 fun K hK => ?_ | refine T.ct rfl ?_ | refine T.cf rfl ?_ | refine T.seq ?_ | refine T.block ?_

theorem wanted9 (ctx : List MBd) (e : MTm) (a b c : MTy) (hk : e.kind = 9) (ha : shapeTy 4 a = true) (hb : shapeTy 4 b = true) (hc : shapeTy 4 c = true) : WT ctx e [a, b, c] (wantM ctx e.kind e.name e.ty [a, b, c]) := by
  have hint := base_ok 2
  have hbool := base_ok 3
  have h1 := consistent_ok a boolT (by have := shape4 ha; omega)
  have h2 := consistent_ok b c (by have := shape4 hb; omega)
  rw [show wantM ctx e.kind e.name e.ty [a, b, c] = if consTy a boolT = true ∧ consTy b c = true then some ([boolT, meetTy b c, meetTy b c], meetTy b c) else none by simp [wantM, hk]]
  by_cases hq : consTy a boolT = true ∧ consTy b c = true
  · rw [if_pos hq]
    have h3 := meet_ok (VTy.of hb) (by omega) (VTy.of hc) hq.2
    rw [hq.1] at h1
    rw [hq.2] at h2
    refine ⟨[boolT, meetTy b c, meetTy b c], meetTy b c, by simp, ?_⟩
    generalize meetTy b c = mt at h3 ⊢
    simp only [Option.isSome_some]
    refine ACalls.of_body Try.func60 (by kernel_rfl) rfl (by kernel_rfl) (by simp [Try.ntmps60]) (by simp) ?_
    rw [Try.ntmps60]
    repeat' first | ((first | refine aops_end (hK _ ?_) | refine aopsD_end (hK _ ?_) | refine aopsF_end (hK _ ?_)); clear hK K) | ((first | refine aops_go ?_ | refine aopsD_go ?_ | refine aopsF_go ?_); simp [hk]; (try (refine gen fun q hq => ?_; cases q <;> (try simp [hk] at hq) <;> (try (have hh : True := hq; clear hh hq))))) | (refine wpcall_pure rfl (hint) ?_; simp [hk]; (try (refine gen fun q hq => ?_; cases q <;> (try simp [hk] at hq) <;> (try (have hh : True := hq; clear hh hq))))) | (refine wpcall_pure rfl (hbool) ?_; simp [hk]; (try (refine gen fun q hq => ?_; cases q <;> (try simp [hk] at hq) <;> (try (have hh : True := hq; clear hh hq))))) | (refine wpcall_pure ?_ (h1) ?_; (focus (solve | simp [hk])); simp [hk]; (try (refine gen fun q hq => ?_; cases q <;> (try simp [hk] at hq) <;> (try (have hh : True := hq; clear hh hq))))) | (refine wpcall_pure rfl (h2) ?_; simp [hk]; (try (refine gen fun q hq => ?_; cases q <;> (try simp [hk] at hq) <;> (try (have hh : True := hq; clear hh hq))))) | (refine wpcall_pure rfl (h3) ?_; simp [hk]; (try (refine gen fun q hq => ?_; cases q <;> (try simp [hk] at hq) <;> (try (have hh : True := hq; clear hh hq))))) | (refine T.ret (Done.tup (Or.inr rfl) ?_) <;> simp [resAs, Try.results60, eTy_def] <;> omega) | refine T.rd (id := 23) mixed (fun _ => false) [] (by kernel_rfl) fun K hK => ?_ | refine T.rdF (id := 25) mixed (fun _ => false) [7, 8] [1, 2, 4, 5, 6] 8 [] (by kernel_rfl) fun K hK => ?_ | (refine ⟨?_, ?_⟩; (focus (intros; refine wpcall_pure rfl (h3) ?_; simp; done))) | refine T.rd (id := 26) mixed (fun _ => false) [6] (by kernel_rfl) fun K hK => ?_ | refine T.r0 fun K hK => ?_ | refine T.r1 fun K hK => ?_ | refine T.ct rfl ?_ | refine T.cf rfl ?_ | refine T.seq ?_ | refine T.block ?_ | refine T.skip ?_
  · rw [if_neg hq]
    refine ⟨[], zeroT, by simp, ?_⟩
    simp only [Option.isSome_none]
    generalize consTy a boolT = c1 at h1 hq ⊢
    generalize consTy b c = c2 at h2 hq ⊢
    cases c1 <;> cases c2
    · refine ACalls.of_body Try.func60 (by kernel_rfl) rfl (by kernel_rfl) (by simp [Try.ntmps60]) (by simp) ?_
      rw [Try.ntmps60]
      repeat' first | ((first | refine aops_end (hK _ ?_) | refine aopsD_end (hK _ ?_)); clear hK K) | ((first | refine aops_go ?_ | refine aopsD_go ?_); simp [hk]; (try (refine gen fun q hq => ?_; cases q <;> (try simp [hk] at hq) <;> (try (have hh : True := hq; clear hh hq))))) | (refine wpcall_pure rfl (hint) ?_; simp [hk]; (try (refine gen fun q hq => ?_; cases q <;> (try simp [hk] at hq) <;> (try (have hh : True := hq; clear hh hq))))) | (refine wpcall_pure rfl (hbool) ?_; simp [hk]; (try (refine gen fun q hq => ?_; cases q <;> (try simp [hk] at hq) <;> (try (have hh : True := hq; clear hh hq))))) | (refine wpcall_pure ?_ (h1) ?_; (focus (solve | simp [hk])); simp [hk]; (try (refine gen fun q hq => ?_; cases q <;> (try simp [hk] at hq) <;> (try (have hh : True := hq; clear hh hq))))) | (refine T.ret (Done.tup (Or.inr rfl) ?_) <;> simp [resAs, Try.results60, *] <;> omega) | refine T.rd (id := 23) mixed (fun _ => false) [] (by kernel_rfl) fun K hK => ?_ | refine T.r0 fun K hK => ?_ | refine T.r1 fun K hK => ?_ | refine T.ct rfl ?_ | refine T.cf rfl ?_ | refine T.seq ?_ | refine T.block ?_
    · refine ACalls.of_body Try.func60 (by kernel_rfl) rfl (by kernel_rfl) (by simp [Try.ntmps60]) (by simp) ?_
      rw [Try.ntmps60]
      repeat' first | ((first | refine aops_end (hK _ ?_) | refine aopsD_end (hK _ ?_)); clear hK K) | ((first | refine aops_go ?_ | refine aopsD_go ?_); simp [hk]; (try (refine gen fun q hq => ?_; cases q <;> (try simp [hk] at hq) <;> (try (have hh : True := hq; clear hh hq))))) | (refine wpcall_pure rfl (hint) ?_; simp [hk]; (try (refine gen fun q hq => ?_; cases q <;> (try simp [hk] at hq) <;> (try (have hh : True := hq; clear hh hq))))) | (refine wpcall_pure rfl (hbool) ?_; simp [hk]; (try (refine gen fun q hq => ?_; cases q <;> (try simp [hk] at hq) <;> (try (have hh : True := hq; clear hh hq))))) | (refine wpcall_pure ?_ (h1) ?_; (focus (solve | simp [hk])); simp [hk]; (try (refine gen fun q hq => ?_; cases q <;> (try simp [hk] at hq) <;> (try (have hh : True := hq; clear hh hq))))) | (refine T.ret (Done.tup (Or.inr rfl) ?_) <;> simp [resAs, Try.results60, *] <;> omega) | refine T.rd (id := 23) mixed (fun _ => false) [] (by kernel_rfl) fun K hK => ?_ | refine T.r0 fun K hK => ?_ | refine T.r1 fun K hK => ?_ | refine T.ct rfl ?_ | refine T.cf rfl ?_ | refine T.seq ?_ | refine T.block ?_
    · refine ACalls.of_body Try.func60 (by kernel_rfl) rfl (by kernel_rfl) (by simp [Try.ntmps60]) (by simp) ?_
      rw [Try.ntmps60]
      repeat' first | ((first | refine aops_end (hK _ ?_) | refine aopsD_end (hK _ ?_)); clear hK K) | ((first | refine aops_go ?_ | refine aopsD_go ?_); simp [hk]; (try (refine gen fun q hq => ?_; cases q <;> (try simp [hk] at hq) <;> (try (have hh : True := hq; clear hh hq))))) | (refine wpcall_pure rfl (hint) ?_; simp [hk]; (try (refine gen fun q hq => ?_; cases q <;> (try simp [hk] at hq) <;> (try (have hh : True := hq; clear hh hq))))) | (refine wpcall_pure rfl (hbool) ?_; simp [hk]; (try (refine gen fun q hq => ?_; cases q <;> (try simp [hk] at hq) <;> (try (have hh : True := hq; clear hh hq))))) | (refine wpcall_pure ?_ (h1) ?_; (focus (solve | simp [hk])); simp [hk]; (try (refine gen fun q hq => ?_; cases q <;> (try simp [hk] at hq) <;> (try (have hh : True := hq; clear hh hq))))) | (refine wpcall_pure rfl (h2) ?_; simp [hk]; (try (refine gen fun q hq => ?_; cases q <;> (try simp [hk] at hq) <;> (try (have hh : True := hq; clear hh hq))))) | (refine T.ret (Done.tup (Or.inr rfl) ?_) <;> simp [resAs, Try.results60, *] <;> omega) | refine T.rd (id := 23) mixed (fun _ => false) [] (by kernel_rfl) fun K hK => ?_ | refine T.r0 fun K hK => ?_ | refine T.r1 fun K hK => ?_ | refine T.ct rfl ?_ | refine T.cf rfl ?_ | refine T.seq ?_ | refine T.block ?_
    · exact absurd ⟨rfl, rfl⟩ hq

theorem wanted10 (ctx : List MBd) (e : MTm) (a b : MTy) (hk : e.kind = 10) : WT ctx e [a, b] (wantM ctx e.kind e.name e.ty [a, b]) := by
  have hint := base_ok 2
  have hbool := base_ok 3
  have hb := both_ok 5 a b
  rw [show wantM ctx e.kind e.name e.ty [a, b] = some ([], .mk 5 [a, b]) by simp [wantM, hk]]
  refine ⟨[], .mk 5 [a, b], by simp, ?_⟩
  simp only [Option.isSome_some]
  refine ACalls.of_body Try.func60 (by kernel_rfl) rfl (by kernel_rfl) (by simp [Try.ntmps60]) (by simp) ?_
  rw [Try.ntmps60]
  repeat' first | ((first | refine aops_end (hK _ ?_) | refine aopsD_end (hK _ ?_)); clear hK K) | ((first | refine aops_go ?_ | refine aopsD_go ?_); simp [hk]; (try (refine gen fun q hq => ?_; cases q <;> (try simp [hk] at hq) <;> (try (have hh : True := hq; clear hh hq))))) | (refine wpcall_pure rfl (hint) ?_; simp [hk]; (try (refine gen fun q hq => ?_; cases q <;> (try simp [hk] at hq) <;> (try (have hh : True := hq; clear hh hq))))) | (refine wpcall_pure rfl (hbool) ?_; simp [hk]; (try (refine gen fun q hq => ?_; cases q <;> (try simp [hk] at hq) <;> (try (have hh : True := hq; clear hh hq))))) | (refine wpcall_pure rfl (hb) ?_; simp [hk]; (try (refine gen fun q hq => ?_; cases q <;> (try simp [hk] at hq) <;> (try (have hh : True := hq; clear hh hq))))) | (refine T.ret (Done.tup (Or.inr rfl) ?_) <;> simp [resAs, Try.results60] <;> omega) | refine T.rd (id := 28) mixed (fun _ => false) [8] (by kernel_rfl) fun K hK => ?_ | refine T.r0 fun K hK => ?_ | refine T.r1 fun K hK => ?_ | refine T.ct rfl ?_ | refine T.cf rfl ?_ | refine T.seq ?_ | refine T.block ?_

theorem wanted11 (ctx : List MBd) (e : MTm) (a : MTy) (hk : e.kind = 11) (ha : shapeTy 4 a = true) : WT ctx e [a] (wantM ctx e.kind e.name e.ty [a]) := by
  have hint := base_ok 2
  have hbool := base_ok 3
  have hm := match_ok 5 (by omega) a (shape_two (.inr rfl) ha)
  rw [show wantM ctx e.kind e.name e.ty [a] = (matchM 5 a).map fun p => ([.mk 5 [p.1, p.2]], p.1) by simp [wantM, hk]]
  cases hr : matchM 5 a with
  | none =>
    rw [hr] at hm
    have h2 := both_ok 5 zeroT zeroT
    refine ⟨[.mk 5 [zeroT, zeroT]], zeroT, by simp, ?_⟩
    simp only [Option.map_none, Option.isSome_none] at hm ⊢
    refine ACalls.of_body Try.func60 (by kernel_rfl) rfl (by kernel_rfl) (by simp [Try.ntmps60]) (by simp) ?_
    rw [Try.ntmps60]
    repeat' first | ((first | refine aops_end (hK _ ?_) | refine aopsD_end (hK _ ?_)); clear hK K) | ((first | refine aops_go ?_ | refine aopsD_go ?_); simp [hk]; (try (refine gen fun q hq => ?_; cases q <;> (try simp [hk] at hq) <;> (try (have hh : True := hq; clear hh hq))))) | (refine wpcall_pure rfl (hint) ?_; simp [hk]; (try (refine gen fun q hq => ?_; cases q <;> (try simp [hk] at hq) <;> (try (have hh : True := hq; clear hh hq))))) | (refine wpcall_pure rfl (hbool) ?_; simp [hk]; (try (refine gen fun q hq => ?_; cases q <;> (try simp [hk] at hq) <;> (try (have hh : True := hq; clear hh hq))))) | (refine wpcall_pure rfl (hm) ?_; simp [hk]; (try (refine gen fun q hq => ?_; cases q <;> (try simp [hk] at hq) <;> (try (have hh : True := hq; clear hh hq))))) | (refine wpcall_pure ?_ (h2) ?_; (focus (solve | simp [hk])); simp [hk]; (try (refine gen fun q hq => ?_; cases q <;> (try simp [hk] at hq) <;> (try (have hh : True := hq; clear hh hq))))) | (refine T.ret (Done.tup (Or.inr rfl) ?_) <;> simp [resAs, Try.results60, eTy_def] <;> omega) | refine T.rd (id := 35) mixed (fun _ => false) [7] (by kernel_rfl) fun K hK => ?_ | refine T.r0 fun K hK => ?_ | refine T.r1 fun K hK => ?_ | refine T.cf rfl ?_ | refine T.seq ?_ | refine T.block ?_ | refine T.skip ?_
  | some p =>
    obtain ⟨x, y⟩ := p
    rw [hr] at hm
    have h2 := both_ok 5 x y
    refine ⟨[.mk 5 [x, y]], x, by simp, ?_⟩
    simp only [Option.map_some, Option.isSome_some] at hm ⊢
    refine ACalls.of_body Try.func60 (by kernel_rfl) rfl (by kernel_rfl) (by simp [Try.ntmps60]) (by simp) ?_
    rw [Try.ntmps60]
    repeat' first | ((first | refine aops_end (hK _ ?_) | refine aopsD_end (hK _ ?_)); clear hK K) | ((first | refine aops_go ?_ | refine aopsD_go ?_); simp [hk]; (try (refine gen fun q hq => ?_; cases q <;> (try simp [hk] at hq) <;> (try (have hh : True := hq; clear hh hq))))) | (refine wpcall_pure rfl (hint) ?_; simp [hk]; (try (refine gen fun q hq => ?_; cases q <;> (try simp [hk] at hq) <;> (try (have hh : True := hq; clear hh hq))))) | (refine wpcall_pure rfl (hbool) ?_; simp [hk]; (try (refine gen fun q hq => ?_; cases q <;> (try simp [hk] at hq) <;> (try (have hh : True := hq; clear hh hq))))) | (refine wpcall_pure rfl (hm) ?_; simp [hk]; (try (refine gen fun q hq => ?_; cases q <;> (try simp [hk] at hq) <;> (try (have hh : True := hq; clear hh hq))))) | (refine wpcall_pure rfl (h2) ?_; simp [hk]; (try (refine gen fun q hq => ?_; cases q <;> (try simp [hk] at hq) <;> (try (have hh : True := hq; clear hh hq))))) | (refine T.ret (Done.tup (Or.inr rfl) ?_) <;> simp [resAs, Try.results60, eTy_def] <;> omega) | refine T.rd (id := 35) mixed (fun _ => false) [7] (by kernel_rfl) fun K hK => ?_ | refine T.r0 fun K hK => ?_ | refine T.r1 fun K hK => ?_ | refine T.cf rfl ?_ | refine T.seq ?_ | refine T.block ?_ | refine T.skip ?_

theorem wanted12 (ctx : List MBd) (e : MTm) (a : MTy) (hk : e.kind = 12) (ha : shapeTy 4 a = true) : WT ctx e [a] (wantM ctx e.kind e.name e.ty [a]) := by
  have hint := base_ok 2
  have hbool := base_ok 3
  have hm := match_ok 5 (by omega) a (shape_two (.inr rfl) ha)
  rw [show wantM ctx e.kind e.name e.ty [a] = (matchM 5 a).map fun p => ([.mk 5 [p.1, p.2]], p.2) by simp [wantM, hk]]
  cases hr : matchM 5 a with
  | none =>
    rw [hr] at hm
    have h2 := both_ok 5 zeroT zeroT
    refine ⟨[.mk 5 [zeroT, zeroT]], zeroT, by simp, ?_⟩
    simp only [Option.map_none, Option.isSome_none] at hm ⊢
    refine ACalls.of_body Try.func60 (by kernel_rfl) rfl (by kernel_rfl) (by simp [Try.ntmps60]) (by simp) ?_
    rw [Try.ntmps60]
    repeat' first | ((first | refine aops_end (hK _ ?_) | refine aopsD_end (hK _ ?_)); clear hK K) | ((first | refine aops_go ?_ | refine aopsD_go ?_); simp [hk]; (try (refine gen fun q hq => ?_; cases q <;> (try simp [hk] at hq) <;> (try (have hh : True := hq; clear hh hq))))) | (refine wpcall_pure rfl (hint) ?_; simp [hk]; (try (refine gen fun q hq => ?_; cases q <;> (try simp [hk] at hq) <;> (try (have hh : True := hq; clear hh hq))))) | (refine wpcall_pure rfl (hbool) ?_; simp [hk]; (try (refine gen fun q hq => ?_; cases q <;> (try simp [hk] at hq) <;> (try (have hh : True := hq; clear hh hq))))) | (refine wpcall_pure rfl (hm) ?_; simp [hk]; (try (refine gen fun q hq => ?_; cases q <;> (try simp [hk] at hq) <;> (try (have hh : True := hq; clear hh hq))))) | (refine wpcall_pure ?_ (h2) ?_; (focus (solve | simp [hk])); simp [hk]; (try (refine gen fun q hq => ?_; cases q <;> (try simp [hk] at hq) <;> (try (have hh : True := hq; clear hh hq))))) | (refine T.ret (Done.tup (Or.inr rfl) ?_) <;> simp [resAs, Try.results60, eTy_def] <;> omega) | refine T.rd (id := 35) mixed (fun _ => false) [7] (by kernel_rfl) fun K hK => ?_ | refine T.r0 fun K hK => ?_ | refine T.r1 fun K hK => ?_ | refine T.ct rfl ?_ | refine T.cf rfl ?_ | refine T.seq ?_ | refine T.block ?_ | refine T.skip ?_
  | some p =>
    obtain ⟨x, y⟩ := p
    rw [hr] at hm
    have h2 := both_ok 5 x y
    refine ⟨[.mk 5 [x, y]], y, by simp, ?_⟩
    simp only [Option.map_some, Option.isSome_some] at hm ⊢
    refine ACalls.of_body Try.func60 (by kernel_rfl) rfl (by kernel_rfl) (by simp [Try.ntmps60]) (by simp) ?_
    rw [Try.ntmps60]
    repeat' first | ((first | refine aops_end (hK _ ?_) | refine aopsD_end (hK _ ?_)); clear hK K) | ((first | refine aops_go ?_ | refine aopsD_go ?_); simp [hk]; (try (refine gen fun q hq => ?_; cases q <;> (try simp [hk] at hq) <;> (try (have hh : True := hq; clear hh hq))))) | (refine wpcall_pure rfl (hint) ?_; simp [hk]; (try (refine gen fun q hq => ?_; cases q <;> (try simp [hk] at hq) <;> (try (have hh : True := hq; clear hh hq))))) | (refine wpcall_pure rfl (hbool) ?_; simp [hk]; (try (refine gen fun q hq => ?_; cases q <;> (try simp [hk] at hq) <;> (try (have hh : True := hq; clear hh hq))))) | (refine wpcall_pure rfl (hm) ?_; simp [hk]; (try (refine gen fun q hq => ?_; cases q <;> (try simp [hk] at hq) <;> (try (have hh : True := hq; clear hh hq))))) | (refine wpcall_pure rfl (h2) ?_; simp [hk]; (try (refine gen fun q hq => ?_; cases q <;> (try simp [hk] at hq) <;> (try (have hh : True := hq; clear hh hq))))) | (refine T.ret (Done.tup (Or.inr rfl) ?_) <;> simp [resAs, Try.results60, eTy_def] <;> omega) | refine T.rd (id := 35) mixed (fun _ => false) [7] (by kernel_rfl) fun K hK => ?_ | refine T.r0 fun K hK => ?_ | refine T.r1 fun K hK => ?_ | refine T.ct rfl ?_ | refine T.cf rfl ?_ | refine T.seq ?_ | refine T.block ?_ | refine T.skip ?_

theorem wanted13 (ctx : List MBd) (e : MTm) (a : MTy) (hk : e.kind = 13) (ha : shapeTy 4 a = true) : WT ctx e [a] (wantM ctx e.kind e.name e.ty [a]) := by
  have hint := base_ok 2
  have hbool := base_ok 3
  have h1 := consistent_ok a e.ty (by have := shape4 ha; omega)
  rw [show wantM ctx e.kind e.name e.ty [a] = if consTy a e.ty = true then some ([e.ty], e.ty) else none by simp [wantM, hk]]
  refine ⟨[e.ty], e.ty, ?_, ?_⟩
  · intro p h; split at h <;> simp at h; exact h.symm
  rw [show (if consTy a e.ty = true then some ([e.ty], e.ty) else none).isSome = consTy a e.ty by cases consTy a e.ty <;> rfl]
  generalize consTy a e.ty = c at h1 ⊢
  refine ACalls.of_body Try.func60 (by kernel_rfl) rfl (by kernel_rfl) (by simp [Try.ntmps60]) (by simp) ?_
  rw [Try.ntmps60]
  repeat' first | ((first | refine aops_end (hK _ ?_) | refine aopsD_end (hK _ ?_)); clear hK K) | ((first | refine aops_go ?_ | refine aopsD_go ?_); simp [hk]; (try (refine gen fun q hq => ?_; cases q <;> (try simp [hk] at hq) <;> (try (have hh : True := hq; clear hh hq))))) | (refine wpcall_pure rfl (hint) ?_; simp [hk]; (try (refine gen fun q hq => ?_; cases q <;> (try simp [hk] at hq) <;> (try (have hh : True := hq; clear hh hq))))) | (refine wpcall_pure rfl (hbool) ?_; simp [hk]; (try (refine gen fun q hq => ?_; cases q <;> (try simp [hk] at hq) <;> (try (have hh : True := hq; clear hh hq))))) | (refine wpcall_pure rfl (h1) ?_; simp [hk]; (try (refine gen fun q hq => ?_; cases q <;> (try simp [hk] at hq) <;> (try (have hh : True := hq; clear hh hq))))) | (refine T.ret (Done.tup (Or.inr rfl) ?_) <;> simp [resAs, Try.results60, eTy_def] <;> omega) | refine T.rd (id := 30) mixed (fun _ => false) [12] (by kernel_rfl) fun K hK => ?_ | refine T.r0 fun K hK => ?_ | refine T.r1 fun K hK => ?_ | refine T.ct rfl ?_ | refine T.cf rfl ?_ | refine T.seq ?_ | refine T.block ?_

end Go.Proofs.Ytbakdfnmippcoaa

namespace Go.Proofs.Ytbakdfnmippcoaa
attribute [-simp] Go.Av.innAsH Go.Av.AV.innH Go.Av.CV.innH Go.Av.innHs Go.Av.AV.outnH Go.Av.CV.outnH Go.Av.astepJ Go.Av.relC Go.Av.relL Go.Av.relV Go.Av.relVs Go.Av.callJ
open Go Go.Av
attribute [local irreducible] T ACalls TX EX LX Draws Some_ ACallsX eTy eTm MTy.kind MTy.kids MTm.kind MTm.name MTm.num MTm.ty MTm.fr MTm.label MTm.kids
attribute [local simp] eTy_def eTm_def
set_option maxHeartbeats 16000000
set_option maxRecDepth 8000
attribute [local simp] Option.bind

theorem wanted_ok (ctx : List MBd) (hl : ctx.length ≤ 1099511627776) (e : MTm) (ts : List MTy) (hk : 0 < e.kind ∧ e.kind < 14) (hlen : (ts.length : Int) = kidsM e.kind) (hts : ∀ u ∈ ts, shapeTy 4 u = true) :
    WT ctx e ts (wantM ctx e.kind e.name e.ty ts) := by
  have hcases : e.kind = 1 ∨ e.kind = 2 ∨ e.kind = 3 ∨ e.kind = 4 ∨ e.kind = 5 ∨ e.kind = 6 ∨ e.kind = 7 ∨ e.kind = 8 ∨ e.kind = 9 ∨ e.kind = 10 ∨ e.kind = 11 ∨ e.kind = 12 ∨ e.kind = 13 := by omega
  have h0 : kidsM e.kind = 0 → ts = [] := fun h => List.eq_nil_of_length_eq_zero (by omega)
  have h1 : kidsM e.kind = 1 → ∃ a, ts = [a] := fun h => by
    match ts, hlen with
    | [a], _ => exact ⟨a, rfl⟩
    | [], h' => simp at h'; omega
    | _ :: _ :: _, h' => simp at h'; omega
  have h2 : kidsM e.kind = 2 → ∃ a b, ts = [a, b] := fun h => by
    match ts, hlen with
    | [a, b], _ => exact ⟨a, b, rfl⟩
    | [], h' => simp at h'; omega
    | [_], h' => simp at h'; omega
    | _ :: _ :: _ :: _, h' => simp at h'; omega
  have h3 : kidsM e.kind = 3 → ∃ a b c, ts = [a, b, c] := fun h => by
    match ts, hlen with
    | [a, b, c], _ => exact ⟨a, b, c, rfl⟩
    | [], h' => simp at h'; omega
    | [_], h' => simp at h'; omega
    | [_, _], h' => simp at h'; omega
    | _ :: _ :: _ :: _ :: _, h' => simp at h'; omega
  rcases hcases with h | h | h | h | h | h | h | h | h | h | h | h | h
  · obtain rfl := h0 (by rw [h]; rfl); exact wanted1 ctx hl e h
  · obtain rfl := h0 (by rw [h]; rfl); exact wanted2 ctx e h
  · obtain rfl := h0 (by rw [h]; rfl); exact wanted3 ctx e h
  · obtain rfl := h0 (by rw [h]; rfl); exact wanted4 ctx e h
  · obtain ⟨a, rfl⟩ := h1 (by rw [h]; rfl); exact wanted5 ctx e a h
  · obtain ⟨a, b, rfl⟩ := h2 (by rw [h]; rfl); exact wanted6 ctx e a b h (hts a (by simp)) (hts b (by simp))
  · obtain ⟨a, b, rfl⟩ := h2 (by rw [h]; rfl); exact wanted7 ctx e a b h (hts a (by simp)) (hts b (by simp))
  · obtain ⟨a, b, rfl⟩ := h2 (by rw [h]; rfl); exact wanted8 ctx e a b h (hts a (by simp)) (hts b (by simp))
  · obtain ⟨a, b, c, rfl⟩ := h3 (by rw [h]; rfl); exact wanted9 ctx e a b c h (hts a (by simp)) (hts b (by simp)) (hts c (by simp))
  · obtain ⟨a, b, rfl⟩ := h2 (by rw [h]; rfl); exact wanted10 ctx e a b h
  · obtain ⟨a, rfl⟩ := h1 (by rw [h]; rfl); exact wanted11 ctx e a h (hts a (by simp))
  · obtain ⟨a, rfl⟩ := h1 (by rw [h]; rfl); exact wanted12 ctx e a h (hts a (by simp))
  · obtain ⟨a, rfl⟩ := h1 (by rw [h]; rfl); exact wanted13 ctx e a h (hts a (by simp))

/-- What is left of the operands, put behind what has been done. -/
def afterE (es : List MTm) (ts : List MTy) : Option (List MTm × List MTy) × Int → Option (List MTm × List MTy) × Int
  | (none, n) => (none, n)
  | (some (es', ts'), n) => (some (es ++ es', ts ++ ts'), n)

theorem want_len {ctx : List MBd} {k : Int} {s : List UInt8} {ty : MTy} {ts ws : List MTy} {t : MTy} (h : wantM ctx k s ty ts = some (ws, t)) : ws.length ≤ ts.length := by
  simp only [wantM] at h
  split at h
  · obtain ⟨_, _, h'⟩ := Option.map_eq_some_iff.1 h; cases h'; simp
  split at h
  · cases h <;> simp
  split at h
  · cases h <;> simp
  split at h
  · split at h
    · cases h <;> simp
    split at h
    · obtain ⟨_, _, h'⟩ := Option.map_eq_some_iff.1 h; cases h'; simp
    split at h
    · obtain ⟨_, _, h'⟩ := Option.map_eq_some_iff.1 h; cases h'; simp
    split at h
    · split at h <;> cases h <;> simp
    · cases h
  · split at h
    · split at h
      · split at h <;> cases h <;> simp
      · cases h
    split at h
    · split at h <;> cases h <;> simp
    split at h
    · split at h <;> cases h <;> simp
    split at h
    · cases h <;> simp
    · cases h
  · split at h
    · split at h <;> cases h <;> simp
    · cases h
  · cases h

theorem want_small {ctx : List MBd} {e : MTm} {ts ws : List MTy} {t : MTy} (hc : okCtx ctx) (he : typedM e.kind = true → shapeTy 4 e.ty = true) (hts : ∀ u ∈ ts, shapeTy 4 u = true) (h : wantM ctx e.kind e.name e.ty ts = some (ws, t)) : nTy t ≤ 1000 := by
  have key : ∀ {t : MTy}, shapeTy 4 t = true → nTy t ≤ 100 := fun h => by have := shape4 h; omega
  simp only [wantM] at h
  split at h
  · obtain ⟨_, h1, h'⟩ := Option.map_eq_some_iff.1 h
    cases h'
    obtain ⟨b, h2, h3, _⟩ := look_mem h1
    have := key (hc b h2); rw [h3] at this; omega
  split at h
  · cases h; simp [nTy_mk, nTyS]
  split at h
  · cases h; simp [nTy_mk, nTyS]
  split at h
  · rename_i a
    have ha := key (hts a (by simp))
    split at h
    · rename_i h5
      cases h
      have := key (he (by simp [typedM, h5]))
      simp [nTy_mk, nTyS]; omega
    split at h
    · obtain ⟨p, h1, h'⟩ := Option.map_eq_some_iff.1 h
      obtain ⟨x, y⟩ := p
      cases h'
      have := key (match_shape h1 (hts a (by simp))).1; dsimp only; omega
    split at h
    · obtain ⟨p, h1, h'⟩ := Option.map_eq_some_iff.1 h
      obtain ⟨x, y⟩ := p
      cases h'
      have := key (match_shape h1 (hts a (by simp))).2; dsimp only; omega
    split at h
    · rename_i h13
      split at h
      · cases h
        have := key (he (by simp [typedM, h13])); omega
      · cases h
    · cases h
  · rename_i a b
    have ha := key (hts a (by simp))
    have hb := key (hts b (by simp))
    split at h
    · split at h
      · rename_i x y hm
        split at h
        · cases h
          have := key (match_shape hm (hts a (by simp))).2; omega
        · cases h
      · cases h
    split at h
    · split at h
      · cases h; simp [nTy_mk, nTyS]
      · cases h
    split at h
    · split at h
      · cases h; simp [nTy_mk, nTyS]
      · cases h
    split at h
    · cases h; simp [nTy_mk, nTyS]; omega
    · cases h
  · rename_i a b c
    split at h
    · split at h
      · rename_i hq
        cases h
        have := key (meet_shape 4 b c (hts b (by simp)) (hts c (by simp)) hq.2); omega
      · cases h
    · cases h
  · cases h

end Go.Proofs.Ytbakdfnmippcoaa

namespace Go.Proofs.Ytbakdfnmippcoaa
attribute [-simp] Go.Av.innAsH Go.Av.AV.innH Go.Av.CV.innH Go.Av.innHs Go.Av.AV.outnH Go.Av.CV.outnH Go.Av.astepJ Go.Av.relC Go.Av.relL Go.Av.relV Go.Av.relVs Go.Av.callJ
open Go Go.Av
attribute [local irreducible] T ACalls TX EX LX Draws Some_ ACallsX eTy eTm MTy.kind MTy.kids MTm.kind MTm.name MTm.num MTm.ty MTm.fr MTm.label MTm.kids
attribute [local simp] eTy_def eTm_def
set_option maxHeartbeats 16000000
set_option maxRecDepth 8000
attribute [local simp] Option.bind

/-- The operands of a valid type. -/
def matchedM (k : Int) (t : MTy) : Option (MTy × MTy) := if shapeTy 4 t = true then matchM k t else none
abbrev twoRes : Option (MTy × MTy) → List AV
  | some (a, b) => [aTy a, aTy b, .b true]
  | none => [aTy zeroT, aTy zeroT, .b false]

end Go.Proofs.Ytbakdfnmippcoaa

namespace Go.Proofs.Ytbakdfnmippcoaa
attribute [-simp] Go.Av.innAsH Go.Av.AV.innH Go.Av.CV.innH Go.Av.innHs Go.Av.AV.outnH Go.Av.CV.outnH Go.Av.astepJ Go.Av.relC Go.Av.relL Go.Av.relV Go.Av.relVs Go.Av.callJ
open Go Go.Av
attribute [local irreducible] T ACalls TX EX LX Draws Some_ ACallsX eTy eTm MTy.kind MTy.kids MTm.kind MTm.name MTm.num MTm.ty MTm.fr MTm.label MTm.kids
attribute [local simp] eTy_def eTm_def
set_option maxHeartbeats 16000000
set_option maxRecDepth 8000
attribute [local simp] Option.bind

theorem all2_nlen {α β : Type} {q : α → β → Bool} {xs : List α} {ys : List β} (h : ¬ xs.length = ys.length) : all2 q xs ys = false := by
  cases h' : all2 q xs ys with
  | false => rfl
  | true => exact absurd (all2_len h') h

theorem TypeSameS_ok : ∀ (a b : MTy), nTy a ≤ 1099511627776 → ACalls Try.prog 69 [aTy a, aTy b] [] (.b (sameTy a b)) [] [] := by
  intro a
  induction a using MTy.ind with
  | h a ih =>
    intro b hn
    rw [nTy_def] at hn
    have hlen := nTyS_len a.kids
    rw [sameTy_def]
    refine ACalls.of_body Try.func69 (by kernel_rfl) rfl (by kernel_rfl) (by simp [Try.ntmps69]) (by simp) ?_
    rw [Try.ntmps69]
    by_cases hk : a.kind = b.kind
    rotate_left
    · repeat' first | (refine aops_end (hK _ ?_); clear hK K) | (refine aops_go ?_; simp [hk]; (try (refine gen fun q hq => ?_; cases q <;> (try simp [hk] at hq) <;> (try (have hh : True := hq; clear hh hq))))) | (refine T.ret (Done.data (Or.inr rfl) ?_ ?_) <;> simp [Try.results69, hk] <;> omega) | refine T.r0 fun K hK => ?_ | refine T.ct rfl ?_ | refine T.seq ?_
    by_cases hlm : a.kids.length = b.kids.length
    rotate_left
    · have hR := all2_nlen (q := sameTy) hlm
      have hlm' : ¬ (a.kids.length : Int) = b.kids.length := by omega
      repeat' first | (refine aops_end (hK _ ?_); clear hK K) | (refine aops_go ?_; simp [hk, hlm']; (try (refine gen fun q hq => ?_; cases q <;> (try simp [hk, hlm'] at hq) <;> (try (have hh : True := hq; clear hh hq))))) | (refine T.ret (Done.data (Or.inr rfl) ?_ ?_) <;> simp [Try.results69, hk, hR] <;> omega) | refine T.r0 fun K hK => ?_ | refine T.ct rfl ?_ | refine T.seq ?_
    repeat' first | (refine aops_end (hK _ ?_); clear hK K) | (refine aops_go ?_; simp [hk, hlm]; (try (refine gen fun q hq => ?_; cases q <;> (try simp [hk, hlm] at hq) <;> (try (have hh : True := hq; clear hh hq))))) | refine T.r0 fun K hK => ?_ | refine T.cf rfl ?_ | refine T.seq ?_ | refine T.block ?_ | refine T.skip ?_
    obtain ⟨R, hR⟩ : ∃ R, all2 sameTy a.kids b.kids = R := ⟨_, rfl⟩
    rw [show (decide (a.kind = b.kind) && all2 sameTy a.kids b.kids) = R by simp [hk, hR]]
    refine T.loopF (fun p : Nat => ⟨[(2, .c (.ptr 0 0)), (3, .c (.ptr 1 0)), (5, .i p)], [(aTy a).cells, (aTy b).cells], []⟩) (fun p => a.kids.length + 1 - p) (fun p => p ≤ a.kids.length ∧ all2 sameTy (a.kids.drop p) (b.kids.drop p) = R) (fun p hp => ?_) 0 (by simpa using hR) (by simp [hk])
    obtain ⟨hi, he⟩ := hp
    by_cases hlt : p < a.kids.length
    · have hlt2 : p < b.kids.length := by omega
      obtain ⟨u, ht⟩ := get_lt hlt
      have htm : u ∈ a.kids := List.mem_of_getElem? ht
      have hgt : a.kids[p] = u := by rw [List.getElem?_eq_getElem hlt] at ht; exact Option.some.inj ht
      have hdr : a.kids.drop p = u :: a.kids.drop (p + 1) := by rw [List.drop_eq_getElem_cons hlt, hgt]
      obtain ⟨v, hv⟩ := get_lt hlt2
      have hgv : b.kids[p] = v := by rw [List.getElem?_eq_getElem hlt2] at hv; exact Option.some.inj hv
      have hu := ih u htm v (by have := nTyS_mem htm; omega)
      rw [hdr, drop_cons hlt2, hgv, all2_cons] at he
      cases hb : sameTy u v <;> rw [hb] at hu he
      · repeat' first | ((first | refine aops_end (hK _ ?_) | refine aopsD_end (hK _ ?_)); clear hK K) | ((first | refine aops_go ?_ | refine aopsD_go ?_); simp [hlt, hlt2, hgt, hgv]; (try simp (disch := omega) only [wrap64]); (try (refine gen fun q hq => ?_; cases q <;> (try simp [hlt, hlt2, hgt, hgv] at hq) <;> (try (have hh : True := hq; clear hh hq))))) | (refine wpcall_pure rfl (hu) ?_; simp [hlt, hlt2, hgt, hgv]; (try simp (disch := omega) only [wrap64]); (try (refine gen fun q hq => ?_; cases q <;> (try simp [hlt, hlt2, hgt, hgv] at hq) <;> (try (have hh : True := hq; clear hh hq))))) | (refine T.ret (Done.data (Or.inr rfl) ?_ ?_) <;> simp [Try.results69, ← he] <;> omega) | refine T.rd (id := 6) mixed (fun _ => false) [] (by kernel_rfl) fun K hK => ?_ | refine T.r0 fun K hK => ?_ | refine T.ct rfl ?_ | refine T.seq ?_ | refine T.block ?_ | refine T.skip ?_
      · repeat' first | ((first | refine aops_end (hK _ ?_) | refine aopsD_end (hK _ ?_)); clear hK K) | ((first | refine aops_go ?_ | refine aopsD_go ?_); simp [hlt, hlt2, hgt, hgv]; (try simp (disch := omega) only [wrap64]); (try (refine gen fun q hq => ?_; cases q <;> (try simp [hlt, hlt2, hgt, hgv] at hq) <;> (try (have hh : True := hq; clear hh hq))))) | (refine wpcall_pure rfl (hu) ?_; simp [hlt, hlt2, hgt, hgv]; (try simp (disch := omega) only [wrap64]); (try (refine gen fun q hq => ?_; cases q <;> (try simp [hlt, hlt2, hgt, hgv] at hq) <;> (try (have hh : True := hq; clear hh hq))))) | (refine ⟨p + 1, by dsimp only; omega, ⟨by omega, by simpa using he⟩, rfl, rfl, ?_⟩; simp (disch := omega) [wrap64]) | refine T.rd (id := 6) mixed (fun _ => false) [] (by kernel_rfl) fun K hK => ?_ | refine T.r0 fun K hK => ?_ | refine T.r1 fun K hK => ?_ | refine T.ct rfl ?_ | refine T.cf rfl ?_ | refine T.seq ?_ | refine T.block ?_ | refine T.skip ?_
    · have hp' : p = a.kids.length := by omega
      subst hp'
      rw [List.drop_length, hlm, List.drop_length, all2_nil] at he
      repeat' first | (refine aops_end (hK _ ?_); clear hK K) | (refine aops_go ?_; simp [hlt, hlm]; (try (refine gen fun q hq => ?_; cases q <;> (try simp [hlt, hlm] at hq) <;> (try (have hh : True := hq; clear hh hq))))) | (refine T.ret (Done.data (Or.inr rfl) ?_ ?_) <;> simp [Try.results69, ← he] <;> omega) | refine T.r0 fun K hK => ?_ | refine T.cf rfl ?_ | refine T.seq ?_ | refine T.exit ?_

end Go.Proofs.Ytbakdfnmippcoaa

namespace Go.Proofs.Ytbakdfnmippcoaa
attribute [-simp] Go.Av.innAsH Go.Av.AV.innH Go.Av.CV.innH Go.Av.innHs Go.Av.AV.outnH Go.Av.CV.outnH Go.Av.astepJ Go.Av.relC Go.Av.relL Go.Av.relV Go.Av.relVs Go.Av.callJ
open Go Go.Av
attribute [local irreducible] T ACalls TX EX LX Draws Some_ ACallsX eTy eTm MTy.kind MTy.kids MTm.kind MTm.name MTm.num MTm.ty MTm.fr MTm.label MTm.kids
attribute [local simp] eTy_def eTm_def
set_option maxHeartbeats 16000000
set_option maxRecDepth 8000
attribute [local simp] Option.bind

end Go.Proofs.Ytbakdfnmippcoaa

namespace Go.Proofs.Ytbakdfnmippcoaa
attribute [-simp] Go.Av.innAsH Go.Av.AV.innH Go.Av.CV.innH Go.Av.innHs Go.Av.AV.outnH Go.Av.CV.outnH Go.Av.astepJ Go.Av.relC Go.Av.relL Go.Av.relV Go.Av.relVs Go.Av.callJ
open Go Go.Av
attribute [local irreducible] T ACalls TX EX LX Draws Some_ ACallsX eTy eTm MTy.kind MTy.kids MTm.kind MTm.name MTm.num MTm.ty MTm.fr MTm.label MTm.kids
attribute [local simp] eTy_def eTm_def
set_option maxHeartbeats 16000000
set_option maxRecDepth 8000

end Go.Proofs.Ytbakdfnmippcoaa

namespace Go.Proofs.Ytbakdfnmippcoaa
attribute [-simp] Go.Av.innAsH Go.Av.AV.innH Go.Av.CV.innH Go.Av.innHs Go.Av.AV.outnH Go.Av.CV.outnH Go.Av.astepJ Go.Av.relC Go.Av.relL Go.Av.relV Go.Av.relVs Go.Av.callJ
open Go Go.Av
attribute [local irreducible] T ACalls TX EX LX Draws Some_ ACallsX eTy eTm MTy.kind MTy.kids MTm.kind MTm.name MTm.num MTm.ty MTm.fr MTm.label MTm.kids
attribute [local simp] eTy_def eTm_def
set_option maxHeartbeats 16000000
set_option maxRecDepth 8000
attribute [local simp] Option.bind

theorem exactS_at : ∀ {ws ts : List MTy}, exactS ws ts = true → ws.length ≤ ts.length ∧ ∀ (i : Nat) w h, ws[i]? = some w → ts[i]? = some h → w = h
  | [], ts, _ => ⟨by simp, fun i w h hw => by simp at hw⟩
  | w :: ws, h :: hs, hq => by
    simp only [exactS, Bool.and_eq_true] at hq
    obtain ⟨h1, h2⟩ := exactS_at hq.2
    refine ⟨by simp; exact h1, fun i w' h' hw hh => ?_⟩
    cases i with
    | zero => simp at hw hh; subst hw; subst hh; exact sameTy_iff.1 hq.1
    | succ i => simp at hw hh; exact h2 i _ _ hw hh
  | _ :: _, [], hq => by simp [exactS] at hq

theorem castTy_shape {nt : Int} {d : Nat} {ctx : List MBd} {e : MTm} {t : MTy} (hs : shapeTm nt d e = true) (h : castTyM ctx e = some t) : shapeTy 4 t = true := by
  obtain ⟨d', rfl, _, _, hown, _⟩ := shapeTm_kids hs
  rw [castTyM_def] at h
  cases hk : castTyS (insideM ctx e) e.kids with
  | none => rw [hk] at h; simp at h
  | some ts =>
    rw [hk] at h
    simp only at h
    by_cases h14 : e.kind = 14
    · rw [if_pos h14] at h
      cases ts with
      | nil => simp at h
      | cons x r =>
        simp only at h
        split at h
        · simp at h; subst h; exact own_typed hown (by simp [typedM, h14])
        · simp at h
    · rw [if_neg h14] at h
      cases hw : wantM ctx e.kind e.name e.ty ts with
      | none => rw [hw] at h; simp at h
      | some p =>
        obtain ⟨ws, u⟩ := p
        rw [hw] at h
        simp only at h
        split at h
        · rename_i hq; simp at h; subst h; exact hq.1
        · simp at h

def CTy (ctx : List MBd) (e : MTm) : Prop := ∀ t, castTyM ctx e = some t → ACalls Try.prog 40 [aBds ctx, aTm e] [] (.tup [aTy t, .b true]) [] []

theorem castType_non (ctx : List MBd) (e : MTm) (hk : 0 < e.kind ∧ e.kind < 15) (h5 : e.kind ≠ 5)  (hl : ctx.length ≤ 1073741824) (hlen : kidsM e.kind = e.kids.length)
    (ts0 : List MTy) (hS : castTyS ctx e.kids = some ts0) (hlts : ts0.length = e.kids.length) (hsh : ∀ u ∈ ts0, shapeTy 4 u = true) (ih : ∀ u ∈ e.kids, CTy ctx u) (t : MTy) (htn : nTy t ≤ 1000)
    (hcast : e.kind = 14 → ∃ x, ts0 = [x] ∧ x = e.fr ∧ t = e.ty) (hwant : e.kind ≠ 14 → ∃ ws, wantM ctx e.kind e.name e.ty ts0 = some (ws, t) ∧ shapeTy 4 t = true ∧ exactS ws ts0 = true) :
    ACalls Try.prog 40 [aBds ctx, aTm e] [] (.tup [aTy t, .b true]) [] [] := by
  have hkl : e.kids.length ≤ 3 := by have := kidsM_le e.kind; omega
  refine ACalls.of_body Try.func40 (by kernel_rfl) rfl (by kernel_rfl) (by simp [Try.ntmps40]) (by simp) ?_
  rw [Try.ntmps40]
  repeat' first | (refine aops_end (hK _ ?_); clear hK K) | (refine aops_go ?_; simp [h5]; (try (refine gen fun q hq => ?_; cases q <;> (try simp [h5] at hq) <;> (try (have hh : True := hq; clear hh hq))))) | refine T.r0 fun K hK => ?_ | refine T.cf rfl ?_ | refine T.seq ?_ | refine T.block ?_ | refine T.skip ?_
  refine T.ownify 7 2 31 (by simp) ?_
  refine T.loopK (α := Nat × List MTy × List (List CV)) [0, 3, 4, 6, 31, 32] (fun x => [(5, .b false), (7, .c (.own 0 x.1)), (33, .i x.1)]) (fun x => []) (fun x => x.2.2) (fun x _ => [{ sz := 2, ety := 31, rows := x.2.1.map eTy, wr := true }]) (fun x => e.kids.length + 1 - x.1)
    (fun x => x.1 ≤ e.kids.length ∧ x.2.1.length = x.1 ∧ (castTyS ctx (e.kids.drop x.1)).map (x.2.1 ++ ·) = some ts0) (by simp; rfl) (fun x hx => ?_) (0, [], []) (by simp [hS]) (by simp) (by simp) (by simp)
  obtain ⟨p, ts, G⟩ := x
  obtain ⟨hi, hts, he⟩ := hx
  dsimp only at hi hts he ⊢
  simp only [ups, List.set_cons_zero, List.set_cons_succ, List.cons_append, List.nil_append]
  by_cases hlt : p < e.kids.length
  · obtain ⟨u, ht⟩ := get_lt hlt
    have htm : u ∈ e.kids := List.mem_of_getElem? ht
    have hgt : e.kids[p] = u := by rw [List.getElem?_eq_getElem hlt] at ht; exact Option.some.inj ht
    have hdr : e.kids.drop p = u :: e.kids.drop (p + 1) := by rw [List.drop_eq_getElem_cons hlt, hgt]
    rw [hdr] at he
    simp only [castTyS] at he
    cases hb : castTyM ctx u with
    | none => rw [hb] at he; simp at he
    | some tu =>
      have hu := ih u htm tu hb
      rw [hb] at he
      have he' : (castTyS ctx (e.kids.drop (p + 1))).map ((ts ++ [tu]) ++ ·) = some ts0 := by
        rw [← he]
        cases castTyS ctx (e.kids.drop (p + 1)) <;> simp
      repeat' first | (refine aops_end (hK _ ?_); clear hK K) | (refine aops_go ?_; simp [hlt, hgt, hts]; (try simp (disch := omega) only [wrap64]); (try (refine gen fun q hq => ?_; cases q <;> (try simp [hlt, hgt, hts] at hq) <;> (try (have hh : True := hq; clear hh hq))))) | (refine wpcall_pure rfl (hu) ?_; simp [hlt, hgt, hts]; (try simp (disch := omega) only [wrap64]); (try (refine gen fun q hq => ?_; cases q <;> (try simp [hlt, hgt, hts] at hq) <;> (try (have hh : True := hq; clear hh hq))))) | (refine ⟨by omega, by omega, ?_⟩) | refine T.r0 fun K hK => ?_ | refine T.r1 fun K hK => ?_ | refine T.ct rfl ?_ | refine T.cf rfl ?_ | refine T.seq ?_ | refine T.block ?_ | refine T.skip ?_
      refine ⟨(p + 1, ts ++ [tu], _), by dsimp only; omega, ⟨by dsimp only; omega, by simp [hts], he'⟩, rfl, ?_, ?_⟩
      · simp [eTy_def]
      · simp (disch := omega) [wrap64]
  · have hp' : p = e.kids.length := by omega
    subst hp'
    simp [castTyS] at he
    subst he
    by_cases h14 : e.kind = 14
    · obtain ⟨x, rfl, rfl, rfl⟩ := hcast h14
      have hk1 : e.kids.length = 1 := by simpa using hlts.symm
      have hsame := TypeSame_ok e.fr e.fr (by have := shape4 (hsh e.fr (by simp)); omega)
      rw [sameTy_refl] at hsame
      repeat' first | ((first | refine aops_end (hK _ ?_) | refine aopsD_end (hK _ ?_)); clear hK K) | ((first | refine aops_go ?_ | refine aopsD_go ?_); simp [hlt, h14, hk1]; (try (refine gen fun q hq => ?_; cases q <;> (try simp [hlt, h14, hk1] at hq) <;> (try (have hh : True := hq; clear hh hq))))) | (refine wpcall_pure rfl (hsame) ?_; simp [hlt, h14, hk1]; (try (refine gen fun q hq => ?_; cases q <;> (try simp [hlt, h14, hk1] at hq) <;> (try (have hh : True := hq; clear hh hq))))) | (refine T.ret (Done.tup (Or.inr rfl) ?_) <;> simp [resAs, Try.results40] <;> omega) | refine T.rd (id := 14) mixed (fun _ => false) [8] (by kernel_rfl) fun K hK => ?_ | refine T.r0 fun K hK => ?_ | refine T.ct rfl ?_ | refine T.cf rfl ?_ | refine T.seq ?_ | refine T.exit ?_
    · obtain ⟨ws, hwr, hst, hex⟩ := hwant h14
      obtain ⟨ws', t', hw1, hw2⟩ := wanted_ok ctx (by omega) e ts ⟨hk.1, by omega⟩ (by rw [hlts]; exact hlen.symm) hsh
      have hpp := hw1 _ hwr
      simp only [Prod.mk.injEq] at hpp
      obtain ⟨rfl, rfl⟩ := hpp
      rw [hwr] at hw2
      simp only [Option.isSome_some] at hw2
      have htv := TypeValid_ok t (by omega)
      rw [hst] at htv
      obtain ⟨hwl, hwe⟩ := exactS_at hex
      repeat' first | (refine aops_end (hK _ ?_); clear hK K) | (refine aops_go ?_; simp [hlt, h14, hts]; (try (refine gen fun q hq => ?_; cases q <;> (try simp [hlt, h14, hts] at hq) <;> (try (have hh : True := hq; clear hh hq))))) | (refine wpcall_pure ?_ (hw2) ?_; (focus (solve | simp [hlt, h14, hts])); simp [hlt, h14, hts]; (try (refine gen fun q hq => ?_; cases q <;> (try simp [hlt, h14, hts] at hq) <;> (try (have hh : True := hq; clear hh hq))))) | (refine wpcall_pure rfl (htv) ?_; simp [hlt, h14, hts]; (try (refine gen fun q hq => ?_; cases q <;> (try simp [hlt, h14, hts] at hq) <;> (try (have hh : True := hq; clear hh hq))))) | refine T.r0 fun K hK => ?_ | refine T.cf rfl ?_ | refine T.seq ?_ | refine T.block ?_ | refine T.skip ?_ | refine T.exit ?_
      refine T.loopK (α := Nat × List (List CV)) [4, 7, 13, 78, 79] (fun x => [(5, .b false), (80, .i x.1)]) (fun x => []) (fun x => x.2) (fun x A => A) (fun x => ws.length + 1 - x.1) (fun x => x.1 ≤ ws.length) (by simp; rfl) (fun x hx => ?_) (0, []) (by simp) (by simp) (by simp) (by simp)
      obtain ⟨p, G2⟩ := x
      dsimp only at hx ⊢
      simp only [ups, List.set_cons_zero, List.set_cons_succ, List.cons_append, List.nil_append]
      by_cases hpl : p < ws.length
      · have hp2 : p < ts.length := by omega
        obtain ⟨w, hw⟩ := get_lt hpl
        obtain ⟨h, hh⟩ := get_lt hp2
        obtain rfl := hwe p w h hw hh
        have hgw : ws[p] = w := by rw [List.getElem?_eq_getElem hpl] at hw; exact Option.some.inj hw
        have hgh : ts[p] = w := by rw [List.getElem?_eq_getElem hp2] at hh; exact Option.some.inj hh
        have hsame := TypeSame_ok w w (by have := shape4 (hsh w (List.mem_of_getElem? hh)); omega)
        rw [sameTy_refl] at hsame
        have hp4 : p < e.kids.length := by omega
        repeat' first | ((first | refine aops_end (hK _ ?_) | refine aopsD_end (hK _ ?_)); clear hK K) | ((first | refine aops_go ?_ | refine aopsD_go ?_); simp [hpl, hp2, hp4, hgw, hgh, hts]; (try simp (disch := omega) only [wrap64]); (try (refine gen fun q hq => ?_; cases q <;> (try simp [hpl, hp2, hp4, hgw, hgh, hts] at hq) <;> (try (have hh : True := hq; clear hh hq))))) | (refine wpcall_pure rfl (hsame) ?_; simp [hpl, hp2, hp4, hgw, hgh, hts]; (try simp (disch := omega) only [wrap64]); (try (refine gen fun q hq => ?_; cases q <;> (try simp [hpl, hp2, hp4, hgw, hgh, hts] at hq) <;> (try (have hh : True := hq; clear hh hq))))) | refine T.rd (id := 21) mixed (fun _ => false) [] (by kernel_rfl) fun K hK => ?_ | refine T.r0 fun K hK => ?_ | refine T.r1 fun K hK => ?_ | refine T.ct rfl ?_ | refine T.cf rfl ?_ | refine T.seq ?_ | refine T.block ?_ | refine T.skip ?_
        refine ⟨(p + 1, _), by dsimp only; omega, by dsimp only; omega, (by simp only [ups, List.set_cons_zero, List.cons_append, List.append_assoc, List.nil_append]; rfl), ?_, ?_⟩
        · simp [eTy_def]
        · simp (disch := omega) [wrap64]
      · have hpe : p = ws.length := by omega
        subst hpe
        repeat' first | (refine aops_end (hK _ ?_); clear hK K) | (refine aops_go ?_; simp [hpl]; (try (refine gen fun q hq => ?_; cases q <;> (try simp [hpl] at hq) <;> (try (have hh : True := hq; clear hh hq))))) | (refine T.ret (Done.tup (Or.inr rfl) ?_) <;> simp [resAs, Try.results40] <;> omega) | refine T.r0 fun K hK => ?_ | refine T.cf rfl ?_ | refine T.seq ?_ | refine T.exit ?_

theorem castType_lam (ctx : List MBd) (e : MTm) (hk : 0 < e.kind ∧ e.kind < 15) (h5 : e.kind = 5) (ins : List MBd) (hins : ins = ctx ++ [⟨e.name, e.ty⟩]) (hl : ctx.length ≤ 1073741824) (hlen : kidsM e.kind = e.kids.length)
    (ts0 : List MTy) (hS : castTyS ins e.kids = some ts0) (hlts : ts0.length = e.kids.length) (hsh : ∀ u ∈ ts0, shapeTy 4 u = true) (ih : ∀ u ∈ e.kids, CTy ins u) (t : MTy) (htn : nTy t ≤ 1000)
    (hcast : e.kind = 14 → ∃ x, ts0 = [x] ∧ x = e.fr ∧ t = e.ty) (hwant : e.kind ≠ 14 → ∃ ws, wantM ctx e.kind e.name e.ty ts0 = some (ws, t) ∧ shapeTy 4 t = true ∧ exactS ws ts0 = true) :
    ACalls Try.prog 40 [aBds ctx, aTm e] [] (.tup [aTy t, .b true]) [] [] := by
  have hkl : e.kids.length ≤ 3 := by have := kidsM_le e.kind; omega
  refine ACalls.of_body Try.func40 (by kernel_rfl) rfl (by kernel_rfl) (by simp [Try.ntmps40]) (by simp) ?_
  rw [Try.ntmps40]
  repeat' first | ((first | refine aops_end (hK _ ?_) | refine aopsG_end (hK _ ?_)); clear hK K) | ((first | refine aops_go ?_ | refine aopsG_go ?_); simp [h5]; (try (refine gen fun q hq => ?_; cases q <;> (try simp [h5] at hq) <;> (try (have hh : True := hq; clear hh hq))))) | (refine wpcall_own rfl (cloneBd_own ctx (by omega)) ?_; simp [h5]; (try (refine gen fun q hq => ?_; cases q <;> (try simp [h5] at hq) <;> (try (have hh : True := hq; clear hh hq))))) | (refine ⟨by omega, by omega, ?_⟩) | refine T.rdG1 (id := 3) mixed (fun _ => false) [1, 8] [3, 5, 6, 7] 2 [] [] (by kernel_rfl) fun K hK => ?_ | refine T.r0 fun K hK => ?_ | refine T.ct rfl ?_ | refine T.seq ?_ | refine T.block ?_
  refine T.seal 6 0 (ctx.length + 1) (r := { sz := 3, ety := 77, rows := ins.map eBd, wr := true }) (by simp) (by simp [hins, eBd]) (by simp [hins]) ?_
  clear hins
  refine T.ownify 7 2 31 (by simp) ?_
  refine T.loopK (α := Nat × List MTy × List (List CV)) [0, 3, 4, 6, 31, 32] (fun x => [(5, .b false), (7, .c (.own 1 x.1)), (33, .i x.1)]) (fun x => []) (fun x => x.2.2) (fun x _ => [{ sz := 3, ety := 77, rows := ins.map eBd, wr := false },{ sz := 2, ety := 31, rows := x.2.1.map eTy, wr := true }]) (fun x => e.kids.length + 1 - x.1)
    (fun x => x.1 ≤ e.kids.length ∧ x.2.1.length = x.1 ∧ (castTyS ins (e.kids.drop x.1)).map (x.2.1 ++ ·) = some ts0) (by simp; rfl) (fun x hx => ?_) (0, [], []) (by simp [hS]) (by simp) (by simp) (by simp)
  obtain ⟨p, ts, G⟩ := x
  obtain ⟨hi, hts, he⟩ := hx
  dsimp only at hi hts he ⊢
  simp only [ups, List.set_cons_zero, List.set_cons_succ, List.cons_append, List.nil_append]
  by_cases hlt : p < e.kids.length
  · obtain ⟨u, ht⟩ := get_lt hlt
    have htm : u ∈ e.kids := List.mem_of_getElem? ht
    have hgt : e.kids[p] = u := by rw [List.getElem?_eq_getElem hlt] at ht; exact Option.some.inj ht
    have hdr : e.kids.drop p = u :: e.kids.drop (p + 1) := by rw [List.drop_eq_getElem_cons hlt, hgt]
    rw [hdr] at he
    simp only [castTyS] at he
    cases hb : castTyM ins u with
    | none => rw [hb] at he; simp at he
    | some tu =>
      have hu := ih u htm tu hb
      rw [hb] at he
      have he' : (castTyS ins (e.kids.drop (p + 1))).map ((ts ++ [tu]) ++ ·) = some ts0 := by
        rw [← he]
        cases castTyS ins (e.kids.drop (p + 1)) <;> simp
      repeat' first | (refine aops_end (hK _ ?_); clear hK K) | (refine aops_go ?_; simp [hlt, hgt, hts]; (try simp (disch := omega) only [wrap64]); (try (refine gen fun q hq => ?_; cases q <;> (try simp [hlt, hgt, hts] at hq) <;> (try (have hh : True := hq; clear hh hq))))) | (refine wpcall_pure rfl (hu) ?_; simp [hlt, hgt, hts]; (try simp (disch := omega) only [wrap64]); (try (refine gen fun q hq => ?_; cases q <;> (try simp [hlt, hgt, hts] at hq) <;> (try (have hh : True := hq; clear hh hq))))) | (refine ⟨by omega, by omega, ?_⟩) | refine T.r0 fun K hK => ?_ | refine T.r1 fun K hK => ?_ | refine T.ct rfl ?_ | refine T.cf rfl ?_ | refine T.seq ?_ | refine T.block ?_ | refine T.skip ?_
      refine ⟨(p + 1, ts ++ [tu], _), by dsimp only; omega, ⟨by dsimp only; omega, by simp [hts], he'⟩, rfl, ?_, ?_⟩
      · simp [eTy_def]
      · simp (disch := omega) [wrap64]
  · have hp' : p = e.kids.length := by omega
    subst hp'
    simp [castTyS] at he
    subst he
    by_cases h14 : e.kind = 14
    · exact absurd h14 (by omega)
    · obtain ⟨ws, hwr, hst, hex⟩ := hwant h14
      obtain ⟨ws', t', hw1, hw2⟩ := wanted_ok ctx (by omega) e ts ⟨hk.1, by omega⟩ (by rw [hlts]; exact hlen.symm) hsh
      have hpp := hw1 _ hwr
      simp only [Prod.mk.injEq] at hpp
      obtain ⟨rfl, rfl⟩ := hpp
      rw [hwr] at hw2
      simp only [Option.isSome_some] at hw2
      have htv := TypeValid_ok t (by omega)
      rw [hst] at htv
      obtain ⟨hwl, hwe⟩ := exactS_at hex
      repeat' first | (refine aops_end (hK _ ?_); clear hK K) | (refine aops_go ?_; simp [hlt, h14, hts, h5]; (try (refine gen fun q hq => ?_; cases q <;> (try simp [hlt, h14, hts, h5] at hq) <;> (try (have hh : True := hq; clear hh hq))))) | (refine wpcall_pure ?_ (hw2) ?_; (focus (solve | simp [hlt, h14, hts, h5])); simp [hlt, h14, hts, h5]; (try (refine gen fun q hq => ?_; cases q <;> (try simp [hlt, h14, hts, h5] at hq) <;> (try (have hh : True := hq; clear hh hq))))) | (refine wpcall_pure rfl (htv) ?_; simp [hlt, h14, hts, h5]; (try (refine gen fun q hq => ?_; cases q <;> (try simp [hlt, h14, hts, h5] at hq) <;> (try (have hh : True := hq; clear hh hq))))) | refine T.r0 fun K hK => ?_ | refine T.cf rfl ?_ | refine T.seq ?_ | refine T.block ?_ | refine T.skip ?_ | refine T.exit ?_
      refine T.loopK (α := Nat × List (List CV)) [4, 7, 13, 78, 79] (fun x => [(5, .b false), (80, .i x.1)]) (fun x => []) (fun x => x.2) (fun x A => A) (fun x => ws.length + 1 - x.1) (fun x => x.1 ≤ ws.length) (by simp; rfl) (fun x hx => ?_) (0, []) (by simp) (by simp) (by simp) (by simp)
      obtain ⟨p, G2⟩ := x
      dsimp only at hx ⊢
      simp only [ups, List.set_cons_zero, List.set_cons_succ, List.cons_append, List.nil_append]
      by_cases hpl : p < ws.length
      · have hp2 : p < ts.length := by omega
        obtain ⟨w, hw⟩ := get_lt hpl
        obtain ⟨h, hh⟩ := get_lt hp2
        obtain rfl := hwe p w h hw hh
        have hgw : ws[p] = w := by rw [List.getElem?_eq_getElem hpl] at hw; exact Option.some.inj hw
        have hgh : ts[p] = w := by rw [List.getElem?_eq_getElem hp2] at hh; exact Option.some.inj hh
        have hsame := TypeSame_ok w w (by have := shape4 (hsh w (List.mem_of_getElem? hh)); omega)
        rw [sameTy_refl] at hsame
        have hp4 : p < e.kids.length := by omega
        repeat' first | ((first | refine aops_end (hK _ ?_) | refine aopsD_end (hK _ ?_)); clear hK K) | ((first | refine aops_go ?_ | refine aopsD_go ?_); simp [hpl, hp2, hp4, hgw, hgh, hts]; (try simp (disch := omega) only [wrap64]); (try (refine gen fun q hq => ?_; cases q <;> (try simp [hpl, hp2, hp4, hgw, hgh, hts] at hq) <;> (try (have hh : True := hq; clear hh hq))))) | (refine wpcall_pure rfl (hsame) ?_; simp [hpl, hp2, hp4, hgw, hgh, hts]; (try simp (disch := omega) only [wrap64]); (try (refine gen fun q hq => ?_; cases q <;> (try simp [hpl, hp2, hp4, hgw, hgh, hts] at hq) <;> (try (have hh : True := hq; clear hh hq))))) | refine T.rd (id := 21) mixed (fun _ => false) [] (by kernel_rfl) fun K hK => ?_ | refine T.r0 fun K hK => ?_ | refine T.r1 fun K hK => ?_ | refine T.ct rfl ?_ | refine T.cf rfl ?_ | refine T.seq ?_ | refine T.block ?_ | refine T.skip ?_
        refine ⟨(p + 1, _), by dsimp only; omega, by dsimp only; omega, (by simp only [ups, List.set_cons_zero, List.cons_append, List.append_assoc, List.nil_append]; rfl), ?_, ?_⟩
        · simp [eTy_def]
        · simp (disch := omega) [wrap64]
      · have hpe : p = ws.length := by omega
        subst hpe
        repeat' first | (refine aops_end (hK _ ?_); clear hK K) | (refine aops_go ?_; simp [hpl]; (try (refine gen fun q hq => ?_; cases q <;> (try simp [hpl] at hq) <;> (try (have hh : True := hq; clear hh hq))))) | (refine T.ret (Done.tup (Or.inr rfl) ?_) <;> simp [resAs, Try.results40] <;> omega) | refine T.r0 fun K hK => ?_ | refine T.cf rfl ?_ | refine T.seq ?_ | refine T.exit ?_

theorem castTyS_len : ∀ {c : List MBd} {l : List MTm} {ts : List MTy}, castTyS c l = some ts → ts.length = l.length
  | c, [], ts, h => by simp [castTyS] at h; subst h; rfl
  | c, e :: r, ts, h => by
    simp only [castTyS] at h
    cases h1 : castTyM c e with
    | none => rw [h1] at h; simp at h
    | some t =>
      rw [h1] at h
      cases h2 : castTyS c r with
      | none => rw [h2] at h; simp at h
      | some us => rw [h2] at h; simp at h; subst h; simp [castTyS_len h2]
theorem castTyS_shape {nt : Int} {d : Nat} : ∀ {c : List MBd} {l : List MTm} {ts : List MTy}, (∀ u ∈ l, shapeTm nt d u = true) → castTyS c l = some ts → ∀ u ∈ ts, shapeTy 4 u = true
  | c, [], ts, _, h => by simp [castTyS] at h; subst h; simp
  | c, e :: r, ts, hs, h => by
    simp only [castTyS] at h
    cases h1 : castTyM c e with
    | none => rw [h1] at h; simp at h
    | some t =>
      rw [h1] at h
      cases h2 : castTyS c r with
      | none => rw [h2] at h; simp at h
      | some us =>
        rw [h2] at h; simp at h; subst h
        intro u hu
        simp only [List.mem_cons] at hu
        rcases hu with rfl | hu
        · exact castTy_shape (hs e (by simp)) h1
        · exact castTyS_shape (fun v hv => hs v (by simp [hv])) h2 u hu

theorem castType_ok : ∀ (e : MTm) (d : Nat) (ctx : List MBd), shapeTm 13 d e = true → ctx.length + d ≤ 1073741824 → CTy ctx e := by
  intro e
  induction e using MTm.ind with
  | h e ih =>
    intro d ctx hs hl t ht
    have hst := castTy_shape hs ht
    have htn : nTy t ≤ 1000 := by have := shape4 hst; omega
    obtain ⟨d', rfl, hne, hlen, hown, hkids⟩ := shapeTm_kids hs
    have hb := kidsM_lt e.kind _ hlen
    have hil : (insideM ctx e).length ≤ ctx.length + 1 := by simp only [insideM]; split <;> simp
    have hih : ∀ u ∈ e.kids, CTy (insideM ctx e) u := fun u hu => ih u hu d' (insideM ctx e) (hkids u hu) (by omega)
    rw [castTyM_def] at ht
    cases hS : castTyS (insideM ctx e) e.kids with
    | none => rw [hS] at ht; simp at ht
    | some ts0 =>
      rw [hS] at ht
      simp only at ht
      have hlts := castTyS_len hS
      have hsh := castTyS_shape hkids hS
      have hcast : e.kind = 14 → ∃ x, ts0 = [x] ∧ x = e.fr ∧ t = e.ty := by
        intro h14
        rw [if_pos h14] at ht
        have h1 : e.kids.length = 1 := by rw [h14] at hlen; simp [kidsM] at hlen; omega
        match ts0, hlts, ht with
        | [x], _, ht =>
          simp only at ht
          split at ht
          · rename_i hq; simp at ht; exact ⟨x, rfl, sameTy_iff.1 hq, ht.symm⟩
          · simp at ht
        | [], hlts, _ => simp at hlts; omega
        | _ :: _ :: _, hlts, _ => simp at hlts; omega
      have hwant : e.kind ≠ 14 → ∃ ws, wantM ctx e.kind e.name e.ty ts0 = some (ws, t) ∧ shapeTy 4 t = true ∧ exactS ws ts0 = true := by
        intro h14
        rw [if_neg h14] at ht
        cases hw : wantM ctx e.kind e.name e.ty ts0 with
        | none => rw [hw] at ht; simp at ht
        | some p =>
          obtain ⟨ws, u⟩ := p
          rw [hw] at ht
          simp only at ht
          split at ht
          · rename_i hq; simp at ht; subst ht; exact ⟨ws, rfl, hq.1, hq.2⟩
          · simp at ht
      by_cases h5 : e.kind = 5
      · exact castType_lam ctx e hb h5 (insideM ctx e) (by simp [insideM, h5]) (by omega) hlen ts0 hS hlts hsh hih t htn hcast hwant
      · have hi : insideM ctx e = ctx := by simp [insideM, h5]
        rw [hi] at hih hS
        exact castType_non ctx e hb h5 (by omega) hlen ts0 hS hlts hsh hih t htn hcast hwant

theorem CastTypeOf_some (e : MTm) (t : MTy) (hn : nTm e ≤ 1099511627776) (hv : castValidM e = true) (ht : castTyM [] e = some t) : ACalls Try.prog 21 [aTm e] [] (.tup [aTy t, .b true]) [] [] := by
  have hs : shapeTm 13 40 e = true := by simp only [castValidM, Bool.and_eq_true] at hv; exact hv.1
  have h1 := CastValid_ok e hn
  rw [hv] at h1
  have h2 := castType_ok e 40 [] hs (by simp) t ht
  have h3 := ownType_ok t (by have := shape4 (castTy_shape hs ht); omega)
  refine ACalls.of_body Try.func21 (by kernel_rfl) rfl (by kernel_rfl) (by simp [Try.ntmps21]) (by simp) ?_
  rw [Try.ntmps21]
  repeat' first | (refine aops_end (hK _ ?_); clear hK K) | (refine aops_go ?_; simp; (try (refine gen fun q hq => ?_; cases q <;> (try simp at hq) <;> (try (have hh : True := hq; clear hh hq))))) | (refine wpcall_pure rfl (h1) ?_; simp; (try (refine gen fun q hq => ?_; cases q <;> (try simp at hq) <;> (try (have hh : True := hq; clear hh hq))))) | (refine wpcall_pure ?_ (h2) ?_; (focus (solve | simp)); simp; (try (refine gen fun q hq => ?_; cases q <;> (try simp at hq) <;> (try (have hh : True := hq; clear hh hq))))) | (refine wpcall_pure rfl (h3) ?_; simp; (try (refine gen fun q hq => ?_; cases q <;> (try simp at hq) <;> (try (have hh : True := hq; clear hh hq))))) | (refine T.ret (Done.tup (Or.inr rfl) ?_) <;> simp [resAs, Try.results21] <;> omega) | refine T.r0 fun K hK => ?_ | refine T.cf rfl ?_ | refine T.seq ?_ | refine T.skip ?_

/-- Casts inserted, as_ InsertCasts answers it. -/
def insertM (e : MTm) : Option (MTm × MTy) := if termValidM e = true then (elabM [] e 0).1 else none
end Go.Proofs.Ytbakdfnmippcoaa

namespace Go.Proofs.Ytbakdfnmippcoaa
attribute [-simp] Go.Av.astepJ Go.Av.relC Go.Av.relL Go.Av.relV Go.Av.relVs Go.Av.callJ
open Go Go.Av
attribute [local irreducible] T ACalls TX EX LX Draws Some_ ACallsX eTy eTm MTy.kind MTy.kids MTm.kind MTm.name MTm.num MTm.ty MTm.fr MTm.label MTm.kids
attribute [local simp] eTy_def eTm_def
set_option maxHeartbeats 16000000
set_option maxRecDepth 8000

end Go.Proofs.Ytbakdfnmippcoaa

namespace Go.Proofs.Ytbakdfnmippcoaa
attribute [-simp] Go.Av.astepJ Go.Av.relC Go.Av.relL Go.Av.relV Go.Av.relVs Go.Av.callJ
open Go Go.Av
attribute [local irreducible] T ACalls TX EX LX Draws Some_ ACallsX eTy eTm MTy.kind MTy.kids MTm.kind MTm.name MTm.num MTm.ty MTm.fr MTm.label MTm.kids
attribute [local simp] eTy_def eTm_def
set_option maxHeartbeats 16000000
set_option maxRecDepth 8000

end Go.Proofs.Ytbakdfnmippcoaa

namespace Go.Proofs.Ytbakdfnmippcoaa
attribute [-simp] Go.Av.innAsH Go.Av.AV.innH Go.Av.CV.innH Go.Av.innHs Go.Av.AV.outnH Go.Av.CV.outnH Go.Av.astepJ Go.Av.relC Go.Av.relL Go.Av.relV Go.Av.relVs Go.Av.callJ
open Go Go.Av
attribute [local irreducible] T ACalls TX EX LX Draws Some_ ACallsX eTy eTm MTy.kind MTy.kids MTm.kind MTm.name MTm.num MTm.ty MTm.fr MTm.label MTm.kids
attribute [local simp] eTy_def eTm_def
set_option maxHeartbeats 16000000
set_option maxRecDepth 8000

abbrev goodBd (u : MBd) : Prop := u.name ∈ ([[120], [122], [121], [88], []] : List (List UInt8)) ∧ nTy u.ty ≤ 1000

end Go.Proofs.Ytbakdfnmippcoaa

namespace Go.Proofs.Ytbakdfnmippcoaa
attribute [-simp] Go.Av.callJ
open Go Go.Av
attribute [local irreducible] T ACalls TX EX LX Draws Some_ ACallsX eTy eTm MTy.kind MTy.kids MTm.kind MTm.name MTm.num MTm.ty MTm.fr MTm.label MTm.kids
attribute [local simp] eTy_def eTm_def
set_option maxHeartbeats 16000000
set_option maxRecDepth 8000
attribute [local irreducible] TJ FCalls tyK tyRows

theorem toTypeS_tree_step (l : List MTy) (hl : l.length ≤ 1048576) (h : ∀ t ∈ l, FCalls Try.prog 19 [aTy t] [] fun r L' => ∃ v, r = .agg [.d (.i t.kind), .d (.raw v)] ∧ L' = [(tyK 31 t.kids, v)]) :
    FCalls Try.prog 38 [.l (l.map eTy)] [] fun r L' => ∃ v, r = .c (.d (.raw v)) ∧ L' = [(tyK 31 l, v)] := by
  refine FCalls.of_body Try.func38 (by kernel_rfl) rfl (by kernel_rfl) (by simp [Try.ntmps38]) ?_
  rw [Try.ntmps38]
  repeat' first | (refine aopsJ_end (hK _ _ ?_); clear hK K) | (refine aopsD_end (hK _ ?_); clear hK K) | (refine aopsJ_go ?_; simp; (try first | (refine OpsJ.gen fun q hq => ?_; cases q <;> (try simp at hq) <;> (try (have hh : True := hq; clear hh hq))))) | (refine aopsD_go ?_; simp; (try first | (refine OpsD.gen fun q hq => ?_; cases q <;> (try simp at hq) <;> (try (have hh : True := hq; clear hh hq))))) | (refine aopsF_end (hK _ ?_); clear hK K) | (refine aopsF_go ?_; simp; (try first | (refine OpsF.gen fun q hq => ?_; cases q <;> (try simp at hq) <;> (try (have hh : True := hq; clear hh hq))))) | refine TJ.rs (fun _ => false) fun K hK => ?_ | refine TJ.rs1 (fun _ => false) fun K hK => ?_ | (refine And.intro (by omega) ?_) | refine TJ.cond rfl (fun hcnd => ?_) (fun hcnd => absurd hcnd (by decide)) | refine TJ.cond rfl (fun hcnd => absurd hcnd (by decide)) (fun hcnd => ?_) | refine TJ.seq ?_ | refine TJ.block ?_ | refine TJ.skip ?_ | refine TJ.exit ?_
  refine TJ.loopF (fun vs : List Value => ⟨[(0, .l (l.map eTy)), (3, .c (.own 0 l.length)), (4, .i vs.length)], [], [{ sz := 2, ety := 31, rows := fillV rTy [.i 0, .sl []] l vs, wr := true }]⟩) (fun vs => (l.map fun t => tyK 31 t.kids).zip vs) (fun vs => l.length + 1 - vs.length) (fun vs => vs.length ≤ l.length) (fun vs hi => ?_) [] (by simp) (by simp [fillV_zero]) (M := []) (by simp)
  by_cases hlt : vs.length < l.length
  · obtain ⟨u, hu⟩ := get_lt hlt
    have hum : u ∈ l := List.mem_of_getElem? hu
    have hgt : l[vs.length] = u := by rw [List.getElem?_eq_getElem hlt] at hu; exact Option.some.inj hu
    have hc := h u hum
    repeat' first | (refine aopsJ_end (hK _ _ ?_); clear hK K) | (refine aopsD_end (hK _ ?_); clear hK K) | (refine aopsJ_go ?_; simp [hlt, hgt, fillV_len hi, fillV_at hlt]; (try simp (disch := omega) only [wrap64]); (try first | (refine OpsJ.gen fun q hq => ?_; cases q <;> (try simp [hlt, hgt, fillV_len hi, fillV_at hlt] at hq) <;> (try (have hh : True := hq; clear hh hq))))) | (refine aopsD_go ?_; simp [hlt, hgt, fillV_len hi, fillV_at hlt]; (try simp (disch := omega) only [wrap64]); (try first | (refine OpsD.gen fun q hq => ?_; cases q <;> (try simp [hlt, hgt, fillV_len hi, fillV_at hlt] at hq) <;> (try (have hh : True := hq; clear hh hq))))) | (refine aopsF_end (hK _ ?_); clear hK K) | (refine aopsF_go ?_; simp [hlt, hgt, fillV_len hi, fillV_at hlt]; (try simp (disch := omega) only [wrap64]); (try first | (refine OpsF.gen fun q hq => ?_; cases q <;> (try simp [hlt, hgt, fillV_len hi, fillV_at hlt] at hq) <;> (try (have hh : True := hq; clear hh hq))))) | (refine wpcallJ_new ?_ (hc) ?_; (focus (solve | (repeat' first | exact FzVs.nil | apply FzVs.cons | apply FzV.c | apply FzV.agg | exact FzL.nil | apply FzL.cons | exact FzC.d | exact FzC.nil | exact FzC.np | (refine FzC.thaw' ?_ (tyK_dp _ _); (focus (solve | simp))) | (refine FzC.thaw' ?_ (tmK_dp _ _ _); (focus (solve | simp)))))); rintro _ _ ⟨v, rfl, rfl⟩; simp [hlt, hgt, fillV_len hi, fillV_at hlt]; (try simp (disch := omega) only [wrap64]); (try first | (refine OpsJ.gen fun q hq => ?_; cases q <;> (try simp [hlt, hgt, fillV_len hi, fillV_at hlt] at hq) <;> (try (have hh : True := hq; clear hh hq))))) | refine TJ.rs (fun _ => false) fun K hK => ?_ | refine TJ.rs1 (fun _ => false) fun K hK => ?_ | (refine And.intro (by omega) ?_) | refine TJ.cond rfl (fun hcnd => ?_) (fun hcnd => absurd hcnd (by decide)) | refine TJ.cond rfl (fun hcnd => absurd hcnd (by decide)) (fun hcnd => ?_) | refine TJ.seq ?_ | refine TJ.block ?_ | refine TJ.skip ?_ | refine TJ.exit ?_
    refine ⟨vs ++ [v], [], by simp; omega, by simp; omega, ?_, ?_⟩
    · simp (disch := omega) [wrap64, ← fillV_set hu]
    · dsimp only
      rw [zip_snoc hu, List.append_nil]
      exact List.perm_append_comm (l₁ := [_])
  · have hp' : vs.length = l.length := by omega
    repeat' first | (refine aopsJ_end (hK _ _ ?_); clear hK K) | (refine aopsD_end (hK _ ?_); clear hK K) | (refine aopsJ_go ?_; simp [hp']; (try first | (refine OpsJ.gen fun q hq => ?_; cases q <;> (try simp [hp'] at hq) <;> (try (have hh : True := hq; clear hh hq))))) | (refine aopsD_go ?_; simp [hp']; (try first | (refine OpsD.gen fun q hq => ?_; cases q <;> (try simp [hp'] at hq) <;> (try (have hh : True := hq; clear hh hq))))) | (refine aopsF_end (hK _ ?_); clear hK K) | (refine aopsF_go ?_; simp [hp']; (try first | (refine OpsF.gen fun q hq => ?_; cases q <;> (try simp [hp'] at hq) <;> (try (have hh : True := hq; clear hh hq))))) | refine TJ.rs (fun _ => false) fun K hK => ?_ | refine TJ.rs1 (fun _ => false) fun K hK => ?_ | (refine And.intro (by omega) ?_) | refine TJ.cond rfl (fun hcnd => ?_) (fun hcnd => absurd hcnd (by decide)) | refine TJ.cond rfl (fun hcnd => absurd hcnd (by decide)) (fun hcnd => ?_) | refine TJ.seq ?_ | refine TJ.block ?_ | refine TJ.skip ?_ | refine TJ.exit ?_
    refine TJ.ret (DoneJ.own (k := 0) (n := l.length) (Or.inr rfl) (by simp [Try.results38]) rfl rfl ?_ (Lc := (l.map fun t => tyK 31 t.kids).zip vs) (cs := tyRows 31 l) ?_ (M := []) (by simp) ?_)
    · rw [fillV_len hi]
    · rw [fillV_full hp']; exact mk_tyRows _ hp'
    · intro v
      refine ⟨v, rfl, ?_⟩
      rw [fillV_len hi]; simp only [tyK]

theorem toType_tree_step (t : MTy) (h : FCalls Try.prog 38 [.l (t.kids.map eTy)] [] fun r L' => ∃ v, r = .c (.d (.raw v)) ∧ L' = [(tyK 31 t.kids, v)]) :
    FCalls Try.prog 19 [aTy t] [] fun r L' => ∃ v, r = .agg [.d (.i t.kind), .d (.raw v)] ∧ L' = [(tyK 31 t.kids, v)] := by
  refine FCalls.of_body Try.func19 (by kernel_rfl) rfl (by kernel_rfl) (by simp [Try.ntmps19]) ?_
  rw [Try.ntmps19]
  repeat' first | (refine aopsJ_end (hK _ _ ?_); clear hK K) | (refine aopsD_end (hK _ ?_); clear hK K) | (refine aopsJ_go ?_; simp; (try first | (refine OpsJ.gen fun q hq => ?_; cases q <;> (try simp at hq) <;> (try (have hh : True := hq; clear hh hq))))) | (refine aopsD_go ?_; simp; (try first | (refine OpsD.gen fun q hq => ?_; cases q <;> (try simp at hq) <;> (try (have hh : True := hq; clear hh hq))))) | (refine aopsF_end (hK _ ?_); clear hK K) | (refine aopsF_go ?_; simp; (try first | (refine OpsF.gen fun q hq => ?_; cases q <;> (try simp at hq) <;> (try (have hh : True := hq; clear hh hq))))) | (refine wpcallJ_new ?_ (h) ?_; (focus (solve | (repeat' first | exact FzVs.nil | apply FzVs.cons | apply FzV.c | apply FzV.agg | exact FzL.nil | apply FzL.cons | exact FzC.d | exact FzC.nil | exact FzC.np | (refine FzC.thaw' ?_ (tyK_dp _ _); (focus (solve | simp))) | (refine FzC.thaw' ?_ (tmK_dp _ _ _); (focus (solve | simp)))))); rintro _ _ ⟨v, rfl, rfl⟩; simp; (try first | (refine OpsJ.gen fun q hq => ?_; cases q <;> (try simp at hq) <;> (try (have hh : True := hq; clear hh hq))))) | refine TJ.rs (fun _ => false) fun K hK => ?_ | refine TJ.rs1 (fun _ => false) fun K hK => ?_ | (refine And.intro (by omega) ?_) | refine TJ.cond rfl (fun hcnd => ?_) (fun hcnd => absurd hcnd (by decide)) | refine TJ.cond rfl (fun hcnd => absurd hcnd (by decide)) (fun hcnd => ?_) | refine TJ.seq ?_ | refine TJ.block ?_ | refine TJ.skip ?_ | refine TJ.exit ?_
  refine TJ.ret (DoneJ.agg (Or.inr rfl) (r := .agg [.d (.i t.kind), .d (.raw v)]) (by simp [Try.results19]) (by simp [DV.scal]) (M := []) (by simp) ⟨v, rfl, rfl⟩)

theorem toType_tree : (t : MTy) → nTy t ≤ 1048576 → FCalls Try.prog 19 [aTy t] [] fun r L' => ∃ v, r = .agg [.d (.i t.kind), .d (.raw v)] ∧ L' = [(tyK 31 t.kids, v)]
  | .mk k l, hn => toType_tree_step (.mk k l) (by
    rw [nTy_def] at hn
    simp only [MTy.kids_mk] at hn ⊢
    exact toTypeS_tree_step l (by have := nTyS_len l; omega) (fun t ht => toType_tree t (by have := nTyS_mem ht; omega)))
termination_by t => SizeOf.sizeOf t
decreasing_by have := List.sizeOf_lt_of_mem ht; simp; omega
end Go.Proofs.Ytbakdfnmippcoaa

namespace Go.Proofs.Ytbakdfnmippcoaa
attribute [-simp] Go.Av.callJ
open Go Go.Av
attribute [local irreducible] T ACalls TX EX LX Draws Some_ ACallsX eTy eTm MTy.kind MTy.kids MTm.kind MTm.name MTm.num MTm.ty MTm.fr MTm.label MTm.kids
attribute [local simp] eTy_def eTm_def
set_option maxHeartbeats 16000000
set_option maxRecDepth 8000
attribute [local irreducible] TJ FCalls tyK tyRows tmK tmRows

theorem toTermS_tree_step (l : List MTm) (hl : l.length ≤ 1048576) (h : ∀ t ∈ l, FCalls Try.prog 6 [aTm t] [] fun r L' => ∃ v : V3, r = .agg ((rTm t v).map CV.d) ∧ L' = tTm 31 34 t v) :
    FCalls Try.prog 20 [.l (l.map eTm)] [] fun r L' => ∃ v, r = .c (.d (.raw v)) ∧ L' = [(tmK 31 34 l, v)] := by
  refine FCalls.of_body Try.func20 (by kernel_rfl) rfl (by kernel_rfl) (by simp [Try.ntmps20]) ?_
  rw [Try.ntmps20]
  repeat' first | (refine aopsJ_end (hK _ _ ?_); clear hK K) | (refine aopsD_end (hK _ ?_); clear hK K) | (refine aopsJ_go ?_; simp; (try first | (refine OpsJ.gen fun q hq => ?_; cases q <;> (try simp at hq) <;> (try (have hh : True := hq; clear hh hq))))) | (refine aopsD_go ?_; simp; (try first | (refine OpsD.gen fun q hq => ?_; cases q <;> (try simp at hq) <;> (try (have hh : True := hq; clear hh hq))))) | (refine aopsF_end (hK _ ?_); clear hK K) | (refine aopsF_go ?_; simp; (try first | (refine OpsF.gen fun q hq => ?_; cases q <;> (try simp at hq) <;> (try (have hh : True := hq; clear hh hq))))) | refine TJ.rs (fun _ => false) fun K hK => ?_ | refine TJ.rs1 (fun _ => false) fun K hK => ?_ | (refine And.intro (by omega) ?_) | refine TJ.cond rfl (fun hcnd => ?_) (fun hcnd => absurd hcnd (by decide)) | refine TJ.cond rfl (fun hcnd => absurd hcnd (by decide)) (fun hcnd => ?_) | refine TJ.seq ?_ | refine TJ.block ?_ | refine TJ.skip ?_ | refine TJ.exit ?_
  refine TJ.loopF (fun vs : List V3 => ⟨[(0, .l (l.map eTm)), (3, .c (.own 0 l.length)), (4, .i vs.length)], [], [{ sz := 9, ety := 34, rows := fillV rTm [.i 0, .str [], .i 0, .i 0, .sl [], .i 0, .sl [], .i 0, .sl []] l vs, wr := true }]⟩) (fun vs => tsTm 31 34 l vs) (fun vs => l.length + 1 - vs.length) (fun vs => vs.length ≤ l.length) (fun vs hi => ?_) [] (by simp) (by simp [fillV_zero]) (M := []) (by simp [tsTm_nil])
  by_cases hlt : vs.length < l.length
  · obtain ⟨u, hu⟩ := get_lt hlt
    have hum : u ∈ l := List.mem_of_getElem? hu
    have hgt : l[vs.length] = u := by rw [List.getElem?_eq_getElem hlt] at hu; exact Option.some.inj hu
    have hc := h u hum
    repeat' first | (refine aopsJ_end (hK _ _ ?_); clear hK K) | (refine aopsD_end (hK _ ?_); clear hK K) | (refine aopsJ_go ?_; simp [hlt, hgt, fillV_len hi, fillV_at hlt]; (try simp (disch := omega) only [wrap64]); (try first | (refine OpsJ.gen fun q hq => ?_; cases q <;> (try simp [hlt, hgt, fillV_len hi, fillV_at hlt] at hq) <;> (try (have hh : True := hq; clear hh hq))))) | (refine aopsD_go ?_; simp [hlt, hgt, fillV_len hi, fillV_at hlt]; (try simp (disch := omega) only [wrap64]); (try first | (refine OpsD.gen fun q hq => ?_; cases q <;> (try simp [hlt, hgt, fillV_len hi, fillV_at hlt] at hq) <;> (try (have hh : True := hq; clear hh hq))))) | (refine aopsF_end (hK _ ?_); clear hK K) | (refine aopsF_go ?_; simp [hlt, hgt, fillV_len hi, fillV_at hlt]; (try simp (disch := omega) only [wrap64]); (try first | (refine OpsF.gen fun q hq => ?_; cases q <;> (try simp [hlt, hgt, fillV_len hi, fillV_at hlt] at hq) <;> (try (have hh : True := hq; clear hh hq))))) | (refine wpcallJ_new ?_ (hc) ?_; (focus (solve | (repeat' first | exact FzVs.nil | apply FzVs.cons | apply FzV.c | apply FzV.agg | exact FzL.nil | apply FzL.cons | exact FzC.d | exact FzC.nil | exact FzC.np | (refine FzC.thaw' ?_ (tyK_dp _ _); (focus (solve | simp))) | (refine FzC.thaw' ?_ (tmK_dp _ _ _); (focus (solve | simp)))))); rintro _ _ ⟨⟨v1, v2, v3⟩, rfl, rfl⟩; simp [hlt, hgt, fillV_len hi, fillV_at hlt]; (try simp (disch := omega) only [wrap64]); (try first | (refine OpsJ.gen fun q hq => ?_; cases q <;> (try simp [hlt, hgt, fillV_len hi, fillV_at hlt] at hq) <;> (try (have hh : True := hq; clear hh hq))))) | refine TJ.rs (fun _ => false) fun K hK => ?_ | refine TJ.rs1 (fun _ => false) fun K hK => ?_ | (refine And.intro (by omega) ?_) | refine TJ.cond rfl (fun hcnd => ?_) (fun hcnd => absurd hcnd (by decide)) | refine TJ.cond rfl (fun hcnd => absurd hcnd (by decide)) (fun hcnd => ?_) | refine TJ.seq ?_ | refine TJ.block ?_ | refine TJ.skip ?_ | refine TJ.exit ?_
    refine ⟨vs ++ [(v1, v2, v3)], [], by simp; omega, by simp; omega, ?_, ?_⟩
    · simp (disch := omega) [wrap64, ← fillV_set hu]
    · dsimp only
      rw [tsTm_snoc _ _ hu, List.append_nil]
      exact List.perm_append_comm (l₁ := tTm _ _ u (v1, v2, v3))
  · have hp' : vs.length = l.length := by omega
    repeat' first | (refine aopsJ_end (hK _ _ ?_); clear hK K) | (refine aopsD_end (hK _ ?_); clear hK K) | (refine aopsJ_go ?_; simp [hp']; (try first | (refine OpsJ.gen fun q hq => ?_; cases q <;> (try simp [hp'] at hq) <;> (try (have hh : True := hq; clear hh hq))))) | (refine aopsD_go ?_; simp [hp']; (try first | (refine OpsD.gen fun q hq => ?_; cases q <;> (try simp [hp'] at hq) <;> (try (have hh : True := hq; clear hh hq))))) | (refine aopsF_end (hK _ ?_); clear hK K) | (refine aopsF_go ?_; simp [hp']; (try first | (refine OpsF.gen fun q hq => ?_; cases q <;> (try simp [hp'] at hq) <;> (try (have hh : True := hq; clear hh hq))))) | refine TJ.rs (fun _ => false) fun K hK => ?_ | refine TJ.rs1 (fun _ => false) fun K hK => ?_ | (refine And.intro (by omega) ?_) | refine TJ.cond rfl (fun hcnd => ?_) (fun hcnd => absurd hcnd (by decide)) | refine TJ.cond rfl (fun hcnd => absurd hcnd (by decide)) (fun hcnd => ?_) | refine TJ.seq ?_ | refine TJ.block ?_ | refine TJ.skip ?_ | refine TJ.exit ?_
    refine TJ.ret (DoneJ.own (k := 0) (n := l.length) (Or.inr rfl) (by simp [Try.results20]) rfl rfl ?_ (Lc := tsTm 31 34 l vs) (cs := tmRows 31 34 l) ?_ (M := []) (by simp) ?_)
    · rw [fillV_len hi]
    · rw [fillV_full hp']; exact mk_tmRows _ _ hp'
    · intro v
      refine ⟨v, rfl, ?_⟩
      rw [fillV_len hi]; simp only [tmK]

theorem toTerm_tree_step (e : MTm) (h1 : nTy e.ty ≤ 1048576) (h2 : nTy e.fr ≤ 1048576) (h : FCalls Try.prog 20 [.l (e.kids.map eTm)] [] fun r L' => ∃ v, r = .c (.d (.raw v)) ∧ L' = [(tmK 31 34 e.kids, v)]) :
    FCalls Try.prog 6 [aTm e] [] fun r L' => ∃ v : V3, r = .agg ((rTm e v).map CV.d) ∧ L' = tTm 31 34 e v := by
  have k1 := toType_tree e.ty h1
  have k2 := toType_tree e.fr h2
  refine FCalls.of_body Try.func6 (by kernel_rfl) rfl (by kernel_rfl) (by simp [Try.ntmps6]) ?_
  rw [Try.ntmps6]
  repeat' first | (refine aopsJ_end (hK _ _ ?_); clear hK K) | (refine aopsD_end (hK _ ?_); clear hK K) | (refine aopsJ_go ?_; simp; (try first | (refine OpsJ.gen fun q hq => ?_; cases q <;> (try simp at hq) <;> (try (have hh : True := hq; clear hh hq))))) | (refine aopsD_go ?_; simp; (try first | (refine OpsD.gen fun q hq => ?_; cases q <;> (try simp at hq) <;> (try (have hh : True := hq; clear hh hq))))) | (refine aopsF_end (hK _ ?_); clear hK K) | (refine aopsF_go ?_; simp; (try first | (refine OpsF.gen fun q hq => ?_; cases q <;> (try simp at hq) <;> (try (have hh : True := hq; clear hh hq))))) | (refine wpcallJ_new ?_ (k1) ?_; (focus (solve | (repeat' first | exact FzVs.nil | apply FzVs.cons | apply FzV.c | apply FzV.agg | exact FzL.nil | apply FzL.cons | exact FzC.d | exact FzC.nil | exact FzC.np | (refine FzC.thaw' ?_ (tyK_dp _ _); (focus (solve | simp))) | (refine FzC.thaw' ?_ (tmK_dp _ _ _); (focus (solve | simp)))))); rintro _ _ ⟨v1, rfl, rfl⟩; simp; (try first | (refine OpsJ.gen fun q hq => ?_; cases q <;> (try simp at hq) <;> (try (have hh : True := hq; clear hh hq))))) | (refine wpcallJ_new ?_ (k2) ?_; (focus (solve | (repeat' first | exact FzVs.nil | apply FzVs.cons | apply FzV.c | apply FzV.agg | exact FzL.nil | apply FzL.cons | exact FzC.d | exact FzC.nil | exact FzC.np | (refine FzC.thaw' ?_ (tyK_dp _ _); (focus (solve | simp))) | (refine FzC.thaw' ?_ (tmK_dp _ _ _); (focus (solve | simp)))))); rintro _ _ ⟨v2, rfl, rfl⟩; simp; (try first | (refine OpsJ.gen fun q hq => ?_; cases q <;> (try simp at hq) <;> (try (have hh : True := hq; clear hh hq))))) | (refine wpcallJ_new ?_ (h) ?_; (focus (solve | (repeat' first | exact FzVs.nil | apply FzVs.cons | apply FzV.c | apply FzV.agg | exact FzL.nil | apply FzL.cons | exact FzC.d | exact FzC.nil | exact FzC.np | (refine FzC.thaw' ?_ (tyK_dp _ _); (focus (solve | simp))) | (refine FzC.thaw' ?_ (tmK_dp _ _ _); (focus (solve | simp)))))); rintro _ _ ⟨v, rfl, rfl⟩; simp; (try first | (refine OpsJ.gen fun q hq => ?_; cases q <;> (try simp at hq) <;> (try (have hh : True := hq; clear hh hq))))) | refine TJ.rs (fun _ => false) fun K hK => ?_ | refine TJ.rs1 (fun _ => false) fun K hK => ?_ | (refine And.intro (by omega) ?_) | refine TJ.cond rfl (fun hcnd => ?_) (fun hcnd => absurd hcnd (by decide)) | refine TJ.cond rfl (fun hcnd => absurd hcnd (by decide)) (fun hcnd => ?_) | refine TJ.seq ?_ | refine TJ.block ?_ | refine TJ.skip ?_ | refine TJ.exit ?_
  refine TJ.ret (DoneJ.agg (Or.inr rfl) (L' := tTm 31 34 e (v1, v2, v)) (r := .agg ((rTm e (v1, v2, v)).map CV.d)) (by simp [Try.results6]) (by simp [DV.scal]) (M := []) ?_ ⟨(v1, v2, v), rfl, rfl⟩)
  simp only [tTm, List.append_nil]
  exact (List.reverse_perm _).symm

theorem toTerm_tree : (e : MTm) → nTm e ≤ 1048576 → FCalls Try.prog 6 [aTm e] [] fun r L' => ∃ v : V3, r = .agg ((rTm e v).map CV.d) ∧ L' = tTm 31 34 e v
  | .mk k s n t f b l, hn => by
    have hn0 := hn
    rw [nTm_def] at hn
    have hlen := nTmS_len l
    simp only [MTm.kids_mk, MTm.ty_mk, MTm.fr_mk, MTm.name_mk] at hn
    exact toTerm_tree_step _ (by simp only [MTm.ty_mk]; omega) (by simp only [MTm.fr_mk]; omega) (by simp only [MTm.kids_mk]; exact toTermS_tree_step l (by omega) (fun t ht => toTerm_tree t (by have := nTmS_mem ht; omega)))
termination_by t => SizeOf.sizeOf t
decreasing_by have := List.sizeOf_lt_of_mem ht; simp; omega
end Go.Proofs.Ytbakdfnmippcoaa
