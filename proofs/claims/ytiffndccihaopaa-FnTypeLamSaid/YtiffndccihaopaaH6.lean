/- A part of the library of this seat: a value-semantic program logic over the model, plain models, and walks of functions. -/
import Derived.Test.YtiffndccihaopaaH5
set_option linter.unusedVariables false
set_option linter.unusedSimpArgs false
namespace Go.Proofs.Ytiffndccihaopaa
attribute [-simp] Go.Av.take_app_len Go.Av.innVs Go.Av.putBack Go.Av.objCells Go.Av.back Go.Av.resVs Go.Av.one Go.Av.freeStepG Go.Av.exA
open Go Go.Av
attribute [local irreducible] T ACalls TX EX LX Draws Some_ ACallsX eTy eTm MTy.kind MTy.kids MTm.kind MTm.name MTm.num MTm.ty MTm.fr MTm.label MTm.kids
attribute [local simp] eTy_def eTm_def
set_option linter.unusedSimpArgs false
set_option linter.unusedVariables false
set_option maxHeartbeats 16000000
set_option maxRecDepth 8000

theorem l2Num_ok (n : Int) : ACalls Try.prog 78 [.i n] [] (aTm (.mk 2 [] n zeroT zeroT 0 [])) [] [] := by
  refine ACalls.of_body Try.func78 (by kernel_rfl) rfl (by kernel_rfl) (by simp [Try.ntmps78]) (by simp) ?_
  rw [Try.ntmps78]
  repeat' first
    | ((first | refine aops_end (hK _ ?_)); clear hK K)
    | ((first | refine aops_go ?_); simp; (try (refine gen fun q hq => ?_; cases q <;> (try simp at hq) <;> (try (have hh : True := hq; clear hh hq)))))
    | (refine T.ret (Done.val (Or.inr rfl) ?_) <;> simp [resAs, Try.results78] <;> omega)
    | refine T.rs (fun _ => false) fun K hK => ?_

theorem l2Add_ok (s : List UInt8) (c : UInt8) (hs : s.length ≤ 1099511627776) : ACalls Try.prog 115 [.s s, .s [c]] [] (.s (addM c s)) [] [] := by
  refine ACalls.of_body Try.func115 (by kernel_rfl) rfl (by kernel_rfl) (by simp [Try.ntmps115]) (by simp) ?_
  rw [Try.ntmps115]
  repeat' first
    | ((first | refine aops_end (hK _ ?_)); clear hK K)
    | ((first | refine aops_go ?_); simp; (try (refine gen fun q hq => ?_; cases q <;> (try simp at hq) <;> (try (have hh : True := hq; clear hh hq)))))
    | refine T.rs (fun _ => false) fun K hK => ?_
    | refine T.seq ?_
    | refine T.block ?_
  refine T.loopF (fun k : Nat => ⟨[(0, .s s), (1, .s [c]), (4, .s []), (5, .i k)], [], []⟩) (fun k => s.length + 1 - k) (fun k => k ≤ s.length ∧ addM c s = s.take k ++ addM c (s.drop k)) (fun k hk => ?_) 0 (by simp) (by simp)
  obtain ⟨hi, he⟩ := hk
  by_cases hlt : k < s.length
  · have hsl := slice_one hlt
    have hdr := drop_cons hlt
    have htk : s.take (k + 1) = s.take k ++ [s[k]] := by rw [List.take_add_one, List.getElem?_eq_getElem hlt]; rfl
    generalize hx : s[k] = x at *
    have hbl := bytesLess_one x c
    have hto : ((k : Int) + 1).toNat = k + 1 := by omega
    have hk1 : (k : Int) ≤ k + 1 := by omega
    have hk2 : (k : Int) + 1 ≤ s.length := by omega
    by_cases h1 : x < c
    · have he' : addM c s = s.take (k + 1) ++ addM c (s.drop (k + 1)) := by rw [he, hdr, htk]; simp [addM, h1]
      repeat' first
        | ((first | refine aops_end (hK _ ?_)); clear hK K)
        | ((first | refine aops_go ?_); simp [hlt, hto, hsl, hbl, h1, hk2]; (try simp (disch := omega) only [wrap64]); (try (refine gen fun q hq => ?_; cases q <;> (try simp [hlt, hto, hsl, hbl, h1, hk2] at hq) <;> (try (have hh : True := hq; clear hh hq)))))
        | (refine ⟨k + 1, by dsimp only; omega, ⟨by omega, he'⟩, ?_⟩; simp (disch := omega) [wrap64])
        | refine T.rs (fun _ => false) fun K hK => ?_
        | refine T.rs1 (fun _ => false) fun K hK => ?_
        | (refine ⟨by omega, ?_⟩)
        | refine T.cond rfl (fun hcnd => ?_) (fun hcnd => absurd hcnd (by decide))
        | refine T.seq ?_
        | refine T.block ?_
        | refine T.skip ?_
    · by_cases h2 : x = c
      · subst h2
        have he' : addM x s = s := by rw [he, hdr]; simp [addM]; rw [← hdr]; simp
        rw [he']
        have hbl' : Op.bytesLess [x] [x] = false := by rw [hbl]; simp
        repeat' first
          | ((first | refine aops_end (hK _ ?_)); clear hK K)
          | ((first | refine aops_go ?_); simp [hlt, hto, hsl, hbl', hk2]; (try simp (disch := omega) only [wrap64]); (try (refine gen fun q hq => ?_; cases q <;> (try simp [hlt, hto, hsl, hbl', hk2] at hq) <;> (try (have hh : True := hq; clear hh hq)))))
          | (refine T.ret (Done.data (Or.inr rfl) ?_ ?_) <;> simp [Try.results115] <;> omega)
          | refine T.rs (fun _ => false) fun K hK => ?_
          | (refine ⟨by omega, ?_⟩)
          | refine T.cond rfl (fun hcnd => ?_) (fun hcnd => absurd hcnd (by decide))
          | refine T.cond rfl (fun hcnd => absurd hcnd (by decide)) (fun hcnd => ?_)
          | refine T.seq ?_
          | refine T.exit ?_
      · have he' : addM c s = s.take k ++ [c] ++ s.drop k := by rw [he, hdr]; simp [addM, h1, h2]
        rw [he']
        have hmin : min k s.length = k := by omega
        have ha1 : k + 1 ≤ 4611686018427387904 := by omega
        have ha2 : k + 1 + (s.length - k) ≤ 4611686018427387904 := by omega
        repeat' first
          | ((first | refine aops_end (hK _ ?_) | refine aopsD_end (hK _ ?_)); clear hK K)
          | ((first | refine aops_go ?_ | refine aopsD_go ?_); simp [hlt, hto, hsl, hbl, h1, h2, hk2, hmin, ha1, ha2]; (try simp (disch := omega) only [wrap64]); (try (refine gen fun q hq => ?_; cases q <;> (try simp [hlt, hto, hsl, hbl, h1, h2, hk2, hmin, ha1, ha2] at hq) <;> (try (have hh : True := hq; clear hh hq)))))
          | (refine T.ret (Done.data (Or.inr rfl) ?_ ?_) <;> simp [Try.results115] <;> omega)
          | refine T.rd (id := 6) mixed (fun _ => false) [] (by kernel_rfl) fun K hK => ?_
          | refine T.rs (fun _ => false) fun K hK => ?_
          | (refine ⟨by omega, ?_⟩)
          | refine T.cond rfl (fun hcnd => absurd hcnd (by decide)) (fun hcnd => ?_)
          | refine T.seq ?_
          | refine T.skip ?_
          | refine T.exit ?_
  · have hk' : k = s.length := by omega
    subst hk'
    simp [addM] at he
    rw [he]
    have ha1 : s.length + 1 ≤ 4611686018427387904 := by omega
    repeat' first
      | ((first | refine aops_end (hK _ ?_) | refine aopsD_end (hK _ ?_)); clear hK K)
      | ((first | refine aops_go ?_ | refine aopsD_go ?_); simp [hlt, ha1]; (try simp (disch := omega) only [wrap64]); (try (refine gen fun q hq => ?_; cases q <;> (try simp [hlt, ha1] at hq) <;> (try (have hh : True := hq; clear hh hq)))))
      | (refine T.ret (Done.data (Or.inr rfl) ?_ ?_) <;> simp [Try.results115] <;> omega)
      | refine T.rd (id := 6) mixed (fun _ => false) [] (by kernel_rfl) fun K hK => ?_
      | refine T.rs (fun _ => false) fun K hK => ?_
      | refine T.cond rfl (fun hcnd => absurd hcnd (by decide)) (fun hcnd => ?_)
      | refine T.seq ?_
      | refine T.skip ?_
      | refine T.exit ?_

theorem l2Copy_ok : ∀ (e : MTm), nTm e ≤ 1099511627776 → ACalls Try.prog 74 [aTm e] [] (aTm e) [] [] := by
  intro e
  induction e using MTm.ind with
  | h e ih =>
    intro hn
    obtain ⟨hnt, hnf, hnk, hnu⟩ := nTm_parts hn
    have h1 := l1Copy_ok e.ty hnt
    have h2 := l1Copy_ok e.fr hnf
    refine ACalls.of_body Try.func74 (by kernel_rfl) rfl (by kernel_rfl) (by simp [Try.ntmps74]) (by simp) ?_
    rw [Try.ntmps74]
    repeat' first
      | ((first | refine aops_end (hK _ ?_)); clear hK K)
      | ((first | refine aops_go ?_); simp; (try (refine gen fun q hq => ?_; cases q <;> (try simp at hq) <;> (try (have hh : True := hq; clear hh hq)))))
      | (refine wpcall_pure rfl (h1) ?_; simp; (try (refine gen fun q hq => ?_; cases q <;> (try simp at hq) <;> (try (have hh : True := hq; clear hh hq)))))
      | (refine wpcall_pure rfl (h2) ?_; simp; (try (refine gen fun q hq => ?_; cases q <;> (try simp at hq) <;> (try (have hh : True := hq; clear hh hq)))))
      | refine T.rs (fun _ => false) fun K hK => ?_
      | refine T.seq ?_
      | refine T.block ?_
    refine T.ownifyObj 2 8 9 28 rfl rfl ?_
    refine T.loopF (fun p : Nat => ⟨[(1, .c (.ptr 0 0)), (2, .c (.ptr 1 0)), (3, .c (.ptr 2 0)), (4, .i p)], [(aTm e).cells, [.d (.i 0), .d (.str []), .d (.i 0), .d (.i 0), .nil, .d (.i 0), .nil, .d (.i 0), .nil], [.d (.i e.kind), .d (.str e.name), .d (.i e.num), .d (.i e.ty.kind), .d (.sl (e.ty.kids.map eTy)), .d (.i e.fr.kind), .d (.sl (e.fr.kids.map eTy)), .d (.i e.label), .own 0 p]], [{ sz := 9, ety := 28, rows := (e.kids.take p).map eTm, wr := true }]⟩) (fun p => e.kids.length + 1 - p) (fun p => p ≤ e.kids.length) (fun p hi => ?_) 0 (by simp) (by simp)
    by_cases hlt : p < e.kids.length
    · obtain ⟨u, ht⟩ := get_lt hlt
      have htm : u ∈ e.kids := List.mem_of_getElem? ht
      have hgt : e.kids[p] = u := by rw [List.getElem?_eq_getElem hlt] at ht; exact Option.some.inj ht
      have hdr : e.kids.drop p = u :: e.kids.drop (p + 1) := by rw [List.drop_eq_getElem_cons hlt, hgt]
      have hu := ih u htm (hnu u htm)
      have htk : e.kids.take (p + 1) = e.kids.take p ++ [u] := by rw [List.take_add_one, ht]; rfl
      have hmin : min p e.kids.length = p := by omega
      repeat' first
        | ((first | refine aops_end (hK _ ?_) | refine aopsD_end (hK _ ?_)); clear hK K)
        | ((first | refine aops_go ?_ | refine aopsD_go ?_); simp [hlt, hgt, hmin]; (try simp (disch := omega) only [wrap64]); (try (refine gen fun q hq => ?_; cases q <;> (try simp [hlt, hgt, hmin] at hq) <;> (try (have hh : True := hq; clear hh hq)))))
        | (refine wpcall_pure rfl (hu) ?_; simp [hlt, hgt, hmin]; (try simp (disch := omega) only [wrap64]); (try (refine gen fun q hq => ?_; cases q <;> (try simp [hlt, hgt, hmin] at hq) <;> (try (have hh : True := hq; clear hh hq)))))
        | (refine ⟨p + 1, by dsimp only; omega, by omega, ?_, ?_, ?_⟩ <;> simp (disch := omega) [wrap64, htk, eTm_def])
        | refine T.rd1 (id := 8) mixed (fun _ => false) [9, 11] (by kernel_rfl) fun K hK => ?_
        | refine T.rs (fun _ => false) fun K hK => ?_
        | refine T.rs1 (fun _ => false) fun K hK => ?_
        | (refine ⟨by omega, ?_⟩)
        | refine T.cond rfl (fun hcnd => ?_) (fun hcnd => absurd hcnd (by decide))
        | refine T.seq ?_
        | refine T.block ?_
        | refine T.skip ?_
    · have hp' : p = e.kids.length := by omega
      subst hp'
      repeat' first
        | ((first | refine aops_end (hK _ ?_)); clear hK K)
        | ((first | refine aops_go ?_); simp [hlt]; (try (refine gen fun q hq => ?_; cases q <;> (try simp [hlt] at hq) <;> (try (have hh : True := hq; clear hh hq)))))
        | (refine T.ret (Done.val (Or.inr rfl) ?_) <;> simp [resAs, Try.results74] <;> omega)
        | refine T.rs (fun _ => false) fun K hK => ?_
        | refine T.cond rfl (fun hcnd => absurd hcnd (by decide)) (fun hcnd => ?_)
        | refine T.seq ?_
        | refine T.exit ?_

theorem l1DrawT_ok (b : List Int) (hb : okB b) (x : Int) (hx : x = 1 ∨ x = 2 ∨ x = 3 ∨ x = 4) (p : Nat) (hp : p + 256 ≤ 1099511627776) : Draws Try.prog 49 [.i x] b p 256 (RV aTy noA fun t => shapeTy 4 t = true) := by
  rcases hx with rfl | rfl | rfl | rfl
  · exact (l1Draw_ok b hb 0 p (by omega) (by omega)).mono (by omega) fun t h => shapeTy_mono (shapeTy_mono (shapeTy_mono h))
  · exact (l1Draw_ok b hb 1 p (by omega) (by omega)).mono (by omega) fun t h => shapeTy_mono (shapeTy_mono h)
  · exact (l1Draw_ok b hb 2 p (by omega) (by omega)).mono (by omega) fun t h => shapeTy_mono h
  · exact (l1Draw_ok b hb 3 p (by omega) (by omega)).mono (by omega) fun t h => h

theorem l2Atom_ok (b : List Int) (hb : okB b) (s : List UInt8) (hs : s.length ≤ 1000) (p : Nat) (hp : p + 3 ≤ 1099511627776) : Draws Try.prog 114 [.s s] b p 3 (RV aTm noA fun e => nTm e ≤ 1) := by
  have hnum := l2Num_ok
  refine Draws.of_body Try.func114 (by kernel_rfl) rfl (by kernel_rfl) (by simp [Try.ntmps114]) ?_
  rw [Try.ntmps114]
  repeat' first
    | ((first | refine aops_end (hK _ ?_)); clear hK K)
    | ((first | refine aops_go ?_); simp; (try simp (disch := omega) only [wrap64]); (try (refine gen fun q hq => ?_; cases q <;> (try simp at hq) <;> (try (have hh : True := hq; clear hh hq)))))
    | (refine wpcall_pure rfl (hnum _) ?_; simp; (try simp (disch := omega) only [wrap64]); (try (refine gen fun q hq => ?_; cases q <;> (try simp at hq) <;> (try (have hh : True := hq; clear hh hq)))))
    | (refine wpcall_dr 0 rfl rfl (pick_ok b hb _ (by omega) 4 (by omega)) (fun x1 p1 hx1 hp1 hp1' => ?_); simp; (try simp (disch := omega) only [wrap64]); (try (refine gen fun q hq => ?_; cases q <;> (try simp at hq) <;> (try (have hh : True := hq; clear hh hq)))))
    | (refine wpcall_dr 0 rfl rfl (pick_ok b hb _ (by omega) 5 (by omega)) (fun x1 p1 hx1 hp1 hp1' => ?_); simp; (try simp (disch := omega) only [wrap64]); (try (refine gen fun q hq => ?_; cases q <;> (try simp at hq) <;> (try (have hh : True := hq; clear hh hq)))))
    | (refine wpcall_dr 0 rfl rfl (pick_ok b hb _ (by omega) s.length (by omega)) (fun x1 p1 hx1 hp1 hp1' => ?_); simp; (try simp (disch := omega) only [wrap64]); (try (refine gen fun q hq => ?_; cases q <;> (try simp at hq) <;> (try (have hh : True := hq; clear hh hq)))))
    | (refine wpcall_dr 0 rfl rfl (num_ok b hb _ (by omega) [1, 0, 2, 5, 999, 7] (by simp) (by simp)) (fun x1 p1 hx1 hp1 hp1' => ?_); simp; (try simp (disch := omega) only [wrap64]); (try (refine gen fun q hq => ?_; cases q <;> (try simp at hq) <;> (try (have hh : True := hq; clear hh hq)))))
    | refine TX.rs (fun _ => false) fun K hK => ?_
    | (refine ⟨by omega, ?_⟩)
    | refine TX.cond rfl (fun hcnd => ?_) (fun hcnd => absurd hcnd (by decide))
    | refine TX.cond rfl (fun hcnd => absurd hcnd (by decide)) (fun hcnd => ?_)
    | refine TX.seq ?_
    | refine TX.block ?_
    | refine TX.skip ?_
    | refine EX.thenN ?_
    | refine EX.blockN ?_
  all_goals (
    refine TX.ret ?_
    repeat' first | refine EX.outR ?_ | refine EX.thenR ?_ | refine EX.blockR ?_ | refine EX.unrR ?_
    apply EX.drA (ks := [])
    case he => exact Or.inr rfl
    case hys => simp [resAs, getAs, Try.results114] <;> rfl
    case hv => first | (dsimp only [Av.one]; exact rfl) | dsimp only [Av.one]
    case hx => repeat' first | exact IsT2.var _ | exact IsV.tmv _ | exact IsTm.var _ | exact IsTy.row _ | exact IsTm.row _ | exact IsTys.nil | exact IsTms.nil | exact IsBds.nil | exact IsTys.map _ | exact IsTms.map _ | exact IsBds.map _ | exact IsV.int _ | exact IsV.str _ | exact IsV.bool _ | apply IsV.p2 | apply IsV.p3 | apply IsV.tm | apply IsV.ty | apply IsTm.node | apply IsTy.of | apply IsTys.cons | apply IsTms.cons | apply IsBds.cons | apply IsV.tys | apply IsV.tms | apply IsV.bds | apply IsT2.node | apply IsTys.app | apply IsTms.app | apply IsBds.app
    case hA => exact rfl
    case hks => simp
    case hV => exact rfl
    case h1 => omega
    case h2 => omega
    case hg => simp [nTm_mk, nTy_mk, nTyS, nTmS] <;> omega)

theorem l2Draw_ok (b : List Int) (hb : okB b) : ∀ (d : Nat) (s : List UInt8) (p : Nat), d ≤ 50 → s.length + d ≤ 100 → p + 400 * 4 ^ d ≤ 1099511627776 → Draws Try.prog 68 [.s s, .i d] b p (400 * 4 ^ d) (RV aTm noA fun e => nTm e ≤ 400 * 4 ^ d) := by
  intro d
  induction d with
  | zero =>
    intro s p hd hs hp
    refine Draws.of_body Try.func68 (by kernel_rfl) rfl (by kernel_rfl) (by simp [Try.ntmps68]) ?_
    rw [Try.ntmps68]
    repeat' first
      | ((first | refine aops_end (hK _ ?_)); clear hK K)
      | ((first | refine aops_go ?_); simp; (try simp (disch := omega) only [wrap64]); (try (refine gen fun q hq => ?_; cases q <;> (try simp at hq) <;> (try (have hh : True := hq; clear hh hq)))))
      | (refine wpcall_dr 0 rfl rfl (l2Atom_ok b hb s (by omega) _ (by omega)) (fun x1 p1 hx1 hp1 hp1' => ?_); simp; (try simp (disch := omega) only [wrap64]); (try (refine gen fun q hq => ?_; cases q <;> (try simp at hq) <;> (try (have hh : True := hq; clear hh hq)))))
      | refine TX.rs (fun _ => false) fun K hK => ?_
      | refine TX.cond rfl (fun hcnd => ?_) (fun hcnd => absurd hcnd (by decide))
      | refine TX.seq ?_
    all_goals (
      refine TX.ret ?_
      repeat' first | refine EX.outR ?_ | refine EX.thenR ?_ | refine EX.blockR ?_ | refine EX.unrR ?_
      apply EX.drA (ks := [])
      case he => exact Or.inr rfl
      case hys => simp [resAs, getAs, Try.results68] <;> rfl
      case hv => first | (dsimp only [Av.one]; exact rfl) | dsimp only [Av.one]
      case hx => repeat' first | exact IsT2.var _ | exact IsV.tmv _ | exact IsTm.var _ | exact IsTy.row _ | exact IsTm.row _ | exact IsTys.nil | exact IsTms.nil | exact IsBds.nil | exact IsTys.map _ | exact IsTms.map _ | exact IsBds.map _ | exact IsV.int _ | exact IsV.str _ | exact IsV.bool _ | apply IsV.p2 | apply IsV.p3 | apply IsV.tm | apply IsV.ty | apply IsTm.node | apply IsTy.of | apply IsTys.cons | apply IsTms.cons | apply IsBds.cons | apply IsV.tys | apply IsV.tms | apply IsV.bds | apply IsT2.node | apply IsTys.app | apply IsTms.app | apply IsBds.app
      case hA => exact rfl
      case hks => simp
      case hV => exact rfl
      case h1 => omega
      case h2 => omega
      case hg => omega)
  | succ d ih =>
    intro s p hd hs hp
    have h4 : 4 ^ (d + 1) = 4 * 4 ^ d := by rw [Nat.pow_succ]; omega
    have h1 : 1 ≤ 4 ^ d := Nat.pos_of_ne_zero (by simp)
    rw [h4] at hp ⊢
    generalize hN : 4 ^ d = N at *
    by_cases hd0 : d = 0
    · subst hd0
      refine Draws.of_body Try.func68 (by kernel_rfl) rfl (by kernel_rfl) (by simp [Try.ntmps68]) ?_
      rw [Try.ntmps68]
      repeat' first
        | ((first | refine aops_end (hK _ ?_)); clear hK K)
        | ((first | refine aops_go ?_); simp; (try simp (disch := omega) only [wrap64]); (try (refine gen fun q hq => ?_; cases q <;> (try simp at hq) <;> (try (have hh : True := hq; clear hh hq)))))
        | (refine wpcall_dr 0 rfl rfl (l2Atom_ok b hb s (by omega) _ (by omega)) (fun x1 p1 hx1 hp1 hp1' => ?_); simp; (try simp (disch := omega) only [wrap64]); (try (refine gen fun q hq => ?_; cases q <;> (try simp at hq) <;> (try (have hh : True := hq; clear hh hq)))))
        | refine TX.rs (fun _ => false) fun K hK => ?_
        | refine TX.cond rfl (fun hcnd => ?_) (fun hcnd => absurd hcnd (by decide))
        | refine TX.seq ?_
      all_goals (
        refine TX.ret ?_
        repeat' first | refine EX.outR ?_ | refine EX.thenR ?_ | refine EX.blockR ?_ | refine EX.unrR ?_
        apply EX.drA (ks := [])
        case he => exact Or.inr rfl
        case hys => simp [resAs, getAs, Try.results68] <;> rfl
        case hv => first | (dsimp only [Av.one]; exact rfl) | dsimp only [Av.one]
        case hx => repeat' first | exact IsT2.var _ | exact IsV.tmv _ | exact IsTm.var _ | exact IsTy.row _ | exact IsTm.row _ | exact IsTys.nil | exact IsTms.nil | exact IsBds.nil | exact IsTys.map _ | exact IsTms.map _ | exact IsBds.map _ | exact IsV.int _ | exact IsV.str _ | exact IsV.bool _ | apply IsV.p2 | apply IsV.p3 | apply IsV.tm | apply IsV.ty | apply IsTm.node | apply IsTy.of | apply IsTys.cons | apply IsTms.cons | apply IsBds.cons | apply IsV.tys | apply IsV.tms | apply IsV.bds | apply IsT2.node | apply IsTys.app | apply IsTms.app | apply IsBds.app
        case hA => exact rfl
        case hks => simp
        case hV => exact rfl
        case h1 => omega
        case h2 => omega
        case hg => omega)
    have hd2 : ¬ ((d : Int) + 1 < 2) := by omega
    have hd3 : (d : Int) + 1 - 1 = d := by omega
    have hadd : ∀ c, (addM c s).length + d ≤ 100 := fun c => by have := addM_len c s; omega
    refine Draws.of_body Try.func68 (by kernel_rfl) rfl (by kernel_rfl) (by simp [Try.ntmps68]) ?_
    rw [Try.ntmps68]
    repeat' first
      | ((first | refine aops_end (hK _ ?_) | refine aopsF_end (hK _ ?_)); clear hK K)
      | ((first | refine aops_go ?_ | refine aopsF_go ?_); simp [kidsM, hd2, hd3]; (try simp (disch := omega) only [wrap64]); (try (refine gen fun q hq => ?_; cases q <;> (try simp [kidsM, hd2, hd3] at hq) <;> (try (have hh : True := hq; clear hh hq)))))
      | (refine wpcall_pure rfl (l2Kids_ok _) ?_; simp [kidsM, hd2, hd3]; (try simp (disch := omega) only [wrap64]); (try (refine gen fun q hq => ?_; cases q <;> (try simp [kidsM, hd2, hd3] at hq) <;> (try (have hh : True := hq; clear hh hq)))))
      | (refine wpcall_pure rfl (l2Add_ok s _ (by omega)) ?_; simp [kidsM, hd2, hd3]; (try simp (disch := omega) only [wrap64]); (try (refine gen fun q hq => ?_; cases q <;> (try simp [kidsM, hd2, hd3] at hq) <;> (try (have hh : True := hq; clear hh hq)))))
      | (refine wpcall_dr 0 rfl rfl (num_ok b hb _ (by omega) [6, 5, 7, 9, 13, 10, 11, 8, 12, 5, 6] (by simp) (by simp)) (fun x p1 hx hp1 hp1' => ?_); simp at hx; (have hx2 : x = 6 ∨ x = 5 ∨ x = 7 ∨ x = 9 ∨ x = 13 ∨ x = 10 ∨ x = 11 ∨ x = 8 ∨ x = 12 := by omega); clear hx; rcases hx2 with rfl | rfl | rfl | rfl | rfl | rfl | rfl | rfl | rfl <;> (simp [kidsM, hd2, hd3]; (try simp (disch := omega) only [wrap64])))
      | (refine wpcall_dr 0 rfl rfl (l2Atom_ok b hb s (by omega) _ (by omega)) (fun x1 p1 hx1 hp1 hp1' => ?_); simp [kidsM, hd2, hd3]; (try simp (disch := omega) only [wrap64]); (try (refine gen fun q hq => ?_; cases q <;> (try simp [kidsM, hd2, hd3] at hq) <;> (try (have hh : True := hq; clear hh hq)))))
      | (refine wpcall_dr 0 rfl rfl (pick_ok b hb _ (by omega) 6 (by omega)) (fun x1 p1 hx1 hp1 hp1' => ?_); simp [kidsM, hd2, hd3]; (try simp (disch := omega) only [wrap64]); (try (refine gen fun q hq => ?_; cases q <;> (try simp [kidsM, hd2, hd3] at hq) <;> (try (have hh : True := hq; clear hh hq)))))
      | (refine wpcall_dr 0 rfl rfl (ih s _ (by omega) (by omega) (by omega)) (fun x1 p1 hx1 hp1 hp1' => ?_); simp [kidsM, hd2, hd3]; (try simp (disch := omega) only [wrap64]); (try (refine gen fun q hq => ?_; cases q <;> (try simp [kidsM, hd2, hd3] at hq) <;> (try (have hh : True := hq; clear hh hq)))))
      | (refine wpcall_dr 0 rfl rfl (ih (addM _ s) _ (by omega) (hadd _) (by omega)) (fun x1 p1 hx1 hp1 hp1' => ?_); simp [kidsM, hd2, hd3]; (try simp (disch := omega) only [wrap64]); (try (refine gen fun q hq => ?_; cases q <;> (try simp [kidsM, hd2, hd3] at hq) <;> (try (have hh : True := hq; clear hh hq)))))
      | (refine wpcall_dr 0 rfl rfl (of_ok b hb _ (by omega) [[120], [121], [122], [102]] (by simp) (by simp)) (fun x p1 hx hp1 hp1' => ?_); (obtain ⟨c, rfl⟩ : ∃ c, x = [c] := by simp at hx; rcases hx with rfl | rfl | rfl | rfl <;> exact ⟨_, rfl⟩); simp)
      | (refine wpcall_dr 0 rfl rfl (num_ok b hb _ (by omega) [2, 1, 3, 2] (by simp) (by simp)) (fun y p1 hy hp1 hp1' => ?_); simp at hy; simp)
      | (refine wpcall_dr 0 rfl rfl (l1DrawT_ok b hb _ (by omega) _ (by omega)) (fun t p1 ht hp1 hp1' => ?_); replace ht := shape4 ht; simp)
      | refine TX.rdF1 (id := 13) mixed (fun _ => false) [6, 8, 10] [1] 7 [0] (by kernel_rfl) fun K hK => ?_
      | refine TX.rs (fun _ => false) fun K hK => ?_
      | refine TX.rs1 (fun _ => false) fun K hK => ?_
      | refine TX.cond rfl (fun hcnd => ?_) (fun hcnd => absurd hcnd (by decide))
      | refine TX.cond rfl (fun hcnd => absurd hcnd (by decide)) (fun hcnd => ?_)
      | refine TX.seq ?_
      | refine TX.block ?_
      | refine TX.skip ?_
      | refine TX.exit ?_
      | refine EX.thenN ?_
      | refine EX.thenE ?_
      | refine EX.blockN ?_
      | refine EX.blockE ?_
      | refine EX.unrE ?_
      | refine EX.againN ?_
      | refine TX.unroll ?_
    all_goals (
      refine TX.ret ?_
      repeat' first | refine EX.outR ?_ | refine EX.thenR ?_ | refine EX.blockR ?_ | refine EX.unrR ?_
      apply EX.drA (ks := [])
      case he => exact Or.inr rfl
      case hys => simp [resAs, getAs, Try.results68] <;> rfl
      case hv => first | (dsimp only [Av.one]; exact rfl) | dsimp only [Av.one]
      case hx => repeat' first | exact IsT2.var _ | exact IsV.tmv _ | exact IsTm.var _ | exact IsTy.row _ | exact IsTm.row _ | exact IsTys.nil | exact IsTms.nil | exact IsBds.nil | exact IsTys.map _ | exact IsTms.map _ | exact IsBds.map _ | exact IsV.int _ | exact IsV.str _ | exact IsV.bool _ | apply IsV.p2 | apply IsV.p3 | apply IsV.tm | apply IsV.ty | apply IsTm.node | apply IsTy.of | apply IsTys.cons | apply IsTms.cons | apply IsBds.cons | apply IsV.tys | apply IsV.tms | apply IsV.bds | apply IsT2.node | apply IsTys.app | apply IsTms.app | apply IsBds.app
      case hA => exact rfl
      case hks => simp
      case hV => exact rfl
      case h1 => omega
      case h2 => omega
      case hg => (try simp [nTm_mk, nTy_mk, nTyS, nTmS]) <;> omega)
end Go.Proofs.Ytiffndccihaopaa

namespace Go.Proofs.Ytiffndccihaopaa
attribute [-simp] Go.Av.take_app_len Go.Av.innVs Go.Av.putBack Go.Av.objCells Go.Av.back Go.Av.resVs Go.Av.one Go.Av.freeStepG Go.Av.exA
open Go Go.Av
attribute [local irreducible] T ACalls TX EX LX Draws Some_ ACallsX eTy eTm MTy.kind MTy.kids MTm.kind MTm.name MTm.num MTm.ty MTm.fr MTm.label MTm.kids
attribute [local simp] eTy_def eTm_def
set_option linter.unusedSimpArgs false
set_option linter.unusedVariables false
set_option maxHeartbeats 16000000
set_option maxRecDepth 8000

theorem l2Closed_ok (b : List Int) (hb : okB b) (p : Nat) (hp : p + 500000 ≤ 1099511627776) : Draws Try.prog 40 [] b p 500000 (RV aTm noA fun e => nTm e ≤ 500000) := by
  have hnum := l2Num_ok
  refine Draws.of_body Try.func40 (by kernel_rfl) rfl (by kernel_rfl) (by simp [Try.ntmps40]) ?_
  rw [Try.ntmps40]
  repeat' first
    | ((first | refine aops_end (hK _ ?_)); clear hK K)
    | ((first | refine aops_go ?_); simp; (try simp (disch := omega) only [wrap64]); (try (refine gen fun q hq => ?_; cases q <;> (try simp at hq) <;> (try (have hh : True := hq; clear hh hq)))))
    | (refine wpcall_pure rfl (hnum _) ?_; simp; (try simp (disch := omega) only [wrap64]); (try (refine gen fun q hq => ?_; cases q <;> (try simp at hq) <;> (try (have hh : True := hq; clear hh hq)))))
    | (refine wpcall_pure rfl (TermValidS_ok _ (by omega)) ?_; simp; (try simp (disch := omega) only [wrap64]); (try (refine gen fun q hq => ?_; cases q <;> (try simp at hq) <;> (try (have hh : True := hq; clear hh hq)))))
    | (refine wpcall_dr 0 rfl rfl (num_ok b hb _ (by omega) [4, 3, 5, 4, 2] (by simp) (by simp)) (fun x p1 hx hp1 hp1' => ?_); simp at hx; (have hx2 : x = 4 ∨ x = 3 ∨ x = 5 ∨ x = 2 := by omega); clear hx; rcases hx2 with rfl | rfl | rfl | rfl <;> (simp; (try simp (disch := omega) only [wrap64])))
    | (refine wpcall_dr 0 rfl rfl (l2Draw_ok b hb 5 [] _ (by omega) (by simp) (by omega)) (fun x1 p1 hx1 hp1 hp1' => ?_); simp; (try simp (disch := omega) only [wrap64]); (try (refine gen fun q hq => ?_; cases q <;> (try simp at hq) <;> (try (have hh : True := hq; clear hh hq)))))
    | (refine wpcall_dr 0 rfl rfl (l2Draw_ok b hb 4 [] _ (by omega) (by simp) (by omega)) (fun x1 p1 hx1 hp1 hp1' => ?_); simp; (try simp (disch := omega) only [wrap64]); (try (refine gen fun q hq => ?_; cases q <;> (try simp at hq) <;> (try (have hh : True := hq; clear hh hq)))))
    | (refine wpcall_dr 0 rfl rfl (l2Draw_ok b hb 3 [] _ (by omega) (by simp) (by omega)) (fun x1 p1 hx1 hp1 hp1' => ?_); simp; (try simp (disch := omega) only [wrap64]); (try (refine gen fun q hq => ?_; cases q <;> (try simp at hq) <;> (try (have hh : True := hq; clear hh hq)))))
    | (refine wpcall_dr 0 rfl rfl (l2Draw_ok b hb 2 [] _ (by omega) (by simp) (by omega)) (fun x1 p1 hx1 hp1 hp1' => ?_); simp; (try simp (disch := omega) only [wrap64]); (try (refine gen fun q hq => ?_; cases q <;> (try simp at hq) <;> (try (have hh : True := hq; clear hh hq)))))
    | refine TX.rs (fun _ => false) fun K hK => ?_
    | refine TX.cond rfl (fun hcnd => ?_) (fun hcnd => absurd hcnd (by decide))
    | refine TX.cond rfl (fun hcnd => absurd hcnd (by decide)) (fun hcnd => ?_)
    | refine TX.seq ?_
    | refine TX.skip ?_
    | refine EX.thenN ?_
  all_goals (
    refine TX.ret ?_
    repeat' first | refine EX.outR ?_ | refine EX.thenR ?_ | refine EX.blockR ?_ | refine EX.unrR ?_
    apply EX.drA (ks := [])
    case he => exact Or.inr rfl
    case hys => simp [resAs, getAs, Try.results40] <;> rfl
    case hv => first | (dsimp only [Av.one]; exact rfl) | dsimp only [Av.one]
    case hx => repeat' first | exact IsT2.var _ | exact IsV.tmv _ | exact IsTm.var _ | exact IsTy.row _ | exact IsTm.row _ | exact IsTys.nil | exact IsTms.nil | exact IsBds.nil | exact IsTys.map _ | exact IsTms.map _ | exact IsBds.map _ | exact IsV.int _ | exact IsV.str _ | exact IsV.bool _ | apply IsV.p2 | apply IsV.p3 | apply IsV.tm | apply IsV.ty | apply IsTm.node | apply IsTy.of | apply IsTys.cons | apply IsTms.cons | apply IsBds.cons | apply IsV.tys | apply IsV.tms | apply IsV.bds | apply IsT2.node | apply IsTys.app | apply IsTms.app | apply IsBds.app
    case hA => exact rfl
    case hks => simp
    case hV => exact rfl
    case h1 => omega
    case h2 => omega
    case hg => (try simp [nTm_mk, nTy_mk, nTyS, nTmS]) <;> omega)

theorem l2Term_ok (b : List Int) (hb : okB b) (p : Nat) (hp : p + 600000 ≤ 1099511627776) : Draws Try.prog 47 [] b p 600000 (RV aTm noA fun e => nTm e ≤ 500000) := by
  have hnum := l2Num_ok
  refine Draws.of_body Try.func47 (by kernel_rfl) rfl (by kernel_rfl) (by simp [Try.ntmps47]) ?_
  rw [Try.ntmps47]
  repeat' first
    | ((first | refine aops_end (hK _ ?_)); clear hK K)
    | ((first | refine aops_go ?_); simp; (try simp (disch := omega) only [wrap64]); (try (refine gen fun q hq => ?_; cases q <;> (try simp at hq) <;> (try (have hh : True := hq; clear hh hq)))))
    | (refine wpcall_pure rfl (hnum _) ?_; simp; (try simp (disch := omega) only [wrap64]); (try (refine gen fun q hq => ?_; cases q <;> (try simp at hq) <;> (try (have hh : True := hq; clear hh hq)))))
    | (refine wpcall_pure rfl (TermValidS_ok _ (by omega)) ?_; simp; (try simp (disch := omega) only [wrap64]); (try (refine gen fun q hq => ?_; cases q <;> (try simp at hq) <;> (try (have hh : True := hq; clear hh hq)))))
    | (refine wpcall_dr 0 rfl rfl (num_ok b hb _ (by omega) [3, 2, 4] (by simp) (by simp)) (fun x p1 hx hp1 hp1' => ?_); simp at hx; (have hx2 : x = 3 ∨ x = 2 ∨ x = 4 := by omega); clear hx; rcases hx2 with rfl | rfl | rfl <;> (simp; (try simp (disch := omega) only [wrap64])))
    | (refine wpcall_dr 0 rfl rfl (pick_ok b hb _ (by omega) 4 (by omega)) (fun x1 p1 hx1 hp1 hp1' => ?_); simp; (try simp (disch := omega) only [wrap64]); (try (refine gen fun q hq => ?_; cases q <;> (try simp at hq) <;> (try (have hh : True := hq; clear hh hq)))))
    | (refine wpcall_dr 0 rfl rfl (l2Closed_ok b hb _ (by omega)) (fun x1 p1 hx1 hp1 hp1' => ?_); simp; (try simp (disch := omega) only [wrap64]); (try (refine gen fun q hq => ?_; cases q <;> (try simp at hq) <;> (try (have hh : True := hq; clear hh hq)))))
    | (refine wpcall_dr 0 rfl rfl (l2Draw_ok b hb 4 [120, 122] _ (by omega) (by simp) (by omega)) (fun x1 p1 hx1 hp1 hp1' => ?_); simp; (try simp (disch := omega) only [wrap64]); (try (refine gen fun q hq => ?_; cases q <;> (try simp at hq) <;> (try (have hh : True := hq; clear hh hq)))))
    | (refine wpcall_dr 0 rfl rfl (l2Draw_ok b hb 3 [120, 122] _ (by omega) (by simp) (by omega)) (fun x1 p1 hx1 hp1 hp1' => ?_); simp; (try simp (disch := omega) only [wrap64]); (try (refine gen fun q hq => ?_; cases q <;> (try simp at hq) <;> (try (have hh : True := hq; clear hh hq)))))
    | (refine wpcall_dr 0 rfl rfl (l2Draw_ok b hb 2 [120, 122] _ (by omega) (by simp) (by omega)) (fun x1 p1 hx1 hp1 hp1' => ?_); simp; (try simp (disch := omega) only [wrap64]); (try (refine gen fun q hq => ?_; cases q <;> (try simp at hq) <;> (try (have hh : True := hq; clear hh hq)))))
    | refine TX.rs (fun _ => false) fun K hK => ?_
    | refine TX.cond rfl (fun hcnd => ?_) (fun hcnd => absurd hcnd (by decide))
    | refine TX.cond rfl (fun hcnd => absurd hcnd (by decide)) (fun hcnd => ?_)
    | refine TX.seq ?_
    | refine TX.skip ?_
    | refine EX.thenN ?_
  all_goals (
    refine TX.ret ?_
    repeat' first | refine EX.outR ?_ | refine EX.thenR ?_ | refine EX.blockR ?_ | refine EX.unrR ?_
    apply EX.drA (ks := [])
    case he => exact Or.inr rfl
    case hys => simp [resAs, getAs, Try.results47] <;> rfl
    case hv => first | (dsimp only [Av.one]; exact rfl) | dsimp only [Av.one]
    case hx => repeat' first | exact IsT2.var _ | exact IsV.tmv _ | exact IsTm.var _ | exact IsTy.row _ | exact IsTm.row _ | exact IsTys.nil | exact IsTms.nil | exact IsBds.nil | exact IsTys.map _ | exact IsTms.map _ | exact IsBds.map _ | exact IsV.int _ | exact IsV.str _ | exact IsV.bool _ | apply IsV.p2 | apply IsV.p3 | apply IsV.tm | apply IsV.ty | apply IsTm.node | apply IsTy.of | apply IsTys.cons | apply IsTms.cons | apply IsBds.cons | apply IsV.tys | apply IsV.tms | apply IsV.bds | apply IsT2.node | apply IsTys.app | apply IsTms.app | apply IsBds.app
    case hA => exact rfl
    case hks => simp
    case hV => exact rfl
    case h1 => omega
    case h2 => omega
    case hg => (try simp [nTm_mk, nTy_mk, nTyS, nTmS]) <;> omega)

theorem l2Mutate_ok (b : List Int) (hb : okB b) (e : MTm) (hn : nTm e ≤ 1000000000) (p : Nat) (hp : p + 400 ≤ 1099511627776) : Draws Try.prog 39 [aTm e] b p 400 (RV aTm noA fun u => nTm u ≤ nTm e + 100) := by
  have hany := l1Any_ok
  have hcp := l2Copy_ok e (by omega)
  have hn2 := hn
  rw [nTm_def] at hn2
  refine Draws.of_body Try.func39 (by kernel_rfl) rfl (by kernel_rfl) (by simp [Try.ntmps39]) ?_
  rw [Try.ntmps39]
  repeat' first
    | ((first | refine aops_end (hK _ ?_)); clear hK K)
    | ((first | refine aops_go ?_); simp; (try simp (disch := omega) only [wrap64]); (try (refine gen fun q hq => ?_; cases q <;> (try simp at hq) <;> (try (have hh : True := hq; clear hh hq)))))
    | (refine wpcall_pure rfl (hany) ?_; simp; (try simp (disch := omega) only [wrap64]); (try (refine gen fun q hq => ?_; cases q <;> (try simp at hq) <;> (try (have hh : True := hq; clear hh hq)))))
    | (refine wpcall_pure rfl (hcp) ?_; simp; (try simp (disch := omega) only [wrap64]); (try (refine gen fun q hq => ?_; cases q <;> (try simp at hq) <;> (try (have hh : True := hq; clear hh hq)))))
    | (refine wpcall_dr 0 rfl rfl (pick_ok b hb _ (by omega) 50 (by omega)) (fun x1 p1 hx1 hp1 hp1' => ?_); simp; (try simp (disch := omega) only [wrap64]); (try (refine gen fun q hq => ?_; cases q <;> (try simp at hq) <;> (try (have hh : True := hq; clear hh hq)))))
    | (refine wpcall_dr 0 rfl rfl (num_ok b hb _ (by omega) [0, 15, 1, 6, 14, -1] (by simp) (by simp)) (fun x1 p1 hx1 hp1 hp1' => ?_); simp; (try simp (disch := omega) only [wrap64]); (try (refine gen fun q hq => ?_; cases q <;> (try simp at hq) <;> (try (have hh : True := hq; clear hh hq)))))
    | (refine wpcall_dr 0 rfl rfl (num_ok b hb _ (by omega) [1000, -1, 9223372036854775807, 5] (by simp) (by simp)) (fun x1 p1 hx1 hp1 hp1' => ?_); simp; (try simp (disch := omega) only [wrap64]); (try (refine gen fun q hq => ?_; cases q <;> (try simp at hq) <;> (try (have hh : True := hq; clear hh hq)))))
    | (refine wpcall_dr 0 rfl rfl (l1Mutate_ok b hb _ (by omega) _ (by omega)) (fun x1 p1 hx1 hp1 hp1' => ?_); simp; (try simp (disch := omega) only [wrap64]); (try (refine gen fun q hq => ?_; cases q <;> (try simp at hq) <;> (try (have hh : True := hq; clear hh hq)))))
    | (refine wpcall_dr 0 rfl rfl (of_ok b hb _ (by omega) [[88], [120, 121], [], [120]] (by simp) (by simp)) (fun x p1 hx hp1 hp1' => ?_); (have hxl : x.length ≤ 2 := by simp at hx; rcases hx with rfl | rfl | rfl | rfl <;> simp); simp)
    | (refine wpcall_dr 0 rfl rfl (l1Type_ok b hb _ (by omega)) (fun t p1 ht hp1 hp1' => ?_); replace ht := shape4 ht; simp)
    | refine TX.rs (fun _ => false) fun K hK => ?_
    | refine TX.rs1 (fun _ => false) fun K hK => ?_
    | refine TX.cond rfl (fun hcnd => ?_) (fun hcnd => absurd hcnd (by decide))
    | refine TX.cond rfl (fun hcnd => absurd hcnd (by decide)) (fun hcnd => ?_)
    | refine TX.seq ?_
    | refine TX.block ?_
    | refine TX.skip ?_
    | refine EX.thenN ?_
    | refine EX.blockN ?_
  all_goals (
    refine TX.ret ?_
    repeat' first | refine EX.outR ?_ | refine EX.thenR ?_ | refine EX.blockR ?_ | refine EX.unrR ?_
    apply EX.drA (ks := [])
    case he => exact Or.inr rfl
    case hys => simp [resAs, getAs, Try.results39] <;> rfl
    case hv => first | (dsimp only [Av.one]; exact rfl) | dsimp only [Av.one]
    case hx => repeat' first | exact IsT2.var _ | exact IsV.tmv _ | exact IsTm.var _ | exact IsTy.row _ | exact IsTm.row _ | exact IsTys.nil | exact IsTms.nil | exact IsBds.nil | exact IsTys.map _ | exact IsTms.map _ | exact IsBds.map _ | exact IsV.int _ | exact IsV.str _ | exact IsV.bool _ | apply IsV.p2 | apply IsV.p3 | apply IsV.tm | apply IsV.ty | apply IsTm.node | apply IsTy.of | apply IsTys.cons | apply IsTms.cons | apply IsBds.cons | apply IsV.tys | apply IsV.tms | apply IsV.bds | apply IsT2.node | apply IsTys.app | apply IsTms.app | apply IsBds.app
    case hA => exact rfl
    case hks => simp
    case hV => exact rfl
    case h1 => omega
    case h2 => omega
    case hg => simp [nTm_mk, nTy_mk, nTyS, nTm_def] <;> omega)
end Go.Proofs.Ytiffndccihaopaa

namespace Go.Proofs.Ytiffndccihaopaa
attribute [-simp] Go.Av.innVs Go.Av.putBack Go.Av.objCells Go.Av.back Go.Av.resVs Go.Av.one Go.Av.freeStepG Go.Av.exA
open Go Go.Av
attribute [local irreducible] T ACalls TX EX LX Draws Some_ ACallsX eTy eTm MTy.kind MTy.kids MTm.kind MTm.name MTm.num MTm.ty MTm.fr MTm.label MTm.kids
attribute [local simp] eTy_def eTm_def
set_option linter.unusedSimpArgs false
set_option linter.unusedVariables false
set_option maxHeartbeats 16000000
set_option maxRecDepth 8000

theorem l2NodeR_ok (k : Int) (l : List (List DV)) : ACalls Try.prog 85 [.i k, .l l] [] (.agg [.d (.i k), .d (.str []), .d (.i 0), .d (.i 0), .d (.sl []), .d (.i 0), .d (.sl []), .d (.i 0), .d (.sl l)]) [] [] := by
  refine ACalls.of_body Try.func85 (by kernel_rfl) rfl (by kernel_rfl) (by simp [Try.ntmps85]) (by simp) ?_
  rw [Try.ntmps85]
  repeat' first
    | ((first | refine aops_end (hK _ ?_)); clear hK K)
    | ((first | refine aops_go ?_); simp; (try (refine gen fun q hq => ?_; cases q <;> (try simp at hq) <;> (try (have hh : True := hq; clear hh hq)))))
    | (refine T.ret (Done.val (Or.inr rfl) ?_) <;> simp [resAs, Try.results85] <;> omega)
    | refine T.rs (fun _ => false) fun K hK => ?_

theorem l3Lam_of (b : List Int) (hb : okB b) (ctx : List MBd) (s t : MTy) (hs : nTy s ≤ 100) (hl : ctx.length ≤ 1000) (d : Int) (hd : -1000 ≤ d) (hd' : d ≤ 1000) (N B p : Nat) (hp : p + N + 1 ≤ 1099511627776)
    (hm : ∀ (c : UInt8) (p : Nat), p + N ≤ 1099511627776 → Draws Try.prog 48 [.l (ctx.map eBd ++ [eBd ⟨[c], s⟩]), aTy t, .i d] b p N (RV aTm noA fun e => nTm e ≤ B)) :
    Draws Try.prog 87 [aBds ctx, aTy s, aTy t, .i d] b p (N + 1) (RV aTm noA fun e => nTm e ≤ B + 102) := by
  have hcp := l1Copy_ok s (by omega)
  refine Draws.of_body Try.func87 (by kernel_rfl) rfl (by kernel_rfl) (by simp [Try.ntmps87]) ?_
  rw [Try.ntmps87]
  repeat' first
    | ((first | refine aops_end (hK _ ?_) | refine aopsD_end (hK _ ?_)); clear hK K)
    | ((first | refine aops_go ?_ | refine aopsD_go ?_); simp; (try simp (disch := omega) only [wrap64]); (try (refine gen fun q hq => ?_; cases q <;> (try simp at hq) <;> (try (have hh : True := hq; clear hh hq)))))
    | (refine wpcall_pure rfl (hcp) ?_; simp; (try simp (disch := omega) only [wrap64]); (try (refine gen fun q hq => ?_; cases q <;> (try simp at hq) <;> (try (have hh : True := hq; clear hh hq)))))
    | (refine wpcall_pure rfl (l3More_ok ctx _ s (by omega)) ?_; simp; (try simp (disch := omega) only [wrap64]); (try (refine gen fun q hq => ?_; cases q <;> (try simp at hq) <;> (try (have hh : True := hq; clear hh hq)))))
    | (refine wpcall_dr 0 rfl rfl (hm _ _ (by omega)) (fun x1 p1 hx1 hp1 hp1' => ?_); simp; (try simp (disch := omega) only [wrap64]); (try (refine gen fun q hq => ?_; cases q <;> (try simp at hq) <;> (try (have hh : True := hq; clear hh hq)))))
    | (refine wpcall_dr 0 rfl rfl (of_ok b hb _ (by omega) [[120], [121], [122], [102]] (by simp) (by simp)) (fun x p1 hx hp1 hp1' => ?_); (obtain ⟨c, rfl⟩ : ∃ c, x = [c] := by simp at hx; rcases hx with rfl | rfl | rfl | rfl <;> exact ⟨_, rfl⟩); simp)
    | refine TX.rd (id := 2) mixed (fun _ => false) [10, 13] (by kernel_rfl) fun K hK => ?_
    | refine TX.rs (fun _ => false) fun K hK => ?_
  have hn2 := nTy_def s
  all_goals (
    refine TX.ret ?_
    repeat' first | refine EX.outR ?_ | refine EX.thenR ?_ | refine EX.blockR ?_ | refine EX.unrR ?_
    apply EX.drA (ks := [])
    case he => exact Or.inr rfl
    case hys => simp [resAs, getAs, Try.results87] <;> rfl
    case hv => first | (dsimp only [Av.one]; exact rfl) | dsimp only [Av.one]
    case hx => repeat' first | exact IsT2.var _ | exact IsV.tmv _ | exact IsTm.var _ | exact IsTy.row _ | exact IsTm.row _ | exact IsTys.nil | exact IsTms.nil | exact IsBds.nil | exact IsTys.map _ | exact IsTms.map _ | exact IsBds.map _ | exact IsV.int _ | exact IsV.str _ | exact IsV.bool _ | apply IsV.p2 | apply IsV.p3 | apply IsV.tm | apply IsV.ty | apply IsTm.node | apply IsTy.of | apply IsTys.cons | apply IsTms.cons | apply IsBds.cons | apply IsV.tys | apply IsV.tms | apply IsV.bds | apply IsT2.node | apply IsTys.app | apply IsTms.app | apply IsBds.app
    case hA => exact rfl
    case hks => simp
    case hV => exact rfl
    case h1 => omega
    case h2 => omega
    case hg => simp [nTm_mk, nTy_mk, nTyS, nTmS, *] <;> omega)

theorem l3Make_core (b : List Int) (hb : okB b) (ctx : List MBd) (hl : ctx.length ≤ 1000) (hct : ∀ u ∈ ctx, u.name.length ≤ 10 ∧ nTy u.ty ≤ 1000) (t : MTy) (hts : shapeTy 4 t = true) (d : Int) (hd : -1000 ≤ d) (hd' : d ≤ 1000) (N B p : Nat) (hp : p + 3 * N + 3000 ≤ 1099511627776)
    (h1 : 1 < d → ∀ (t' : MTy), shapeTy 4 t' = true → ∀ p, p + N ≤ 1099511627776 → Draws Try.prog 48 [aBds ctx, aTy t', .i (d - 1)] b p N (RV aTm noA fun e => nTm e ≤ B))
    (h1L : 1 < d → ∀ (s t' : MTy), shapeTy 4 s = true → shapeTy 4 t' = true → ∀ p, p + N ≤ 1099511627776 → Draws Try.prog 87 [aBds ctx, aTy s, aTy t', .i (d - 1)] b p N (RV aTm noA fun e => nTm e ≤ B))
    (h2 : ∀ u ∈ t.kids, ∀ p, p + N ≤ 1099511627776 → Draws Try.prog 48 [aBds ctx, aTy u, .i (d - 1)] b p N (RV aTm noA fun e => nTm e ≤ B))
    (h2L : ∀ u ∈ t.kids, ∀ v ∈ t.kids, ∀ p, p + N ≤ 1099511627776 → Draws Try.prog 87 [aBds ctx, aTy u, aTy v, .i (d - 1)] b p N (RV aTm noA fun e => nTm e ≤ B)) :
    Draws Try.prog 48 [aBds ctx, aTy t, .i d] b p (3 * N + 3000) (RV aTm noA fun e => nTm e ≤ 3 * B + 100) := by
  have hnt := shape4 hts
  have hblI := fun p hp => l1Blur_ok b hb 4 intT p shape_int hp
  simp only [aTy, MTy.kind_mk, MTy.kids_mk, List.map_nil] at hblI
  have hint := l3Int_ok
  have hbool := l3Bool_ok
  have hany := l1Any_ok
  have hnum := l2Num_ok
  have hnode := l2NodeR_ok
  refine Draws.of_body Try.func48 (by kernel_rfl) rfl (by kernel_rfl) (by simp [Try.ntmps48]) ?_
  rw [Try.ntmps48]
  repeat' first
    | ((first | refine aops_end (hK _ ?_)); clear hK K)
    | ((first | refine aops_go ?_); simp; (try simp (disch := omega) only [wrap64]); (try (refine gen fun q hq => ?_; cases q <;> (try simp at hq) <;> (try (have hh : True := hq; clear hh hq)))))
    | refine TX.rs (fun _ => false) fun K hK => ?_
    | refine TX.seq ?_
    | refine TX.block ?_
  refine TX.loopF (fun x : Nat × Nat × List (List CV) => ⟨[(0, .c (.ptr 0 0)), (1, aBds ctx), (3, .i d), (6, .c (.ptr 1 0)), (8, .c (.ptr 2 0)), (9, .i ((x.1 : Int) - 1))], (rd b x.2.1).map CV.d :: (aTy t).cells :: [.d (.i 0), .d (.str []), .d (.i 0), .d (.i 0), .nil, .d (.i 0), .nil, .d (.i 0), .nil] :: x.2.2, []⟩) (fun x => x.1) (fun x => x.1 ≤ ctx.length ∧ p ≤ x.2.1 ∧ x.2.1 + x.1 ≤ p + ctx.length) (fun x hx => ?_) (ctx.length, p, []) (by simp) (by simp)
  obtain ⟨j, q1, G⟩ := x
  obtain ⟨hj, hq1, hq2⟩ := hx
  dsimp only at hj hq1 hq2 ⊢
  cases j with
  | succ k =>
    have hk : k < ctx.length := by omega
    have e1 : ((k : Int) + 1 - 1) = k := by omega
    have e2 : ¬ ((k : Int) < 0) := by omega
    obtain ⟨u, ht⟩ := get_lt hk
    have htm : u ∈ ctx := List.mem_of_getElem? ht
    have hgt : ctx[k] = u := by rw [List.getElem?_eq_getElem hk] at ht; exact Option.some.inj ht
    have hdr : ctx.drop k = u :: ctx.drop (k + 1) := by rw [List.drop_eq_getElem_cons hk, hgt]
    have hu := hct u htm
    have hlk := l3Look_ok ctx u.name (by omega) (fun v hv => by have := hct v hv; omega)
    cases hr : lookM ctx u.name with
    | none =>
      rw [hr] at hlk
      dsimp only at hlk
      have hv := TypeValidS_ok zeroT (by simp [nTy_mk, nTyS])
      rw [shape_zero] at hv
      repeat' first
        | ((first | refine aops_end (hK _ ?_)); clear hK K)
        | ((first | refine aops_go ?_); simp [hk, hgt, e1, e2, eBd]; (try simp (disch := omega) only [wrap64]); (try (refine gen fun q hq => ?_; cases q <;> (try simp [hk, hgt, e1, e2, eBd] at hq) <;> (try (have hh : True := hq; clear hh hq)))))
        | (refine wpcall_pure rfl (hlk) ?_; simp [hk, hgt, e1, e2, eBd]; (try simp (disch := omega) only [wrap64]); (try (refine gen fun q hq => ?_; cases q <;> (try simp [hk, hgt, e1, e2, eBd] at hq) <;> (try (have hh : True := hq; clear hh hq)))))
        | (refine wpcall_pure ?_ (hv) ?_; (focus (solve | simp [hk, hgt, e1, e2, eBd])); simp [hk, hgt, e1, e2, eBd]; (try simp (disch := omega) only [wrap64]); (try (refine gen fun q hq => ?_; cases q <;> (try simp [hk, hgt, e1, e2, eBd] at hq) <;> (try (have hh : True := hq; clear hh hq)))))
        | (refine wpcall_dr 0 rfl rfl (pick_ok b hb _ (by omega) 3 (by omega)) (fun x1 p1 hx1 hp1 hp1' => ?_); simp [hk, hgt, e1, e2, eBd]; (try simp (disch := omega) only [wrap64]); (try (refine gen fun q hq => ?_; cases q <;> (try simp [hk, hgt, e1, e2, eBd] at hq) <;> (try (have hh : True := hq; clear hh hq)))))
        | (refine EX.next (k, _, _) (by dsimp only; omega) ⟨by dsimp only; omega, by dsimp only; omega, by dsimp only; omega⟩ ⟨rfl, rfl, ?_⟩; simp (disch := omega) [wrap64])
        | refine TX.rs (fun _ => false) fun K hK => ?_
        | refine TX.rs1 (fun _ => false) fun K hK => ?_
        | refine TX.cond rfl (fun hcnd => ?_) (fun hcnd => absurd hcnd (by decide))
        | refine TX.cond rfl (fun hcnd => absurd hcnd (by decide)) (fun hcnd => ?_)
        | refine TX.seq ?_
        | refine TX.block ?_
        | refine TX.skip ?_
        | refine EX.thenN ?_
        | refine EX.blockN ?_
    | some tu =>
      rw [hr] at hlk
      dsimp only at hlk
      obtain ⟨bd, hbm, rfl, _⟩ := look_mem hr
      have hbt := hct bd hbm
      have hv := TypeValidS_ok bd.ty (by omega)
      cases hvv : shapeTy 4 bd.ty with
      | false =>
        rw [hvv] at hv
        repeat' first
          | ((first | refine aops_end (hK _ ?_)); clear hK K)
          | ((first | refine aops_go ?_); simp [hk, hgt, e1, e2, eBd]; (try simp (disch := omega) only [wrap64]); (try (refine gen fun q hq => ?_; cases q <;> (try simp [hk, hgt, e1, e2, eBd] at hq) <;> (try (have hh : True := hq; clear hh hq)))))
          | (refine wpcall_pure rfl (hlk) ?_; simp [hk, hgt, e1, e2, eBd]; (try simp (disch := omega) only [wrap64]); (try (refine gen fun q hq => ?_; cases q <;> (try simp [hk, hgt, e1, e2, eBd] at hq) <;> (try (have hh : True := hq; clear hh hq)))))
          | (refine wpcall_pure rfl (hv) ?_; simp [hk, hgt, e1, e2, eBd]; (try simp (disch := omega) only [wrap64]); (try (refine gen fun q hq => ?_; cases q <;> (try simp [hk, hgt, e1, e2, eBd] at hq) <;> (try (have hh : True := hq; clear hh hq)))))
          | (refine wpcall_dr 0 rfl rfl (pick_ok b hb _ (by omega) 3 (by omega)) (fun x1 p1 hx1 hp1 hp1' => ?_); simp [hk, hgt, e1, e2, eBd]; (try simp (disch := omega) only [wrap64]); (try (refine gen fun q hq => ?_; cases q <;> (try simp [hk, hgt, e1, e2, eBd] at hq) <;> (try (have hh : True := hq; clear hh hq)))))
          | (refine EX.next (k, _, _) (by dsimp only; omega) ⟨by dsimp only; omega, by dsimp only; omega, by dsimp only; omega⟩ ⟨rfl, rfl, ?_⟩; simp (disch := omega) [wrap64])
          | refine TX.rs (fun _ => false) fun K hK => ?_
          | refine TX.rs1 (fun _ => false) fun K hK => ?_
          | refine TX.cond rfl (fun hcnd => ?_) (fun hcnd => absurd hcnd (by decide))
          | refine TX.cond rfl (fun hcnd => absurd hcnd (by decide)) (fun hcnd => ?_)
          | refine TX.seq ?_
          | refine TX.block ?_
          | refine TX.skip ?_
          | refine EX.thenN ?_
          | refine EX.blockN ?_
      | true =>
        rw [hvv] at hv
        have hcc := l1Consistent_ok 4 bd.ty t (by omega) hvv hts
        cases hcv : consTy bd.ty t with
        | false =>
          rw [hcv] at hcc
          repeat' first
            | ((first | refine aops_end (hK _ ?_)); clear hK K)
            | ((first | refine aops_go ?_); simp [hk, hgt, e1, e2, eBd]; (try simp (disch := omega) only [wrap64]); (try (refine gen fun q hq => ?_; cases q <;> (try simp [hk, hgt, e1, e2, eBd] at hq) <;> (try (have hh : True := hq; clear hh hq)))))
            | (refine wpcall_pure rfl (hlk) ?_; simp [hk, hgt, e1, e2, eBd]; (try simp (disch := omega) only [wrap64]); (try (refine gen fun q hq => ?_; cases q <;> (try simp [hk, hgt, e1, e2, eBd] at hq) <;> (try (have hh : True := hq; clear hh hq)))))
            | (refine wpcall_pure rfl (hv) ?_; simp [hk, hgt, e1, e2, eBd]; (try simp (disch := omega) only [wrap64]); (try (refine gen fun q hq => ?_; cases q <;> (try simp [hk, hgt, e1, e2, eBd] at hq) <;> (try (have hh : True := hq; clear hh hq)))))
            | (refine wpcall_pure rfl (hcc) ?_; simp [hk, hgt, e1, e2, eBd]; (try simp (disch := omega) only [wrap64]); (try (refine gen fun q hq => ?_; cases q <;> (try simp [hk, hgt, e1, e2, eBd] at hq) <;> (try (have hh : True := hq; clear hh hq)))))
            | (refine wpcall_dr 0 rfl rfl (pick_ok b hb _ (by omega) 3 (by omega)) (fun x1 p1 hx1 hp1 hp1' => ?_); simp [hk, hgt, e1, e2, eBd]; (try simp (disch := omega) only [wrap64]); (try (refine gen fun q hq => ?_; cases q <;> (try simp [hk, hgt, e1, e2, eBd] at hq) <;> (try (have hh : True := hq; clear hh hq)))))
            | (refine EX.next (k, _, _) (by dsimp only; omega) ⟨by dsimp only; omega, by dsimp only; omega, by dsimp only; omega⟩ ⟨rfl, rfl, ?_⟩; simp (disch := omega) [wrap64])
            | refine TX.rs (fun _ => false) fun K hK => ?_
            | refine TX.rs1 (fun _ => false) fun K hK => ?_
            | refine TX.cond rfl (fun hcnd => ?_) (fun hcnd => absurd hcnd (by decide))
            | refine TX.cond rfl (fun hcnd => absurd hcnd (by decide)) (fun hcnd => ?_)
            | refine TX.seq ?_
            | refine TX.block ?_
            | refine TX.skip ?_
            | refine EX.thenN ?_
            | refine EX.blockN ?_
        | true =>
          rw [hcv] at hcc
          repeat' first
            | ((first | refine aops_end (hK _ ?_)); clear hK K)
            | ((first | refine aops_go ?_); simp [hk, hgt, e1, e2, eBd]; (try simp (disch := omega) only [wrap64]); (try (refine gen fun q hq => ?_; cases q <;> (try simp [hk, hgt, e1, e2, eBd] at hq) <;> (try (have hh : True := hq; clear hh hq)))))
            | (refine wpcall_pure rfl (hlk) ?_; simp [hk, hgt, e1, e2, eBd]; (try simp (disch := omega) only [wrap64]); (try (refine gen fun q hq => ?_; cases q <;> (try simp [hk, hgt, e1, e2, eBd] at hq) <;> (try (have hh : True := hq; clear hh hq)))))
            | (refine wpcall_pure rfl (hv) ?_; simp [hk, hgt, e1, e2, eBd]; (try simp (disch := omega) only [wrap64]); (try (refine gen fun q hq => ?_; cases q <;> (try simp [hk, hgt, e1, e2, eBd] at hq) <;> (try (have hh : True := hq; clear hh hq)))))
            | (refine wpcall_pure rfl (hcc) ?_; simp [hk, hgt, e1, e2, eBd]; (try simp (disch := omega) only [wrap64]); (try (refine gen fun q hq => ?_; cases q <;> (try simp [hk, hgt, e1, e2, eBd] at hq) <;> (try (have hh : True := hq; clear hh hq)))))
            | (refine wpcall_dr 0 rfl rfl (pick_ok b hb _ (by omega) 3 (by omega)) (fun x1 p1 hx1 hp1 hp1' => ?_); simp [hk, hgt, e1, e2, eBd]; (try simp (disch := omega) only [wrap64]); (try (refine gen fun q hq => ?_; cases q <;> (try simp [hk, hgt, e1, e2, eBd] at hq) <;> (try (have hh : True := hq; clear hh hq)))))
            | (refine EX.next (k, _, _) (by dsimp only; omega) ⟨by dsimp only; omega, by dsimp only; omega, by dsimp only; omega⟩ ⟨rfl, rfl, ?_⟩; simp (disch := omega) [wrap64])
            | refine TX.rs (fun _ => false) fun K hK => ?_
            | refine TX.rs1 (fun _ => false) fun K hK => ?_
            | refine TX.cond rfl (fun hcnd => ?_) (fun hcnd => absurd hcnd (by decide))
            | refine TX.cond rfl (fun hcnd => absurd hcnd (by decide)) (fun hcnd => ?_)
            | refine TX.seq ?_
            | refine TX.block ?_
            | refine TX.skip ?_
            | refine EX.thenN ?_
            | refine EX.blockN ?_
          all_goals (
            refine TX.ret ?_
            repeat' first | refine EX.outR ?_ | refine EX.thenR ?_ | refine EX.blockR ?_ | refine EX.unrR ?_
            apply EX.drA (ks := [])
            case he => exact Or.inr rfl
            case hys => simp [resAs, getAs, Try.results48] <;> rfl
            case hv => first | (dsimp only [Av.one]; exact rfl) | dsimp only [Av.one]
            case hx => repeat' first | exact IsT2.var _ | exact IsV.tmv _ | exact IsTm.var _ | exact IsTy.row _ | exact IsTm.row _ | exact IsTys.nil | exact IsTms.nil | exact IsBds.nil | exact IsTys.map _ | exact IsTms.map _ | exact IsBds.map _ | exact IsV.int _ | exact IsV.str _ | exact IsV.bool _ | apply IsV.p2 | apply IsV.p3 | apply IsV.tm | apply IsV.ty | apply IsTm.node | apply IsTy.of | apply IsTys.cons | apply IsTms.cons | apply IsBds.cons | apply IsV.tys | apply IsV.tms | apply IsV.bds | apply IsT2.node | apply IsTys.app | apply IsTms.app | apply IsBds.app
            case hA => exact rfl
            case hks => simp
            case hV => exact rfl
            case h1 => omega
            case h2 => omega
            case hg => (try simp [nTm_mk, nTy_mk, nTyS, nTmS]) <;> omega)
  | zero => 
    obtain ⟨tk, tl⟩ := t
    obtain ⟨_, _, hkk, hkl, hks⟩ := shapeTy_kids hts
    simp only [MTy.kids_mk, MTy.kind_mk] at hkk hkl hks h2 h2L
    cases tl with
    | nil =>
      have hk4 : ¬ tk = 4 := fun h => by rw [h] at hkk; simp [tyKids] at hkk
      have hk5 : ¬ tk = 5 := fun h => by rw [h] at hkk; simp [tyKids] at hkk
      by_cases hdp : 1 < d
      · have h1' := h1 hdp
        have h1L' := h1L hdp
        have h1b := h1' boolT shape_bool
        have h1i := h1' intT shape_int
        simp only [aTy, MTy.kind_mk, MTy.kids_mk, List.map_nil] at h1b h1i
        have hcp := l1Copy_ok (.mk tk []) (by omega)
        have hbl := fun p hp => l1Blur_ok b hb 4 (.mk tk []) p hts hp
        simp only [aTy, MTy.kind_mk, MTy.kids_mk, List.map_cons, List.map_nil, eTy_def] at hcp hbl
        have h1t := h1' (.mk tk []) hts
        have h1Lt := fun a ha => h1L' a (.mk tk []) ha hts
        simp only [aTy, MTy.kind_mk, MTy.kids_mk, List.map_cons, List.map_nil, eTy_def] at h1t h1Lt
        repeat' first
          | ((first | refine aops_end (hK _ ?_) | refine aopsD_end (hK _ ?_) | refine aopsF_end (hK _ ?_)); clear hK K)
          | ((first | refine aops_go ?_ | refine aopsD_go ?_ | refine aopsF_go ?_); simp [hdp, hk4, hk5]; (try simp (disch := omega) only [wrap64]); (try (refine gen fun q hq => ?_; cases q <;> (try simp [hdp, hk4, hk5] at hq) <;> (try (have hh : True := hq; clear hh hq)))))
          | (refine wpcall_pure rfl (hcp) ?_; simp [hdp, hk4, hk5]; (try simp (disch := omega) only [wrap64]); (try (refine gen fun q hq => ?_; cases q <;> (try simp [hdp, hk4, hk5] at hq) <;> (try (have hh : True := hq; clear hh hq)))))
          | (refine wpcall_pure rfl (hint) ?_; simp [hdp, hk4, hk5]; (try simp (disch := omega) only [wrap64]); (try (refine gen fun q hq => ?_; cases q <;> (try simp [hdp, hk4, hk5] at hq) <;> (try (have hh : True := hq; clear hh hq)))))
          | (refine wpcall_pure rfl (hbool) ?_; simp [hdp, hk4, hk5]; (try simp (disch := omega) only [wrap64]); (try (refine gen fun q hq => ?_; cases q <;> (try simp [hdp, hk4, hk5] at hq) <;> (try (have hh : True := hq; clear hh hq)))))
          | (refine wpcall_pure rfl (hany) ?_; simp [hdp, hk4, hk5]; (try simp (disch := omega) only [wrap64]); (try (refine gen fun q hq => ?_; cases q <;> (try simp [hdp, hk4, hk5] at hq) <;> (try (have hh : True := hq; clear hh hq)))))
          | (refine wpcall_pure rfl (hnum _) ?_; simp [hdp, hk4, hk5]; (try simp (disch := omega) only [wrap64]); (try (refine gen fun q hq => ?_; cases q <;> (try simp [hdp, hk4, hk5] at hq) <;> (try (have hh : True := hq; clear hh hq)))))
          | (refine wpcall_pure rfl (hnode _ _) ?_; simp [hdp, hk4, hk5]; (try simp (disch := omega) only [wrap64]); (try (refine gen fun q hq => ?_; cases q <;> (try simp [hdp, hk4, hk5] at hq) <;> (try (have hh : True := hq; clear hh hq)))))
          | (refine wpcall_dr 0 rfl rfl (pick_ok b hb _ (by omega) 9 (by omega)) (fun x1 p1 hx1 hp1 hp1' => ?_); simp [hdp, hk4, hk5]; (try simp (disch := omega) only [wrap64]); (try (refine gen fun q hq => ?_; cases q <;> (try simp [hdp, hk4, hk5] at hq) <;> (try (have hh : True := hq; clear hh hq)))))
          | (refine wpcall_dr 0 rfl rfl (pick_ok b hb _ (by omega) 3 (by omega)) (fun x1 p1 hx1 hp1 hp1' => ?_); simp [hdp, hk4, hk5]; (try simp (disch := omega) only [wrap64]); (try (refine gen fun q hq => ?_; cases q <;> (try simp [hdp, hk4, hk5] at hq) <;> (try (have hh : True := hq; clear hh hq)))))
          | (refine wpcall_dr 0 rfl rfl (pick_ok b hb _ (by omega) 2 (by omega)) (fun x1 p1 hx1 hp1 hp1' => ?_); simp [hdp, hk4, hk5]; (try simp (disch := omega) only [wrap64]); (try (refine gen fun q hq => ?_; cases q <;> (try simp [hdp, hk4, hk5] at hq) <;> (try (have hh : True := hq; clear hh hq)))))
          | (refine wpcall_dr 0 rfl rfl (l1DrawT_ok b hb 1 (by omega) _ (by omega)) (fun x1 p1 hx1 hp1 hp1' => ?_); simp [hdp, hk4, hk5]; (try simp (disch := omega) only [wrap64]); (try (refine gen fun q hq => ?_; cases q <;> (try simp [hdp, hk4, hk5] at hq) <;> (try (have hh : True := hq; clear hh hq)))))
          | (refine wpcall_dr 0 rfl rfl (l1DrawT_ok b hb 2 (by omega) _ (by omega)) (fun x1 p1 hx1 hp1 hp1' => ?_); simp [hdp, hk4, hk5]; (try simp (disch := omega) only [wrap64]); (try (refine gen fun q hq => ?_; cases q <;> (try simp [hdp, hk4, hk5] at hq) <;> (try (have hh : True := hq; clear hh hq)))))
          | (refine wpcall_dr 0 rfl rfl (hbl _ (by omega)) (fun x1 p1 hx1 hp1 hp1' => ?_); simp [hdp, hk4, hk5]; (try simp (disch := omega) only [wrap64]); (try (refine gen fun q hq => ?_; cases q <;> (try simp [hdp, hk4, hk5] at hq) <;> (try (have hh : True := hq; clear hh hq)))))
          | (refine wpcall_dr 0 rfl rfl (hblI _ (by omega)) (fun x1 p1 hx1 hp1 hp1' => ?_); simp [hdp, hk4, hk5]; (try simp (disch := omega) only [wrap64]); (try (refine gen fun q hq => ?_; cases q <;> (try simp [hdp, hk4, hk5] at hq) <;> (try (have hh : True := hq; clear hh hq)))))
          | (refine wpcall_dr 0 rfl rfl (l1Blur_ok b hb 4 _ _ (by assumption) (by omega)) (fun x1 p1 hx1 hp1 hp1' => ?_); simp [hdp, hk4, hk5]; (try simp (disch := omega) only [wrap64]); (try (refine gen fun q hq => ?_; cases q <;> (try simp [hdp, hk4, hk5] at hq) <;> (try (have hh : True := hq; clear hh hq)))))
          | (refine wpcall_dr 0 rfl rfl (num_ok b hb _ (by omega) [1, 2, 0, 999, 5] (by simp) (by simp)) (fun x1 p1 hx1 hp1 hp1' => ?_); simp [hdp, hk4, hk5]; (try simp (disch := omega) only [wrap64]); (try (refine gen fun q hq => ?_; cases q <;> (try simp [hdp, hk4, hk5] at hq) <;> (try (have hh : True := hq; clear hh hq)))))
          | (refine wpcall_dr 0 rfl rfl (h1b _ (by omega)) (fun x1 p1 hx1 hp1 hp1' => ?_); simp [hdp, hk4, hk5]; (try simp (disch := omega) only [wrap64]); (try (refine gen fun q hq => ?_; cases q <;> (try simp [hdp, hk4, hk5] at hq) <;> (try (have hh : True := hq; clear hh hq)))))
          | (refine wpcall_dr 0 rfl rfl (h1i _ (by omega)) (fun x1 p1 hx1 hp1 hp1' => ?_); simp [hdp, hk4, hk5]; (try simp (disch := omega) only [wrap64]); (try (refine gen fun q hq => ?_; cases q <;> (try simp [hdp, hk4, hk5] at hq) <;> (try (have hh : True := hq; clear hh hq)))))
          | (refine wpcall_dr 0 rfl rfl (h1t _ (by omega)) (fun x1 p1 hx1 hp1 hp1' => ?_); simp [hdp, hk4, hk5]; (try simp (disch := omega) only [wrap64]); (try (refine gen fun q hq => ?_; cases q <;> (try simp [hdp, hk4, hk5] at hq) <;> (try (have hh : True := hq; clear hh hq)))))
          | (refine wpcall_dr 0 rfl rfl (h1' _ (by assumption) _ (by omega)) (fun x1 p1 hx1 hp1 hp1' => ?_); simp [hdp, hk4, hk5]; (try simp (disch := omega) only [wrap64]); (try (refine gen fun q hq => ?_; cases q <;> (try simp [hdp, hk4, hk5] at hq) <;> (try (have hh : True := hq; clear hh hq)))))
          | (refine wpcall_dr 0 rfl rfl (h1Lt _ (by assumption) _ (by omega)) (fun x1 p1 hx1 hp1 hp1' => ?_); simp [hdp, hk4, hk5]; (try simp (disch := omega) only [wrap64]); (try (refine gen fun q hq => ?_; cases q <;> (try simp [hdp, hk4, hk5] at hq) <;> (try (have hh : True := hq; clear hh hq)))))
          | refine TX.rd (id := 10) mixed (fun _ => false) [6, 9, 12] (by kernel_rfl) fun K hK => ?_
          | refine TX.rdF (id := 12) mixed (fun _ => false) [5, 11, 17, 20] [8, 14] 12 [0] (by kernel_rfl) fun K hK => ?_
          | refine TX.rdF (id := 15) mixed (fun _ => false) [6, 11, 14, 17] [10] 7 [0] (by kernel_rfl) fun K hK => ?_
          | refine TX.rs (fun _ => false) fun K hK => ?_
          | refine TX.cond rfl (fun hcnd => ?_) (fun hcnd => absurd hcnd (by decide))
          | refine TX.cond rfl (fun hcnd => absurd hcnd (by decide)) (fun hcnd => ?_)
          | refine TX.seq ?_
          | refine TX.block ?_
          | refine TX.skip ?_
          | refine TX.exit ?_
          | refine EX.thenN ?_
          | refine EX.thenE ?_
          | refine EX.blockN ?_
          | refine EX.blockE ?_
          | refine EX.outE ?_
        all_goals (
          refine TX.ret ?_
          repeat' first | refine EX.outR ?_ | refine EX.thenR ?_ | refine EX.blockR ?_ | refine EX.unrR ?_
          apply EX.drA (ks := [])
          case he => exact Or.inr rfl
          case hys => simp [resAs, getAs, Try.results48] <;> rfl
          case hv => first | (dsimp only [Av.one]; exact rfl) | dsimp only [Av.one]
          case hx => repeat' first | exact IsT2.var _ | exact IsV.tmv _ | exact IsTm.var _ | exact IsTy.row _ | exact IsTm.row _ | exact IsTys.nil | exact IsTms.nil | exact IsBds.nil | exact IsTys.map _ | exact IsTms.map _ | exact IsBds.map _ | exact IsV.int _ | exact IsV.str _ | exact IsV.bool _ | apply IsV.p2 | apply IsV.p3 | apply IsV.tm | apply IsV.ty | apply IsTm.node | apply IsTy.of | apply IsTys.cons | apply IsTms.cons | apply IsBds.cons | apply IsV.tys | apply IsV.tms | apply IsV.bds | apply IsT2.node | apply IsTys.app | apply IsTms.app | apply IsBds.app
          case hA => exact rfl
          case hks => simp
          case hV => exact rfl
          case h1 => omega
          case h2 => omega
          case hg => (try simp [nTm_mk, nTy_mk, nTyS, nTmS]) <;> omega)
      · have hcp := l1Copy_ok (.mk tk []) (by omega)
        have hbl := fun p hp => l1Blur_ok b hb 4 (.mk tk []) p hts hp
        simp only [aTy, MTy.kind_mk, MTy.kids_mk, List.map_cons, List.map_nil, eTy_def] at hcp hbl
        repeat' first
          | ((first | refine aops_end (hK _ ?_)); clear hK K)
          | ((first | refine aops_go ?_); simp [hdp, hk4, hk5]; (try simp (disch := omega) only [wrap64]); (try (refine gen fun q hq => ?_; cases q <;> (try simp [hdp, hk4, hk5] at hq) <;> (try (have hh : True := hq; clear hh hq)))))
          | (refine wpcall_pure rfl (hany) ?_; simp [hdp, hk4, hk5]; (try simp (disch := omega) only [wrap64]); (try (refine gen fun q hq => ?_; cases q <;> (try simp [hdp, hk4, hk5] at hq) <;> (try (have hh : True := hq; clear hh hq)))))
          | (refine wpcall_pure rfl (hnum _) ?_; simp [hdp, hk4, hk5]; (try simp (disch := omega) only [wrap64]); (try (refine gen fun q hq => ?_; cases q <;> (try simp [hdp, hk4, hk5] at hq) <;> (try (have hh : True := hq; clear hh hq)))))
          | (refine wpcall_dr 0 rfl rfl (pick_ok b hb _ (by omega) 3 (by omega)) (fun x1 p1 hx1 hp1 hp1' => ?_); simp [hdp, hk4, hk5]; (try simp (disch := omega) only [wrap64]); (try (refine gen fun q hq => ?_; cases q <;> (try simp [hdp, hk4, hk5] at hq) <;> (try (have hh : True := hq; clear hh hq)))))
          | (refine wpcall_dr 0 rfl rfl (num_ok b hb _ (by omega) [1, 2, 0, 999, 5] (by simp) (by simp)) (fun x1 p1 hx1 hp1 hp1' => ?_); simp [hdp, hk4, hk5]; (try simp (disch := omega) only [wrap64]); (try (refine gen fun q hq => ?_; cases q <;> (try simp [hdp, hk4, hk5] at hq) <;> (try (have hh : True := hq; clear hh hq)))))
          | refine TX.rs (fun _ => false) fun K hK => ?_
          | refine TX.cond rfl (fun hcnd => ?_) (fun hcnd => absurd hcnd (by decide))
          | refine TX.cond rfl (fun hcnd => absurd hcnd (by decide)) (fun hcnd => ?_)
          | refine TX.seq ?_
          | refine TX.block ?_
          | refine TX.skip ?_
          | refine TX.exit ?_
          | refine EX.thenN ?_
          | refine EX.thenE ?_
          | refine EX.blockN ?_
          | refine EX.blockE ?_
          | refine EX.outE ?_
        all_goals (
          refine TX.ret ?_
          repeat' first | refine EX.outR ?_ | refine EX.thenR ?_ | refine EX.blockR ?_ | refine EX.unrR ?_
          apply EX.drA (ks := [])
          case he => exact Or.inr rfl
          case hys => simp [resAs, getAs, Try.results48] <;> rfl
          case hv => first | (dsimp only [Av.one]; exact rfl) | dsimp only [Av.one]
          case hx => repeat' first | exact IsT2.var _ | exact IsV.tmv _ | exact IsTm.var _ | exact IsTy.row _ | exact IsTm.row _ | exact IsTys.nil | exact IsTms.nil | exact IsBds.nil | exact IsTys.map _ | exact IsTms.map _ | exact IsBds.map _ | exact IsV.int _ | exact IsV.str _ | exact IsV.bool _ | apply IsV.p2 | apply IsV.p3 | apply IsV.tm | apply IsV.ty | apply IsTm.node | apply IsTy.of | apply IsTys.cons | apply IsTms.cons | apply IsBds.cons | apply IsV.tys | apply IsV.tms | apply IsV.bds | apply IsT2.node | apply IsTys.app | apply IsTms.app | apply IsBds.app
          case hA => exact rfl
          case hks => simp
          case hV => exact rfl
          case h1 => omega
          case h2 => omega
          case hg => (try simp [nTm_mk, nTy_mk, nTyS, nTmS]) <;> omega)
    | cons s tl =>
      cases tl with
      | nil =>
        exfalso
        simp only [tyKids] at hkk
        split at hkk
        · simp at hkk
        · split at hkk <;> simp at hkk
      | cons v tl =>
        cases tl with
        | cons _ _ => exact absurd hkl (by simp)
        | nil =>
          have hnt2 := hnt
          simp only [nTy_mk, nTyS] at hnt2
          have h2a := h2 s (by simp)
          have h2b := h2 v (by simp)
          have h2c := h2L s (by simp) v (by simp)
          by_cases hdp : 1 < d
          · have h1' := h1 hdp
            have h1L' := h1L hdp
            have h1b := h1' boolT shape_bool
            have h1i := h1' intT shape_int
            simp only [aTy, MTy.kind_mk, MTy.kids_mk, List.map_nil] at h1b h1i
            have hcp := l1Copy_ok (.mk tk [s, v]) (by omega)
            have hbl := fun p hp => l1Blur_ok b hb 4 (.mk tk [s, v]) p hts hp
            simp only [aTy, MTy.kind_mk, MTy.kids_mk, List.map_cons, List.map_nil, eTy_def] at hcp hbl
            have h1t := h1' (.mk tk [s, v]) hts
            have h1Lt := fun a ha => h1L' a (.mk tk [s, v]) ha hts
            simp only [aTy, MTy.kind_mk, MTy.kids_mk, List.map_cons, List.map_nil, eTy_def] at h1t h1Lt
            repeat' first
              | ((first | refine aops_end (hK _ ?_) | refine aopsD_end (hK _ ?_) | refine aopsF_end (hK _ ?_)); clear hK K)
              | ((first | refine aops_go ?_ | refine aopsD_go ?_ | refine aopsF_go ?_); simp [hdp]; (try simp (disch := omega) only [wrap64]); (try (refine gen fun q hq => ?_; cases q <;> (try simp [hdp] at hq) <;> (try (have hh : True := hq; clear hh hq)))))
              | (refine wpcall_pure rfl (hcp) ?_; simp [hdp]; (try simp (disch := omega) only [wrap64]); (try (refine gen fun q hq => ?_; cases q <;> (try simp [hdp] at hq) <;> (try (have hh : True := hq; clear hh hq)))))
              | (refine wpcall_pure rfl (hint) ?_; simp [hdp]; (try simp (disch := omega) only [wrap64]); (try (refine gen fun q hq => ?_; cases q <;> (try simp [hdp] at hq) <;> (try (have hh : True := hq; clear hh hq)))))
              | (refine wpcall_pure rfl (hbool) ?_; simp [hdp]; (try simp (disch := omega) only [wrap64]); (try (refine gen fun q hq => ?_; cases q <;> (try simp [hdp] at hq) <;> (try (have hh : True := hq; clear hh hq)))))
              | (refine wpcall_pure rfl (hany) ?_; simp [hdp]; (try simp (disch := omega) only [wrap64]); (try (refine gen fun q hq => ?_; cases q <;> (try simp [hdp] at hq) <;> (try (have hh : True := hq; clear hh hq)))))
              | (refine wpcall_pure rfl (hnum _) ?_; simp [hdp]; (try simp (disch := omega) only [wrap64]); (try (refine gen fun q hq => ?_; cases q <;> (try simp [hdp] at hq) <;> (try (have hh : True := hq; clear hh hq)))))
              | (refine wpcall_pure rfl (hnode _ _) ?_; simp [hdp]; (try simp (disch := omega) only [wrap64]); (try (refine gen fun q hq => ?_; cases q <;> (try simp [hdp] at hq) <;> (try (have hh : True := hq; clear hh hq)))))
              | (refine wpcall_dr 0 rfl rfl (pick_ok b hb _ (by omega) 9 (by omega)) (fun x1 p1 hx1 hp1 hp1' => ?_); simp [hdp]; (try simp (disch := omega) only [wrap64]); (try (refine gen fun q hq => ?_; cases q <;> (try simp [hdp] at hq) <;> (try (have hh : True := hq; clear hh hq)))))
              | (refine wpcall_dr 0 rfl rfl (pick_ok b hb _ (by omega) 3 (by omega)) (fun x1 p1 hx1 hp1 hp1' => ?_); simp [hdp]; (try simp (disch := omega) only [wrap64]); (try (refine gen fun q hq => ?_; cases q <;> (try simp [hdp] at hq) <;> (try (have hh : True := hq; clear hh hq)))))
              | (refine wpcall_dr 0 rfl rfl (pick_ok b hb _ (by omega) 2 (by omega)) (fun x1 p1 hx1 hp1 hp1' => ?_); simp [hdp]; (try simp (disch := omega) only [wrap64]); (try (refine gen fun q hq => ?_; cases q <;> (try simp [hdp] at hq) <;> (try (have hh : True := hq; clear hh hq)))))
              | (refine wpcall_dr 0 rfl rfl (l1DrawT_ok b hb 1 (by omega) _ (by omega)) (fun x1 p1 hx1 hp1 hp1' => ?_); simp [hdp]; (try simp (disch := omega) only [wrap64]); (try (refine gen fun q hq => ?_; cases q <;> (try simp [hdp] at hq) <;> (try (have hh : True := hq; clear hh hq)))))
              | (refine wpcall_dr 0 rfl rfl (l1DrawT_ok b hb 2 (by omega) _ (by omega)) (fun x1 p1 hx1 hp1 hp1' => ?_); simp [hdp]; (try simp (disch := omega) only [wrap64]); (try (refine gen fun q hq => ?_; cases q <;> (try simp [hdp] at hq) <;> (try (have hh : True := hq; clear hh hq)))))
              | (refine wpcall_dr 0 rfl rfl (hbl _ (by omega)) (fun x1 p1 hx1 hp1 hp1' => ?_); simp [hdp]; (try simp (disch := omega) only [wrap64]); (try (refine gen fun q hq => ?_; cases q <;> (try simp [hdp] at hq) <;> (try (have hh : True := hq; clear hh hq)))))
              | (refine wpcall_dr 0 rfl rfl (hblI _ (by omega)) (fun x1 p1 hx1 hp1 hp1' => ?_); simp [hdp]; (try simp (disch := omega) only [wrap64]); (try (refine gen fun q hq => ?_; cases q <;> (try simp [hdp] at hq) <;> (try (have hh : True := hq; clear hh hq)))))
              | (refine wpcall_dr 0 rfl rfl (l1Blur_ok b hb 4 _ _ (by assumption) (by omega)) (fun x1 p1 hx1 hp1 hp1' => ?_); simp [hdp]; (try simp (disch := omega) only [wrap64]); (try (refine gen fun q hq => ?_; cases q <;> (try simp [hdp] at hq) <;> (try (have hh : True := hq; clear hh hq)))))
              | (refine wpcall_dr 0 rfl rfl (num_ok b hb _ (by omega) [1, 2, 0, 999, 5] (by simp) (by simp)) (fun x1 p1 hx1 hp1 hp1' => ?_); simp [hdp]; (try simp (disch := omega) only [wrap64]); (try (refine gen fun q hq => ?_; cases q <;> (try simp [hdp] at hq) <;> (try (have hh : True := hq; clear hh hq)))))
              | (refine wpcall_dr 0 rfl rfl (h2a _ (by omega)) (fun x1 p1 hx1 hp1 hp1' => ?_); simp [hdp]; (try simp (disch := omega) only [wrap64]); (try (refine gen fun q hq => ?_; cases q <;> (try simp [hdp] at hq) <;> (try (have hh : True := hq; clear hh hq)))))
              | (refine wpcall_dr 0 rfl rfl (h2b _ (by omega)) (fun x1 p1 hx1 hp1 hp1' => ?_); simp [hdp]; (try simp (disch := omega) only [wrap64]); (try (refine gen fun q hq => ?_; cases q <;> (try simp [hdp] at hq) <;> (try (have hh : True := hq; clear hh hq)))))
              | (refine wpcall_dr 0 rfl rfl (h2c _ (by omega)) (fun x1 p1 hx1 hp1 hp1' => ?_); simp [hdp]; (try simp (disch := omega) only [wrap64]); (try (refine gen fun q hq => ?_; cases q <;> (try simp [hdp] at hq) <;> (try (have hh : True := hq; clear hh hq)))))
              | (refine wpcall_dr 0 rfl rfl (h1b _ (by omega)) (fun x1 p1 hx1 hp1 hp1' => ?_); simp [hdp]; (try simp (disch := omega) only [wrap64]); (try (refine gen fun q hq => ?_; cases q <;> (try simp [hdp] at hq) <;> (try (have hh : True := hq; clear hh hq)))))
              | (refine wpcall_dr 0 rfl rfl (h1i _ (by omega)) (fun x1 p1 hx1 hp1 hp1' => ?_); simp [hdp]; (try simp (disch := omega) only [wrap64]); (try (refine gen fun q hq => ?_; cases q <;> (try simp [hdp] at hq) <;> (try (have hh : True := hq; clear hh hq)))))
              | (refine wpcall_dr 0 rfl rfl (h1t _ (by omega)) (fun x1 p1 hx1 hp1 hp1' => ?_); simp [hdp]; (try simp (disch := omega) only [wrap64]); (try (refine gen fun q hq => ?_; cases q <;> (try simp [hdp] at hq) <;> (try (have hh : True := hq; clear hh hq)))))
              | (refine wpcall_dr 0 rfl rfl (h1' _ (by assumption) _ (by omega)) (fun x1 p1 hx1 hp1 hp1' => ?_); simp [hdp]; (try simp (disch := omega) only [wrap64]); (try (refine gen fun q hq => ?_; cases q <;> (try simp [hdp] at hq) <;> (try (have hh : True := hq; clear hh hq)))))
              | (refine wpcall_dr 0 rfl rfl (h1Lt _ (by assumption) _ (by omega)) (fun x1 p1 hx1 hp1 hp1' => ?_); simp [hdp]; (try simp (disch := omega) only [wrap64]); (try (refine gen fun q hq => ?_; cases q <;> (try simp [hdp] at hq) <;> (try (have hh : True := hq; clear hh hq)))))
              | refine TX.rd (id := 10) mixed (fun _ => false) [6, 9, 12] (by kernel_rfl) fun K hK => ?_
              | refine TX.rdF (id := 12) mixed (fun _ => false) [5, 11, 17, 20] [8, 14] 12 [0] (by kernel_rfl) fun K hK => ?_
              | refine TX.rdF (id := 15) mixed (fun _ => false) [6, 11, 14, 17] [10] 7 [0] (by kernel_rfl) fun K hK => ?_
              | refine TX.rd (id := 24) mixed (fun _ => false) [12, 13] (by kernel_rfl) fun K hK => ?_
              | refine TX.rdF (id := 26) mixed (fun _ => false) [8, 17, 20] [12, 13, 14] 9 [0] (by kernel_rfl) fun K hK => ?_
              | refine TX.rs (fun _ => false) fun K hK => ?_
              | refine TX.cond rfl (fun hcnd => ?_) (fun hcnd => absurd hcnd (by decide))
              | refine TX.cond rfl (fun hcnd => absurd hcnd (by decide)) (fun hcnd => ?_)
              | refine TX.seq ?_
              | refine TX.block ?_
              | refine TX.skip ?_
              | refine TX.exit ?_
              | refine EX.thenN ?_
              | refine EX.thenE ?_
              | refine EX.blockN ?_
              | refine EX.blockE ?_
              | refine EX.outE ?_
            all_goals (
              refine TX.ret ?_
              repeat' first | refine EX.outR ?_ | refine EX.thenR ?_ | refine EX.blockR ?_ | refine EX.unrR ?_
              apply EX.drA (ks := [])
              case he => exact Or.inr rfl
              case hys => simp [resAs, getAs, Try.results48] <;> rfl
              case hv => first | (dsimp only [Av.one]; exact rfl) | dsimp only [Av.one]
              case hx => repeat' first | exact IsT2.var _ | exact IsV.tmv _ | exact IsTm.var _ | exact IsTy.row _ | exact IsTm.row _ | exact IsTys.nil | exact IsTms.nil | exact IsBds.nil | exact IsTys.map _ | exact IsTms.map _ | exact IsBds.map _ | exact IsV.int _ | exact IsV.str _ | exact IsV.bool _ | apply IsV.p2 | apply IsV.p3 | apply IsV.tm | apply IsV.ty | apply IsTm.node | apply IsTy.of | apply IsTys.cons | apply IsTms.cons | apply IsBds.cons | apply IsV.tys | apply IsV.tms | apply IsV.bds | apply IsT2.node | apply IsTys.app | apply IsTms.app | apply IsBds.app
              case hA => exact rfl
              case hks => simp
              case hV => exact rfl
              case h1 => omega
              case h2 => omega
              case hg => (try simp [nTm_mk, nTy_mk, nTyS, nTmS]) <;> omega)
          · have hcp := l1Copy_ok (.mk tk [s, v]) (by omega)
            have hbl := fun p hp => l1Blur_ok b hb 4 (.mk tk [s, v]) p hts hp
            simp only [aTy, MTy.kind_mk, MTy.kids_mk, List.map_cons, List.map_nil, eTy_def] at hcp hbl
            repeat' first
              | ((first | refine aops_end (hK _ ?_) | refine aopsD_end (hK _ ?_) | refine aopsF_end (hK _ ?_)); clear hK K)
              | ((first | refine aops_go ?_ | refine aopsD_go ?_ | refine aopsF_go ?_); simp [hdp]; (try simp (disch := omega) only [wrap64]); (try (refine gen fun q hq => ?_; cases q <;> (try simp [hdp] at hq) <;> (try (have hh : True := hq; clear hh hq)))))
              | (refine wpcall_pure rfl (hany) ?_; simp [hdp]; (try simp (disch := omega) only [wrap64]); (try (refine gen fun q hq => ?_; cases q <;> (try simp [hdp] at hq) <;> (try (have hh : True := hq; clear hh hq)))))
              | (refine wpcall_pure rfl (hnum _) ?_; simp [hdp]; (try simp (disch := omega) only [wrap64]); (try (refine gen fun q hq => ?_; cases q <;> (try simp [hdp] at hq) <;> (try (have hh : True := hq; clear hh hq)))))
              | (refine wpcall_pure rfl (hnode _ _) ?_; simp [hdp]; (try simp (disch := omega) only [wrap64]); (try (refine gen fun q hq => ?_; cases q <;> (try simp [hdp] at hq) <;> (try (have hh : True := hq; clear hh hq)))))
              | (refine wpcall_dr 0 rfl rfl (pick_ok b hb _ (by omega) 3 (by omega)) (fun x1 p1 hx1 hp1 hp1' => ?_); simp [hdp]; (try simp (disch := omega) only [wrap64]); (try (refine gen fun q hq => ?_; cases q <;> (try simp [hdp] at hq) <;> (try (have hh : True := hq; clear hh hq)))))
              | (refine wpcall_dr 0 rfl rfl (num_ok b hb _ (by omega) [1, 2, 0, 999, 5] (by simp) (by simp)) (fun x1 p1 hx1 hp1 hp1' => ?_); simp [hdp]; (try simp (disch := omega) only [wrap64]); (try (refine gen fun q hq => ?_; cases q <;> (try simp [hdp] at hq) <;> (try (have hh : True := hq; clear hh hq)))))
              | (refine wpcall_dr 0 rfl rfl (h2a _ (by omega)) (fun x1 p1 hx1 hp1 hp1' => ?_); simp [hdp]; (try simp (disch := omega) only [wrap64]); (try (refine gen fun q hq => ?_; cases q <;> (try simp [hdp] at hq) <;> (try (have hh : True := hq; clear hh hq)))))
              | (refine wpcall_dr 0 rfl rfl (h2b _ (by omega)) (fun x1 p1 hx1 hp1 hp1' => ?_); simp [hdp]; (try simp (disch := omega) only [wrap64]); (try (refine gen fun q hq => ?_; cases q <;> (try simp [hdp] at hq) <;> (try (have hh : True := hq; clear hh hq)))))
              | (refine wpcall_dr 0 rfl rfl (h2c _ (by omega)) (fun x1 p1 hx1 hp1 hp1' => ?_); simp [hdp]; (try simp (disch := omega) only [wrap64]); (try (refine gen fun q hq => ?_; cases q <;> (try simp [hdp] at hq) <;> (try (have hh : True := hq; clear hh hq)))))
              | refine TX.rd (id := 24) mixed (fun _ => false) [12, 13] (by kernel_rfl) fun K hK => ?_
              | refine TX.rdF (id := 26) mixed (fun _ => false) [8, 17, 20] [12, 13, 14] 9 [0] (by kernel_rfl) fun K hK => ?_
              | refine TX.rs (fun _ => false) fun K hK => ?_
              | refine TX.cond rfl (fun hcnd => ?_) (fun hcnd => absurd hcnd (by decide))
              | refine TX.cond rfl (fun hcnd => absurd hcnd (by decide)) (fun hcnd => ?_)
              | refine TX.seq ?_
              | refine TX.block ?_
              | refine TX.skip ?_
              | refine TX.exit ?_
              | refine EX.thenN ?_
              | refine EX.thenE ?_
              | refine EX.blockN ?_
              | refine EX.blockE ?_
              | refine EX.outE ?_
            all_goals (
              refine TX.ret ?_
              repeat' first | refine EX.outR ?_ | refine EX.thenR ?_ | refine EX.blockR ?_ | refine EX.unrR ?_
              apply EX.drA (ks := [])
              case he => exact Or.inr rfl
              case hys => simp [resAs, getAs, Try.results48] <;> rfl
              case hv => first | (dsimp only [Av.one]; exact rfl) | dsimp only [Av.one]
              case hx => repeat' first | exact IsT2.var _ | exact IsV.tmv _ | exact IsTm.var _ | exact IsTy.row _ | exact IsTm.row _ | exact IsTys.nil | exact IsTms.nil | exact IsBds.nil | exact IsTys.map _ | exact IsTms.map _ | exact IsBds.map _ | exact IsV.int _ | exact IsV.str _ | exact IsV.bool _ | apply IsV.p2 | apply IsV.p3 | apply IsV.tm | apply IsV.ty | apply IsTm.node | apply IsTy.of | apply IsTys.cons | apply IsTms.cons | apply IsBds.cons | apply IsV.tys | apply IsV.tms | apply IsV.bds | apply IsT2.node | apply IsTys.app | apply IsTms.app | apply IsBds.app
              case hA => exact rfl
              case hks => simp
              case hV => exact rfl
              case h1 => omega
              case h2 => omega
              case hg => (try simp [nTm_mk, nTy_mk, nTyS, nTmS]) <;> omega)
end Go.Proofs.Ytiffndccihaopaa

namespace Go.Proofs.Ytiffndccihaopaa
attribute [-simp] Go.Av.innVs Go.Av.putBack Go.Av.objCells Go.Av.back Go.Av.resVs Go.Av.one Go.Av.freeStepG Go.Av.exA
open Go Go.Av
attribute [local irreducible] T ACalls TX EX LX Draws Some_ ACallsX eTy eTm MTy.kind MTy.kids MTm.kind MTm.name MTm.num MTm.ty MTm.fr MTm.label MTm.kids
attribute [local simp] eTy_def eTm_def
set_option linter.unusedSimpArgs false
set_option linter.unusedVariables false
set_option maxHeartbeats 16000000
set_option maxRecDepth 8000

def mkN : Nat → Nat | 0 => 0 | m + 1 => 3 * (mkN m + 1) + 3000
def mkB : Nat → Nat | 0 => 0 | m + 1 => 3 * (mkB m + 102) + 100

theorem shapeTy_le {m n : Nat} {t : MTy} (h : m ≤ n) (ht : shapeTy m t = true) : shapeTy n t = true := by
  induction n with
  | zero => have : m = 0 := by omega
            subst this; exact ht
  | succ n ih =>
    by_cases e : m = n + 1
    · subst e; exact ht
    · exact shapeTy_mono (ih (by omega))

theorem l3Make_ok (b : List Int) (hb : okB b) : ∀ (k : Nat) (ctx : List MBd) (t : MTy) (d : Int) (p : Nat), ctx.length + k ≤ 900 → (∀ u ∈ ctx, u.name.length ≤ 10 ∧ nTy u.ty ≤ 1000) → -900 + (k : Int) ≤ d → d ≤ 900 →
    ((d ≤ 1 ∧ k ≤ 4 ∧ shapeTy k t = true) ∨ (shapeTy 4 t = true ∧ d ≤ (k : Int) - 3 ∧ 4 ≤ k)) → p + mkN k ≤ 1099511627776 → Draws Try.prog 48 [aBds ctx, aTy t, .i d] b p (mkN k) (RV aTm noA fun e => nTm e ≤ mkB k) := by
  intro k
  induction k with
  | zero =>
    intro ctx t d p _ _ _ _ h _
    rcases h with ⟨_, _, h⟩ | ⟨_, _, h⟩
    · simp [shapeTy] at h
    · omega
  | succ k ih =>
    intro ctx t d p hl hct hd hd' h hp
    have hts : shapeTy 4 t = true := by
      rcases h with ⟨_, h1, h2⟩ | ⟨h, _, _⟩
      · exact shapeTy_le (by omega) h2
      · exact h
    have hN : mkN (k + 1) = 3 * (mkN k + 1) + 3000 := rfl
    have hB : mkB (k + 1) = 3 * (mkB k + 102) + 100 := rfl
    rw [hN] at hp ⊢
    rw [hB]
    have hlam : ∀ (s u : MTy), shapeTy 4 s = true → ((d - 1 ≤ 1 ∧ k ≤ 4 ∧ shapeTy k u = true) ∨ (shapeTy 4 u = true ∧ d - 1 ≤ (k : Int) - 3 ∧ 4 ≤ k)) → ∀ p, p + (mkN k + 1) ≤ 1099511627776 → Draws Try.prog 87 [aBds ctx, aTy s, aTy u, .i (d - 1)] b p (mkN k + 1) (RV aTm noA fun e => nTm e ≤ mkB k + 102) := by
      intro s u hs hu p hp
      have hs4 := shape4 hs
      refine l3Lam_of b hb ctx s u (by omega) (by omega) (d - 1) (by omega) (by omega) (mkN k) (mkB k) p (by omega) fun c q hq => ?_
      have := ih (ctx ++ [⟨[c], s⟩]) u (d - 1) q (by simp; omega) (by
        intro v hv
        rcases List.mem_append.1 hv with hv | hv
        · exact hct v hv
        · simp at hv; subst hv; exact ⟨by simp, by show nTy s ≤ 1000; omega⟩) (by omega) (by omega) hu hq
      rw [aBds, List.map_append] at this
      exact this
    have hkid : ∀ u ∈ t.kids, (d - 1 ≤ 1 ∧ k ≤ 4 ∧ shapeTy k u = true) ∨ (shapeTy 4 u = true ∧ d - 1 ≤ (k : Int) - 3 ∧ 4 ≤ k) := by
      intro u hu
      rcases h with ⟨h1, h2, h3⟩ | ⟨h1, h2, h3⟩
      · obtain ⟨e, he, _, _, hs⟩ := shapeTy_kids h3
        obtain rfl : k = e := by omega
        exact .inl ⟨by omega, by omega, hs u hu⟩
      · obtain ⟨e, he, _, _, hs⟩ := shapeTy_kids h1
        obtain rfl : e = 3 := by omega
        by_cases hk : k = 3
        · subst hk; exact .inl ⟨by omega, by omega, hs u hu⟩
        · exact .inr ⟨shapeTy_le (by omega) (hs u hu), by omega, by omega⟩
    have hk4 : ∀ u ∈ t.kids, shapeTy 4 u = true := by
      intro u hu
      obtain ⟨e, he, _, _, hs⟩ := shapeTy_kids hts
      exact shapeTy_le (by omega) (hs u hu)
    refine (l3Make_core b hb ctx (by omega) hct t hts d (by omega) (by omega) (mkN k + 1) (mkB k + 102) p (by omega) ?_ ?_ ?_ ?_).mono (by omega) (fun _ h => h)
    · intro h1d t' ht' q hq
      have hk3 : 4 ≤ k := by
        rcases h with ⟨h1, _, _⟩ | ⟨_, h2, h3⟩
        · omega
        · omega
      refine (ih ctx t' (d - 1) q (by omega) hct (by omega) (by omega) (.inr ⟨ht', ?_, hk3⟩) (by omega)).mono (by omega) (fun e h => by omega)
      rcases h with ⟨h1, _, _⟩ | ⟨_, h2, _⟩ <;> omega
    · intro h1d s t' hs ht' q hq
      have hk3 : 4 ≤ k := by
        rcases h with ⟨h1, _, _⟩ | ⟨_, h2, h3⟩
        · omega
        · omega
      refine hlam s t' hs (.inr ⟨ht', ?_, hk3⟩) q hq
      rcases h with ⟨h1, _, _⟩ | ⟨_, h2, _⟩ <;> omega
    · intro u hu q hq
      exact (ih ctx u (d - 1) q (by omega) hct (by omega) (by omega) (hkid u hu) (by omega)).mono (by omega) (fun e h => by omega)
    · intro u hu v hv q hq
      exact hlam u v (hk4 u hu) (hkid v hv) q hq

theorem l3Make5_ok (b : List Int) (hb : okB b) (ctx : List MBd) (hl : ctx.length ≤ 100) (hct : ∀ u ∈ ctx, u.name.length ≤ 10 ∧ nTy u.ty ≤ 1000) (t : MTy) (ht : shapeTy 4 t = true) (d : Int) (hd : 1 ≤ d) (hd' : d ≤ 5) (p : Nat) (hp : p + 9849840 ≤ 1099511627776) :
    Draws Try.prog 48 [aBds ctx, aTy t, .i d] b p 9849840 (RV aTm noA fun e => nTm e ≤ 2000000) :=
  (l3Make_ok b hb 8 ctx t d p (by omega) hct (by omega) (by omega) (.inr ⟨ht, by omega, by omega⟩) hp).mono (by decide) (fun e h => Nat.le_trans h (by decide))

end Go.Proofs.Ytiffndccihaopaa

namespace Go.Proofs.Ytiffndccihaopaa
attribute [-simp] Go.Av.innVs Go.Av.putBack Go.Av.objCells Go.Av.back Go.Av.resVs Go.Av.one Go.Av.freeStepG Go.Av.exA
open Go Go.Av
attribute [local irreducible] T ACalls TX EX LX Draws Some_ ACallsX eTy eTm MTy.kind MTy.kids MTm.kind MTm.name MTm.num MTm.ty MTm.fr MTm.label MTm.kids
attribute [local simp] eTy_def eTm_def
set_option linter.unusedSimpArgs false
set_option linter.unusedVariables false
set_option maxHeartbeats 16000000
set_option maxRecDepth 8000

end Go.Proofs.Ytiffndccihaopaa
