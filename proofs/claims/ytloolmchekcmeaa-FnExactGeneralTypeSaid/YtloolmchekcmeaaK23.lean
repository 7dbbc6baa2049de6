/- A part of the library of this seat. -/
import Derived.Test.YtloolmchekcmeaaK22
set_option linter.unusedVariables false
set_option linter.unusedSimpArgs false
namespace Go.Proofs.Ytloolmchekcmeaa
attribute [-simp] Go.Av.sT_cons
open Go Go.Av
attribute [local irreducible] T ACalls TX EX LX Draws Some_ ACallsX eTy eTm MTy.kind MTy.kids MTm.kind MTm.name MTm.num MTm.ty MTm.fr MTm.label MTm.kids
attribute [local simp] eTy_def eTm_def
set_option maxHeartbeats 16000000
set_option maxRecDepth 8000
@[simp] theorem td_sim : td Try.prog 88 = some { ag := true, sz := 4, by_ := 32, zero := some [.d (.int .i64 0), .np, .np, .np], el := none, ar := none, fl := [(0, 1), (1, 1), (2, 1), (3, 1)], ik := none, isS := false, isB := false } := keep (by kernel_rfl)
@[simp] theorem td_psim : td Try.prog 58 = some { ag := false, sz := 1, by_ := 8, zero := some [.np], el := none, ar := none, fl := [], ik := none, isS := false, isB := false } := keep (by kernel_rfl)
@[simp] theorem td_psimS : td Try.prog 62 = some { ag := false, sz := 1, by_ := 24, zero := some [.nil], el := some 58, ar := none, fl := [], ik := none, isS := false, isB := false } := keep (by kernel_rfl)
@[simp] theorem td_sco : td Try.prog 99 = some { ag := true, sz := 3, by_ := 32, zero := some [.d (.str []), .np, .np], el := none, ar := none, fl := [(0, 1), (1, 1), (2, 1)], ik := none, isS := false, isB := false } := keep (by kernel_rfl)
@[simp] theorem td_psco : td Try.prog 97 = some { ag := false, sz := 1, by_ := 8, zero := some [.np], el := none, ar := none, fl := [], ik := none, isS := false, isB := false } := keep (by kernel_rfl)
@[simp] theorem td_infr : td Try.prog 83 = some { ag := true, sz := 1, by_ := 24, zero := some [.nil], el := none, ar := none, fl := [(0, 1)], ik := none, isS := false, isB := false } := keep (by kernel_rfl)
@[simp] theorem td_wri : td Try.prog 64 = some { ag := true, sz := 2, by_ := 32, zero := some [.nil, .d (.int .i64 0)], el := none, ar := none, fl := [(0, 1), (1, 1)], ik := none, isS := false, isB := false } := keep (by kernel_rfl)
theorem un_psim : Try.prog.underlying 58 = some (.pointer 88) := by kernel_rfl
theorem pt_psim : Try.prog.pointee 58 = 88 := by kernel_rfl
theorem un_psco : Try.prog.underlying 97 = some (.pointer 99) := by kernel_rfl
theorem pt_psco : Try.prog.pointee 97 = 99 := by kernel_rfl
abbrev gS (G : List Nd) : Ts := gT 88 G
theorem gS_mem {G : List Nd} {x : Nd} (h : x ∈ G) : (.n 88 [.i x.k, .raw x.is, .raw x.a, .raw x.b], x.p) ∈ gS G := gT_mem h

theorem found_ok {G : List Nd} {ν : List (Option Value)} {B : List IT} (hG : GR G ν B) {k : Nat} {p : Value} {t : IT} (hp : Rn G ν p t) (hx : ex B k t = true) :
  FCalls Try.prog 37 [.c (.d (.raw p))] (gS G) fun r L' => ∃ q, r = .c (.d (.raw q)) /\ L' = gS G /\ Rn G ν q (hd B k t) := by
 refine FCalls.of_body Try.func37 (by kernel_rfl) rfl (by kernel_rfl) (by simp [Try.ntmps37]) ?_
 rw [Try.ntmps37]
 refine TJ.nodes (T := 88) (G := G) (M := []) (by simp) fun hN => ?_
 repeat' first | (refine aopsJ_end (hK _ _ ?_); clear hK K) | (refine aopsJ_go ?_; simp; (try (refine J2 ?_ ?_ <;> intro hq <;> try simp at hq))) | refine TJ.rs (id := 0) (fun _ => false) fun K hK => ?_ | refine TJ.seq ?_ | refine TJ.block ?_
 refine TJ.loopK (α := Nat × Value × IT) [2] (fun x => [(0, .c (.d (.raw x.2.1)))]) (fun _ => []) (fun _ => []) (fun _ A => A) (fun _ => gS G) (fun x => x.1) (fun x => Rn G ν x.2.1 x.2.2 /\ ex B x.1 x.2.2 = true /\ hd B x.1 x.2.2 = hd B k t) (by simp; rfl) (fun x hx => ?_) (k, p, t) ⟨hp, hx, rfl⟩ (by simp [ups]) (by simp) (by simp) (M := []) (by simp)
 obtain ⟨j, p, t⟩ := x
 dsimp only at hx ⊢
 obtain ⟨hp, hxj, he⟩ := hx
 simp only [ups, List.cons_append, List.nil_append]
 obtain ⟨x, hxG, rfl, hc⟩ := hp.found hG hN hxj
 have m1 := gS_mem hxG
 rcases hc with ⟨hc, hd1⟩ | ⟨hc, i, u, hij, hu, hxi, hd2⟩
 ·repeat' first | (refine aopsJ_end (hK _ _ ?_); clear hK K) | ((first | refine aopsJ_lk (by first | exact True.intro | (simp; done)) (LkS.nilCheck rfl rfl (by (first | exact List.mem_cons_self | exact m1 | exact .tail _ (List.mem_cons_self)))) ?_ | refine aopsJ_lk (by first | exact True.intro | (simp; done)) (LkS.field rfl (by first | exact td_sim | exact td_sco | exact td_infr | exact td_wri) rfl (by decide) rfl (by (first | exact List.mem_cons_self | exact m1 | exact .tail _ (List.mem_cons_self)))) ?_ | refine aopsJ_lk (by first | exact True.intro | (simp; done)) (LkS.load rfl (by first | exact td_psim | exact td_int | exact td_string | exact td_psco | exact td_psimS) rfl rfl rfl (by (first | exact List.mem_cons_self | exact m1 | exact .tail _ (List.mem_cons_self))) (by rfl)) ?_ | refine aopsJ_lk (by first | exact True.intro | (simp; done)) (LkS.neq (T := 88) rfl rfl rfl rfl rfl (by (first | exact .inl rfl | exact .inr ⟨_, by exact m1⟩ | exact .inr ⟨_, List.mem_cons_self⟩)) (by (first | exact .inl rfl | exact .inr ⟨_, by exact m1⟩ | exact .inr ⟨_, List.mem_cons_self⟩)) un_psim td_sim (by decide) pt_psim) ?_ | refine aopsJ_go ?_); simp [hc]; (try (refine J2 ?_ ?_ <;> intro hq <;> try simp [hc] at hq))) | (refine TJ.ret (DoneJ.tup (L' := gS G) (M := []) (Or.inr rfl) (by simp [Try.results37]; rfl) rfl (by simp) (⟨x.p, rfl, rfl, by rw [<- he, hd1]; exact hp⟩))) | refine TJ.rs (fun _ => false) fun K hK => ?_ | refine TJ.cond rfl (fun hcnd => absurd hcnd (by decide)) (fun hcnd => ?_) | refine TJ.seq ?_ | refine TJ.exit ?_
 ·obtain ⟨y, hyG, hy⟩ := hu.at_ hG
  have m2 := gS_mem hyG
  rw [hy] at m2
  repeat' first | (refine aopsJ_end (hK _ _ ?_); clear hK K) | ((first | refine aopsJ_lk (by first | exact True.intro | (simp; done)) (LkS.nilCheck rfl rfl (by (first | exact List.mem_cons_self | exact m1 | exact m2 | exact .tail _ (List.mem_cons_self)))) ?_ | refine aopsJ_lk (by first | exact True.intro | (simp; done)) (LkS.field rfl (by first | exact td_sim | exact td_sco | exact td_infr | exact td_wri) rfl (by decide) rfl (by (first | exact List.mem_cons_self | exact m1 | exact m2 | exact .tail _ (List.mem_cons_self)))) ?_ | refine aopsJ_lk (by first | exact True.intro | (simp; done)) (LkS.load rfl (by first | exact td_psim | exact td_int | exact td_string | exact td_psco | exact td_psimS) rfl rfl rfl (by (first | exact List.mem_cons_self | exact m1 | exact m2 | exact .tail _ (List.mem_cons_self))) (by rfl)) ?_ | refine aopsJ_lk (by first | exact True.intro | (simp; done)) (LkS.neq (T := 88) rfl rfl rfl rfl rfl (by (first | exact .inl rfl | exact .inr ⟨_, by exact m1⟩ | exact .inr ⟨_, by exact m2⟩ | exact .inr ⟨_, List.mem_cons_self⟩)) (by (first | exact .inl rfl | exact .inr ⟨_, by exact m1⟩ | exact .inr ⟨_, by exact m2⟩ | exact .inr ⟨_, List.mem_cons_self⟩)) un_psim td_sim (by decide) pt_psim) ?_ | refine aopsJ_go ?_); simp [hc]; (try (refine J2 ?_ ?_ <;> intro hq <;> try simp [hc] at hq))) | (refine ⟨(i, x.is, u), [], hij, ⟨hu, hxi, hd2 ▸ he⟩, ?_, by simp⟩; simp) | refine TJ.rs (fun _ => false) fun K hK => ?_ | refine TJ.rs1 (fun _ => false) fun K hK => ?_ | refine TJ.cond rfl (fun hcnd => ?_) (fun hcnd => absurd hcnd (by decide)) | refine TJ.seq ?_ | refine TJ.block ?_ | refine TJ.skip ?_

theorem occurs_ok {G : List Nd} {ν : List (Option Value)} {B : List IT} (hG : GR G ν B) {n : Nat} {v : Value} (hv : ν[n]? = some (some v)) (hf : bd B n = none) : ∀ (k : Nat) (p : Value) (t : IT), Rn G ν p t -> ex B k t = true ->
  FCalls Try.prog 61 [.c (.d (.raw p)), .c (.d (.raw v))] (gS G) fun r L' => r = .c (.d (.bool (occ B n k t))) /\ L' = gS G := by
 intro k
 induction k using Nat.strongRecOn with
 | _ k ih =>
  intro p t hp hx
  have h1 := found_ok hG hp hx
  have hh := hd_isHd hx
  rw [<- occ_hd hx]
  have hx2 := hd_ex hx
  have hkid := fun c x y => hd_kids (c := c) (x := x) (y := y) hx
  generalize hd B k t = u at *
  clear hp
  obtain ⟨y, hyG, hy⟩ := (Rn.v (G := G) hv).at_ hG
  have mv := gS_mem hyG
  rw [hy] at mv
  refine FCalls.of_body Try.func61 (by kernel_rfl) rfl (by kernel_rfl) (by simp [Try.ntmps61]) ?_
  rw [Try.ntmps61]
  refine TJ.nodes (T := 88) (G := G) (M := []) (by simp) fun hN => ?_
  repeat' first | (refine aopsJ_end (hK _ _ ?_); clear hK K) | ((first | refine aopsJ_go ?_ | (refine wpcallJ_mut (L2 := []) ?_ ?_ (h1) ?_; (focus (solve | simp)); (focus (solve | repeat' constructor)); rintro _ _ ⟨q, rfl, rfl, hq⟩)); simp; (try (refine J2 ?_ ?_ <;> intro hq <;> (try simp at hq) <;> try (have : True := hq; clear this hq)))) | refine TJ.rs (id := 0) (fun _ => false) fun K hK => ?_ | refine TJ.rs (id := 1) (fun _ => false) fun K hK => ?_ | refine TJ.seq ?_
  have o1 : ∀ m, u = .v m -> occ B n k u = decide (m = n) := fun m e => by
   subst e
   cases k with
   | zero => simp [ex] at hx2
   | succ k => simp [occ, hh m rfl]
  have o2 : ∀ c, u = .b c -> occ B n k u = false := fun c e => by subst e; cases k <;> rfl
  have o3 : ∀ c x y, u = .p c x y -> ∃ j, j < k /\ ex B j x = true /\ ex B j y = true /\ occ B n k u = (occ B n j x || occ B n j y) := fun c x y e => by
   obtain ⟨j, hj, x1, x2⟩ := hkid c x y e
   subst e
   refine ⟨j, hj, x1, x2, ?_⟩
   cases k with
   | zero => simp [ex] at hx2
   | succ k =>
    simp only [occ]
    rw [occ_stable x1 (by omega), occ_stable x2 (by omega)]
  cases hq.head hG hh with
  | @v m g1 g2 g3 =>
   have m1 := gS_mem g3
   have o := o1 m rfl
   clear ih o1 o2 o3 hkid h1
   by_cases e : m = n
   ·subst e
    have e2 : q = v := by rw [hv] at g1; simpa using g1.symm
    subst e2
    rw [o]
    repeat' first | (refine aopsJ_end (hK _ _ ?_); clear hK K) | ((first | refine aopsJ_lk (by first | exact True.intro | (simp; done)) (LkS.eql (T := 88) rfl rfl rfl rfl rfl (by (first | exact .inl rfl | exact .inr ⟨_, by exact m1⟩ | exact .inr ⟨_, by exact mv⟩ | exact .inr ⟨_, List.mem_cons_self⟩)) (by (first | exact .inl rfl | exact .inr ⟨_, by exact m1⟩ | exact .inr ⟨_, by exact mv⟩ | exact .inr ⟨_, List.mem_cons_self⟩)) un_psim td_sim (by decide) pt_psim) ?_ | refine aopsJ_go ?_); simp; (try (refine J2 ?_ ?_ <;> intro hq <;> (try simp at hq) <;> try (have : True := hq; clear this hq)))) | (refine TJ.ret (DoneJ.tup (L' := gS G) (M := []) (Or.inr rfl) (by simp [Try.results61]; rfl) rfl (by simp) (⟨by simp, rfl⟩))) | refine TJ.rs1 (fun _ => false) fun K hK => ?_
   ·have e2 : q ≠ v := fun e2 => e (hG.inj m n v (e2 ▸ g1) hv)
    rw [o]
    repeat' first | (refine aopsJ_end (hK _ _ ?_); clear hK K) | ((first | refine aopsJ_lk (by first | exact True.intro | (simp; done)) (LkS.nilCheck rfl rfl (by (first | exact List.mem_cons_self | exact m1 | exact mv | exact .tail _ (List.mem_cons_self)))) ?_ | refine aopsJ_lk (by first | exact True.intro | (simp; done)) (LkS.field rfl (by first | exact td_sim | exact td_sco | exact td_infr | exact td_wri) rfl (by decide) rfl (by (first | exact List.mem_cons_self | exact m1 | exact mv | exact .tail _ (List.mem_cons_self)))) ?_ | refine aopsJ_lk (by first | exact True.intro | (simp; done)) (LkS.load rfl (by first | exact td_psim | exact td_int | exact td_string | exact td_psco | exact td_psimS) rfl rfl rfl (by (first | exact List.mem_cons_self | exact m1 | exact mv | exact .tail _ (List.mem_cons_self))) (by rfl)) ?_ | refine aopsJ_lk (by first | exact True.intro | (simp; done)) (LkS.eql (T := 88) rfl rfl rfl rfl rfl (by (first | exact .inl rfl | exact .inr ⟨_, by exact m1⟩ | exact .inr ⟨_, by exact mv⟩ | exact .inr ⟨_, List.mem_cons_self⟩)) (by (first | exact .inl rfl | exact .inr ⟨_, by exact m1⟩ | exact .inr ⟨_, by exact mv⟩ | exact .inr ⟨_, List.mem_cons_self⟩)) un_psim td_sim (by decide) pt_psim) ?_ | refine aopsJ_lk (by first | exact True.intro | (simp; done)) (LkS.neq (T := 88) rfl rfl rfl rfl rfl (by (first | exact .inl rfl | exact .inr ⟨_, by exact m1⟩ | exact .inr ⟨_, by exact mv⟩ | exact .inr ⟨_, List.mem_cons_self⟩)) (by (first | exact .inl rfl | exact .inr ⟨_, by exact m1⟩ | exact .inr ⟨_, by exact mv⟩ | exact .inr ⟨_, List.mem_cons_self⟩)) un_psim td_sim (by decide) pt_psim) ?_ | refine aopsJ_go ?_); simp [e2]; (try (refine J2 ?_ ?_ <;> intro hq <;> (try simp [e2] at hq) <;> try (have : True := hq; clear this hq)))) | (refine TJ.ret (DoneJ.tup (L' := gS G) (M := []) (Or.inr rfl) (by simp [Try.results61]; rfl) rfl (by simp) (⟨by simp [e], rfl⟩))) | refine TJ.rs1 (fun _ => false) fun K hK => ?_
  | @b c g1 g2 =>
   have m1 := gS_mem g1
   have o := o2 c rfl
   clear ih o1 o2 o3 hkid h1
   have e2 : q ≠ v := fun e2 => by
    obtain ⟨z, hz, _⟩ := hG.var _ _ hv
    exact g2 (congrArg Nd.k (hN.uniq g1 hz e2))
   rw [o]
   repeat' first | (refine aopsJ_end (hK _ _ ?_); clear hK K) | ((first | refine aopsJ_lk (by first | exact True.intro | (simp; done)) (LkS.nilCheck rfl rfl (by (first | exact List.mem_cons_self | exact m1 | exact mv | exact .tail _ (List.mem_cons_self)))) ?_ | refine aopsJ_lk (by first | exact True.intro | (simp; done)) (LkS.field rfl (by first | exact td_sim | exact td_sco | exact td_infr | exact td_wri) rfl (by decide) rfl (by (first | exact List.mem_cons_self | exact m1 | exact mv | exact .tail _ (List.mem_cons_self)))) ?_ | refine aopsJ_lk (by first | exact True.intro | (simp; done)) (LkS.load rfl (by first | exact td_psim | exact td_int | exact td_string | exact td_psco | exact td_psimS) rfl rfl rfl (by (first | exact List.mem_cons_self | exact m1 | exact mv | exact .tail _ (List.mem_cons_self))) (by rfl)) ?_ | refine aopsJ_lk (by first | exact True.intro | (simp; done)) (LkS.eql (T := 88) rfl rfl rfl rfl rfl (by (first | exact .inl rfl | exact .inr ⟨_, by exact m1⟩ | exact .inr ⟨_, by exact mv⟩ | exact .inr ⟨_, List.mem_cons_self⟩)) (by (first | exact .inl rfl | exact .inr ⟨_, by exact m1⟩ | exact .inr ⟨_, by exact mv⟩ | exact .inr ⟨_, List.mem_cons_self⟩)) un_psim td_sim (by decide) pt_psim) ?_ | refine aopsJ_lk (by first | exact True.intro | (simp; done)) (LkS.neq (T := 88) rfl rfl rfl rfl rfl (by (first | exact .inl rfl | exact .inr ⟨_, by exact m1⟩ | exact .inr ⟨_, by exact mv⟩ | exact .inr ⟨_, List.mem_cons_self⟩)) (by (first | exact .inl rfl | exact .inr ⟨_, by exact m1⟩ | exact .inr ⟨_, by exact mv⟩ | exact .inr ⟨_, List.mem_cons_self⟩)) un_psim td_sim (by decide) pt_psim) ?_ | refine aopsJ_go ?_); simp [e2]; (try (refine J2 ?_ ?_ <;> intro hq <;> (try simp [e2] at hq) <;> try (have : True := hq; clear this hq)))) | (refine TJ.ret (DoneJ.tup (L' := gS G) (M := []) (Or.inr rfl) (by simp [Try.results61]; rfl) rfl (by simp) (⟨by simp, rfl⟩))) | refine TJ.rs1 (fun _ => false) fun K hK => ?_
  | @p c a b x y g1 g2 g3 g4 =>
   have m1 := gS_mem g1
   obtain ⟨j, hj, x1, x2, o⟩ := o3 c x y rfl
   have i1 := ih j hj a x g3 x1
   have i2 := ih j hj b y g4 x2
   have e2 : q ≠ v := fun e2 => by
    obtain ⟨z, hz, _⟩ := hG.var _ _ hv
    exact g2 (congrArg Nd.k (hN.uniq g1 hz e2))
   have e3 : ¬ a = .pointer none := g3.ne hG hN
   obtain ⟨za, za1, rfl⟩ := g3.at_ hG
   obtain ⟨zb, zb1, rfl⟩ := g4.at_ hG
   have m2 := gS_mem za1
   have m3 := gS_mem zb1
   rw [o]
   clear ih o o1 o2 o3 hkid h1
   generalize occ B n j x = q1 at *
   generalize occ B n j y = q2 at *
   cases q1 <;> cases q2
   repeat' first | (refine aopsJ_end (hK _ _ ?_); clear hK K) | ((first | refine aopsJ_lk (by first | exact True.intro | (simp; done)) (LkS.nilCheck rfl rfl (by (first | exact List.mem_cons_self | exact m1 | exact mv | exact m2 | exact m3 | exact .tail _ (List.mem_cons_self)))) ?_ | refine aopsJ_lk (by first | exact True.intro | (simp; done)) (LkS.field rfl (by first | exact td_sim | exact td_sco | exact td_infr | exact td_wri) rfl (by decide) rfl (by (first | exact List.mem_cons_self | exact m1 | exact mv | exact m2 | exact m3 | exact .tail _ (List.mem_cons_self)))) ?_ | refine aopsJ_lk (by first | exact True.intro | (simp; done)) (LkS.load rfl (by first | exact td_psim | exact td_int | exact td_string | exact td_psco | exact td_psimS) rfl rfl rfl (by (first | exact List.mem_cons_self | exact m1 | exact mv | exact m2 | exact m3 | exact .tail _ (List.mem_cons_self))) (by rfl)) ?_ | refine aopsJ_lk (by first | exact True.intro | (simp; done)) (LkS.eql (T := 88) rfl rfl rfl rfl rfl (by (first | exact .inl rfl | exact .inr ⟨_, by exact m1⟩ | exact .inr ⟨_, by exact mv⟩ | exact .inr ⟨_, by exact m2⟩ | exact .inr ⟨_, by exact m3⟩ | exact .inr ⟨_, List.mem_cons_self⟩)) (by (first | exact .inl rfl | exact .inr ⟨_, by exact m1⟩ | exact .inr ⟨_, by exact mv⟩ | exact .inr ⟨_, by exact m2⟩ | exact .inr ⟨_, by exact m3⟩ | exact .inr ⟨_, List.mem_cons_self⟩)) un_psim td_sim (by decide) pt_psim) ?_ | refine aopsJ_lk (by first | exact True.intro | (simp; done)) (LkS.neq (T := 88) rfl rfl rfl rfl rfl (by (first | exact .inl rfl | exact .inr ⟨_, by exact m1⟩ | exact .inr ⟨_, by exact mv⟩ | exact .inr ⟨_, by exact m2⟩ | exact .inr ⟨_, by exact m3⟩ | exact .inr ⟨_, List.mem_cons_self⟩)) (by (first | exact .inl rfl | exact .inr ⟨_, by exact m1⟩ | exact .inr ⟨_, by exact mv⟩ | exact .inr ⟨_, by exact m2⟩ | exact .inr ⟨_, by exact m3⟩ | exact .inr ⟨_, List.mem_cons_self⟩)) un_psim td_sim (by decide) pt_psim) ?_ | refine aopsJ_go ?_ | (refine wpcallJ_mut (L2 := []) ?_ ?_ (i1) ?_; (focus (solve | simp)); (focus (solve | repeat' constructor)); rintro _ _ ⟨rfl, rfl⟩) | (refine wpcallJ_mut (L2 := []) ?_ ?_ (i2) ?_; (focus (solve | simp)); (focus (solve | repeat' constructor)); rintro _ _ ⟨rfl, rfl⟩)); simp [e2, e3]; (try (refine J2 ?_ ?_ <;> intro hq <;> (try simp [e2, e3] at hq) <;> try (have : True := hq; clear this hq)))) | (refine TJ.ret (DoneJ.tup (L' := gS G) (M := []) (Or.inr rfl) (by simp [Try.results61]; rfl) rfl (by simp) (⟨by simp, rfl⟩))) | refine TJ.rs1 (fun _ => false) fun K hK => ?_
end Go.Proofs.Ytloolmchekcmeaa

namespace Go.Proofs.Ytloolmchekcmeaa
attribute [-simp] Go.Av.sT_cons
open Go Go.Av
attribute [local irreducible] T ACalls TX EX LX Draws Some_ ACallsX eTy eTm MTy.kind MTy.kids MTm.kind MTm.name MTm.num MTm.ty MTm.fr MTm.label MTm.kids
attribute [local simp] eTy_def eTm_def
set_option maxHeartbeats 16000000
set_option maxRecDepth 8000

def RU (G : List Nd) (ν : List (Option Value)) (B' : List IT) (q : Bool) (r : AV) (L' : Ts) : Prop := ∃ G', r = .c (.d (.bool q)) /\ L' = gS G' /\ GR G' ν B' /\ Ge G ν G' ν

theorem unify_var {G : List Nd} {ν : List (Option Value)} {B : List IT} (hG : GR G ν B) {k : Nat} {p q : Value} {a b : IT} (hp : Rn G ν p a) (hq : Rn G ν q b) (hxa : ex B k a = true) (hxb : ex B k b = true) {n : Nat} (ha : hd B k a = .v n) {B' : List IT} {qq : Bool}
  (h : (if hd B k b = .v n then some (B, true) else if occ B n k (hd B k b) = true then some (B, false) else some (B.set n (hd B k b), true)) = some (B', qq)) :
  FCalls Try.prog 46 [.c (.d (.raw p)), .c (.d (.raw q))] (gS G) (RU G ν B' qq) := by
 have h1 := found_ok hG hp hxa
 have h2 := found_ok hG hq hxb
 have hha := hd_isHd hxa
 have hhb := hd_isHd hxb
 have xb := hd_ex hxb
 rw [ha] at h1 hha
 generalize hd B k b = u at *
 clear hp hq
 refine FCalls.of_body Try.func46 (by kernel_rfl) rfl (by kernel_rfl) (by simp [Try.ntmps46]) ?_
 rw [Try.ntmps46]
 refine TJ.nodes (T := 88) (G := G) (M := []) (by simp) fun hN => ?_
 repeat' first | (refine aopsJ_end (hK _ _ ?_); clear hK K) | ((first | refine aopsJ_go ?_ | (refine wpcallJ_mut (L2 := []) ?_ ?_ (h1) ?_; (focus (solve | simp)); (focus (solve | repeat' constructor)); rintro _ _ ⟨p1, rfl, rfl, hp1⟩) | (refine wpcallJ_mut (L2 := []) ?_ ?_ (h2) ?_; (focus (solve | simp)); (focus (solve | repeat' constructor)); rintro _ _ ⟨q1, rfl, rfl, hq1⟩)); simp; (try (refine J2 ?_ ?_ <;> intro hq <;> (try simp at hq) <;> try (have : True := hq; clear this hq)))) | refine TJ.rs (id := 0) (fun _ => false) fun K hK => ?_ | refine TJ.rs (id := 1) (fun _ => false) fun K hK => ?_ | refine TJ.seq ?_ | refine TJ.block ?_
 cases hp1.head hG hha with
 | v g1 g2 g3 =>
  have m1 := gS_mem g3
  obtain ⟨z, hz, hzp⟩ := hq1.at_ hG
  have m2 := gS_mem hz
  rw [hzp] at m2
  by_cases e : u = .v n
  ·rw [if_pos e] at h
   simp at h
   obtain ⟨rfl, rfl⟩ := h
   subst e
   have e2 : p1 = q1 := by
    cases hq1 with
    | v h5 => rw [g1] at h5; simpa using h5
   subst e2
   repeat' first | (refine aopsJ_end (hK _ _ ?_); clear hK K) | ((first | refine aopsJ_lk (by first | exact True.intro | (simp; done)) (LkS.eql (T := 88) rfl rfl rfl rfl rfl (by (first | exact .inl rfl | exact .inr ⟨_, by exact m1⟩ | exact .inr ⟨_, by exact m2⟩ | exact .inr ⟨_, List.mem_cons_self⟩)) (by (first | exact .inl rfl | exact .inr ⟨_, by exact m1⟩ | exact .inr ⟨_, by exact m2⟩ | exact .inr ⟨_, List.mem_cons_self⟩)) un_psim td_sim (by decide) pt_psim) ?_ | refine aopsJ_go ?_); simp; (try (refine J2 ?_ ?_ <;> intro hq <;> (try simp at hq) <;> try (have : True := hq; clear this hq)))) | (refine TJ.ret (DoneJ.tup (L' := gS G) (M := []) (Or.inr rfl) (by simp [Try.results46]; rfl) rfl (by simp) (⟨G, rfl, rfl, hG, .refl _ _⟩))) | refine TJ.rs (fun _ => false) fun K hK => ?_ | refine TJ.rs1 (fun _ => false) fun K hK => ?_ | refine TJ.cond rfl (fun hcnd => ?_) (fun hcnd => absurd hcnd (by decide))
  ·rw [if_neg e] at h
   have e2 : ¬ p1 = q1 := fun e2 => e (hq1.uniq hG hN (e2 ▸ hp1))
   have h3 := occurs_ok hG g1 g2 k q1 u hq1 xb
   split at h
   ·rename_i ho
    simp at h
    obtain ⟨rfl, rfl⟩ := h
    rw [ho] at h3
    repeat' first | (refine aopsJ_end (hK _ _ ?_); clear hK K) | ((first | refine aopsJ_lk (by first | exact True.intro | (simp; done)) (LkS.nilCheck rfl rfl (by (first | exact List.mem_cons_self | exact m1 | exact m2 | exact .tail _ (List.mem_cons_self)))) ?_ | refine aopsJ_lk (by first | exact True.intro | (simp; done)) (LkS.field rfl (by first | exact td_sim | exact td_sco | exact td_infr | exact td_wri) rfl (by decide) rfl (by (first | exact List.mem_cons_self | exact m1 | exact m2 | exact .tail _ (List.mem_cons_self)))) ?_ | refine aopsJ_lk (by first | exact True.intro | (simp; done)) (LkS.load rfl (by first | exact td_psim | exact td_int | exact td_string | exact td_psco | exact td_psimS) rfl rfl rfl (by (first | exact List.mem_cons_self | exact m1 | exact m2 | exact .tail _ (List.mem_cons_self))) (by rfl)) ?_ | refine aopsJ_lk (by first | exact True.intro | (simp; done)) (LkS.eql (T := 88) rfl rfl rfl rfl rfl (by (first | exact .inl rfl | exact .inr ⟨_, by exact m1⟩ | exact .inr ⟨_, by exact m2⟩ | exact .inr ⟨_, List.mem_cons_self⟩)) (by (first | exact .inl rfl | exact .inr ⟨_, by exact m1⟩ | exact .inr ⟨_, by exact m2⟩ | exact .inr ⟨_, List.mem_cons_self⟩)) un_psim td_sim (by decide) pt_psim) ?_ | refine aopsJ_go ?_ | (refine wpcallJ_mut (L2 := []) ?_ ?_ (h3) ?_; (focus (solve | simp)); (focus (solve | repeat' constructor)); rintro _ _ ⟨rfl, rfl⟩)); simp [e2]; (try (refine J2 ?_ ?_ <;> intro hq <;> (try simp [e2] at hq) <;> try (have : True := hq; clear this hq)))) | (refine TJ.ret (DoneJ.tup (L' := gS G) (M := []) (Or.inr rfl) (by simp [Try.results46]; rfl) rfl (by simp) (⟨G, rfl, rfl, hG, .refl _ _⟩))) | refine TJ.rs (fun _ => false) fun K hK => ?_ | refine TJ.rs1 (fun _ => false) fun K hK => ?_ | refine TJ.cond rfl (fun hcnd => ?_) (fun hcnd => absurd hcnd (by decide)) | refine TJ.cond rfl (fun hcnd => absurd hcnd (by decide)) (fun hcnd => ?_) | refine TJ.seq ?_
   ·rename_i ho
    simp at h
    obtain ⟨rfl, rfl⟩ := h
    simp only [Bool.not_eq_true] at ho
    rw [ho] at h3
    obtain ⟨G1, G2, hGe⟩ := List.append_of_mem g3
    have hpm : G.Perm (⟨p1, 0, nilP, nilP, nilP⟩ :: (G1 ++ G2)) := by rw [hGe]; exact List.perm_middle
    obtain ⟨gb1, gb2⟩ := hG.bind hN g1 g2 hpm hq1 e
    have hst : (gS G).Perm ((.n 88 [.i 0, .raw nilP, .raw nilP, .raw nilP], p1) :: gS (G1 ++ G2)) := gT_perm hpm
    generalize G1 ++ G2 = G3 at *
    repeat' first | (refine aopsJ_store rfl rfl td_psim rfl rfl rfl rfl hst (by decide) ?_; simp) | (refine aopsJ_end (hK _ _ ?_); clear hK K) | ((first | refine aopsJ_lk (by first | exact True.intro | (simp; done)) (LkS.nilCheck rfl rfl (by (first | exact List.mem_cons_self | exact m1 | exact m2 | exact .tail _ (List.mem_cons_self)))) ?_ | refine aopsJ_lk (by first | exact True.intro | (simp; done)) (LkS.field rfl (by first | exact td_sim | exact td_sco | exact td_infr | exact td_wri) rfl (by decide) rfl (by (first | exact List.mem_cons_self | exact m1 | exact m2 | exact .tail _ (List.mem_cons_self)))) ?_ | refine aopsJ_lk (by first | exact True.intro | (simp; done)) (LkS.load rfl (by first | exact td_psim | exact td_int | exact td_string | exact td_psco | exact td_psimS) rfl rfl rfl (by (first | exact List.mem_cons_self | exact m1 | exact m2 | exact .tail _ (List.mem_cons_self))) (by rfl)) ?_ | refine aopsJ_lk (by first | exact True.intro | (simp; done)) (LkS.eql (T := 88) rfl rfl rfl rfl rfl (by (first | exact .inl rfl | exact .inr ⟨_, by exact m1⟩ | exact .inr ⟨_, by exact m2⟩ | exact .inr ⟨_, List.mem_cons_self⟩)) (by (first | exact .inl rfl | exact .inr ⟨_, by exact m1⟩ | exact .inr ⟨_, by exact m2⟩ | exact .inr ⟨_, List.mem_cons_self⟩)) un_psim td_sim (by decide) pt_psim) ?_ | refine aopsJ_go ?_ | (refine wpcallJ_mut (L2 := []) ?_ ?_ (h3) ?_; (focus (solve | simp)); (focus (solve | repeat' constructor)); rintro _ _ ⟨rfl, rfl⟩)); simp [e2]; (try (refine J2 ?_ ?_ <;> intro hq <;> (try simp [e2] at hq) <;> try (have : True := hq; clear this hq)))) | (refine TJ.ret (DoneJ.tup (L' := gS (⟨p1, 0, q1, nilP, nilP⟩ :: G3)) (M := []) (Or.inr rfl) (by simp [Try.results46]; rfl) rfl (by simp) (⟨_, rfl, rfl, gb1, gb2⟩))) | refine TJ.rs (fun _ => false) fun K hK => ?_ | refine TJ.rs1 (fun _ => false) fun K hK => ?_ | refine TJ.cond rfl (fun hcnd => ?_) (fun hcnd => absurd hcnd (by decide)) | refine TJ.cond rfl (fun hcnd => absurd hcnd (by decide)) (fun hcnd => ?_) | refine TJ.seq ?_ | refine TJ.skip ?_

theorem uni_same {k : Nat} {B B' : List IT} {u : IT} {q : Bool} (h : (match u, u with
   | .v n, b' => if b' = .v n then some (B, true) else if occ B n k b' then some (B, false) else some (B.set n b', true)
   | a', .v n => if occ B n k a' then some (B, false) else some (B.set n a', true)
   | .b i, .b j => some (B, decide (i = j))
   | .p i x y, .p j x' y' => if i = j then (match uni k B x x' with
     | some (B1, true) => uni k B1 y y'
     | r => r) else some (B, false)
   | _, _ => some (B, false)) = some (B', q)) (hu : ∀ n, u ≠ .v n) : B' = B /\ q = true := by
 cases u with
 | v n => exact absurd rfl (hu n)
 | b i => simp at h; exact ⟨h.1.symm, h.2⟩
 | p i x y =>
  simp at h
  cases hx : uni k B x x with
  | none => rw [hx] at h; simp at h
  | some r =>
   obtain ⟨B1, q1⟩ := r
   obtain ⟨rfl, rfl⟩ := uni_refl hx
   rw [hx] at h
   exact uni_refl h

end Go.Proofs.Ytloolmchekcmeaa

namespace Go.Proofs.Ytloolmchekcmeaa
attribute [-simp] Go.Av.sT_cons
open Go Go.Av
attribute [local irreducible] T ACalls TX EX LX Draws Some_ ACallsX eTy eTm MTy.kind MTy.kids MTm.kind MTm.name MTm.num MTm.ty MTm.fr MTm.label MTm.kids
attribute [local simp] eTy_def eTm_def
set_option maxHeartbeats 16000000
set_option maxRecDepth 8000

theorem Index_simple {G : List Nd} {ν : List (Option Value)} {B : List IT} (hG : GR G ν B) {seen : List Nat} (hs : HasV ν seen) (hl : seen.length <= 1000000) {m : Nat} {p : Value} (hp : ν[m]? = some (some p)) :
  FCalls Try.prog 38 [.c (.d (.sl (rowsV ν seen))), .c (.d (.raw p))] (gS G) fun r L' => r = .i (if m ∈ seen then (ixOf m seen : Int) else -1) /\ L' = gS G := by
 generalize hR : (if m ∈ seen then (ixOf m seen : Int) else -1) = R
 obtain ⟨z, hz, _⟩ := hG.var _ _ hp
 have m1 := gS_mem hz
 refine FCalls.of_body Try.func38 (by kernel_rfl) rfl (by kernel_rfl) (by simp [Try.ntmps38]) ?_
 rw [Try.ntmps38]
 refine TJ.nodes (T := 88) (G := G) (M := []) (by simp) fun hN => ?_
 repeat' first | (refine aopsJ_end (hK _ _ ?_); clear hK K) | (refine aopsJ_go ?_; simp; (try (refine J2 ?_ ?_ <;> intro hq <;> try simp at hq))) | refine TJ.rs (id := 0) (fun _ => false) fun K hK => ?_ | refine TJ.rs (id := 1) (fun _ => false) fun K hK => ?_ | refine TJ.seq ?_ | refine TJ.block ?_
 refine TJ.loopK (α := Nat) [0, 1, 7] (fun j => [(8, .i j)]) (fun _ => []) (fun _ => []) (fun _ A => A) (fun _ => gS G) (fun j => seen.length - j) (fun j => j <= seen.length /\ ∀ i, i < j -> seen[i]? ≠ some m) (by simp; rfl) (fun j hj => ?_) 0 ⟨by omega, fun i hi => by omega⟩ (by simp [ups]) (by simp) (by simp) (M := []) (by simp)
 dsimp only at hj ⊢
 obtain ⟨hj, hno⟩ := hj
 simp only [ups, List.cons_append, List.nil_append]
 by_cases hlt : j < seen.length
 ·obtain ⟨u, ht⟩ := get_lt hlt
  have htm : u ∈ seen := List.mem_of_getElem? ht
  have hgt : seen[j] = u := by rw [List.getElem?_eq_getElem hlt] at ht; exact Option.some.inj ht
  have hdr : seen.drop j = u :: seen.drop (j + 1) := by rw [List.drop_eq_getElem_cons hlt, hgt]
  have hu := hs u htm
  obtain ⟨y, hy, _⟩ := hG.var _ _ hu
  have m2 := gS_mem hy
  by_cases e : m = u
  ·subst e
   have e2 : p = varV ν m := (varV_of hp).symm
   subst e2
   rw [if_pos htm, ixOf_first hno ht] at hR
   repeat' first | (refine aopsJ_end (hK _ _ ?_); clear hK K) | ((first | refine aopsJ_lk (by first | exact True.intro | (simp; done)) (LkS.eql (T := 88) rfl rfl rfl rfl rfl (by (with_reducible first | exact heldN | exact heldM (m1) | exact heldM (m2) | exact heldM List.mem_cons_self)) (by (with_reducible first | exact heldN | exact heldM (m1) | exact heldM (m2) | exact heldM List.mem_cons_self)) un_psim td_sim (by decide) pt_psim) ?_ | refine aopsJ_go ?_); simp [hlt, hgt]; (try (refine J2 ?_ ?_ <;> intro hq <;> try simp [hlt, hgt] at hq))) | (refine TJ.ret ?_; (repeat' first | refine inBlockJ_ret ?_ | refine thenJ_ret ?_ | refine roundJ_ret ?_); refine DoneJ.tup (L' := gS G) (M := []) (Or.inr rfl) (by simp [Try.results38]; rfl) rfl (by simp) (⟨by subst hR; rfl, rfl⟩)) | refine TJ.rs (fun _ => false) fun K hK => ?_ | refine TJ.cond rfl (fun hcnd => ?_) (fun hcnd => absurd hcnd (by decide)) | refine TJ.seq ?_ | refine TJ.block ?_ | refine TJ.skip ?_
  ·have e2 : ¬ p = varV ν u := fun e2 => e (hG.inj m u p hp (e2 ▸ hu))
   repeat' first | (refine aopsJ_lk (by first | exact True.intro | (simp; done)) (LkS.eql (T := 88) rfl rfl rfl rfl rfl (by (with_reducible first | exact heldN | exact heldM (m1) | exact heldM (m2) | exact heldM List.mem_cons_self)) (by (with_reducible first | exact heldN | exact heldM (m1) | exact heldM (m2) | exact heldM List.mem_cons_self)) un_psim td_sim (by decide) pt_psim) ?_; simp [hlt, hgt, e2]; (try simp (disch := omega) only [wrap64]); (try (refine J2 ?_ ?_ <;> intro hq <;> try simp [hlt, hgt, e2] at hq))) | (refine aopsJ_end (hK _ _ ?_); clear hK K) | (refine aopsJ_go ?_; simp [hlt, hgt, e2]; (try simp (disch := omega) only [wrap64]); (try (refine J2 ?_ ?_ <;> intro hq <;> try simp [hlt, hgt, e2] at hq))) | (refine ⟨j + 1, [], by dsimp only; omega, ⟨by omega, fun i hi => ?_⟩, ?_, by simp⟩; (rcases Nat.lt_or_eq_of_le (Nat.le_of_lt_succ hi) with h | rfl; (focus (exact hno i h)); (focus (rw [ht]; simp; exact fun e' => e e'.symm))); simp (disch := omega) [wrap64]) | refine TJ.rs (fun _ => false) fun K hK => ?_ | refine TJ.rs1 (fun _ => false) fun K hK => ?_ | refine TJ.cond rfl (fun hcnd => ?_) (fun hcnd => absurd hcnd (by decide)) | refine TJ.cond rfl (fun hcnd => absurd hcnd (by decide)) (fun hcnd => ?_) | refine TJ.seq ?_ | refine TJ.block ?_ | refine TJ.skip ?_
 ·have hjl : j = seen.length := by omega
  subst hjl
  have hm : m ∉ seen := fun hm => by
   obtain ⟨i, hi⟩ := List.getElem?_of_mem hm
   exact hno i (List.getElem?_eq_some_iff.1 hi).1 hi
  rw [if_neg hm] at hR
  repeat' first | (refine aopsJ_end (hK _ _ ?_); clear hK K) | (refine aopsJ_go ?_; simp [hlt]; (try (refine J2 ?_ ?_ <;> intro hq <;> try simp [hlt] at hq))) | (refine TJ.ret ?_; (repeat' first | refine inBlockJ_ret ?_ | refine thenJ_ret ?_ | refine roundJ_ret ?_); refine DoneJ.tup (L' := gS G) (M := []) (Or.inr rfl) (by simp [Try.results38]; rfl) rfl (by simp) (⟨by subst hR; rfl, rfl⟩)) | refine TJ.rs (fun _ => false) fun K hK => ?_ | refine TJ.cond rfl (fun hcnd => absurd hcnd (by decide)) (fun hcnd => ?_) | refine TJ.seq ?_ | refine TJ.exit ?_
end Go.Proofs.Ytloolmchekcmeaa

namespace Go.Proofs.Ytloolmchekcmeaa
attribute [-simp] Go.Av.sT_cons
open Go Go.Av
attribute [local irreducible] T ACalls TX EX LX Draws Some_ ACallsX eTy eTm MTy.kind MTy.kids MTm.kind MTm.name MTm.num MTm.ty MTm.fr MTm.label MTm.kids
attribute [local simp] eTy_def eTm_def
set_option maxHeartbeats 16000000
set_option maxRecDepth 8000
@[simp] theorem td_u8w : td Try.prog 5 = some { ag := false, sz := 1, by_ := 1, zero := some [.d (.int .u8 0)], el := none, ar := none, fl := [], ik := some .u8, isS := false, isB := false } := keep (by kernel_rfl)
@[simp] theorem td_u8Sw : td Try.prog 90 = some { ag := false, sz := 1, by_ := 24, zero := some [.nil], el := some 5, ar := none, fl := [], ik := none, isS := false, isB := false } := keep (by kernel_rfl)

theorem sign_ok {k : Int} (h1 : 1 <= k) (h5 : k <= 5) : ACalls Try.prog 39 [.i k] [] (.s [signB k]) [] [] := by
 have hk : k = 1 \/ k = 2 \/ k = 3 \/ k = 4 \/ k = 5 := by omega
 have hw : ∀ z : Int, 0 <= z -> z <= 5 -> IntKind.i64.wrap z = z := fun z h1 h2 => wrap64 (by omega) (by omega)
 have w0 := hw 0 (by omega) (by omega)
 have w1 := hw 1 (by omega) (by omega)
 have w2 := hw 2 (by omega) (by omega)
 have w3 := hw 3 (by omega) (by omega)
 have w4 := hw 4 (by omega) (by omega)
 have w5 := hw 5 (by omega) (by omega)
 rcases hk with rfl | rfl | rfl | rfl | rfl
 ·refine ACalls.of_body Try.func39 (by kernel_rfl) rfl (by kernel_rfl) (by simp [Try.ntmps39]) (by simp) ?_
  rw [Try.ntmps39]
  repeat' first | (refine aops_end (hK _ ?_); clear hK K) | (refine aops_go ?_; simp [w0, w1, w2, w3, w4, w5]; (try (refine gen2 ?_ ?_ <;> intro hq <;> try simp [w0, w1, w2, w3, w4, w5] at hq))) | (refine T.ret (Done.data (Or.inr rfl) ?_ ?_) <;> simp [Try.results39, signB] <;> omega) | refine T.r0 fun K hK => ?_
 ·refine ACalls.of_body Try.func39 (by kernel_rfl) rfl (by kernel_rfl) (by simp [Try.ntmps39]) (by simp) ?_
  rw [Try.ntmps39]
  repeat' first | (refine aops_end (hK _ ?_); clear hK K) | (refine aops_go ?_; simp [w0, w1, w2, w3, w4, w5]; (try (refine gen2 ?_ ?_ <;> intro hq <;> try simp [w0, w1, w2, w3, w4, w5] at hq))) | (refine T.ret (Done.data (Or.inr rfl) ?_ ?_) <;> simp [Try.results39, signB] <;> omega) | refine T.r0 fun K hK => ?_
 ·refine ACalls.of_body Try.func39 (by kernel_rfl) rfl (by kernel_rfl) (by simp [Try.ntmps39]) (by simp) ?_
  rw [Try.ntmps39]
  repeat' first | (refine aops_end (hK _ ?_); clear hK K) | (refine aops_go ?_; simp [w0, w1, w2, w3, w4, w5]; (try (refine gen2 ?_ ?_ <;> intro hq <;> try simp [w0, w1, w2, w3, w4, w5] at hq))) | (refine T.ret (Done.data (Or.inr rfl) ?_ ?_) <;> simp [Try.results39, signB] <;> omega) | refine T.r0 fun K hK => ?_
 ·refine ACalls.of_body Try.func39 (by kernel_rfl) rfl (by kernel_rfl) (by simp [Try.ntmps39]) (by simp) ?_
  rw [Try.ntmps39]
  repeat' first | (refine aops_end (hK _ ?_); clear hK K) | (refine aops_go ?_; simp [w0, w1, w2, w3, w4, w5]; (try (refine gen2 ?_ ?_ <;> intro hq <;> try simp [w0, w1, w2, w3, w4, w5] at hq))) | (refine T.ret (Done.data (Or.inr rfl) ?_ ?_) <;> simp [Try.results39, signB] <;> omega) | refine T.r0 fun K hK => ?_
 ·refine ACalls.of_body Try.func39 (by kernel_rfl) rfl (by kernel_rfl) (by simp [Try.ntmps39]) (by simp) ?_
  rw [Try.ntmps39]
  repeat' first | (refine aops_end (hK _ ?_); clear hK K) | (refine aops_go ?_; simp [w0, w1, w2, w3, w4, w5]; (try (refine gen2 ?_ ?_ <;> intro hq <;> try simp [w0, w1, w2, w3, w4, w5] at hq))) | (refine T.ret (Done.data (Or.inr rfl) ?_ ?_) <;> simp [Try.results39, signB] <;> omega) | refine T.r0 fun K hK => ?_

abbrev wT (wp sv : Value) (m : Int) : GC × Value := (.n 64 [.raw sv, .i m], wp)
abbrev vT (ν : List (Option Value)) (seen : List Nat) (sv : Value) : GC × Value := (slV 58 (seen.map (varV ν)), sv)
theorem two_comm (X : Ts) (a b : GC × Value) : (X ++ [a, b]).Perm (a :: b :: X) := List.perm_append_comm
theorem two_comm' (X : Ts) (a b : GC × Value) : (a :: b :: X).Perm (X ++ [a, b]) := (two_comm X a b).symm
theorem vT_fz {L : Ts} {ν : List (Option Value)} {seen : List Nat} {sv : Value} (h : vT ν seen sv ∈ L) : FzC L (.d (.raw sv)) (.d (.sl (rowsV ν seen))) := by
 have := slV_fz h
 rwa [List.map_map] at this

theorem bytes_let {i : Nat} (h : i <= 100) : bytesOf [[.int .u8 (IntKind.u8.wrap (97 + (i : Int)))]] = some [letB i] := by
 have hw : IntKind.u8.wrap (97 + (i : Int)) = 97 + i := by simp [IntKind.wrap, IntKind.signed, IntKind.bits]; omega
 rw [hw]
 have hn : (97 + (i : Int)).toNat = 97 + i := by omega
 have h1 : (0 : Int) <= 97 + i := by omega
 have h2 : (97 : Int) + i < 256 := by omega
 simp [bytesOf, byteOfRow, letB, hn, h1, h2]

def RW (G : List Nd) (ν : List (Option Value)) (B : List IT) (k : Nat) (t : IT) (wp : Value) (seen : List Nat) (m : Int) (r : AV) (L' : Ts) : Prop :=
 ∃ s seen' sv' m', r = .s s /\ L' = wT wp sv' m' :: vT ν seen' sv' :: gS G /\ HasV ν seen' /\ WtR B k t seen m s seen' m' /\ (s.length : Int) <= 3 * (m' - m) /\ m' <= 161

theorem text_ok {G : List Nd} {ν : List (Option Value)} {B : List IT} (hG : GR G ν B) (hKd : KdB B) (wp : Value) : ∀ (k : Nat) (p : Value) (t : IT) (sv : Value) (seen : List Nat) (m : Int), Rn G ν p t -> ex B k t = true -> kdI t -> HasV ν seen -> 0 <= m -> m <= 100 -> (seen.length : Int) <= m ->
  FCalls Try.prog 20 [.c (.d (.raw wp)), .c (.d (.raw p))] (wT wp sv m :: vT ν seen sv :: gS G) (RW G ν B k t wp seen m) := by
 intro k
 induction k using Nat.strongRecOn with
 | _ k ih =>
  intro p t sv seen m hp hx hkd hs h0 h100 hl
  have h1 := found_ok hG hp hx
  have hh := hd_isHd hx
  have hx2 := hd_ex hx
  have hkd2 := hd_kd hKd (k := k) hkd
  have hkid := fun c x y => hd_kids (c := c) (x := x) (y := y) hx
  have hfin : ∀ r L', RW G ν B k (hd B k t) wp seen m r L' -> RW G ν B k t wp seen m r L' := fun r L' ⟨s, s', sv', m', e1, e2, e3, e4, e5⟩ => ⟨s, s', sv', m', e1, e2, e3, e4.hd hx, e5⟩
  have hgoal : RW G ν B k t wp seen m = fun r L' => RW G ν B k t wp seen m r L' := rfl
  generalize hd B k t = u at *
  refine FCalls.of_body Try.func20 (by kernel_rfl) rfl (by kernel_rfl) (by simp [Try.ntmps20]) ?_
  rw [Try.ntmps20]
  refine TJ.mono (Q := DoneJ Try.prog Try.f20 (RW G ν B k u wp seen m)) ?_ fun e s' L' ⟨d1, xs, d2, d3⟩ => ⟨d1, xs, d2, ?_⟩
  rotate_left
  ·rcases d3 with ⟨ys, L1, M, Ln, q1, q2, q3, q4⟩ | ⟨kk, a, cs, Lc, M, Ln, q1, q2, q3, q4, q5, q6⟩
   ·exact .inl ⟨ys, L1, M, Ln, q1, q2, q3, hfin _ _ q4⟩
   ·exact .inr ⟨kk, a, cs, Lc, M, Ln, q1, q2, q3, q4, q5, fun v => by
     obtain ⟨ys, L1, M1, r1, r2, r3⟩ := q6 v
     exact ⟨ys, L1, M1, r1, r2, hfin _ _ r3⟩⟩
  clear hfin hgoal hp
  refine TJ.nodes (T := 88) (G := G) (M := [wT wp sv m, vT ν seen sv]) (two_comm' _ _ _) fun hN => ?_
  have hfc : (wT wp sv m :: vT ν seen sv :: gS G).Perm (gS G ++ [wT wp sv m, vT ν seen sv]) := two_comm' _ _ _
  repeat' first | (refine aopsJ_end (hK _ _ ?_); clear hK K) | ((first | refine aopsJ_go ?_ | (refine wpcallJ_mut (L2 := [wT wp sv m, vT ν seen sv]) ?_ ?_ (h1) ?_; (focus (solve | exact hfc)); (focus (solve | repeat' constructor)); rintro _ _ ⟨q, rfl, rfl, hq⟩)); simp; (try (refine J2 ?_ ?_ <;> intro hq <;> (try simp at hq) <;> try (have : True := hq; clear this hq)))) | refine TJ.rs (id := 0) (fun _ => false) fun K hK => ?_ | refine TJ.rs (id := 1) (fun _ => false) fun K hK => ?_ | refine TJ.seq ?_
  refine TJ.less (L' := wT wp sv m :: vT ν seen sv :: gS G) (M := []) (by simpa using two_comm _ _ _) ?_
  clear h1 hfc
  by_cases h30 : 30 <= m
  ·have hw : IntKind.i64.wrap (m + 1) = m + 1 := wrap64 (by omega) (by omega)
   have hgt : (30 : Int) < m + 1 := by omega
   repeat' first | (refine aopsJ_store rfl rfl td_int rfl rfl rfl rfl (.refl _) (by simp) ?_; simp [hw]) | (refine aopsJ_nsU rfl ?_; (first | refine LookR.of (LkS.nilCheck rfl rfl (by (with_reducible first | exact List.mem_cons_self | exact hh | exact List.mem_cons_of_mem _ (List.mem_cons_of_mem _ hh) | exact List.mem_cons_of_mem _ List.mem_cons_self))) ?_ | refine LookR.of (LkS.field rfl (by with_reducible first | exact td_sim | exact td_sco | exact td_infr | exact td_wri) rfl (by decide) rfl (by (with_reducible first | exact List.mem_cons_self | exact hh | exact List.mem_cons_of_mem _ (List.mem_cons_of_mem _ hh) | exact List.mem_cons_of_mem _ List.mem_cons_self))) ?_ | refine LookR.of (LkS.load rfl (by with_reducible first | exact td_int) rfl rfl rfl (by (with_reducible first | exact List.mem_cons_self | exact hh | exact List.mem_cons_of_mem _ (List.mem_cons_of_mem _ hh) | exact List.mem_cons_of_mem _ List.mem_cons_self)) (by rfl)) ?_ | refine LookR.of (LkS.eql (T := 88) rfl rfl rfl rfl rfl (by (with_reducible first | exact heldN | exact heldM (hh) | exact heldM (List.mem_cons_of_mem _ (List.mem_cons_of_mem _ hh)) | exact heldM List.mem_cons_self)) (by (with_reducible first | exact heldN | exact heldM (hh) | exact heldM (List.mem_cons_of_mem _ (List.mem_cons_of_mem _ hh)) | exact heldM List.mem_cons_self)) un_psim td_sim (by decide) pt_psim) ?_ | refine LookR.of (LkS.neq (T := 88) rfl rfl rfl rfl rfl (by (with_reducible first | exact heldN | exact heldM (hh) | exact heldM (List.mem_cons_of_mem _ (List.mem_cons_of_mem _ hh)) | exact heldM List.mem_cons_self)) (by (with_reducible first | exact heldN | exact heldM (hh) | exact heldM (List.mem_cons_of_mem _ (List.mem_cons_of_mem _ hh)) | exact heldM List.mem_cons_self)) un_psim td_sim (by decide) pt_psim) ?_); (try simp [hw, hgt]); (try (refine J2 ?_ ?_ <;> intro hq <;> (try simp [hw, hgt] at hq) <;> try (have : True := hq; clear this hq)))) | (refine aopsJ_end (hK _ _ ?_); clear hK K) | (refine aopsJ_go ?_; simp [hw, hgt]; (try (refine J2 ?_ ?_ <;> intro hq <;> (try simp [hw, hgt] at hq) <;> try (have : True := hq; clear this hq)))) | (refine TJ.ret ?_; (repeat' first | refine inBlockJ_ret ?_ | refine thenJ_ret ?_ | refine roundJ_ret ?_); refine DoneJ.tup (L' := wT wp sv (m + 1) :: vT ν seen sv :: gS G) (M := []) (Or.inr rfl) (by simp [Try.results20]; rfl) rfl (by simp) (⟨[], seen, sv, m + 1, rfl, rfl, hs, WtR.over h30 _, by simp; omega, by omega⟩)) | refine TJ.rs (fun _ => false) fun K hK => ?_ | refine TJ.rs1 (fun _ => false) fun K hK => ?_ | refine TJ.cond rfl (fun hcnd => ?_) (fun hcnd => absurd hcnd (by decide)) | refine TJ.seq ?_
  have hw : IntKind.i64.wrap (m + 1) = m + 1 := wrap64 (by omega) (by omega)
  have hgt : ¬ (30 : Int) < m + 1 := by omega
  have hm30 : m < 30 := by omega
  cases hq.head hG hh with
  | @v mv g1 g2 g3 =>
   have m1 := gS_mem g3
   have hix := Index_simple hG hs (by omega) g1
   have hfc : (wT wp sv (m + 1) :: vT ν seen sv :: gS G).Perm (gS G ++ [wT wp sv (m + 1), vT ν seen sv]) := two_comm' _ _ _
   repeat' first | (refine aopsJ_store rfl rfl td_int rfl rfl rfl rfl (.refl _) (by simp) ?_; simp [hw]) | (refine aopsJ_nsU rfl ?_; (first | refine LookR.of (LkS.nilCheck rfl rfl (by (with_reducible first | exact List.mem_cons_self | exact m1 | exact List.mem_cons_of_mem _ (List.mem_cons_of_mem _ m1) | exact List.mem_cons_of_mem _ List.mem_cons_self))) ?_ | refine LookR.of (LkS.field rfl (by with_reducible first | exact td_sim | exact td_sco | exact td_infr | exact td_wri) rfl (by decide) rfl (by (with_reducible first | exact List.mem_cons_self | exact m1 | exact List.mem_cons_of_mem _ (List.mem_cons_of_mem _ m1) | exact List.mem_cons_of_mem _ List.mem_cons_self))) ?_ | refine LookR.of (LkS.load rfl (by with_reducible first | exact td_psim | exact td_int | exact td_string | exact td_psco | exact td_psimS) rfl rfl rfl (by (with_reducible first | exact List.mem_cons_self | exact m1 | exact List.mem_cons_of_mem _ (List.mem_cons_of_mem _ m1) | exact List.mem_cons_of_mem _ List.mem_cons_self)) (by rfl)) ?_ | refine LookR.of (LkS.eql (T := 88) rfl rfl rfl rfl rfl (by (with_reducible first | exact heldN | exact heldM (m1) | exact heldM (List.mem_cons_of_mem _ (List.mem_cons_of_mem _ m1)) | exact heldM List.mem_cons_self)) (by (with_reducible first | exact heldN | exact heldM (m1) | exact heldM (List.mem_cons_of_mem _ (List.mem_cons_of_mem _ m1)) | exact heldM List.mem_cons_self)) un_psim td_sim (by decide) pt_psim) ?_ | refine LookR.of (LkS.neq (T := 88) rfl rfl rfl rfl rfl (by (with_reducible first | exact heldN | exact heldM (m1) | exact heldM (List.mem_cons_of_mem _ (List.mem_cons_of_mem _ m1)) | exact heldM List.mem_cons_self)) (by (with_reducible first | exact heldN | exact heldM (m1) | exact heldM (List.mem_cons_of_mem _ (List.mem_cons_of_mem _ m1)) | exact heldM List.mem_cons_self)) un_psim td_sim (by decide) pt_psim) ?_); (try simp [hw, hgt]); (try (refine J2 ?_ ?_ <;> intro hq <;> (try simp [hw, hgt] at hq) <;> try (have : True := hq; clear this hq)))) | (refine aopsJ_end (hK _ _ ?_); clear hK K) | ((first | refine aopsJ_go ?_ | (refine wpcallJ_mut (L2 := [wT wp sv (m + 1), vT ν seen sv]) ?_ ?_ (hix) ?_; (focus (solve | exact hfc)); (focus (solve | (repeat' first | exact FzVs.nil | apply FzVs.cons | apply FzV.c | apply FzV.agg | exact FzL.nil | apply FzL.cons | exact FzC.d | exact FzC.nil | exact FzC.np | exact FzC.fn | exact vT_fz (by simp) | (refine FzC.thaw' ?_ (tyK_dp 33 _); (focus (solve | simp [tTm]))) | (refine FzC.thaw' ?_ (tmK_dp 33 36 _); (focus (solve | simp [tTm])))))); rintro _ _ ⟨rfl, rfl⟩)); simp [hw, hgt]; (try (refine J2 ?_ ?_ <;> intro hq <;> (try simp [hw, hgt] at hq) <;> try (have : True := hq; clear this hq)))) | refine TJ.rs1 (id := 2) (fun _ => false) fun K hK => ?_ | refine TJ.rs (id := 3) (fun _ => false) fun K hK => ?_ | refine TJ.rs (id := 5) (fun _ => false) fun K hK => ?_ | refine TJ.rs (id := 6) (fun _ => false) fun K hK => ?_ | refine TJ.cond rfl (fun hcnd => ?_) (fun hcnd => absurd hcnd (by decide)) | refine TJ.cond rfl (fun hcnd => absurd hcnd (by decide)) (fun hcnd => ?_) | refine TJ.seq ?_ | refine TJ.skip ?_
   refine TJ.less (L' := wT wp sv (m + 1) :: vT ν seen sv :: gS G) (M := []) (by simpa using two_comm _ _ _) ?_
   have hwt := WtR.free (seen := seen) (m := m) g2 hx2 hm30
   by_cases hm : mv ∈ seen
   ·rw [if_pos hm] at hwt
    have hlt := (ixOf_mem hm).1
    simp only [if_pos hm]
    have hn : ¬ ((ixOf mv seen : Int) < 0) := by omega
    have hbt := bytes_let (i := ixOf mv seen) (by omega)
    repeat' first | (refine aopsJ_end (hK _ _ ?_); clear hK K) | (refine aopsJ_go ?_; simp [hn, hbt]; (try simp (disch := omega) only [wrap64]); (try (refine J2 ?_ ?_ <;> intro hq <;> (try simp [hn, hbt] at hq) <;> try (have : True := hq; clear this hq)))) | (refine TJ.ret ?_; (repeat' first | refine inBlockJ_ret ?_ | refine thenJ_ret ?_ | refine roundJ_ret ?_); refine DoneJ.tup (L' := wT wp sv (m + 1) :: vT ν seen sv :: gS G) (M := []) (Or.inr rfl) (by simp [Try.results20]; rfl) rfl (by simp) (⟨_, seen, sv, m + 1, rfl, rfl, hs, hwt, by simp; omega, by omega⟩)) | refine TJ.rs (fun _ => false) fun K hK => ?_ | refine TJ.rs1 (fun _ => false) fun K hK => ?_ | refine TJ.cond rfl (fun hcnd => absurd hcnd (by decide)) (fun hcnd => ?_) | refine TJ.skip ?_
   ·rw [if_neg hm] at hwt
    simp only [if_neg hm]
    have hs' : HasV ν (seen ++ [mv]) := fun n hn => by
     rcases List.mem_append.1 hn with hn | hn
     ·exact hs n hn
     ·simp at hn; subst hn; rw [varV_of g1]; exact g1
    have hno := ixOf_no hm
    have hbt := bytes_let (i := seen.length) (by omega)
    rw [hno] at hwt
    repeat' first | ((first | refine aopsJ_append rfl rfl td_psimS rfl td_psim rfl rfl rfl rfl rfl (by simp) (by simp [DV.scal]) (.swap _ _ _) (by simp; omega) (by simp; omega) (fun sv' => ?_) | refine aopsJ_store rfl rfl td_psimS rfl rfl rfl rfl (.swap _ _ _) (by simp) ?_); simp) | (refine aopsJ_nsU rfl ?_; first | (refine LookR.of (LkS.nilCheck rfl rfl (by (with_reducible first | exact List.mem_cons_self | exact m1 | exact List.mem_cons_of_mem _ (List.mem_cons_of_mem _ m1) | exact List.mem_cons_of_mem _ List.mem_cons_self))) ?_; (try (simp [hno, hbt]; (try simp (disch := omega) only [wrap64])))) | (refine LookR.of (LkS.field rfl (by with_reducible first | exact td_sim | exact td_sco | exact td_infr | exact td_wri) rfl (by decide) rfl (by (with_reducible first | exact List.mem_cons_self | exact m1 | exact List.mem_cons_of_mem _ (List.mem_cons_of_mem _ m1) | exact List.mem_cons_of_mem _ List.mem_cons_self))) ?_; (try (simp [hno, hbt]; (try simp (disch := omega) only [wrap64])))) | (refine LookR.of (LkS.load rfl (by with_reducible first | exact td_int | exact td_psimS) rfl rfl rfl (by (with_reducible first | exact List.mem_cons_self | exact m1 | exact List.mem_cons_of_mem _ (List.mem_cons_of_mem _ m1) | exact List.mem_cons_of_mem _ List.mem_cons_self)) (by rfl)) ?_; (try (simp [hno, hbt]; (try simp (disch := omega) only [wrap64]))); (try (refine J2 ?_ ?_ <;> intro hq <;> (try simp [hno, hbt] at hq) <;> try (have : True := hq; clear this hq)))) | (refine LookR.of (LkS.eql (T := 88) rfl rfl rfl rfl rfl (by (with_reducible first | exact heldN | exact heldM (m1) | exact heldM (List.mem_cons_of_mem _ (List.mem_cons_of_mem _ m1)) | exact heldM List.mem_cons_self)) (by (with_reducible first | exact heldN | exact heldM (m1) | exact heldM (List.mem_cons_of_mem _ (List.mem_cons_of_mem _ m1)) | exact heldM List.mem_cons_self)) un_psim td_sim (by decide) pt_psim) ?_; (try (simp [hno, hbt]; (try simp (disch := omega) only [wrap64]))); (try (refine J2 ?_ ?_ <;> intro hq <;> (try simp [hno, hbt] at hq) <;> try (have : True := hq; clear this hq)))) | (refine LookR.of (LkS.neq (T := 88) rfl rfl rfl rfl rfl (by (with_reducible first | exact heldN | exact heldM (m1) | exact heldM (List.mem_cons_of_mem _ (List.mem_cons_of_mem _ m1)) | exact heldM List.mem_cons_self)) (by (with_reducible first | exact heldN | exact heldM (m1) | exact heldM (List.mem_cons_of_mem _ (List.mem_cons_of_mem _ m1)) | exact heldM List.mem_cons_self)) un_psim td_sim (by decide) pt_psim) ?_; (try (simp [hno, hbt]; (try simp (disch := omega) only [wrap64]))); (try (refine J2 ?_ ?_ <;> intro hq <;> (try simp [hno, hbt] at hq) <;> try (have : True := hq; clear this hq)))) | (refine LookR.of (LkS.lenT rfl td_psimS rfl rfl (by (with_reducible first | exact List.mem_cons_self | exact m1 | exact List.mem_cons_of_mem _ (List.mem_cons_of_mem _ m1) | exact List.mem_cons_of_mem _ List.mem_cons_self))) ?_; (try (simp [hno, hbt]; (try simp (disch := omega) only [wrap64]))); (try (refine J2 ?_ ?_ <;> intro hq <;> (try simp [hno, hbt] at hq) <;> try (have : True := hq; clear this hq))))) | (refine aopsJ_end (hK _ _ ?_); clear hK K) | (refine aopsJ_go ?_; simp [hno, hbt]; (try simp (disch := omega) only [wrap64]); (try (refine J2 ?_ ?_ <;> intro hq <;> (try simp [hno, hbt] at hq) <;> try (have : True := hq; clear this hq)))) | (refine TJ.ret ?_; (repeat' first | refine inBlockJ_ret ?_ | refine thenJ_ret ?_ | refine roundJ_ret ?_); refine DoneJ.tup (L' := wT wp sv' (m + 1) :: (.t 58 1 (seen.length + 1) (seen.map ((fun v => GC.d (DV.raw v)) ∘ varV ν) ++ [.d (.raw q)]), sv') :: gS G) (M := []) (Or.inr rfl) (by simp [Try.results20]; rfl) rfl (by simp) (⟨_, seen ++ [mv], sv', m + 1, rfl, by simp [varV_of g1], hs', hwt, by simp; omega, by omega⟩)) | refine TJ.rs (fun _ => false) fun K hK => ?_ | refine TJ.rs1 (fun _ => false) fun K hK => ?_ | refine TJ.cond rfl (fun hcnd => ?_) (fun hcnd => absurd hcnd (by decide))
  | @b c g1 g2 =>
   have m1 := gS_mem g1
   have hk : 1 <= c /\ c <= 5 := by simp only [kdI] at hkd2; omega
   have sg := sign_ok hk.1 hk.2
   have hwt := WtR.base (B := B) (k := k) (c := c) (seen := seen) hm30
   clear ih
   repeat' first | (refine aopsJ_store rfl rfl td_int rfl rfl rfl rfl (.refl _) (by simp) ?_; simp [hw]) | (refine aopsJ_nsU rfl ?_; (first | refine LookR.of (LkS.nilCheck rfl rfl (by (with_reducible first | exact List.mem_cons_self | exact m1 | exact List.mem_cons_of_mem _ (List.mem_cons_of_mem _ m1) | exact List.mem_cons_of_mem _ List.mem_cons_self))) ?_ | refine LookR.of (LkS.field rfl (by with_reducible first | exact td_sim | exact td_sco | exact td_infr | exact td_wri) rfl (by decide) rfl (by (with_reducible first | exact List.mem_cons_self | exact m1 | exact List.mem_cons_of_mem _ (List.mem_cons_of_mem _ m1) | exact List.mem_cons_of_mem _ List.mem_cons_self))) ?_ | refine LookR.of (LkS.load rfl (by with_reducible first | exact td_psim | exact td_int | exact td_string | exact td_psco | exact td_psimS) rfl rfl rfl (by (with_reducible first | exact List.mem_cons_self | exact m1 | exact List.mem_cons_of_mem _ (List.mem_cons_of_mem _ m1) | exact List.mem_cons_of_mem _ List.mem_cons_self)) (by rfl)) ?_ | refine LookR.of (LkS.eql (T := 88) rfl rfl rfl rfl rfl (by (with_reducible first | exact heldN | exact heldM (m1) | exact heldM (List.mem_cons_of_mem _ (List.mem_cons_of_mem _ m1)) | exact heldM List.mem_cons_self)) (by (with_reducible first | exact heldN | exact heldM (m1) | exact heldM (List.mem_cons_of_mem _ (List.mem_cons_of_mem _ m1)) | exact heldM List.mem_cons_self)) un_psim td_sim (by decide) pt_psim) ?_ | refine LookR.of (LkS.neq (T := 88) rfl rfl rfl rfl rfl (by (with_reducible first | exact heldN | exact heldM (m1) | exact heldM (List.mem_cons_of_mem _ (List.mem_cons_of_mem _ m1)) | exact heldM List.mem_cons_self)) (by (with_reducible first | exact heldN | exact heldM (m1) | exact heldM (List.mem_cons_of_mem _ (List.mem_cons_of_mem _ m1)) | exact heldM List.mem_cons_self)) un_psim td_sim (by decide) pt_psim) ?_); (try simp [hw, hgt, g2]); (try (refine J2 ?_ ?_ <;> intro hq <;> (try simp [hw, hgt, g2] at hq) <;> try (have : True := hq; clear this hq)))) | (refine aopsJ_end (hK _ _ ?_); clear hK K) | ((first | refine aopsJ_go ?_ | refine wpcallJ_pure rfl (sg) ?_); simp [hw, hgt, g2]; (try (refine J2 ?_ ?_ <;> intro hq <;> (try simp [hw, hgt, g2] at hq) <;> try (have : True := hq; clear this hq)))) | (refine TJ.ret ?_; (repeat' first | refine inBlockJ_ret ?_ | refine thenJ_ret ?_ | refine roundJ_ret ?_); refine DoneJ.tup (L' := wT wp sv (m + 1) :: vT ν seen sv :: gS G) (M := []) (Or.inr rfl) (by simp [Try.results20]; rfl) rfl (by simp) (⟨_, seen, sv, m + 1, rfl, rfl, hs, hwt, by simp; omega, by omega⟩)) | refine TJ.rs (fun _ => false) fun K hK => ?_ | refine TJ.rs1 (fun _ => false) fun K hK => ?_ | refine TJ.cond rfl (fun hcnd => ?_) (fun hcnd => absurd hcnd (by decide)) | refine TJ.cond rfl (fun hcnd => absurd hcnd (by decide)) (fun hcnd => ?_) | refine TJ.seq ?_ | refine TJ.skip ?_
  | @p c a b x y g1 g2 g3 g4 =>
   have m1 := gS_mem g1
   have hk : 1 <= c /\ c <= 5 := by simp only [kdI] at hkd2; omega
   have sg := sign_ok hk.1 hk.2
   obtain ⟨j, hj, x1, x2⟩ := hkid c x y rfl
   have ena : ¬ a = .pointer none := g3.ne hG hN
   obtain ⟨za, hza, hzap⟩ := g3.at_ hG
   have m2 := gS_mem hza
   rw [hzap] at m2
   have i1 := ih j hj a x sv seen (m + 1) g3 x1 hkd2.2.1 hs (by omega) (by omega) (by omega)
   have i2 : ∀ (s1 : List UInt8) (seen1 : List Nat) (sv1 : Value) (mm : Int), HasV ν seen1 -> WtR B j x seen (m + 1) s1 seen1 mm -> FCalls Try.prog 20 [.c (.d (.raw wp)), .c (.d (.raw b))] (wT wp sv1 mm :: vT ν seen1 sv1 :: gS G) (RW G ν B j y wp seen1 mm) := fun s1 seen1 sv1 mm q1 q2 => by
    have b1 := q2.bnd
    have b2 := q2.lt
    have b3 := q2.ln
    exact ih j hj b y sv1 seen1 mm g4 x2 hkd2.2.2 q1 (by omega) (by omega) (by omega)
   clear ih
   repeat' first | (refine aopsJ_store rfl rfl td_int rfl rfl rfl rfl (.refl _) (by simp) ?_; simp [hw]) | (refine aopsJ_nsU rfl ?_; first | (refine LookR.of (LkS.nilCheck rfl rfl (by (with_reducible first | exact List.mem_cons_self | exact m1 | exact List.mem_cons_of_mem _ (List.mem_cons_of_mem _ m1) | exact m2 | exact List.mem_cons_of_mem _ (List.mem_cons_of_mem _ m2) | exact List.mem_cons_of_mem _ List.mem_cons_self))) ?_; (try (simp [hw, hgt, g2, ena]; (try simp (disch := omega) only [wrap64, catLe])))) | (refine LookR.of (LkS.field rfl (by with_reducible first | exact td_sim | exact td_sco | exact td_infr | exact td_wri) rfl (by decide) rfl (by (with_reducible first | exact List.mem_cons_self | exact m1 | exact List.mem_cons_of_mem _ (List.mem_cons_of_mem _ m1) | exact m2 | exact List.mem_cons_of_mem _ (List.mem_cons_of_mem _ m2) | exact List.mem_cons_of_mem _ List.mem_cons_self))) ?_; (try (simp [hw, hgt, g2, ena]; (try simp (disch := omega) only [wrap64, catLe])))) | (refine LookR.of (LkS.load rfl (by with_reducible first | exact td_psim | exact td_int | exact td_string | exact td_psco | exact td_psimS) rfl rfl rfl (by (with_reducible first | exact List.mem_cons_self | exact m1 | exact List.mem_cons_of_mem _ (List.mem_cons_of_mem _ m1) | exact m2 | exact List.mem_cons_of_mem _ (List.mem_cons_of_mem _ m2) | exact List.mem_cons_of_mem _ List.mem_cons_self)) (by rfl)) ?_; (try (simp [hw, hgt, g2, ena]; (try simp (disch := omega) only [wrap64, catLe]))); (try (refine J2 ?_ ?_ <;> intro hq <;> (try simp [hw, hgt, g2, ena] at hq) <;> try (have : True := hq; clear this hq)))) | (refine LookR.of (LkS.eql (T := 88) rfl rfl rfl rfl rfl (by (with_reducible first | exact heldN | exact heldM (m1) | exact heldM (List.mem_cons_of_mem _ (List.mem_cons_of_mem _ m1)) | exact heldM (m2) | exact heldM (List.mem_cons_of_mem _ (List.mem_cons_of_mem _ m2)) | exact heldM List.mem_cons_self)) (by (with_reducible first | exact heldN | exact heldM (m1) | exact heldM (List.mem_cons_of_mem _ (List.mem_cons_of_mem _ m1)) | exact heldM (m2) | exact heldM (List.mem_cons_of_mem _ (List.mem_cons_of_mem _ m2)) | exact heldM List.mem_cons_self)) un_psim td_sim (by decide) pt_psim) ?_; (try (simp [hw, hgt, g2, ena]; (try simp (disch := omega) only [wrap64, catLe]))); (try (refine J2 ?_ ?_ <;> intro hq <;> (try simp [hw, hgt, g2, ena] at hq) <;> try (have : True := hq; clear this hq)))) | (refine LookR.of (LkS.neq (T := 88) rfl rfl rfl rfl rfl (by (with_reducible first | exact heldN | exact heldM (m1) | exact heldM (List.mem_cons_of_mem _ (List.mem_cons_of_mem _ m1)) | exact heldM (m2) | exact heldM (List.mem_cons_of_mem _ (List.mem_cons_of_mem _ m2)) | exact heldM List.mem_cons_self)) (by (with_reducible first | exact heldN | exact heldM (m1) | exact heldM (List.mem_cons_of_mem _ (List.mem_cons_of_mem _ m1)) | exact heldM (m2) | exact heldM (List.mem_cons_of_mem _ (List.mem_cons_of_mem _ m2)) | exact heldM List.mem_cons_self)) un_psim td_sim (by decide) pt_psim) ?_; (try (simp [hw, hgt, g2, ena]; (try simp (disch := omega) only [wrap64, catLe]))); (try (refine J2 ?_ ?_ <;> intro hq <;> (try simp [hw, hgt, g2, ena] at hq) <;> try (have : True := hq; clear this hq))))) | (refine aopsR_end (hK _ _ ?_); clear hK K) | (refine aopsR_nsU rfl rfl rfl ?_; first | (refine LookR.of (LkS.nilCheck rfl rfl (by (with_reducible first | exact List.mem_cons_self | exact m1 | exact List.mem_cons_of_mem _ (List.mem_cons_of_mem _ m1) | exact m2 | exact List.mem_cons_of_mem _ (List.mem_cons_of_mem _ m2) | exact List.mem_cons_of_mem _ List.mem_cons_self))) ?_; (try (simp [hw, hgt, g2, ena]; (try simp (disch := omega) only [wrap64, catLe])))) | (refine LookR.of (LkS.field rfl (by with_reducible first | exact td_sim | exact td_sco | exact td_infr | exact td_wri) rfl (by decide) rfl (by (with_reducible first | exact List.mem_cons_self | exact m1 | exact List.mem_cons_of_mem _ (List.mem_cons_of_mem _ m1) | exact m2 | exact List.mem_cons_of_mem _ (List.mem_cons_of_mem _ m2) | exact List.mem_cons_of_mem _ List.mem_cons_self))) ?_; (try (simp [hw, hgt, g2, ena]; (try simp (disch := omega) only [wrap64, catLe])))) | (refine LookR.of (LkS.load rfl (by with_reducible first | exact td_psim | exact td_int | exact td_string | exact td_psco | exact td_psimS) rfl rfl rfl (by (with_reducible first | exact List.mem_cons_self | exact m1 | exact List.mem_cons_of_mem _ (List.mem_cons_of_mem _ m1) | exact m2 | exact List.mem_cons_of_mem _ (List.mem_cons_of_mem _ m2) | exact List.mem_cons_of_mem _ List.mem_cons_self)) (by rfl)) ?_; (try (simp [hw, hgt, g2, ena]; (try simp (disch := omega) only [wrap64, catLe]))); (try (refine J2 ?_ ?_ <;> intro hq <;> (try simp [hw, hgt, g2, ena] at hq) <;> try (have : True := hq; clear this hq)))) | (refine LookR.of (LkS.eql (T := 88) rfl rfl rfl rfl rfl (by (with_reducible first | exact heldN | exact heldM (m1) | exact heldM (List.mem_cons_of_mem _ (List.mem_cons_of_mem _ m1)) | exact heldM (m2) | exact heldM (List.mem_cons_of_mem _ (List.mem_cons_of_mem _ m2)) | exact heldM List.mem_cons_self)) (by (with_reducible first | exact heldN | exact heldM (m1) | exact heldM (List.mem_cons_of_mem _ (List.mem_cons_of_mem _ m1)) | exact heldM (m2) | exact heldM (List.mem_cons_of_mem _ (List.mem_cons_of_mem _ m2)) | exact heldM List.mem_cons_self)) un_psim td_sim (by decide) pt_psim) ?_; (try (simp [hw, hgt, g2, ena]; (try simp (disch := omega) only [wrap64, catLe]))); (try (refine J2 ?_ ?_ <;> intro hq <;> (try simp [hw, hgt, g2, ena] at hq) <;> try (have : True := hq; clear this hq)))) | (refine LookR.of (LkS.neq (T := 88) rfl rfl rfl rfl rfl (by (with_reducible first | exact heldN | exact heldM (m1) | exact heldM (List.mem_cons_of_mem _ (List.mem_cons_of_mem _ m1)) | exact heldM (m2) | exact heldM (List.mem_cons_of_mem _ (List.mem_cons_of_mem _ m2)) | exact heldM List.mem_cons_self)) (by (with_reducible first | exact heldN | exact heldM (m1) | exact heldM (List.mem_cons_of_mem _ (List.mem_cons_of_mem _ m1)) | exact heldM (m2) | exact heldM (List.mem_cons_of_mem _ (List.mem_cons_of_mem _ m2)) | exact heldM List.mem_cons_self)) un_psim td_sim (by decide) pt_psim) ?_; (try (simp [hw, hgt, g2, ena]; (try simp (disch := omega) only [wrap64, catLe]))); (try (refine J2 ?_ ?_ <;> intro hq <;> (try simp [hw, hgt, g2, ena] at hq) <;> try (have : True := hq; clear this hq))))) | (refine aopsR_csU rfl rfl ?_; first | (refine TreR.box rfl rfl rfl fun pv => ?_; (try (simp [hw, hgt, g2, ena]; (try simp (disch := omega) only [wrap64, catLe])))) | (refine TreR.call ?_; (try (simp [hw, hgt, g2, ena]; (try simp (disch := omega) only [wrap64, catLe]))))) | (refine aopsR_go rfl rfl ?_; simp [hw, hgt, g2, ena]; (try simp (disch := omega) only [wrap64, catLe]); (try (refine J2 ?_ ?_ <;> intro hq <;> (try simp [hw, hgt, g2, ena] at hq) <;> try (have : True := hq; clear this hq)))) | (refine aopsJ_end (hK _ _ ?_); clear hK K) | (refine aopsJ_go ?_; simp [hw, hgt, g2, ena]; (try simp (disch := omega) only [wrap64, catLe]); (try (refine J2 ?_ ?_ <;> intro hq <;> (try simp [hw, hgt, g2, ena] at hq) <;> try (have : True := hq; clear this hq)))) | (refine wpcallP_mut (L2 := []) ?_ ?_ (i2 _ _ sv1 _ hs1 w1) ?_; (focus (solve | simp)); (focus (solve | repeat' constructor)); rintro _ _ ⟨s2, seen2, sv2, mm2, rfl, rfl, hs2, w2, l2, n2⟩; (try (simp [hw, hgt, g2, ena]; (try simp (disch := omega) only [wrap64, catLe]))); (try (refine J2 ?_ ?_ <;> intro hq <;> (try simp [hw, hgt, g2, ena] at hq) <;> try (have : True := hq; clear this hq)))) | (refine wpcall_pure rfl (sg) ?_; simp [hw, hgt, g2, ena]; (try simp (disch := omega) only [wrap64, catLe]); (try (refine gen2 ?_ ?_ <;> intro hq <;> (try simp [hw, hgt, g2, ena] at hq) <;> try (have : True := hq; clear this hq)))) | (refine wpcallJ_mut (L2 := []) ?_ ?_ (i1) ?_; (focus (solve | simp)); (focus (solve | repeat' constructor)); rintro _ _ ⟨s1, seen1, sv1, mm, rfl, rfl, hs1, w1, l1, n1⟩; simp [hw, hgt, g2, ena]; (try simp (disch := omega) only [wrap64, catLe]); (try (refine J2 ?_ ?_ <;> intro hq <;> (try simp [hw, hgt, g2, ena] at hq) <;> try (have : True := hq; clear this hq)))) | (refine TJ.ret ?_; (repeat' first | refine inBlockJ_ret ?_ | refine thenJ_ret ?_ | refine roundJ_ret ?_); refine DoneJ.tup (L' := wT wp sv2 mm2 :: vT ν seen2 sv2 :: gS G) (M := []) (Or.inr rfl) (by simp [Try.results20]; rfl) rfl (by simp) (⟨_, seen2, sv2, mm2, rfl, rfl, hs2, WtR.two hx2 hj x1 x2 hm30 w1 w2, by simp; omega, n2⟩)) | refine TJ.rdR (id := 14) mixed (fun _ => false) [] [13] [3, 4, 5, 10, 11, 12] (by kernel_rfl) (by kernel_rfl) fun K hK => ?_ | refine TJ.rs (fun _ => false) fun K hK => ?_ | refine TJ.rs1 (fun _ => false) fun K hK => ?_ | refine TJ.cond rfl (fun hcnd => absurd hcnd (by decide)) (fun hcnd => ?_) | refine TJ.seq ?_ | refine TJ.skip ?_
end Go.Proofs.Ytloolmchekcmeaa

namespace Go.Proofs.Ytloolmchekcmeaa
open Go Go.Av
attribute [local irreducible] T ACalls TX EX LX Draws Some_ ACallsX eTy eTm MTy.kind MTy.kids MTm.kind MTm.name MTm.num MTm.ty MTm.fr MTm.label MTm.kids
attribute [local simp] eTy_def eTm_def
set_option maxHeartbeats 16000000
set_option maxRecDepth 8000
attribute [local irreducible] lastUp lastIx

abbrev xT (xp av : Value) : GC × Value := (.n 83 [.raw av], xp)
abbrev scS (S : List Sn) : Ts := sT 99 S
abbrev memI (xp av : Value) (ν : List (Option Value)) (lv : List Nat) (S : List Sn) (G : List Nd) : Ts := xT xp av :: vT ν lv av :: (scS S ++ gS G)
theorem mem_add (xp av : Value) (ν : List (Option Value)) (lv : List Nat) (S : List Sn) (G : List Nd) (x : Nd) : ((.n 88 [.i x.k, .raw x.is, .raw x.a, .raw x.b], x.p) :: memI xp av ν lv S G).Perm (memI xp av ν lv S (x :: G)) :=
 (List.perm_middle (l₁ := xT xp av :: vT ν lv av :: scS S)).symm
theorem mem_add2 (xp av : Value) (ν : List (Option Value)) (lv : List Nat) (S : List Sn) (G : List Nd) (x y : Nd) : ((.n 88 [.i x.k, .raw x.is, .raw x.a, .raw x.b], x.p) :: (.n 88 [.i y.k, .raw y.is, .raw y.a, .raw y.b], y.p) :: memI xp av ν lv S G).Perm (memI xp av ν lv S (x :: y :: G)) :=
 ((mem_add xp av ν lv S G y).cons _).trans (mem_add xp av ν lv S (y :: G) x)
theorem sc_memI {xp av : Value} {ν : List (Option Value)} {lv : List Nat} {S : List Sn} {G : List Nd} {x : Sn} (h : x ∈ S) : (.n 99 [.str [x.c], .raw x.t, .raw x.up], x.p) ∈ memI xp av ν lv S G := .tail _ (.tail _ (List.mem_append_left _ (sT_mem h)))

def RI (xp : Value) (S : List Sn) (G : List Nd) (ν : List (Option Value)) (o : Option (List IT × List IT × IT)) (r : AV) (L' : Ts) : Prop := match o with
 | none => r = .tup [.c .np, .b false] \/ ∃ v, r = .tup [.c (.d (.raw v)), .b false]
 | some (B', ls', t) => ∃ p av' ν' lv' G', r = .tup [.c (.d (.raw p)), .b true] /\ L' = memI xp av' ν' lv' S G' /\ ls' = lv'.map IT.v /\ GR G' ν' B' /\ Ge G ν G' ν' /\ HasV ν' lv' /\ Rn G' ν' p t
structure StI (S : List Sn) (G : List Nd) (ν : List (Option Value)) (B : List IT) (lv : List Nat) (sp : Value) (ns : List UInt8) (ts : List IT) (n t : Nat) : Prop where
 gr : GR G ν B
 hv : HasV ν lv
 sc : Sc S G ν sp ns ts
 kts : KdB ts
 cond : CondI ns ts B (lv.map IT.v) n t
def InfT (k : Nat) (e : MTm) : Prop := ∀ (xp av sp : Value) (S : List Sn) (G : List Nd) (ν : List (Option Value)) (B : List IT) (lv : List Nat) (ns : List UInt8) (ts : List IT) (n t : Nat) (o : Option (List IT × List IT × IT)),
 StI S G ν B lv sp ns ts (nodesM e + n) ((typesM e).length + t) -> inf k e B (lv.map IT.v) ns ts = some o ->
 FCalls Try.prog 35 [.c (.d (.raw xp)), aTm e, .c (.d (.raw sp))] (memI xp av ν lv S G) (RI xp S G ν o)

theorem term_var (k : Nat) (c : UInt8) : InfT k (tVar [c]) := by
 intro xp av sp S G ν B lv ns ts n t o hS hr
 have hr' : o = (lkI ns ts c).map fun t => (B, lv.map IT.v, t) := by
  rw [inf_var] at hr
  simp only [lkI]
  split at hr <;> rename_i h0
  ·rw [if_pos h0]; simpa using hr.symm
  ·rw [if_neg h0]; simpa using hr.symm
 clear hr
 have hsc := hS.sc
 have hG := hS.gr
 have hv := hS.hv
 clear hS
 refine FCalls.of_body Try.func35 (by kernel_rfl) rfl (by kernel_rfl) (by simp [Try.ntmps35]) ?_
 rw [Try.ntmps35]
 refine TJ.noNil fun hnn => ?_
 repeat' first | (refine aopsJ_end (hK _ _ ?_); clear hK K) | ((first | (refine aopsJ_trU rfl ?_; refine TreR.box rfl rfl rfl fun pv => ?_) | refine aopsJ_go ?_); simp; (try (refine J2 ?_ ?_ <;> intro hq <;> try simp at hq))) | refine TJ.rs (id := 0) (fun _ => false) fun K hK => ?_ | refine TJ.rs (id := 1) (fun _ => false) fun K hK => ?_ | refine TJ.seq ?_
 rename_i pn
 refine TJ.less (L' := memI xp av ν lv S (⟨pv, 3, nilP, nilP, nilP⟩ :: ⟨pn, 2, nilP, nilP, nilP⟩ :: G)) (M := []) (by simpa using mem_add2 xp av ν lv S G ⟨pv, 3, nilP, nilP, nilP⟩ ⟨pn, 2, nilP, nilP, nilP⟩) ?_
 have hGe : Ge G ν (⟨pv, 3, nilP, nilP, nilP⟩ :: ⟨pn, 2, nilP, nilP, nilP⟩ :: G) ν := Ge.sup fun x hx => by simp [hx]
 have hG2 : GR (⟨pv, 3, nilP, nilP, nilP⟩ :: ⟨pn, 2, nilP, nilP, nilP⟩ :: G) ν B := hG.sup fun x hx => by simp [hx]
 have hsc2 := hsc.ge hGe (fun x hx => hx)
 generalize ⟨pv, 3, nilP, nilP, nilP⟩ :: ⟨pn, 2, nilP, nilP, nilP⟩ :: G = G2 at *
 obtain ⟨X, hX⟩ : ∃ X, X = lkI ns ts c := ⟨_, rfl⟩
 rw [<- hX] at hr'
 repeat' first | (refine aopsJ_end (hK _ _ ?_); clear hK K) | (refine aopsJ_go ?_; simp; (try (refine J2 ?_ ?_ <;> intro hq <;> try simp at hq))) | refine TJ.rs1 (id := 2) (fun _ => false) fun K hK => ?_ | refine TJ.rs (id := 3) (fun _ => false) fun K hK => ?_ | refine TJ.cond rfl (fun hcnd => ?_) (fun hcnd => absurd hcnd (by decide)) | refine TJ.seq ?_ | refine TJ.block ?_
 refine TJ.loopK (α := Value × List UInt8 × List IT) [0, 4, 8, 9] (fun x => [(2, .c (.d (.raw x.1))), (6, .c .np), (7, .c (.d (.bool false)))]) (fun _ => []) (fun _ => []) (fun _ A => A) (fun _ => memI xp av ν lv S G2) (fun x => x.2.1.length) (fun x => Sc S G2 ν x.1 x.2.1 x.2.2 /\ lkI x.2.1 x.2.2 c = X) (by simp; rfl) (fun x hx => ?_) (sp, ns, ts) ⟨hsc2, hX.symm⟩ (by simp [ups]) (by simp) (by simp) (M := []) (by simp)
 obtain ⟨qs, ns', ts'⟩ := x
 dsimp only at hx ⊢
 simp only [ups, List.cons_append, List.nil_append, List.append_nil]
 obtain ⟨h1, h2⟩ := hx
 cases h1 with
 | nil =>
  rw [lkI_nil] at h2
  subst h2
  simp only [Option.map_none] at hr'
  subst hr'
  repeat' first | (refine aopsJ_nsU rfl ?_; (first | refine LookR.of (LkS.nilCheck rfl rfl (by (with_reducible first | exact List.mem_cons_self | exact hsc | exact List.mem_cons_of_mem _ List.mem_cons_self))) ?_ | refine LookR.of (LkS.field rfl (by with_reducible first | exact td_sim | exact td_sco | exact td_infr | exact td_wri) rfl (by decide) rfl (by (with_reducible first | exact List.mem_cons_self | exact hsc | exact List.mem_cons_of_mem _ List.mem_cons_self))) ?_ | refine LookR.of (LkS.load rfl (by with_reducible first | exact td_psim | exact td_int | exact td_string | exact td_psco | exact td_psimS) rfl rfl rfl (by (with_reducible first | exact List.mem_cons_self | exact hsc | exact List.mem_cons_of_mem _ List.mem_cons_self)) (by rfl)) ?_ | refine LookR.of (LkS.eql (T := 99) rfl rfl rfl rfl rfl (by (with_reducible first | exact heldN | exact heldM (hsc) | exact heldM List.mem_cons_self)) (by (with_reducible first | exact heldN | exact heldM (hsc) | exact heldM List.mem_cons_self)) un_psco td_sco (by decide) pt_psco) ?_ | refine LookR.of (LkS.neq (T := 99) rfl rfl rfl rfl rfl (by (with_reducible first | exact heldN | exact heldM (hsc) | exact heldM List.mem_cons_self)) (by (with_reducible first | exact heldN | exact heldM (hsc) | exact heldM List.mem_cons_self)) un_psco td_sco (by decide) pt_psco) ?_); (try simp); (try (refine J2 ?_ ?_ <;> intro hq <;> try simp at hq))) | (refine aopsJ_end (hK _ _ ?_); clear hK K) | (refine aopsJ_go ?_; simp; (try (refine J2 ?_ ?_ <;> intro hq <;> try simp at hq))) | (refine TJ.ret ?_; (repeat' first | refine inBlockJ_ret ?_ | refine thenJ_ret ?_ | refine roundJ_ret ?_); refine DoneJ.tup (L' := []) (M := memI xp av ν lv S G2) (Or.inr rfl) (by simp [Try.results35]; rfl) rfl (by simp) (.inl rfl)) | refine TJ.rs (fun _ => false) fun K hK => ?_ | refine TJ.cond rfl (fun hcnd => absurd hcnd (by decide)) (fun hcnd => ?_) | refine TJ.seq ?_ | refine TJ.exit ?_
 | @snoc _ d v up ns1 ts1 t1 g1 g2 g3 =>
  have m1 := sc_memI (xp := xp) (av := av) (ν := ν) (lv := lv) (G := G2) g1
  have hqn : ¬ qs = .pointer none := hnn _ _ _ (sc_memI (xp := xp) (av := av) (ν := ν) (lv := lv) (G := G) g1)
  rw [lkI_app d c t1 g2.len] at h2
  by_cases e : d = c
  ·rw [if_pos e] at h2
   subst h2
   simp only [Option.map_some] at hr'
   subst hr'
   subst e
   repeat' first | (refine aopsR_end (hK _ _ ?_); clear hK K) | ((first | refine aopsJ_nsU rfl ?_ | refine aopsR_nsU rfl rfl rfl ?_); (first | refine LookR.of (LkS.nilCheck rfl rfl (by (with_reducible first | exact List.mem_cons_self | exact m1 | exact List.mem_cons_of_mem _ List.mem_cons_self))) ?_ | refine LookR.of (LkS.field rfl (by with_reducible first | exact td_sim | exact td_sco | exact td_infr | exact td_wri) rfl (by decide) rfl (by (with_reducible first | exact List.mem_cons_self | exact m1 | exact List.mem_cons_of_mem _ List.mem_cons_self))) ?_ | refine LookR.of (LkS.load rfl (by with_reducible first | exact td_psim | exact td_int | exact td_string | exact td_psco | exact td_psimS) rfl rfl rfl (by (with_reducible first | exact List.mem_cons_self | exact m1 | exact List.mem_cons_of_mem _ List.mem_cons_self)) (by rfl)) ?_ | refine LookR.of (LkS.eql (T := 99) rfl rfl rfl rfl rfl (by (with_reducible first | exact heldN | exact heldM (m1) | exact heldM List.mem_cons_self)) (by (with_reducible first | exact heldN | exact heldM (m1) | exact heldM List.mem_cons_self)) un_psco td_sco (by decide) pt_psco) ?_ | refine LookR.of (LkS.neq (T := 99) rfl rfl rfl rfl rfl (by (with_reducible first | exact heldN | exact heldM (m1) | exact heldM List.mem_cons_self)) (by (with_reducible first | exact heldN | exact heldM (m1) | exact heldM List.mem_cons_self)) un_psco td_sco (by decide) pt_psco) ?_); (try simp [hqn]); (try (refine J2 ?_ ?_ <;> intro hq <;> try simp [hqn] at hq))) | (refine aopsJ_end (hK _ _ ?_); clear hK K) | ((first | refine aopsR_go rfl rfl ?_ | refine aopsJ_go ?_); simp [hqn]; (try (refine J2 ?_ ?_ <;> intro hq <;> try simp [hqn] at hq))) | (refine TJ.ret ?_; (repeat' first | refine inBlockJ_ret ?_ | refine thenJ_ret ?_ | refine roundJ_ret ?_); refine DoneJ.tup (L' := memI xp av ν lv S G2) (M := []) (Or.inr rfl) (by simp [Try.results35]; rfl) rfl (by simp) (⟨v, av, ν, lv, G2, rfl, rfl, rfl, hG2, hGe, hv, g3⟩)) | refine TJ.rdR (id := 6) mixed (fun _ => false) [] [] [1, 2, 3] (by kernel_rfl) (by kernel_rfl) fun K hK => ?_ | refine TJ.rs (fun _ => false) fun K hK => ?_ | refine TJ.cond rfl (fun hcnd => ?_) (fun hcnd => absurd hcnd (by decide)) | refine TJ.seq ?_ | refine TJ.block ?_ | refine TJ.skip ?_
  ·rw [if_neg e] at h2
   repeat' first | (refine aopsR_end (hK _ _ ?_); clear hK K) | ((first | refine aopsJ_nsU rfl ?_ | refine aopsR_nsU rfl rfl rfl ?_); (first | refine LookR.of (LkS.nilCheck rfl rfl (by (with_reducible first | exact List.mem_cons_self | exact m1 | exact List.mem_cons_of_mem _ List.mem_cons_self))) ?_ | refine LookR.of (LkS.field rfl (by with_reducible first | exact td_sim | exact td_sco | exact td_infr | exact td_wri) rfl (by decide) rfl (by (with_reducible first | exact List.mem_cons_self | exact m1 | exact List.mem_cons_of_mem _ List.mem_cons_self))) ?_ | refine LookR.of (LkS.load rfl (by with_reducible first | exact td_psim | exact td_int | exact td_string | exact td_psco | exact td_psimS) rfl rfl rfl (by (with_reducible first | exact List.mem_cons_self | exact m1 | exact List.mem_cons_of_mem _ List.mem_cons_self)) (by rfl)) ?_ | refine LookR.of (LkS.eql (T := 99) rfl rfl rfl rfl rfl (by (with_reducible first | exact heldN | exact heldM (m1) | exact heldM List.mem_cons_self)) (by (with_reducible first | exact heldN | exact heldM (m1) | exact heldM List.mem_cons_self)) un_psco td_sco (by decide) pt_psco) ?_ | refine LookR.of (LkS.neq (T := 99) rfl rfl rfl rfl rfl (by (with_reducible first | exact heldN | exact heldM (m1) | exact heldM List.mem_cons_self)) (by (with_reducible first | exact heldN | exact heldM (m1) | exact heldM List.mem_cons_self)) un_psco td_sco (by decide) pt_psco) ?_); (try simp [hqn, e]); (try (refine J2 ?_ ?_ <;> intro hq <;> try simp [hqn, e] at hq))) | (refine aopsJ_end (hK _ _ ?_); clear hK K) | ((first | refine aopsR_go rfl rfl ?_ | refine aopsJ_go ?_); simp [hqn, e]; (try (refine J2 ?_ ?_ <;> intro hq <;> try simp [hqn, e] at hq))) | (refine ⟨(up, ns1, ts1), [], by dsimp only; simp, ⟨g2, h2⟩, ?_, by simp⟩; simp) | refine TJ.rdR (id := 6) mixed (fun _ => false) [] [] [1, 2, 3] (by kernel_rfl) (by kernel_rfl) fun K hK => ?_ | refine TJ.rs (fun _ => false) fun K hK => ?_ | refine TJ.rs1 (fun _ => false) fun K hK => ?_ | refine TJ.cond rfl (fun hcnd => ?_) (fun hcnd => absurd hcnd (by decide)) | refine TJ.cond rfl (fun hcnd => absurd hcnd (by decide)) (fun hcnd => ?_) | refine TJ.seq ?_ | refine TJ.block ?_ | refine TJ.skip ?_

theorem term_base (k : Nat) (e : MTm) (r : Int) (he : e.kids = []) (hk : (e.kind = 2 /\ r = 2) \/ ((e.kind = 3 \/ e.kind = 4) /\ r = 3)) : InfT k e := by
 intro xp av sp S G ν B lv ns ts n t o hS hr
 have hr' : o = some (B, lv.map IT.v, .b r) := by
  cases e with
  | mk kd nm nu ty fr lb l =>
   simp only [MTm.kids_mk, MTm.kind_mk] at he hk
   subst he
   rw [inf] at hr
   have h1 : ¬ kd = 1 := by omega
   have h5 : ¬ kd = 5 := by omega
   simp only [if_neg h1, if_neg h5, infS, infN] at hr
   rcases hk with ⟨rfl, rfl⟩ | ⟨hk, rfl⟩
   ·simpa using hr.symm
   ·have h2 : ¬ kd = 2 := by omega
    rw [if_neg h2, if_pos hk] at hr
    simpa using hr.symm
 subst hr'
 have hG := hS.gr
 have hv := hS.hv
 clear hS hr
 refine FCalls.of_body Try.func35 (by kernel_rfl) rfl (by kernel_rfl) (by simp [Try.ntmps35]) ?_
 rw [Try.ntmps35]
 repeat' first | (refine aopsJ_end (hK _ _ ?_); clear hK K) | ((first | (refine aopsJ_trU rfl ?_; refine TreR.box rfl rfl rfl fun pv => ?_) | refine aopsJ_go ?_); simp; (try (refine J2 ?_ ?_ <;> intro hq <;> try simp at hq))) | refine TJ.rs (id := 0) (fun _ => false) fun K hK => ?_ | refine TJ.rs (id := 1) (fun _ => false) fun K hK => ?_ | refine TJ.seq ?_
 rename_i pn
 refine TJ.less (L' := memI xp av ν lv S (⟨pv, 3, nilP, nilP, nilP⟩ :: ⟨pn, 2, nilP, nilP, nilP⟩ :: G)) (M := []) (by simpa using mem_add2 xp av ν lv S G ⟨pv, 3, nilP, nilP, nilP⟩ ⟨pn, 2, nilP, nilP, nilP⟩) ?_
 have hGe : Ge G ν (⟨pv, 3, nilP, nilP, nilP⟩ :: ⟨pn, 2, nilP, nilP, nilP⟩ :: G) ν := Ge.sup fun x hx => by simp [hx]
 have hG2 : GR (⟨pv, 3, nilP, nilP, nilP⟩ :: ⟨pn, 2, nilP, nilP, nilP⟩ :: G) ν B := hG.sup fun x hx => by simp [hx]
 have r2 : Rn (⟨pv, 3, nilP, nilP, nilP⟩ :: ⟨pn, 2, nilP, nilP, nilP⟩ :: G) ν pn (.b 2) := .b (by simp) (by decide)
 have r3 : Rn (⟨pv, 3, nilP, nilP, nilP⟩ :: ⟨pn, 2, nilP, nilP, nilP⟩ :: G) ν pv (.b 3) := .b (by simp) (by decide)
 generalize ⟨pv, 3, nilP, nilP, nilP⟩ :: ⟨pn, 2, nilP, nilP, nilP⟩ :: G = G2 at *
 rcases hk with ⟨hk, rfl⟩ | ⟨hk | hk, rfl⟩
 ·repeat' first | (refine aopsJ_end (hK _ _ ?_); clear hK K) | (refine aopsJ_go ?_; simp [hk]; (try (refine J2 ?_ ?_ <;> intro hq <;> try simp [hk] at hq))) | (refine TJ.ret ?_; (repeat' first | refine inBlockJ_ret ?_ | refine thenJ_ret ?_ | refine roundJ_ret ?_); refine DoneJ.tup (L' := memI xp av ν lv S G2) (M := []) (Or.inr rfl) (by simp [Try.results35]; rfl) rfl (by simp) (⟨pn, av, ν, lv, G2, rfl, rfl, rfl, hG2, hGe, hv, r2⟩)) | refine TJ.rs (fun _ => false) fun K hK => ?_ | refine TJ.rs1 (fun _ => false) fun K hK => ?_ | refine TJ.cond rfl (fun hcnd => ?_) (fun hcnd => absurd hcnd (by decide)) | refine TJ.cond rfl (fun hcnd => absurd hcnd (by decide)) (fun hcnd => ?_) | refine TJ.block ?_
 ·repeat' first | (refine aopsJ_end (hK _ _ ?_); clear hK K) | (refine aopsJ_go ?_; simp [hk]; (try (refine J2 ?_ ?_ <;> intro hq <;> try simp [hk] at hq))) | (refine TJ.ret ?_; (repeat' first | refine inBlockJ_ret ?_ | refine thenJ_ret ?_ | refine roundJ_ret ?_); refine DoneJ.tup (L' := memI xp av ν lv S G2) (M := []) (Or.inr rfl) (by simp [Try.results35]; rfl) rfl (by simp) (⟨pv, av, ν, lv, G2, rfl, rfl, rfl, hG2, hGe, hv, r3⟩)) | refine TJ.rs (fun _ => false) fun K hK => ?_ | refine TJ.rs1 (fun _ => false) fun K hK => ?_ | refine TJ.cond rfl (fun hcnd => ?_) (fun hcnd => absurd hcnd (by decide)) | refine TJ.cond rfl (fun hcnd => absurd hcnd (by decide)) (fun hcnd => ?_) | refine TJ.seq ?_ | refine TJ.block ?_ | refine TJ.skip ?_
 ·repeat' first | (refine aopsJ_end (hK _ _ ?_); clear hK K) | (refine aopsJ_go ?_; simp [hk]; (try (refine J2 ?_ ?_ <;> intro hq <;> try simp [hk] at hq))) | (refine TJ.ret ?_; (repeat' first | refine inBlockJ_ret ?_ | refine thenJ_ret ?_ | refine roundJ_ret ?_); refine DoneJ.tup (L' := memI xp av ν lv S G2) (M := []) (Or.inr rfl) (by simp [Try.results35]; rfl) rfl (by simp) (⟨pv, av, ν, lv, G2, rfl, rfl, rfl, hG2, hGe, hv, r3⟩)) | refine TJ.rs (fun _ => false) fun K hK => ?_ | refine TJ.rs1 (fun _ => false) fun K hK => ?_ | refine TJ.cond rfl (fun hcnd => ?_) (fun hcnd => absurd hcnd (by decide)) | refine TJ.cond rfl (fun hcnd => absurd hcnd (by decide)) (fun hcnd => ?_) | refine TJ.seq ?_ | refine TJ.block ?_
end Go.Proofs.Ytloolmchekcmeaa

namespace Go.Proofs.Ytloolmchekcmeaa
open Go Go.Av
attribute [local irreducible] T ACalls TX EX LX Draws Some_ ACallsX eTy eTm MTy.kind MTy.kids MTm.kind MTm.name MTm.num MTm.ty MTm.fr MTm.label MTm.kids
attribute [local simp] eTy_def eTm_def
set_option maxHeartbeats 16000000
set_option maxRecDepth 8000
attribute [local irreducible] lastUp lastIx

theorem mem_sc (xp av : Value) (ν : List (Option Value)) (lv : List Nat) (S : List Sn) (G : List Nd) (x : Sn) : ((.n 99 [.str [x.c], .raw x.t, .raw x.up], x.p) :: memI xp av ν lv S G).Perm (memI xp av ν lv (x :: S) G) :=
 (List.perm_middle (l₁ := [xT xp av, vT ν lv av])).symm
theorem mem_drop (xp av : Value) (ν : List (Option Value)) (lv : List Nat) (S : List Sn) (G : List Nd) (x : Sn) (y : Nd) : ((.n 88 [.i y.k, .raw y.is, .raw y.a, .raw y.b], y.p) :: memI xp av ν lv (x :: S) G).Perm (memI xp av ν lv S (y :: G) ++ [(.n 99 [.str [x.c], .raw x.t, .raw x.up], x.p)]) :=
 (mem_add xp av ν lv (x :: S) G y).trans ((mem_sc xp av ν lv S (y :: G) x).symm.trans (List.perm_append_comm (l₁ := [_])))

theorem inferT_lam (k : Nat) (c : UInt8) (ty : MTy) (b : MTm) (ih : InfT k b) : InfT k (tLam [c] ty b) := by
 intro xp av sp S G ν B lv ns ts n t o hS hr
 rw [inf_lam] at hr
 simp only [Option.map_eq_some_iff] at hr
 obtain ⟨ob, hrb, hr'⟩ := hr
 have hG := hS.gr
 have hv := hS.hv
 have hsc := hS.sc
 have hc := hS.cond
 have hts := hS.kts
 have hnb : nodesM (tLam [c] ty b) = nodesM b + 1 := by simp [nodesM, nodesS]; omega
 rw [typesM_lam, hnb] at hc
 have hl := hc.len
 have hll := hc.lln
 simp only [List.length_cons, List.length_map] at hll
 have hkv : ∀ n : Nat, KdB [IT.v n] := fun n u hu => by simp at hu; subst hu; trivial
 -- what the function's body starts from
 have hbody : ∀ (G2 : List Nd) (pa ps av' : Value), GR G2 (ν ++ [some pa]) (B ++ [.v B.length]) -> Ge G ν G2 (ν ++ [some pa]) -> FCalls Try.prog 35 [.c (.d (.raw xp)), aTm b, .c (.d (.raw ps))] (memI xp av' (ν ++ [some pa]) (lv ++ [B.length]) (⟨ps, c, pa, sp⟩ :: S) G2) (RI xp (⟨ps, c, pa, sp⟩ :: S) G2 (ν ++ [some pa]) ob) := fun G2 pa ps av' h1 h2 => by
  have hpa : (ν ++ [some pa])[B.length]? = some (some pa) := by rw [<- hG.len]; simp
  refine ih xp av' ps (⟨ps, c, pa, sp⟩ :: S) G2 (ν ++ [some pa]) (B ++ [.v B.length]) (lv ++ [B.length]) (ns ++ [c]) (ts ++ [.v B.length]) n t ob ⟨h1, (hv.ge h2).1.app hpa, .snoc (by simp) (hsc.ge h2 fun x hx => by simp [hx]) (.v hpa), hts.app (hkv _), ?_⟩ (by simpa using hrb)
  refine ⟨⟨(NewV.one B).sc hc.ok.sc, (NewV.one B).acy hc.ok.sc hc.ok.acy⟩, hc.kd.app (hkv _), by rw [List.map_append]; exact hc.kls.app (hkv _), ⟨by simp [hc.ctx.len], fun u hu => ?_⟩, by simp; omega, by simp; omega⟩
  rcases List.mem_append.1 hu with hu | hu
  ·exact sc_le (by simp) (hc.ctx.scs u hu)
  ·simp at hu; subst hu; simp [sc]
 have hlv : lv.length <= 1000000 := by omega
 have hsB := hc.ok.sc
 clear hS ih hrb hts hl hll hnb
 refine FCalls.of_body Try.func35 (by kernel_rfl) rfl (by kernel_rfl) (by simp [Try.ntmps35]) ?_
 rw [Try.ntmps35]
 repeat' first | (refine aopsJ_end (hK _ _ ?_); clear hK K) | ((first | (refine aopsJ_trU rfl ?_; refine TreR.box rfl rfl rfl fun pv => ?_) | refine aopsJ_go ?_); simp; (try (refine J2 ?_ ?_ <;> intro hq <;> try simp at hq))) | refine TJ.rs (id := 0) (fun _ => false) fun K hK => ?_ | refine TJ.rs (id := 1) (fun _ => false) fun K hK => ?_ | refine TJ.seq ?_
 rename_i pn
 obtain ⟨pt, rfl⟩ : ∃ p, p = pv := ⟨_, rfl⟩
 repeat' first | (refine aopsJ_end (hK _ _ ?_); clear hK K) | ((first | (refine aopsJ_trU rfl ?_; refine TreR.box rfl rfl rfl fun pv => ?_) | refine aopsJ_go ?_); simp; (try (refine J2 ?_ ?_ <;> intro hq <;> try simp at hq))) | refine TJ.rs1 (id := 2) (fun _ => false) fun K hK => ?_ | refine TJ.rs (id := 3) (fun _ => false) fun K hK => ?_ | refine TJ.rs (id := 9) (fun _ => false) fun K hK => ?_ | refine TJ.rs (id := 11) (fun _ => false) fun K hK => ?_ | refine TJ.rs1 (id := 12) (fun _ => false) fun K hK => ?_ | refine TJ.rs (id := 14) (fun _ => false) fun K hK => ?_ | refine TJ.rs (id := 15) (fun _ => false) fun K hK => ?_ | refine TJ.cond rfl (fun hcnd => ?_) (fun hcnd => absurd hcnd (by decide)) | refine TJ.cond rfl (fun hcnd => absurd hcnd (by decide)) (fun hcnd => ?_) | refine TJ.seq ?_ | refine TJ.block ?_
 refine TJ.less (L' := memI xp av ν lv S (⟨pv, 0, nilP, nilP, nilP⟩ :: ⟨pt, 3, nilP, nilP, nilP⟩ :: ⟨pn, 2, nilP, nilP, nilP⟩ :: G)) (M := []) (by simpa using ((mem_add2 xp av ν lv S G ⟨pt, 3, nilP, nilP, nilP⟩ ⟨pn, 2, nilP, nilP, nilP⟩).cons _).trans (mem_add xp av ν lv S _ ⟨pv, 0, nilP, nilP, nilP⟩)) ?_
 refine TJ.nodes (T := 88) (G := ⟨pv, 0, nilP, nilP, nilP⟩ :: ⟨pt, 3, nilP, nilP, nilP⟩ :: ⟨pn, 2, nilP, nilP, nilP⟩ :: G) (M := xT xp av :: vT ν lv av :: scS S) (List.perm_append_comm (l₁ := xT xp av :: vT ν lv av :: scS S)) fun hN => ?_
 have hG1 : GR (⟨pt, 3, nilP, nilP, nilP⟩ :: ⟨pn, 2, nilP, nilP, nilP⟩ :: G) ν B := hG.sup fun x hx => by simp [hx]
 have hfr := fresh_of hG1 hN
 obtain ⟨hG2, hGe2⟩ := (hG1.sup (G' := ⟨pv, 0, nilP, nilP, nilP⟩ :: ⟨pt, 3, nilP, nilP, nilP⟩ :: ⟨pn, 2, nilP, nilP, nilP⟩ :: G) fun x hx => by simp at hx ⊢; exact .inr hx).newV (p := pv) (by simp) hfr hsB
 have hGe : Ge G ν (⟨pv, 0, nilP, nilP, nilP⟩ :: ⟨pt, 3, nilP, nilP, nilP⟩ :: ⟨pn, 2, nilP, nilP, nilP⟩ :: G) (ν ++ [some pv]) := (Ge.sup fun x hx => by simp [hx]).trans hGe2
 clear hN hfr hGe2 hG1
 have hpa : (ν ++ [some pv])[B.length]? = some (some pv) := by rw [<- hG.len]; simp
 have hbody := fun ps av' => hbody _ pv ps av' hG2 hGe
 have hgv := hv.ge hGe
 have hvT : ∀ v, vT (ν ++ [some pv]) (lv ++ [B.length]) v = (.t 58 1 (lv.length + 1) (lv.map ((fun v => GC.d (DV.raw v)) ∘ varV ν) ++ [.d (.raw pv)]), v) := fun v => by
  have e := hgv.2
  simp only [vT, slV, List.map_append, e, List.map_cons, List.map_nil, varV_of hpa]
  simp
 generalize (⟨pv, 0, nilP, nilP, nilP⟩ :: ⟨pt, 3, nilP, nilP, nilP⟩ :: ⟨pn, 2, nilP, nilP, nilP⟩ :: G : List Nd) = G2 at *
 repeat' first | (refine aopsJ_nsU rfl ?_; (first | refine LookR.of (LkS.nilCheck rfl rfl (by (with_reducible first | exact List.mem_cons_self | exact hG | exact List.mem_cons_of_mem _ List.mem_cons_self))) ?_ | refine LookR.of (LkS.field rfl (by with_reducible first | exact td_sim | exact td_sco | exact td_infr | exact td_wri) rfl (by decide) rfl (by (with_reducible first | exact List.mem_cons_self | exact hG | exact List.mem_cons_of_mem _ List.mem_cons_self))) ?_ | refine LookR.of (LkS.load rfl (by with_reducible first | exact td_psimS) rfl rfl rfl (by (with_reducible first | exact List.mem_cons_self | exact hG | exact List.mem_cons_of_mem _ List.mem_cons_self)) (by rfl)) ?_ | refine LookR.of (LkS.eql (T := 88) rfl rfl rfl rfl rfl (by (with_reducible first | exact heldN | exact heldM (hG) | exact heldM List.mem_cons_self)) (by (with_reducible first | exact heldN | exact heldM (hG) | exact heldM List.mem_cons_self)) un_psim td_sim (by decide) pt_psim) ?_ | refine LookR.of (LkS.neq (T := 88) rfl rfl rfl rfl rfl (by (with_reducible first | exact heldN | exact heldM (hG) | exact heldM List.mem_cons_self)) (by (with_reducible first | exact heldN | exact heldM (hG) | exact heldM List.mem_cons_self)) un_psim td_sim (by decide) pt_psim) ?_); (try simp); (try (refine J2 ?_ ?_ <;> intro hq <;> try simp at hq))) | (refine aopsJ_end (hK _ _ ?_); clear hK K) | ((first | refine aopsJ_append rfl rfl td_psimS rfl td_psim rfl rfl rfl rfl rfl (by simp) (by simp [DV.scal]) (.swap _ _ _) (by simp; omega) (by simp; omega) (fun av' => ?_) | refine aopsJ_store rfl rfl td_psimS rfl rfl rfl rfl (.swap _ _ _) (by simp) ?_ | refine aopsJ_go ?_); simp; (try (refine J2 ?_ ?_ <;> intro hq <;> try simp at hq))) | refine TJ.rs1 (id := 16) (fun _ => false) fun K hK => ?_ | refine TJ.seq ?_
 refine TJ.less (L' := memI xp av' (ν ++ [some pv]) (lv ++ [B.length]) S G2) (M := []) (by have e := hvT av'; simp only [List.append_nil]; show List.Perm _ (xT xp av' :: vT _ _ av' :: _); rw [e]) ?_
 obtain ⟨pa, rfl⟩ : ∃ p, p = pv := ⟨_, rfl⟩
 cases ob with
 | none =>
  simp only [Option.map_none] at hr'
  subst hr'
  repeat' first | (refine aopsR_end (hK _ _ ?_); clear hK K) | (refine aopsR_csU rfl rfl ?_; (first | refine TreR.box rfl rfl rfl fun pv => ?_ | refine TreR.call ?_); (try simp [eTm_def b])) | (refine aopsJ_end (hK _ _ ?_); clear hK K) | ((first | (refine aopsJ_trU rfl ?_; refine TreR.box rfl rfl rfl fun pv => ?_) | refine aopsR_go rfl rfl ?_ | refine aopsJ_go ?_); simp [eTm_def b]; (try (refine J2 ?_ ?_ <;> intro hq <;> try simp [eTm_def b] at hq))) | (refine wpcallP_mut (L2 := []) ?_ ?_ (hbody pv av') ?_; (focus (solve | simpa using mem_sc xp av' (ν ++ [some pa]) (lv ++ [B.length]) S G2 ⟨pv, c, pa, sp⟩)); (focus (solve | repeat' constructor)); rintro _ _ (rfl | ⟨v, rfl⟩); (try (simp [eTm_def b])); (try (refine J2 ?_ ?_ <;> intro hq <;> try simp [eTm_def b] at hq))) | (refine TJ.ret ?_; (repeat' first | refine inBlockJ_ret ?_ | refine thenJ_ret ?_ | refine roundJ_ret ?_); refine DoneJ.tup (L' := []) (M := _) (Or.inr rfl) (by simp [Try.results35]; rfl) rfl (by exact List.Perm.refl _) (.inr ⟨_, rfl⟩)) | refine TJ.rdR1 (id := 17) mixed (fun _ => false) [] [10, 11] [] (by kernel_rfl) (by kernel_rfl) fun K hK => ?_ | refine TJ.rs (fun _ => false) fun K hK => ?_
 | some z =>
  obtain ⟨B1, ls1, t1⟩ := z
  simp only [Option.map_some] at hr'
  subst hr'
  repeat' first | (refine aopsR_end (hK _ _ ?_); clear hK K) | (refine aopsR_csU rfl rfl ?_; (first | refine TreR.box rfl rfl rfl fun pv => ?_ | refine TreR.call ?_); (try simp [eTm_def b])) | (refine aopsJ_end (hK _ _ ?_); clear hK K) | ((first | (refine aopsJ_trU rfl ?_; refine TreR.box rfl rfl rfl fun pv => ?_) | refine aopsR_go rfl rfl ?_ | refine aopsJ_go ?_); simp [eTm_def b]; (try (refine J2 ?_ ?_ <;> intro hq <;> try simp [eTm_def b] at hq))) | (refine wpcallP_mut (L2 := []) ?_ ?_ (hbody pv av') ?_; (focus (solve | simpa using mem_sc xp av' (ν ++ [some pa]) (lv ++ [B.length]) S G2 ⟨pv, c, pa, sp⟩)); (focus (solve | repeat' constructor)); rintro _ _ ⟨pb, av2, ν2, lv2, G3, rfl, rfl, hls, g1, g2, g3, g4⟩; (try (simp [eTm_def b])); (try (refine J2 ?_ ?_ <;> intro hq <;> try simp [eTm_def b] at hq))) | (refine TJ.ret ?_; (repeat' first | refine inBlockJ_ret ?_ | refine thenJ_ret ?_ | refine roundJ_ret ?_); refine DoneJ.tup (L' := memI xp av2 ν2 lv2 S (⟨pv, 4, nilP, pa, pb⟩ :: G3)) (M := _) (Or.inr rfl) (by simp [Try.results35]; rfl) rfl (by exact mem_drop xp av2 ν2 lv2 S G3 ⟨_, c, pa, sp⟩ ⟨pv, 4, nilP, pa, pb⟩) (⟨pv, av2, ν2, lv2, _, rfl, rfl, hls, g1.sup fun x hx => by simp [hx], hGe.trans (g2.trans (Ge.sup fun x hx => by simp [hx])), g3, .p (by simp) (by decide) (.v (g2.vr _ _ hpa)) (g4.ge (Ge.sup fun x hx => by simp [hx]))⟩)) | refine TJ.rdR1 (id := 17) mixed (fun _ => false) [] [10, 11] [] (by kernel_rfl) (by kernel_rfl) fun K hK => ?_ | refine TJ.rs (fun _ => false) fun K hK => ?_
end Go.Proofs.Ytloolmchekcmeaa

namespace Go.Proofs.Ytloolmchekcmeaa
attribute [-simp] Go.Av.sT_cons
open Go Go.Av
attribute [local irreducible] T ACalls TX EX LX Draws Some_ ACallsX eTy eTm MTy.kind MTy.kids MTm.kind MTm.name MTm.num MTm.ty MTm.fr MTm.label MTm.kids
attribute [local simp] eTy_def eTm_def
set_option maxHeartbeats 16000000
set_option maxRecDepth 8000

theorem unify_ok (ν : List (Option Value)) : ∀ (k : Nat) (G : List Nd) (B : List IT) (p q : Value) (a b : IT) (B' : List IT) (qq : Bool), GR G ν B -> KdB B -> kdI a -> kdI b -> Rn G ν p a -> Rn G ν q b -> uni k B a b = some (B', qq) ->
  FCalls Try.prog 46 [.c (.d (.raw p)), .c (.d (.raw q))] (gS G) (RU G ν B' qq) := by
 intro k
 induction k with
 | zero => intro G B p q a b B' qq _ _ _ _ _ _ h; simp [uni] at h
 | succ k ih =>
  intro G B p q a b B' qq hG hKd hka hkb hp hq h
  rw [uni] at h
  split at h
  case isFalse => simp at h
  rename_i hex
  rw [Bool.and_eq_true] at hex
  obtain ⟨hxa, hxb⟩ := hex
  by_cases hav : ∃ n, hd B k a = .v n
  ·obtain ⟨n, hn⟩ := hav
   exact unify_var hG hp hq hxa hxb hn (by rw [hn] at h; cases hb : hd B k b <;> rw [hb] at h <;> exact h)
  have h1 := found_ok hG hp hxa
  have h2 := found_ok hG hq hxb
  have hha := hd_isHd hxa
  have hhb := hd_isHd hxb
  have xa := hd_ex hxa
  have xb := hd_ex hxb
  have ka := hd_kd hKd (k := k) hka
  have kb := hd_kd hKd (k := k) hkb
  have nva : ∀ n, hd B k a ≠ .v n := fun n e => hav ⟨n, e⟩
  generalize hd B k a = u at *
  generalize hd B k b = v at *
  clear hp hq hav hka hkb hxa hxb
  by_cases hbv : ∃ n, v = .v n
  ·obtain ⟨n, rfl⟩ := hbv
   have hr : (if u = .v n then some (B, true) else if occ B n k u = true then some (B, false) else some (B.set n u, true)) = some (B', qq) := by
    rw [if_neg (nva n)]
    cases u with
    | v m => exact absurd rfl (nva m)
    | b i => exact h
    | p i x y => exact h
   have h3 : ∀ p1 q1, Rn G ν p1 u -> Rn G ν q1 (.v n) -> FCalls Try.prog 46 [.c (.d (.raw q1)), .c (.d (.raw p1))] (gS G) (RU G ν B' qq) := fun p1 q1 r1 r2 =>
    unify_var hG r2 r1 xb xa (hd_of_isHd hhb k) (by rw [hd_of_isHd hha k]; exact hr)
   clear ih h hr
   refine FCalls.of_body Try.func46 (by kernel_rfl) rfl (by kernel_rfl) (by simp [Try.ntmps46]) ?_
   rw [Try.ntmps46]
   refine TJ.nodes (T := 88) (G := G) (M := []) (by simp) fun hN => ?_
   repeat' first | (refine aopsJ_end (hK _ _ ?_); clear hK K) | ((first | refine aopsJ_go ?_ | (refine wpcallJ_mut (L2 := []) ?_ ?_ (h1) ?_; (focus (solve | simp)); (focus (solve | repeat' constructor)); rintro _ _ ⟨p1, rfl, rfl, hp1⟩) | (refine wpcallJ_mut (L2 := []) ?_ ?_ (h2) ?_; (focus (solve | simp)); (focus (solve | repeat' constructor)); rintro _ _ ⟨q1, rfl, rfl, hq1⟩)); simp; (try (refine J2 ?_ ?_ <;> intro hq <;> (try simp at hq) <;> try (have : True := hq; clear this hq)))) | refine TJ.rs (id := 0) (fun _ => false) fun K hK => ?_ | refine TJ.rs (id := 1) (fun _ => false) fun K hK => ?_ | refine TJ.seq ?_ | refine TJ.block ?_
   have e2 : ¬ p1 = q1 := fun e2 => nva n (hp1.uniq hG hN (e2 ▸ hq1))
   obtain ⟨z, hz, rfl, hzk⟩ := hp1.node hG
   have m1 := gS_mem hz
   have ek : ¬ z.k = 0 := hzk ▸ kdI_ne ka nva
   cases hq1.head hG hhb with
   | v g1 g2 g3 =>
    have m2 := gS_mem g3
    have h4 := h3 z.p q1 hp1 hq1
    repeat' first | (refine aopsJ_nsU rfl ?_; (first | refine LookR.of (LkS.nilCheck rfl rfl (by (with_reducible first | exact List.mem_cons_self | exact m1 | exact m2 | exact List.mem_cons_of_mem _ List.mem_cons_self))) ?_ | refine LookR.of (LkS.field rfl (by with_reducible first | exact td_sim | exact td_sco | exact td_infr | exact td_wri) rfl (by decide) rfl (by (with_reducible first | exact List.mem_cons_self | exact m1 | exact m2 | exact List.mem_cons_of_mem _ List.mem_cons_self))) ?_ | refine LookR.of (LkS.load rfl (by with_reducible first | exact td_psim | exact td_int | exact td_string | exact td_psco | exact td_psimS) rfl rfl rfl (by (with_reducible first | exact List.mem_cons_self | exact m1 | exact m2 | exact List.mem_cons_of_mem _ List.mem_cons_self)) (by rfl)) ?_ | refine LookR.of (LkS.eql (T := 88) rfl rfl rfl rfl rfl (by (with_reducible first | exact heldN | exact heldM (m1) | exact heldM (m2) | exact heldM List.mem_cons_self)) (by (with_reducible first | exact heldN | exact heldM (m1) | exact heldM (m2) | exact heldM List.mem_cons_self)) un_psim td_sim (by decide) pt_psim) ?_ | refine LookR.of (LkS.neq (T := 88) rfl rfl rfl rfl rfl (by (with_reducible first | exact heldN | exact heldM (m1) | exact heldM (m2) | exact heldM List.mem_cons_self)) (by (with_reducible first | exact heldN | exact heldM (m1) | exact heldM (m2) | exact heldM List.mem_cons_self)) un_psim td_sim (by decide) pt_psim) ?_); (try simp [e2, ek]); (try (refine J2 ?_ ?_ <;> intro hq <;> (try simp [e2, ek] at hq) <;> try (have : True := hq; clear this hq)))) | (refine aopsJ_end (hK _ _ ?_); clear hK K) | ((first | refine aopsJ_go ?_ | (refine wpcallJ_mut (L2 := []) ?_ ?_ (h4) ?_; (focus (solve | simp)); (focus (solve | repeat' constructor)); rintro _ _ ⟨G', rfl, rfl, g4, g5⟩)); simp [e2, ek]; (try (refine J2 ?_ ?_ <;> intro hq <;> (try simp [e2, ek] at hq) <;> try (have : True := hq; clear this hq)))) | (refine TJ.ret ?_; (repeat' first | refine inBlockJ_ret ?_ | refine thenJ_ret ?_ | refine roundJ_ret ?_); refine DoneJ.tup (L' := gS G') (M := []) (Or.inr rfl) (by simp [Try.results46]; rfl) rfl (by simp) (⟨G', by simp [*], rfl, g4, g5⟩)) | refine TJ.rs (fun _ => false) fun K hK => ?_ | refine TJ.rs1 (fun _ => false) fun K hK => ?_ | refine TJ.cond rfl (fun hcnd => ?_) (fun hcnd => absurd hcnd (by decide)) | refine TJ.cond rfl (fun hcnd => absurd hcnd (by decide)) (fun hcnd => ?_)
  have nvb : ∀ n, v ≠ .v n := fun n e => hbv ⟨n, e⟩
  have hkk : ∀ k', uni k' = uni k' := fun _ => rfl
  refine FCalls.of_body Try.func46 (by kernel_rfl) rfl (by kernel_rfl) (by simp [Try.ntmps46]) ?_
  rw [Try.ntmps46]
  refine TJ.nodes (T := 88) (G := G) (M := []) (by simp) fun hN => ?_
  repeat' first | (refine aopsJ_end (hK _ _ ?_); clear hK K) | ((first | refine aopsJ_go ?_ | (refine wpcallJ_mut (L2 := []) ?_ ?_ (h1) ?_; (focus (solve | simp)); (focus (solve | repeat' constructor)); rintro _ _ ⟨p1, rfl, rfl, hp1⟩) | (refine wpcallJ_mut (L2 := []) ?_ ?_ (h2) ?_; (focus (solve | simp)); (focus (solve | repeat' constructor)); rintro _ _ ⟨q1, rfl, rfl, hq1⟩)); simp; (try (refine J2 ?_ ?_ <;> intro hq <;> (try simp at hq) <;> try (have : True := hq; clear this hq)))) | refine TJ.rs (id := 0) (fun _ => false) fun K hK => ?_ | refine TJ.rs (id := 1) (fun _ => false) fun K hK => ?_ | refine TJ.seq ?_ | refine TJ.block ?_
  clear h1 h2
  by_cases e2 : p1 = q1
  ·subst e2
   obtain rfl := hp1.uniq hG hN hq1
   obtain ⟨rfl, rfl⟩ := uni_same h nva
   obtain ⟨z, hz, rfl, _⟩ := hp1.node hG
   have m1 := gS_mem hz
   clear ih h
   repeat' first | (refine aopsJ_nsU rfl ?_; (first | refine LookR.of (LkS.nilCheck rfl rfl (by (with_reducible first | exact List.mem_cons_self | exact m1 | exact List.mem_cons_of_mem _ List.mem_cons_self))) ?_ | refine LookR.of (LkS.field rfl (by with_reducible first | exact td_sim | exact td_sco | exact td_infr | exact td_wri) rfl (by decide) rfl (by (with_reducible first | exact List.mem_cons_self | exact m1 | exact List.mem_cons_of_mem _ List.mem_cons_self))) ?_ | refine LookR.of (LkS.load rfl (by with_reducible first | exact td_psim | exact td_int | exact td_string | exact td_psco | exact td_psimS) rfl rfl rfl (by (with_reducible first | exact List.mem_cons_self | exact m1 | exact List.mem_cons_of_mem _ List.mem_cons_self)) (by rfl)) ?_ | refine LookR.of (LkS.eql (T := 88) rfl rfl rfl rfl rfl (by (with_reducible first | exact heldN | exact heldM (m1) | exact heldM List.mem_cons_self)) (by (with_reducible first | exact heldN | exact heldM (m1) | exact heldM List.mem_cons_self)) un_psim td_sim (by decide) pt_psim) ?_ | refine LookR.of (LkS.neq (T := 88) rfl rfl rfl rfl rfl (by (with_reducible first | exact heldN | exact heldM (m1) | exact heldM List.mem_cons_self)) (by (with_reducible first | exact heldN | exact heldM (m1) | exact heldM List.mem_cons_self)) un_psim td_sim (by decide) pt_psim) ?_); (try simp); (try (refine J2 ?_ ?_ <;> intro hq <;> (try simp at hq) <;> try (have : True := hq; clear this hq)))) | (refine aopsJ_end (hK _ _ ?_); clear hK K) | (refine aopsJ_go ?_; simp; (try (refine J2 ?_ ?_ <;> intro hq <;> (try simp at hq) <;> try (have : True := hq; clear this hq)))) | (refine TJ.ret ?_; (repeat' first | refine inBlockJ_ret ?_ | refine thenJ_ret ?_ | refine roundJ_ret ?_); refine DoneJ.tup (L' := gS G) (M := []) (Or.inr rfl) (by simp [Try.results46]; rfl) rfl (by simp) (⟨G, rfl, rfl, hG, .refl _ _⟩)) | refine TJ.rs (fun _ => false) fun K hK => ?_ | refine TJ.rs1 (fun _ => false) fun K hK => ?_ | refine TJ.cond rfl (fun hcnd => ?_) (fun hcnd => absurd hcnd (by decide))
  cases hp1.head hG hha with
  | v => exact absurd rfl (nva _)
  | @b c g1 g2 =>
   have m1 := gS_mem g1
   cases hq1.head hG hhb with
   | v => exact absurd rfl (nvb _)
   | @b c' g3 g4 =>
    have m2 := gS_mem g3
    simp at h
    obtain ⟨rfl, rfl⟩ := h
    clear ih
    by_cases e3 : c = c'
    ·subst e3
     repeat' first | (refine aopsR_end (hK _ _ ?_); clear hK K) | ((first | refine aopsJ_nsU rfl ?_ | refine aopsR_nsU rfl rfl rfl ?_); (first | refine LookR.of (LkS.nilCheck rfl rfl (by (with_reducible first | exact List.mem_cons_self | exact m1 | exact m2 | exact List.mem_cons_of_mem _ List.mem_cons_self))) ?_ | refine LookR.of (LkS.field rfl (by with_reducible first | exact td_sim | exact td_sco | exact td_infr | exact td_wri) rfl (by decide) rfl (by (with_reducible first | exact List.mem_cons_self | exact m1 | exact m2 | exact List.mem_cons_of_mem _ List.mem_cons_self))) ?_ | refine LookR.of (LkS.load rfl (by with_reducible first | exact td_psim | exact td_int | exact td_string | exact td_psco | exact td_psimS) rfl rfl rfl (by (with_reducible first | exact List.mem_cons_self | exact m1 | exact m2 | exact List.mem_cons_of_mem _ List.mem_cons_self)) (by rfl)) ?_ | refine LookR.of (LkS.eql (T := 88) rfl rfl rfl rfl rfl (by (with_reducible first | exact heldN | exact heldM (m1) | exact heldM (m2) | exact heldM List.mem_cons_self)) (by (with_reducible first | exact heldN | exact heldM (m1) | exact heldM (m2) | exact heldM List.mem_cons_self)) un_psim td_sim (by decide) pt_psim) ?_ | refine LookR.of (LkS.neq (T := 88) rfl rfl rfl rfl rfl (by (with_reducible first | exact heldN | exact heldM (m1) | exact heldM (m2) | exact heldM List.mem_cons_self)) (by (with_reducible first | exact heldN | exact heldM (m1) | exact heldM (m2) | exact heldM List.mem_cons_self)) un_psim td_sim (by decide) pt_psim) ?_); (try simp [e2, g2, g4]); (try (refine J2 ?_ ?_ <;> intro hq <;> (try simp [e2, g2, g4] at hq) <;> try (have : True := hq; clear this hq)))) | (refine aopsR_csG rfl ?_; simp; (first | (refine id (α := OpsR _ _ _ _ _ _ _ _ _ _ _) ?_) | (first | (refine TreR.box rfl rfl rfl fun pv => ?_; (try (simp [e2, g2, g4]))) | (refine TreR.call ?_; (try (simp [e2, g2, g4])))))) | (refine aopsJ_end (hK _ _ ?_); clear hK K) | ((first | refine aopsR_go rfl rfl ?_ | refine aopsJ_go ?_); simp [e2, g2, g4]; (try (refine J2 ?_ ?_ <;> intro hq <;> (try simp [e2, g2, g4] at hq) <;> try (have : True := hq; clear this hq)))) | (refine TJ.ret ?_; (repeat' first | refine inBlockJ_ret ?_ | refine thenJ_ret ?_ | refine roundJ_ret ?_); refine DoneJ.tup (L' := gS G) (M := []) (Or.inr rfl) (by simp [Try.results46]; rfl) rfl (by simp) (⟨G, by simp, rfl, hG, .refl _ _⟩)) | refine TJ.rdR (id := 11) mixed (fun _ => false) [] [] [1, 2, 3, 5, 6, 7] (by kernel_rfl) (by kernel_rfl) fun K hK => ?_ | refine TJ.rdR (id := 13) mixed (fun _ => false) [] [14, 24] [1, 2, 3, 4] (by kernel_rfl) (by kernel_rfl) fun K hK => ?_ | refine TJ.rs (fun _ => false) fun K hK => ?_ | refine TJ.rs1 (fun _ => false) fun K hK => ?_ | refine TJ.cond rfl (fun hcnd => absurd hcnd (by decide)) (fun hcnd => ?_) | refine TJ.skip ?_
    ·repeat' first | (refine aopsR_end (hK _ _ ?_); clear hK K) | ((first | refine aopsJ_nsU rfl ?_ | refine aopsR_nsU rfl rfl rfl ?_); (first | refine LookR.of (LkS.nilCheck rfl rfl (by (with_reducible first | exact List.mem_cons_self | exact m1 | exact m2 | exact List.mem_cons_of_mem _ List.mem_cons_self))) ?_ | refine LookR.of (LkS.field rfl (by with_reducible first | exact td_sim | exact td_sco | exact td_infr | exact td_wri) rfl (by decide) rfl (by (with_reducible first | exact List.mem_cons_self | exact m1 | exact m2 | exact List.mem_cons_of_mem _ List.mem_cons_self))) ?_ | refine LookR.of (LkS.load rfl (by with_reducible first | exact td_psim | exact td_int | exact td_string | exact td_psco | exact td_psimS) rfl rfl rfl (by (with_reducible first | exact List.mem_cons_self | exact m1 | exact m2 | exact List.mem_cons_of_mem _ List.mem_cons_self)) (by rfl)) ?_ | refine LookR.of (LkS.eql (T := 88) rfl rfl rfl rfl rfl (by (with_reducible first | exact heldN | exact heldM (m1) | exact heldM (m2) | exact heldM List.mem_cons_self)) (by (with_reducible first | exact heldN | exact heldM (m1) | exact heldM (m2) | exact heldM List.mem_cons_self)) un_psim td_sim (by decide) pt_psim) ?_ | refine LookR.of (LkS.neq (T := 88) rfl rfl rfl rfl rfl (by (with_reducible first | exact heldN | exact heldM (m1) | exact heldM (m2) | exact heldM List.mem_cons_self)) (by (with_reducible first | exact heldN | exact heldM (m1) | exact heldM (m2) | exact heldM List.mem_cons_self)) un_psim td_sim (by decide) pt_psim) ?_); (try simp [e2, g2, g4, e3]); (try (refine J2 ?_ ?_ <;> intro hq <;> (try simp [e2, g2, g4, e3] at hq) <;> try (have : True := hq; clear this hq)))) | (refine aopsJ_end (hK _ _ ?_); clear hK K) | ((first | refine aopsR_go rfl rfl ?_ | refine aopsJ_go ?_); simp [e2, g2, g4, e3]; (try (refine J2 ?_ ?_ <;> intro hq <;> (try simp [e2, g2, g4, e3] at hq) <;> try (have : True := hq; clear this hq)))) | (refine TJ.ret ?_; (repeat' first | refine inBlockJ_ret ?_ | refine thenJ_ret ?_ | refine roundJ_ret ?_); refine DoneJ.tup (L' := gS G) (M := []) (Or.inr rfl) (by simp [Try.results46]; rfl) rfl (by simp) (⟨G, by simp [e3], rfl, hG, .refl _ _⟩)) | refine TJ.rdR (id := 11) mixed (fun _ => false) [] [] [1, 2, 3, 5, 6, 7] (by kernel_rfl) (by kernel_rfl) fun K hK => ?_ | refine TJ.rs (fun _ => false) fun K hK => ?_ | refine TJ.rs1 (fun _ => false) fun K hK => ?_ | refine TJ.cond rfl (fun hcnd => ?_) (fun hcnd => absurd hcnd (by decide)) | refine TJ.cond rfl (fun hcnd => absurd hcnd (by decide)) (fun hcnd => ?_)
   | @p c' a2 b2 x2 y2 g3 g4 g5 g6 =>
    have m2 := gS_mem g3
    simp at h
    obtain ⟨rfl, rfl⟩ := h
    have e3 : ¬ c = c' := fun e => by simp only [kdI] at ka kb; omega
    clear ih
    repeat' first | (refine aopsR_end (hK _ _ ?_); clear hK K) | ((first | refine aopsJ_nsU rfl ?_ | refine aopsR_nsU rfl rfl rfl ?_); (first | refine LookR.of (LkS.nilCheck rfl rfl (by (with_reducible first | exact List.mem_cons_self | exact m1 | exact m2 | exact List.mem_cons_of_mem _ List.mem_cons_self))) ?_ | refine LookR.of (LkS.field rfl (by with_reducible first | exact td_sim | exact td_sco | exact td_infr | exact td_wri) rfl (by decide) rfl (by (with_reducible first | exact List.mem_cons_self | exact m1 | exact m2 | exact List.mem_cons_of_mem _ List.mem_cons_self))) ?_ | refine LookR.of (LkS.load rfl (by with_reducible first | exact td_psim | exact td_int | exact td_string | exact td_psco | exact td_psimS) rfl rfl rfl (by (with_reducible first | exact List.mem_cons_self | exact m1 | exact m2 | exact List.mem_cons_of_mem _ List.mem_cons_self)) (by rfl)) ?_ | refine LookR.of (LkS.eql (T := 88) rfl rfl rfl rfl rfl (by (with_reducible first | exact heldN | exact heldM (m1) | exact heldM (m2) | exact heldM List.mem_cons_self)) (by (with_reducible first | exact heldN | exact heldM (m1) | exact heldM (m2) | exact heldM List.mem_cons_self)) un_psim td_sim (by decide) pt_psim) ?_ | refine LookR.of (LkS.neq (T := 88) rfl rfl rfl rfl rfl (by (with_reducible first | exact heldN | exact heldM (m1) | exact heldM (m2) | exact heldM List.mem_cons_self)) (by (with_reducible first | exact heldN | exact heldM (m1) | exact heldM (m2) | exact heldM List.mem_cons_self)) un_psim td_sim (by decide) pt_psim) ?_); (try simp [e2, g2, g4, e3]); (try (refine J2 ?_ ?_ <;> intro hq <;> (try simp [e2, g2, g4, e3] at hq) <;> try (have : True := hq; clear this hq)))) | (refine aopsJ_end (hK _ _ ?_); clear hK K) | ((first | refine aopsR_go rfl rfl ?_ | refine aopsJ_go ?_); simp [e2, g2, g4, e3]; (try (refine J2 ?_ ?_ <;> intro hq <;> (try simp [e2, g2, g4, e3] at hq) <;> try (have : True := hq; clear this hq)))) | (refine TJ.ret ?_; (repeat' first | refine inBlockJ_ret ?_ | refine thenJ_ret ?_ | refine roundJ_ret ?_); refine DoneJ.tup (L' := gS G) (M := []) (Or.inr rfl) (by simp [Try.results46]; rfl) rfl (by simp) (⟨G, rfl, rfl, hG, .refl _ _⟩)) | refine TJ.rdR (id := 11) mixed (fun _ => false) [] [] [1, 2, 3, 5, 6, 7] (by kernel_rfl) (by kernel_rfl) fun K hK => ?_ | refine TJ.rs (fun _ => false) fun K hK => ?_ | refine TJ.rs1 (fun _ => false) fun K hK => ?_ | refine TJ.cond rfl (fun hcnd => ?_) (fun hcnd => absurd hcnd (by decide)) | refine TJ.cond rfl (fun hcnd => absurd hcnd (by decide)) (fun hcnd => ?_)
  | @p c a1 b1 x1 y1 g1 g2 g7 g8 =>
   have m1 := gS_mem g1
   cases hq1.head hG hhb with
   | v => exact absurd rfl (nvb _)
   | @b c' g3 g4 =>
    have m2 := gS_mem g3
    simp at h
    obtain ⟨rfl, rfl⟩ := h
    have e3 : ¬ c = c' := fun e => by simp only [kdI] at ka kb; omega
    clear ih
    repeat' first | (refine aopsR_end (hK _ _ ?_); clear hK K) | ((first | refine aopsJ_nsU rfl ?_ | refine aopsR_nsU rfl rfl rfl ?_); (first | refine LookR.of (LkS.nilCheck rfl rfl (by (with_reducible first | exact List.mem_cons_self | exact m1 | exact m2 | exact List.mem_cons_of_mem _ List.mem_cons_self))) ?_ | refine LookR.of (LkS.field rfl (by with_reducible first | exact td_sim | exact td_sco | exact td_infr | exact td_wri) rfl (by decide) rfl (by (with_reducible first | exact List.mem_cons_self | exact m1 | exact m2 | exact List.mem_cons_of_mem _ List.mem_cons_self))) ?_ | refine LookR.of (LkS.load rfl (by with_reducible first | exact td_psim | exact td_int | exact td_string | exact td_psco | exact td_psimS) rfl rfl rfl (by (with_reducible first | exact List.mem_cons_self | exact m1 | exact m2 | exact List.mem_cons_of_mem _ List.mem_cons_self)) (by rfl)) ?_ | refine LookR.of (LkS.eql (T := 88) rfl rfl rfl rfl rfl (by (with_reducible first | exact heldN | exact heldM (m1) | exact heldM (m2) | exact heldM List.mem_cons_self)) (by (with_reducible first | exact heldN | exact heldM (m1) | exact heldM (m2) | exact heldM List.mem_cons_self)) un_psim td_sim (by decide) pt_psim) ?_ | refine LookR.of (LkS.neq (T := 88) rfl rfl rfl rfl rfl (by (with_reducible first | exact heldN | exact heldM (m1) | exact heldM (m2) | exact heldM List.mem_cons_self)) (by (with_reducible first | exact heldN | exact heldM (m1) | exact heldM (m2) | exact heldM List.mem_cons_self)) un_psim td_sim (by decide) pt_psim) ?_); (try simp [e2, g2, g4, e3]); (try (refine J2 ?_ ?_ <;> intro hq <;> (try simp [e2, g2, g4, e3] at hq) <;> try (have : True := hq; clear this hq)))) | (refine aopsJ_end (hK _ _ ?_); clear hK K) | ((first | refine aopsR_go rfl rfl ?_ | refine aopsJ_go ?_); simp [e2, g2, g4, e3]; (try (refine J2 ?_ ?_ <;> intro hq <;> (try simp [e2, g2, g4, e3] at hq) <;> try (have : True := hq; clear this hq)))) | (refine TJ.ret ?_; (repeat' first | refine inBlockJ_ret ?_ | refine thenJ_ret ?_ | refine roundJ_ret ?_); refine DoneJ.tup (L' := gS G) (M := []) (Or.inr rfl) (by simp [Try.results46]; rfl) rfl (by simp) (⟨G, rfl, rfl, hG, .refl _ _⟩)) | refine TJ.rdR (id := 11) mixed (fun _ => false) [] [] [1, 2, 3, 5, 6, 7] (by kernel_rfl) (by kernel_rfl) fun K hK => ?_ | refine TJ.rs (fun _ => false) fun K hK => ?_ | refine TJ.rs1 (fun _ => false) fun K hK => ?_ | refine TJ.cond rfl (fun hcnd => ?_) (fun hcnd => absurd hcnd (by decide)) | refine TJ.cond rfl (fun hcnd => absurd hcnd (by decide)) (fun hcnd => ?_)
   | @p c' a2 b2 x2 y2 g3 g4 g5 g6 =>
    have m2 := gS_mem g3
    by_cases e3 : c = c'
    ·subst e3
     simp only [if_true] at h
     obtain ⟨za, hza, hzap⟩ := g7.at_ hG
     have m3 := gS_mem hza
     rw [hzap] at m3
     have e4 : ¬ a1 = .pointer none := g7.ne hG hN
     cases hu : uni k B x1 x2 with
     | none => rw [hu] at h; simp at h
     | some r =>
      obtain ⟨B1, q1'⟩ := r
      have i1 := ih G B a1 a2 x1 x2 B1 q1' hG hKd ka.2.1 kb.2.1 g7 g5 hu
      rw [hu] at h
      have kB1 := uni_kd hKd ka.2.1 kb.2.1 hu
      cases q1' with
      | false =>
       simp at h
       obtain ⟨rfl, rfl⟩ := h
       clear ih
       repeat' first | (refine aopsR_end (hK _ _ ?_); clear hK K) | ((first | refine aopsJ_nsU rfl ?_ | refine aopsR_nsU rfl rfl rfl ?_); (first | refine LookR.of (LkS.nilCheck rfl rfl (by (with_reducible first | exact List.mem_cons_self | exact m1 | exact m2 | exact m3 | exact List.mem_cons_of_mem _ List.mem_cons_self))) ?_ | refine LookR.of (LkS.field rfl (by with_reducible first | exact td_sim | exact td_sco | exact td_infr | exact td_wri) rfl (by decide) rfl (by (with_reducible first | exact List.mem_cons_self | exact m1 | exact m2 | exact m3 | exact List.mem_cons_of_mem _ List.mem_cons_self))) ?_ | refine LookR.of (LkS.load rfl (by with_reducible first | exact td_psim | exact td_int | exact td_string | exact td_psco | exact td_psimS) rfl rfl rfl (by (with_reducible first | exact List.mem_cons_self | exact m1 | exact m2 | exact m3 | exact List.mem_cons_of_mem _ List.mem_cons_self)) (by rfl)) ?_ | refine LookR.of (LkS.eql (T := 88) rfl rfl rfl rfl rfl (by (with_reducible first | exact heldN | exact heldM (m1) | exact heldM (m2) | exact heldM (m3) | exact heldM List.mem_cons_self)) (by (with_reducible first | exact heldN | exact heldM (m1) | exact heldM (m2) | exact heldM (m3) | exact heldM List.mem_cons_self)) un_psim td_sim (by decide) pt_psim) ?_ | refine LookR.of (LkS.neq (T := 88) rfl rfl rfl rfl rfl (by (with_reducible first | exact heldN | exact heldM (m1) | exact heldM (m2) | exact heldM (m3) | exact heldM List.mem_cons_self)) (by (with_reducible first | exact heldN | exact heldM (m1) | exact heldM (m2) | exact heldM (m3) | exact heldM List.mem_cons_self)) un_psim td_sim (by decide) pt_psim) ?_); (try simp [e2, g2, g4, e4]); (try (refine J2 ?_ ?_ <;> intro hq <;> (try simp [e2, g2, g4, e4] at hq) <;> try (have : True := hq; clear this hq)))) | (refine aopsR_nsG rfl rfl ?_; simp; (first | (refine id (α := OpsR _ _ _ _ _ _ _ _ _ _ _) ?_) | (first | (refine LookR.of (LkS.nilCheck rfl rfl (by (with_reducible first | exact List.mem_cons_self | exact m1 | exact m2 | exact m3 | exact List.mem_cons_of_mem _ List.mem_cons_self))) ?_; (try (simp [e2, g2, g4, e4]))) | (refine LookR.of (LkS.field rfl (by with_reducible first | exact td_sim | exact td_sco | exact td_infr | exact td_wri) rfl (by decide) rfl (by (with_reducible first | exact List.mem_cons_self | exact m1 | exact m2 | exact m3 | exact List.mem_cons_of_mem _ List.mem_cons_self))) ?_; (try (simp [e2, g2, g4, e4]))) | (refine LookR.of (LkS.load rfl (by with_reducible first | exact td_psim | exact td_int | exact td_string | exact td_psco | exact td_psimS) rfl rfl rfl (by (with_reducible first | exact List.mem_cons_self | exact m1 | exact m2 | exact m3 | exact List.mem_cons_of_mem _ List.mem_cons_self)) (by rfl)) ?_; (try (simp [e2, g2, g4, e4])); (try (refine J2 ?_ ?_ <;> intro hq <;> (try simp [e2, g2, g4, e4] at hq) <;> try (have : True := hq; clear this hq)))) | (refine LookR.of (LkS.eql (T := 88) rfl rfl rfl rfl rfl (by (with_reducible first | exact heldN | exact heldM (m1) | exact heldM (m2) | exact heldM (m3) | exact heldM List.mem_cons_self)) (by (with_reducible first | exact heldN | exact heldM (m1) | exact heldM (m2) | exact heldM (m3) | exact heldM List.mem_cons_self)) un_psim td_sim (by decide) pt_psim) ?_; (try (simp [e2, g2, g4, e4])); (try (refine J2 ?_ ?_ <;> intro hq <;> (try simp [e2, g2, g4, e4] at hq) <;> try (have : True := hq; clear this hq)))) | (refine LookR.of (LkS.neq (T := 88) rfl rfl rfl rfl rfl (by (with_reducible first | exact heldN | exact heldM (m1) | exact heldM (m2) | exact heldM (m3) | exact heldM List.mem_cons_self)) (by (with_reducible first | exact heldN | exact heldM (m1) | exact heldM (m2) | exact heldM (m3) | exact heldM List.mem_cons_self)) un_psim td_sim (by decide) pt_psim) ?_; (try (simp [e2, g2, g4, e4])); (try (refine J2 ?_ ?_ <;> intro hq <;> (try simp [e2, g2, g4, e4] at hq) <;> try (have : True := hq; clear this hq))))))) | (refine aopsR_csG rfl ?_; simp; (first | (refine id (α := OpsR _ _ _ _ _ _ _ _ _ _ _) ?_) | (first | (refine TreR.box rfl rfl rfl fun pv => ?_; (try (simp [e2, g2, g4, e4]))) | (refine TreR.call ?_; (try (simp [e2, g2, g4, e4])))))) | (refine aopsJ_end (hK _ _ ?_); clear hK K) | ((first | refine aopsR_go rfl rfl ?_ | refine aopsJ_go ?_); simp [e2, g2, g4, e4]; (try (refine J2 ?_ ?_ <;> intro hq <;> (try simp [e2, g2, g4, e4] at hq) <;> try (have : True := hq; clear this hq)))) | (refine wpcallP_mut (L2 := []) ?_ ?_ (i1) ?_; (focus (solve | simp)); (focus (solve | repeat' constructor)); rintro _ _ ⟨G1, rfl, rfl, u1, u2⟩; (try (simp [e2, g2, g4, e4])); (try (refine J2 ?_ ?_ <;> intro hq <;> (try simp [e2, g2, g4, e4] at hq) <;> try (have : True := hq; clear this hq)))) | (refine TJ.ret ?_; (repeat' first | refine inBlockJ_ret ?_ | refine thenJ_ret ?_ | refine roundJ_ret ?_); refine DoneJ.tup (L' := gS G1) (M := []) (Or.inr rfl) (by simp [Try.results46]; rfl) rfl (by simp) (⟨G1, by simp [*], rfl, u1, u2⟩)) | refine TJ.rdR (id := 11) mixed (fun _ => false) [] [] [1, 2, 3, 5, 6, 7] (by kernel_rfl) (by kernel_rfl) fun K hK => ?_ | refine TJ.rdR (id := 13) mixed (fun _ => false) [] [14, 24] [1, 2, 3, 4, 7, 8, 9, 11, 12, 13, 17, 18, 19, 21, 22, 23] (by kernel_rfl) (by kernel_rfl) fun K hK => ?_ | refine TJ.rs (fun _ => false) fun K hK => ?_ | refine TJ.rs1 (fun _ => false) fun K hK => ?_ | refine TJ.cond rfl (fun hcnd => absurd hcnd (by decide)) (fun hcnd => ?_) | refine TJ.skip ?_
      | true =>
       have i2 : ∀ G1, GR G1 ν B1 -> Ge G ν G1 ν -> FCalls Try.prog 46 [.c (.d (.raw b1)), .c (.d (.raw b2))] (gS G1) (RU G1 ν B' qq) := fun G1 u1 u2 => ih G1 B1 b1 b2 y1 y2 B' qq u1 kB1 ka.2.2 kb.2.2 (g8.ge u2) (g6.ge u2) h
       clear ih
       repeat' first | (refine aopsR_end (hK _ _ ?_); clear hK K) | ((first | refine aopsJ_nsU rfl ?_ | refine aopsR_nsU rfl rfl rfl ?_); (first | refine LookR.of (LkS.nilCheck rfl rfl (by (with_reducible first | exact List.mem_cons_self | exact m1 | exact m2 | exact m3 | exact (gS_mem (u2.nd _ g1 g2)) | exact (gS_mem (u2.nd _ g3 g4)) | exact List.mem_cons_of_mem _ List.mem_cons_self))) ?_ | refine LookR.of (LkS.field rfl (by with_reducible first | exact td_sim | exact td_sco | exact td_infr | exact td_wri) rfl (by decide) rfl (by (with_reducible first | exact List.mem_cons_self | exact m1 | exact m2 | exact m3 | exact (gS_mem (u2.nd _ g1 g2)) | exact (gS_mem (u2.nd _ g3 g4)) | exact List.mem_cons_of_mem _ List.mem_cons_self))) ?_ | refine LookR.of (LkS.load rfl (by with_reducible first | exact td_psim | exact td_int | exact td_string | exact td_psco | exact td_psimS) rfl rfl rfl (by (with_reducible first | exact List.mem_cons_self | exact m1 | exact m2 | exact m3 | exact (gS_mem (u2.nd _ g1 g2)) | exact (gS_mem (u2.nd _ g3 g4)) | exact List.mem_cons_of_mem _ List.mem_cons_self)) (by rfl)) ?_ | refine LookR.of (LkS.eql (T := 88) rfl rfl rfl rfl rfl (by (with_reducible first | exact heldN | exact heldM (m1) | exact heldM (m2) | exact heldM (m3) | exact heldM ((gS_mem (u2.nd _ g1 g2))) | exact heldM ((gS_mem (u2.nd _ g3 g4))) | exact heldM List.mem_cons_self)) (by (with_reducible first | exact heldN | exact heldM (m1) | exact heldM (m2) | exact heldM (m3) | exact heldM ((gS_mem (u2.nd _ g1 g2))) | exact heldM ((gS_mem (u2.nd _ g3 g4))) | exact heldM List.mem_cons_self)) un_psim td_sim (by decide) pt_psim) ?_ | refine LookR.of (LkS.neq (T := 88) rfl rfl rfl rfl rfl (by (with_reducible first | exact heldN | exact heldM (m1) | exact heldM (m2) | exact heldM (m3) | exact heldM ((gS_mem (u2.nd _ g1 g2))) | exact heldM ((gS_mem (u2.nd _ g3 g4))) | exact heldM List.mem_cons_self)) (by (with_reducible first | exact heldN | exact heldM (m1) | exact heldM (m2) | exact heldM (m3) | exact heldM ((gS_mem (u2.nd _ g1 g2))) | exact heldM ((gS_mem (u2.nd _ g3 g4))) | exact heldM List.mem_cons_self)) un_psim td_sim (by decide) pt_psim) ?_); (try simp [e2, g2, g4, e4]); (try (refine J2 ?_ ?_ <;> intro hq <;> (try simp [e2, g2, g4, e4] at hq) <;> try (have : True := hq; clear this hq)))) | (refine aopsR_nsG rfl rfl ?_; simp; (first | (refine id (α := OpsR _ _ _ _ _ _ _ _ _ _ _) ?_) | (first | (refine LookR.of (LkS.nilCheck rfl rfl (by (with_reducible first | exact List.mem_cons_self | exact m1 | exact m2 | exact m3 | exact (gS_mem (u2.nd _ g1 g2)) | exact (gS_mem (u2.nd _ g3 g4)) | exact List.mem_cons_of_mem _ List.mem_cons_self))) ?_; (try (simp [e2, g2, g4, e4]))) | (refine LookR.of (LkS.field rfl (by with_reducible first | exact td_sim | exact td_sco | exact td_infr | exact td_wri) rfl (by decide) rfl (by (with_reducible first | exact List.mem_cons_self | exact m1 | exact m2 | exact m3 | exact (gS_mem (u2.nd _ g1 g2)) | exact (gS_mem (u2.nd _ g3 g4)) | exact List.mem_cons_of_mem _ List.mem_cons_self))) ?_; (try (simp [e2, g2, g4, e4]))) | (refine LookR.of (LkS.load rfl (by with_reducible first | exact td_psim | exact td_int | exact td_string | exact td_psco | exact td_psimS) rfl rfl rfl (by (with_reducible first | exact List.mem_cons_self | exact m1 | exact m2 | exact m3 | exact (gS_mem (u2.nd _ g1 g2)) | exact (gS_mem (u2.nd _ g3 g4)) | exact List.mem_cons_of_mem _ List.mem_cons_self)) (by rfl)) ?_; (try (simp [e2, g2, g4, e4])); (try (refine J2 ?_ ?_ <;> intro hq <;> (try simp [e2, g2, g4, e4] at hq) <;> try (have : True := hq; clear this hq)))) | (refine LookR.of (LkS.eql (T := 88) rfl rfl rfl rfl rfl (by (with_reducible first | exact heldN | exact heldM (m1) | exact heldM (m2) | exact heldM (m3) | exact heldM ((gS_mem (u2.nd _ g1 g2))) | exact heldM ((gS_mem (u2.nd _ g3 g4))) | exact heldM List.mem_cons_self)) (by (with_reducible first | exact heldN | exact heldM (m1) | exact heldM (m2) | exact heldM (m3) | exact heldM ((gS_mem (u2.nd _ g1 g2))) | exact heldM ((gS_mem (u2.nd _ g3 g4))) | exact heldM List.mem_cons_self)) un_psim td_sim (by decide) pt_psim) ?_; (try (simp [e2, g2, g4, e4])); (try (refine J2 ?_ ?_ <;> intro hq <;> (try simp [e2, g2, g4, e4] at hq) <;> try (have : True := hq; clear this hq)))) | (refine LookR.of (LkS.neq (T := 88) rfl rfl rfl rfl rfl (by (with_reducible first | exact heldN | exact heldM (m1) | exact heldM (m2) | exact heldM (m3) | exact heldM ((gS_mem (u2.nd _ g1 g2))) | exact heldM ((gS_mem (u2.nd _ g3 g4))) | exact heldM List.mem_cons_self)) (by (with_reducible first | exact heldN | exact heldM (m1) | exact heldM (m2) | exact heldM (m3) | exact heldM ((gS_mem (u2.nd _ g1 g2))) | exact heldM ((gS_mem (u2.nd _ g3 g4))) | exact heldM List.mem_cons_self)) un_psim td_sim (by decide) pt_psim) ?_; (try (simp [e2, g2, g4, e4])); (try (refine J2 ?_ ?_ <;> intro hq <;> (try simp [e2, g2, g4, e4] at hq) <;> try (have : True := hq; clear this hq))))))) | (refine aopsR_csG rfl ?_; simp; (first | (refine id (α := OpsR _ _ _ _ _ _ _ _ _ _ _) ?_) | (first | (refine TreR.box rfl rfl rfl fun pv => ?_; (try (simp [e2, g2, g4, e4]))) | (refine TreR.call ?_; (try (simp [e2, g2, g4, e4])))))) | (refine aopsJ_end (hK _ _ ?_); clear hK K) | ((first | refine aopsR_go rfl rfl ?_ | refine aopsJ_go ?_); simp [e2, g2, g4, e4]; (try (refine J2 ?_ ?_ <;> intro hq <;> (try simp [e2, g2, g4, e4] at hq) <;> try (have : True := hq; clear this hq)))) | (refine wpcallP_mut (L2 := []) ?_ ?_ (i1) ?_; (focus (solve | simp)); (focus (solve | repeat' constructor)); rintro _ _ ⟨G1, rfl, rfl, u1, u2⟩; (try (simp [e2, g2, g4, e4])); (try (refine J2 ?_ ?_ <;> intro hq <;> (try simp [e2, g2, g4, e4] at hq) <;> try (have : True := hq; clear this hq)))) | (refine wpcallP_mut (L2 := []) ?_ ?_ (i2 _ u1 u2) ?_; (focus (solve | simp)); (focus (solve | repeat' constructor)); rintro _ _ ⟨G2, rfl, rfl, u3, u4⟩; (try (simp [e2, g2, g4, e4])); (try (refine J2 ?_ ?_ <;> intro hq <;> (try simp [e2, g2, g4, e4] at hq) <;> try (have : True := hq; clear this hq)))) | (refine TJ.ret ?_; (repeat' first | refine inBlockJ_ret ?_ | refine thenJ_ret ?_ | refine roundJ_ret ?_); refine DoneJ.tup (L' := gS G2) (M := []) (Or.inr rfl) (by simp [Try.results46]; rfl) rfl (by simp) (⟨G2, by simp [*], rfl, u3, u2.trans u4⟩)) | refine TJ.rdR (id := 11) mixed (fun _ => false) [] [] [1, 2, 3, 5, 6, 7] (by kernel_rfl) (by kernel_rfl) fun K hK => ?_ | refine TJ.rdR (id := 13) mixed (fun _ => false) [] [14, 24] [1, 2, 3, 4, 7, 8, 9, 11, 12, 13, 17, 18, 19, 21, 22, 23] (by kernel_rfl) (by kernel_rfl) fun K hK => ?_ | refine TJ.rs (fun _ => false) fun K hK => ?_ | refine TJ.rs1 (fun _ => false) fun K hK => ?_ | refine TJ.cond rfl (fun hcnd => absurd hcnd (by decide)) (fun hcnd => ?_) | refine TJ.skip ?_
    ·simp only [if_neg e3] at h
     simp at h
     obtain ⟨rfl, rfl⟩ := h
     clear ih
     repeat' first | (refine aopsR_end (hK _ _ ?_); clear hK K) | ((first | refine aopsJ_nsU rfl ?_ | refine aopsR_nsU rfl rfl rfl ?_); (first | refine LookR.of (LkS.nilCheck rfl rfl (by (with_reducible first | exact List.mem_cons_self | exact m1 | exact m2 | exact List.mem_cons_of_mem _ List.mem_cons_self))) ?_ | refine LookR.of (LkS.field rfl (by with_reducible first | exact td_sim | exact td_sco | exact td_infr | exact td_wri) rfl (by decide) rfl (by (with_reducible first | exact List.mem_cons_self | exact m1 | exact m2 | exact List.mem_cons_of_mem _ List.mem_cons_self))) ?_ | refine LookR.of (LkS.load rfl (by with_reducible first | exact td_psim | exact td_int | exact td_string | exact td_psco | exact td_psimS) rfl rfl rfl (by (with_reducible first | exact List.mem_cons_self | exact m1 | exact m2 | exact List.mem_cons_of_mem _ List.mem_cons_self)) (by rfl)) ?_ | refine LookR.of (LkS.eql (T := 88) rfl rfl rfl rfl rfl (by (with_reducible first | exact heldN | exact heldM (m1) | exact heldM (m2) | exact heldM List.mem_cons_self)) (by (with_reducible first | exact heldN | exact heldM (m1) | exact heldM (m2) | exact heldM List.mem_cons_self)) un_psim td_sim (by decide) pt_psim) ?_ | refine LookR.of (LkS.neq (T := 88) rfl rfl rfl rfl rfl (by (with_reducible first | exact heldN | exact heldM (m1) | exact heldM (m2) | exact heldM List.mem_cons_self)) (by (with_reducible first | exact heldN | exact heldM (m1) | exact heldM (m2) | exact heldM List.mem_cons_self)) un_psim td_sim (by decide) pt_psim) ?_); (try simp [e2, g2, g4, e3]); (try (refine J2 ?_ ?_ <;> intro hq <;> (try simp [e2, g2, g4, e3] at hq) <;> try (have : True := hq; clear this hq)))) | (refine aopsJ_end (hK _ _ ?_); clear hK K) | ((first | refine aopsR_go rfl rfl ?_ | refine aopsJ_go ?_); simp [e2, g2, g4, e3]; (try (refine J2 ?_ ?_ <;> intro hq <;> (try simp [e2, g2, g4, e3] at hq) <;> try (have : True := hq; clear this hq)))) | (refine TJ.ret ?_; (repeat' first | refine inBlockJ_ret ?_ | refine thenJ_ret ?_ | refine roundJ_ret ?_); refine DoneJ.tup (L' := gS G) (M := []) (Or.inr rfl) (by simp [Try.results46]; rfl) rfl (by simp) (⟨G, rfl, rfl, hG, .refl _ _⟩)) | refine TJ.rdR (id := 11) mixed (fun _ => false) [] [] [1, 2, 3, 5, 6, 7] (by kernel_rfl) (by kernel_rfl) fun K hK => ?_ | refine TJ.rs (fun _ => false) fun K hK => ?_ | refine TJ.rs1 (fun _ => false) fun K hK => ?_ | refine TJ.cond rfl (fun hcnd => ?_) (fun hcnd => absurd hcnd (by decide)) | refine TJ.cond rfl (fun hcnd => absurd hcnd (by decide)) (fun hcnd => ?_)
end Go.Proofs.Ytloolmchekcmeaa

namespace Go.Proofs.Ytloolmchekcmeaa
open Go Go.Av
attribute [local irreducible] T ACalls TX EX LX Draws Some_ ACallsX eTy eTm MTy.kind MTy.kids MTm.kind MTm.name MTm.num MTm.ty MTm.fr MTm.label MTm.kids
attribute [local simp] eTy_def eTm_def
set_option maxHeartbeats 16000000
set_option maxRecDepth 8000
attribute [local irreducible] lastUp lastIx

theorem uniQ_some {k : Nat} {B : List IT} {a b : IT} {r : Option (List IT)} (h : uniQ k B a b = some r) : ∃ B' q, uni k B a b = some (B', q) /\ r = if q = true then some B' else none := by
 simp only [uniQ] at h
 cases hu : uni k B a b with
 | none => rw [hu] at h; cases h
 | some z =>
  obtain ⟨B', q⟩ := z
  rw [hu] at h
  cases q with
  | true => exact ⟨B', true, rfl, by simpa using h.symm⟩
  | false => exact ⟨B', false, rfl, by simpa using h.symm⟩

structure LoopT (k : Nat) (S : List Sn) (G0 : List Nd) (ν0 : List (Option Value)) (sp : Value) (ns : List UInt8) (ts : List IT) (L : List MTm) (R : Option (List IT × List IT × List IT)) (j : Nat) (G : List Nd) (ν : List (Option Value)) (B : List IT) (lv : List Nat) (us : List IT) (ps : List Value) : Prop where
 le : j <= L.length
 ul : us.length = j
 st : StI S G ν B lv sp ns ts (nodesS (L.drop j) + 1) (typesS (L.drop j)).length
 ge : Ge G0 ν0 G ν
 rs : Rns G ν ps us
 kds : ∀ u ∈ us, kdI u
 res : restI k ns ts (L.drop j) B (lv.map IT.v) us = some R

theorem vT_ge {G G' : List Nd} {ν ν' : List (Option Value)} (hg : Ge G ν G' ν') {lv : List Nat} (hv : HasV ν lv) (v : Value) : vT ν' lv v = vT ν lv v := by
 simp only [vT, slV, (hv.ge hg).2]
theorem memI_ge {G G' : List Nd} {ν ν' : List (Option Value)} (hg : Ge G ν G' ν') {lv : List Nat} (hv : HasV ν lv) (xp av : Value) (S : List Sn) (H : List Nd) : memI xp av ν' lv S H = memI xp av ν lv S H := by
 simp only [memI, vT_ge hg hv]
theorem mem_call (xp av : Value) (ν : List (Option Value)) (lv : List Nat) (S : List Sn) (G : List Nd) (x : Nd) : ((.n 88 [.i x.k, .raw x.is, .raw x.a, .raw x.b], x.p) :: memI xp av ν lv S G).Perm (gS (x :: G) ++ (xT xp av :: vT ν lv av :: scS S)) :=
 (List.perm_append_comm (l₁ := xT xp av :: vT ν lv av :: scS S)).cons _
theorem mem_call0 (xp av : Value) (ν : List (Option Value)) (lv : List Nat) (S : List Sn) (G : List Nd) : (memI xp av ν lv S G).Perm (gS G ++ (xT xp av :: vT ν lv av :: scS S)) :=
 List.perm_append_comm (l₁ := xT xp av :: vT ν lv av :: scS S)
theorem mem_back (xp av : Value) (ν : List (Option Value)) (lv : List Nat) (S : List Sn) (G : List Nd) : (gS G ++ (xT xp av :: vT ν lv av :: scS S)).Perm (memI xp av ν lv S G) := (mem_call0 xp av ν lv S G).symm

abbrev rowsP (ps : List Value) : List (List DV) := ps.map fun p => [.raw p]

set_option maxHeartbeats 4000000 in
theorem inferT_node (k : Nat) (e : MTm) (hkk : e.kind = 6 \/ e.kind = 7 \/ e.kind = 8 \/ e.kind = 9 \/ e.kind = 10 \/ e.kind = 11 \/ e.kind = 12) (hBa : ∀ u ∈ e.kids, Ba u) (ihs : ∀ u ∈ e.kids, InfT k u) (hl3 : e.kids.length <= 3)
  (hsh : ((e.kind = 11 \/ e.kind = 12) /\ e.kids.length = 1) \/ ((e.kind = 6 \/ e.kind = 7 \/ e.kind = 8 \/ e.kind = 10) /\ e.kids.length = 2) \/ (e.kind = 9 /\ e.kids.length = 3)) (hnt : nodesS e.kids + 1 <= nodesM e /\ (typesS e.kids).length <= (typesM e).length) : InfT k e := by
 intro xp av sp S G ν B lv ns ts n t o hS hr
 obtain ⟨L, hL⟩ : ∃ L, L = e.kids := ⟨_, rfl⟩
 obtain ⟨R, hR, hrn, hrs⟩ : ∃ R, infS k L B (lv.map IT.v) ns ts = some R /\ (R = none -> o = none) /\ (∀ C l us, R = some (C, l, us) -> ∃ rn, infN k e.kind C us = some rn /\ o = rn.map fun z => (z.1, l, z.2)) := by
  subst hL
  cases e with
  | mk kd s n t f b L =>
   simp only [MTm.kind_mk] at hkk
   have h1 : ¬ kd = 1 := by omega
   have h5 : ¬ kd = 5 := by omega
   rw [inf, if_neg h1] at hr
   simp only [if_neg h5] at hr
   simp only [MTm.kids_mk, MTm.kind_mk]
   cases hS2 : infS k L B (lv.map IT.v) ns ts with
   | none => rw [hS2] at hr; cases hr
   | some R =>
    rw [hS2] at hr
    refine ⟨R, rfl, fun e => ?_, fun C l us e => ?_⟩
    ·subst e; simpa using hr.symm
    ·subst e
     simp only [Option.map_eq_some_iff] at hr
     obtain ⟨rn, q1, q2⟩ := hr
     exact ⟨rn, q1, q2.symm⟩
 have hres : restI k ns ts L B (lv.map IT.v) [] = some R := by
  simp only [restI, hR]
  cases R with
  | none => rfl
  | some z => obtain ⟨a, b, c⟩ := z; simp
 have hSc := hS.cond
 have hS0 : StI S G ν B lv sp ns ts (nodesS L + 1) (typesS L).length := ⟨hS.gr, hS.hv, hS.sc, hS.kts, hSc.ok, hSc.kd, hSc.kls, hSc.ctx, by have := hSc.len; rw [hL]; omega, by have := hSc.lln; rw [hL]; omega⟩
 have hts := hS.kts
 clear hS hr hSc hR hnt n t
 rw [<- hL] at hBa ihs hl3 hsh
 have hkl : e.kids = L := hL.symm
 clear hL
 have hn1 : ¬ e.kind = 1 := by omega
 have hn2 : ¬ e.kind = 2 := by omega
 have hn3 : ¬ e.kind = 3 := by omega
 have hn4 : ¬ e.kind = 4 := by omega
 have hn5 : ¬ e.kind = 5 := by omega
 have hG := hS0.gr
 refine FCalls.of_body Try.func35 (by kernel_rfl) rfl (by kernel_rfl) (by simp [Try.ntmps35]) ?_
 rw [Try.ntmps35]
 repeat' first | (refine aopsJ_end (hK _ _ ?_); clear hK K) | ((first | (refine aopsJ_trU rfl ?_; refine TreR.box rfl rfl rfl fun pv => ?_) | refine aopsJ_go ?_); simp; (try (refine J2 ?_ ?_ <;> intro hq <;> try simp at hq))) | refine TJ.rs (id := 0) (fun _ => false) fun K hK => ?_ | refine TJ.rs (id := 1) (fun _ => false) fun K hK => ?_ | refine TJ.seq ?_
 rename_i pn
 obtain ⟨pt, rfl⟩ : ∃ p, p = pv := ⟨_, rfl⟩
 refine TJ.less (L' := memI xp av ν lv S (⟨pt, 3, nilP, nilP, nilP⟩ :: ⟨pn, 2, nilP, nilP, nilP⟩ :: G)) (M := []) (by simpa using mem_add2 xp av ν lv S G ⟨pt, 3, nilP, nilP, nilP⟩ ⟨pn, 2, nilP, nilP, nilP⟩) ?_
 have hGe : Ge G ν (⟨pt, 3, nilP, nilP, nilP⟩ :: ⟨pn, 2, nilP, nilP, nilP⟩ :: G) ν := Ge.sup fun x hx => by simp [hx]
 have hmn : (⟨pn, 2, nilP, nilP, nilP⟩ : Nd) ∈ ⟨pt, 3, nilP, nilP, nilP⟩ :: ⟨pn, 2, nilP, nilP, nilP⟩ :: G := by simp
 have hmt : (⟨pt, 3, nilP, nilP, nilP⟩ : Nd) ∈ ⟨pt, 3, nilP, nilP, nilP⟩ :: ⟨pn, 2, nilP, nilP, nilP⟩ :: G := by simp
 have hS1 : StI S (⟨pt, 3, nilP, nilP, nilP⟩ :: ⟨pn, 2, nilP, nilP, nilP⟩ :: G) ν B lv sp ns ts (nodesS L + 1) (typesS L).length := ⟨hG.sup fun x hx => by simp [hx], hS0.hv, hS0.sc.ge hGe (fun x hx => hx), hts, hS0.cond⟩
 generalize (⟨pt, 3, nilP, nilP, nilP⟩ :: ⟨pn, 2, nilP, nilP, nilP⟩ :: G : List Nd) = G0 at *
 clear hS0
 repeat' first | (refine aopsJ_end (hK _ _ ?_); clear hK K) | (refine aopsJ_go ?_; simp [hn1, hn2, hn3, hn4, hn5]; (try (refine J2 ?_ ?_ <;> intro hq <;> try simp [hn1, hn2, hn3, hn4, hn5] at hq))) | refine TJ.rs1 (id := 2) (fun _ => false) fun K hK => ?_ | refine TJ.rs (id := 3) (fun _ => false) fun K hK => ?_ | refine TJ.rs (id := 9) (fun _ => false) fun K hK => ?_ | refine TJ.rs (id := 11) (fun _ => false) fun K hK => ?_ | refine TJ.rs1 (id := 12) (fun _ => false) fun K hK => ?_ | refine TJ.rs (id := 14) (fun _ => false) fun K hK => ?_ | refine TJ.rs (id := 19) (fun _ => false) fun K hK => ?_ | refine TJ.cond rfl (fun hcnd => absurd hcnd (by decide)) (fun hcnd => ?_) | refine TJ.seq ?_ | refine TJ.block ?_ | refine TJ.skip ?_
 refine TJ.ownify 13 1 58 (by rfl) ?_
 simp
 repeat' first | (refine aopsJ_end (hK _ _ ?_); clear hK K) | (refine aopsJ_go ?_; simp [hkl]; (try (refine J2 ?_ ?_ <;> intro hq <;> try simp [hkl] at hq))) | refine TJ.rs1 (id := 20) (fun _ => false) fun K hK => ?_ | refine TJ.block ?_
 refine TJ.loopK (α := Nat × List Nd × List (Option Value) × List IT × List Nat × List IT × List Value × Value × List (List CV)) [0, 2, 4, 8, 9, 90, 91] (fun x => [(6, .c .np), (7, .c (.d (.bool false))), (13, .c (.own 0 x.1)), (92, .i x.1)]) (fun _ => []) (fun x => x.2.2.2.2.2.2.2.2) (fun x _ => [{ sz := 1, ety := 58, rows := rowsP x.2.2.2.2.2.2.1, wr := true }]) (fun x => memI xp x.2.2.2.2.2.2.2.1 x.2.2.1 x.2.2.2.2.1 S x.2.1) (fun x => L.length + 1 - x.1) (fun x => LoopT k S G0 ν sp ns ts L R x.1 x.2.1 x.2.2.1 x.2.2.2.1 x.2.2.2.2.1 x.2.2.2.2.2.1 x.2.2.2.2.2.2.1) (by simp; rfl) (fun x hx => ?_) (0, G0, ν, B, lv, [], [], av, []) ⟨by simp, rfl, by simpa using hS1, .refl _ _, .nil, fun u hu => (by cases hu), by simpa using hres⟩ (by simp [ups]) (by simp) (by simp) (M := []) (by simp)
 obtain ⟨j, G1, ν1, B1, lv1, us, ps, av1, Gb⟩ := x
 dsimp only at hx ⊢
 simp only [ups, List.cons_append, List.nil_append, List.append_nil]
 clear hres hS1
 by_cases hlt : j < L.length
 ·obtain ⟨u, ht⟩ := get_lt hlt
  have htm : u ∈ L := List.mem_of_getElem? ht
  have hgt : L[j] = u := by rw [List.getElem?_eq_getElem hlt] at ht; exact Option.some.inj ht
  have hdr : L.drop j = u :: L.drop (j + 1) := by rw [List.drop_eq_getElem_cons hlt, hgt]
  have hb := hBa u htm
  have hres := hx.res
  rw [hdr, restI_cons] at hres
  have hc := hx.st.cond
  rw [hdr] at hc
  simp only [nodesS, typesS, List.length_append] at hc
  have hc' : CondI ns ts B1 (lv1.map IT.v) (nodesM u + (nodesS (L.drop (j + 1)) + 1)) ((typesM u).length + (typesS (L.drop (j + 1))).length) := ⟨hc.ok, hc.kd, hc.kls, hc.ctx, by have := hc.len; omega, hc.lln⟩
  have hst : StI S G1 ν1 B1 lv1 sp ns ts (nodesM u + (nodesS (L.drop (j + 1)) + 1)) ((typesM u).length + (typesS (L.drop (j + 1))).length) := ⟨hx.st.gr, hx.st.hv, hx.st.sc, hx.st.kts, hc'⟩
  have hpl : ps.length = j := by rw [hx.rs.len, hx.ul]
  cases hz : inf k u B1 (lv1.map IT.v) ns ts with
  | none => rw [hz] at hres; cases hres
  | some z =>
   have hA := ihs u htm xp av1 sp S G1 ν1 B1 lv1 ns ts _ _ z hst hz
   rw [hz] at hres
   clear ihs hc hst hrs
   cases z with
   | none =>
    have ho := hrn (by simpa using hres.symm)
    subst ho
    clear hrn hx hc' hres
    repeat' first | (refine aopsJ_end (hK _ _ ?_); clear hK K) | (refine aopsJ_go ?_; simp [hlt, hgt, eTm_def u]; (try simp (disch := omega) only [wrap64]); (try (refine J2 ?_ ?_ <;> intro hq <;> try simp [hlt, hgt, eTm_def u] at hq))) | (refine wpcallJ_mut (L2 := []) ?_ ?_ (hA) ?_; (focus (solve | simp)); (focus (solve | repeat' constructor)); rintro _ _ (rfl | ⟨v, rfl⟩); simp [hlt, hgt, eTm_def u]; (try simp (disch := omega) only [wrap64]); (try (refine J2 ?_ ?_ <;> intro hq <;> try simp [hlt, hgt, eTm_def u] at hq))) | (refine TJ.ret ?_; (repeat' first | refine inBlockJ_ret ?_ | refine thenJ_ret ?_ | refine roundJ_ret ?_); refine DoneJ.tup (L' := []) (M := _) (Or.inr rfl) (by simp [Try.results35]; rfl) rfl (by exact List.Perm.refl _) (.inl rfl)) | refine TJ.rs (fun _ => false) fun K hK => ?_ | refine TJ.cond rfl (fun hcnd => ?_) (fun hcnd => absurd hcnd (by decide)) | refine TJ.seq ?_ | refine TJ.block ?_ | refine TJ.skip ?_
   | some z =>
    obtain ⟨B2, ls2, t2⟩ := z
    simp only at hres
    obtain ⟨g1, g2, g3, g4⟩ := CondI.next hb hts hc' hz
    have hnext : ∀ p ν2 lv2 G2, ls2 = lv2.map IT.v -> GR G2 ν2 B2 -> Ge G1 ν1 G2 ν2 -> HasV ν2 lv2 -> Rn G2 ν2 p t2 -> LoopT k S G0 ν sp ns ts L R (j + 1) G2 ν2 B2 lv2 (us ++ [t2]) (ps ++ [p]) := fun p ν2 lv2 G2 hls q1 q2 q3 q4 => by
     subst hls
     exact ⟨by omega, by simp [hx.ul], ⟨q1, q3, hx.st.sc.ge q2 (fun x hx => hx), hts, g1⟩, hx.ge.trans q2, (hx.rs.ge q2).app q4, fun v hv => by
      rcases List.mem_append.1 hv with hv | hv
      ·exact hx.kds v hv
      ·simp at hv; subst hv; exact g4, hres⟩
    clear hrn hx hc' hres g1
    repeat' first | (refine aopsJ_end (hK _ _ ?_); clear hK K) | (refine aopsJ_go ?_; simp [hlt, hgt, eTm_def u, hpl]; (try simp (disch := omega) only [wrap64]); (try (refine J2 ?_ ?_ <;> intro hq <;> try simp [hlt, hgt, eTm_def u, hpl] at hq))) | (refine wpcallJ_mut (L2 := []) ?_ ?_ (hA) ?_; (focus (solve | simp)); (focus (solve | repeat' constructor)); rintro _ _ ⟨p, av2, ν2, lv2, G2, rfl, rfl, hls, q1, q2, q3, q4⟩; simp [hlt, hgt, eTm_def u, hpl]; (try simp (disch := omega) only [wrap64]); (try (refine J2 ?_ ?_ <;> intro hq <;> try simp [hlt, hgt, eTm_def u, hpl] at hq))) | (refine ⟨by omega, by omega, ?_⟩) | (refine ⟨(j + 1, G2, ν2, B2, lv2, us ++ [t2], ps ++ [p], av2, _), [], by dsimp only; omega, hnext p ν2 lv2 G2 hls q1 q2 q3 q4, ⟨rfl, ?_, ?_⟩, by simp⟩ <;> simp (disch := omega) [wrap64]) | refine TJ.rs (fun _ => false) fun K hK => ?_ | refine TJ.rs1 (fun _ => false) fun K hK => ?_ | refine TJ.cond rfl (fun hcnd => ?_) (fun hcnd => absurd hcnd (by decide)) | refine TJ.cond rfl (fun hcnd => absurd hcnd (by decide)) (fun hcnd => ?_) | refine TJ.seq ?_ | refine TJ.block ?_ | refine TJ.skip ?_
 ·have hj : j = L.length := by have := hx.le; omega
  have hres := hx.res
  have hul := hx.ul
  have hc := hx.st.cond
  have hG1 := hx.st.gr
  have hv1 := hx.st.hv
  have hge := hGe.trans hx.ge
  have hrs2 := hx.rs
  have hkd := hx.kds
  rw [hj, List.drop_length] at hres
  simp [restI, infS] at hres
  obtain ⟨rn, hrn2, ho⟩ := hrs _ _ _ hres.symm
  have hpl : ps.length = j := by rw [hrs2.len, hul]
  have r2 : Rn G1 ν1 pn (.b 2) := .b (hx.ge.nd _ hmn (by simp)) (by decide)
  have r3 : Rn G1 ν1 pt (.b 3) := .b (hx.ge.nd _ hmt (by simp)) (by decide)
  have kdB := hc.kd
  have sB := hc.ok.sc
  clear hrs hrn hx hres ihs hBa hmn hmt hGe hc hG
  have hn34 : ¬ (e.kind = 3 \/ e.kind = 4) := by omega
  repeat' first | (refine aopsJ_end (hK _ _ ?_); clear hK K) | (refine aopsJ_go ?_; simp [hlt]; (try (refine J2 ?_ ?_ <;> intro hq <;> try simp [hlt] at hq))) | refine TJ.rs (id := 21) (fun _ => false) fun K hK => ?_ | refine TJ.rs (id := 28) (fun _ => false) fun K hK => ?_ | refine TJ.cond rfl (fun hcnd => absurd hcnd (by decide)) (fun hcnd => ?_) | refine TJ.seq ?_ | refine TJ.block ?_ | refine TJ.exit ?_
  rcases hsh with ⟨hk, hl1⟩ | ⟨hk, hl1⟩ | ⟨hk, hl1⟩
  ·-- a part of a pair
   obtain ⟨x, rfl⟩ : ∃ x, us = [x] := lenI1 (by omega)
   cases hrs2 with
   | @cons p0 _ _ _ rp0 hrs3 =>
   cases hrs3
   have kx := hkd x (by simp)
   obtain rfl : j = 1 := by omega
   simp only [infN, if_neg hn2, if_neg hn34, if_pos hk] at hrn2
   have n6 : ¬ e.kind = 6 := by omega
   have n7 : ¬ e.kind = 7 := by omega
   have n8 : ¬ e.kind = 8 := by omega
   have n9 : ¬ e.kind = 9 := by omega
   have n10 : ¬ e.kind = 10 := by omega
   obtain ⟨zz, hz, hz2⟩ := Option.map_eq_some_iff.1 hrn2
   obtain ⟨B', qq, hu, hz3⟩ := uniQ_some hz
   clear hrn2 hz
   rcases hk with hk | hk
   ·-- the first
    repeat' first | (refine aopsJ_end (hK _ _ ?_); clear hK K) | ((first | (refine aopsJ_trU rfl ?_; refine TreR.box rfl rfl rfl fun pv => ?_) | refine aopsJ_go ?_); simp [hk, n6, n7, n8, n9, n10]; (try (refine J2 ?_ ?_ <;> intro hq <;> try simp [hk, n6, n7, n8, n9, n10] at hq))) | refine TJ.rs1 (id := 29) (fun _ => false) fun K hK => ?_ | refine TJ.rs (id := 32) (fun _ => false) fun K hK => ?_ | refine TJ.rs1 (id := 33) (fun _ => false) fun K hK => ?_ | refine TJ.rs (id := 38) (fun _ => false) fun K hK => ?_ | refine TJ.rs (id := 40) (fun _ => false) fun K hK => ?_ | refine TJ.rs (id := 42) (fun _ => false) fun K hK => ?_ | refine TJ.cond rfl (fun hcnd => absurd hcnd (by decide)) (fun hcnd => ?_) | refine TJ.seq ?_ | refine TJ.skip ?_
    rename_i pa
    obtain ⟨pb, rfl⟩ : ∃ p, p = pv := ⟨_, rfl⟩
    refine TJ.less (L' := memI xp av1 ν1 lv1 S (⟨pb, 0, nilP, nilP, nilP⟩ :: ⟨pa, 0, nilP, nilP, nilP⟩ :: G1)) (M := []) (by simpa using mem_add2 xp av1 ν1 lv1 S G1 ⟨pb, 0, nilP, nilP, nilP⟩ ⟨pa, 0, nilP, nilP, nilP⟩) ?_
    refine TJ.nodes (T := 88) (G := ⟨pb, 0, nilP, nilP, nilP⟩ :: ⟨pa, 0, nilP, nilP, nilP⟩ :: G1) (M := xT xp av1 :: vT ν1 lv1 av1 :: scS S) (mem_call0 _ _ _ _ _ _) fun hN => ?_
    obtain ⟨hG2, hge2⟩ := hG1.new2 sB hN
    have em := memI_ge hge2 hv1 xp av1 S (⟨pb, 0, nilP, nilP, nilP⟩ :: ⟨pa, 0, nilP, nilP, nilP⟩ :: G1)
    have hv2 := (hv1.ge hge2).1
    have hva : (ν1 ++ [some pa] ++ [some pb])[B1.length]? = some (some pa) := by rw [<- hG1.len]; simp
    have hvb : (ν1 ++ [some pa] ++ [some pb])[B1.length + 1]? = some (some pb) := by rw [<- hG1.len]; simp
    have kdB2 := kdB_two kdB B1.length (B1.length + 1)
    generalize (⟨pb, 0, nilP, nilP, nilP⟩ :: ⟨pa, 0, nilP, nilP, nilP⟩ :: G1 : List Nd) = G2 at *
    generalize ν1 ++ [some pa] ++ [some pb] = ν2 at *
    generalize B1 ++ [IT.v B1.length, IT.v (B1.length + 1)] = B2 at *
    refine TJ.less (L' := memI xp av1 ν2 lv1 S G2) (M := []) (by rw [em, List.append_nil]) ?_
    have hun : ∀ pf, FCalls Try.prog 46 [.c (.d (.raw p0)), .c (.d (.raw pf))] (gS (⟨pf, 5, nilP, pa, pb⟩ :: G2)) (RU (⟨pf, 5, nilP, pa, pb⟩ :: G2) ν2 B' qq) := fun pf => by
     have hs : Ge G2 ν2 (⟨pf, 5, nilP, pa, pb⟩ :: G2) ν2 := Ge.sup fun x hx => by simp [hx]
     exact unify_ok ν2 k _ B2 p0 pf x (.p 5 (.v B1.length) (.v (B1.length + 1))) B' qq (hG2.sup fun x hx => by simp [hx]) kdB2 kx ⟨.inr rfl, trivial, trivial⟩ (rp0.ge (hge2.trans hs)) (.p (by simp) (by decide) (.v hva) (.v hvb)) hu
    clear hN hu em kdB2
    cases qq with
    | false =>
     simp only [if_neg (by decide : ¬ (false = true))] at hz3
     subst hz3
     simp only [Option.map_none] at hz2
     subst hz2
     simp only [Option.map_none] at ho
     subst ho
     repeat' first | (refine aopsJ_end (hK _ _ ?_); clear hK K) | ((first | (refine aopsJ_trU rfl ?_; refine TreR.box rfl rfl rfl fun pv => ?_) | refine aopsJ_go ?_ | (refine wpcallJ_mut (L2 := (xT xp av1 :: vT ν2 lv1 av1 :: scS S)) ?_ ?_ (hun pv) ?_; (focus (solve | exact mem_call xp av1 ν2 lv1 S G2 ⟨pv, 5, nilP, pa, pb⟩)); (focus (solve | repeat' constructor)); rintro _ _ ⟨G3, rfl, rfl, u1, u2⟩)); simp [hk]; (try (refine J2 ?_ ?_ <;> intro hq <;> try simp [hk] at hq))) | (refine TJ.ret ?_; (repeat' first | refine inBlockJ_ret ?_ | refine thenJ_ret ?_ | refine roundJ_ret ?_); refine DoneJ.tup (L' := []) (M := _) (Or.inr rfl) (by simp [Try.results35]; rfl) rfl (by exact List.Perm.refl _) (.inr ⟨_, rfl⟩)) | refine TJ.rs (fun _ => false) fun K hK => ?_ | refine TJ.rs1 (fun _ => false) fun K hK => ?_ | refine TJ.cond rfl (fun hcnd => absurd hcnd (by decide)) (fun hcnd => ?_) | refine TJ.seq ?_ | refine TJ.skip ?_
    | true =>
     simp only [if_true] at hz3
     subst hz3
     simp only [Option.map_some, hk] at hz2
     subst hz2
     simp only [Option.map_some] at ho
     subst ho
     repeat' first | (refine aopsJ_end (hK _ _ ?_); clear hK K) | ((first | (refine aopsJ_trU rfl ?_; refine TreR.box rfl rfl rfl fun pv => ?_) | refine aopsJ_go ?_ | (refine wpcallJ_mut (L2 := (xT xp av1 :: vT ν2 lv1 av1 :: scS S)) ?_ ?_ (hun pv) ?_; (focus (solve | exact mem_call xp av1 ν2 lv1 S G2 ⟨pv, 5, nilP, pa, pb⟩)); (focus (solve | repeat' constructor)); rintro _ _ ⟨G3, rfl, rfl, u1, u2⟩)); simp [hk]; (try (refine J2 ?_ ?_ <;> intro hq <;> try simp [hk] at hq))) | (refine TJ.ret ?_; (repeat' first | refine inBlockJ_ret ?_ | refine thenJ_ret ?_ | refine roundJ_ret ?_); refine DoneJ.tup (L' := memI xp av1 ν2 lv1 S G3) (M := []) (Or.inr rfl) (by simp [Try.results35]; rfl) rfl (by simpa using mem_back xp av1 ν2 lv1 S G3) (⟨pa, av1, ν2, lv1, G3, rfl, rfl, rfl, u1, hge.trans (hge2.trans ((Ge.sup fun x hx => by simp [hx]).trans u2)), hv2, by simpa using Rn.v hva⟩)) | refine TJ.rs (fun _ => false) fun K hK => ?_ | refine TJ.rs1 (fun _ => false) fun K hK => ?_ | refine TJ.cond rfl (fun hcnd => absurd hcnd (by decide)) (fun hcnd => ?_) | refine TJ.seq ?_ | refine TJ.skip ?_
   ·-- the second
    repeat' first | (refine aopsJ_end (hK _ _ ?_); clear hK K) | ((first | (refine aopsJ_trU rfl ?_; refine TreR.box rfl rfl rfl fun pv => ?_) | refine aopsJ_go ?_); simp [hk, n6, n7, n8, n9, n10]; (try (refine J2 ?_ ?_ <;> intro hq <;> try simp [hk, n6, n7, n8, n9, n10] at hq))) | refine TJ.rs1 (id := 29) (fun _ => false) fun K hK => ?_ | refine TJ.rs (id := 32) (fun _ => false) fun K hK => ?_ | refine TJ.rs1 (id := 33) (fun _ => false) fun K hK => ?_ | refine TJ.rs (id := 38) (fun _ => false) fun K hK => ?_ | refine TJ.rs (id := 40) (fun _ => false) fun K hK => ?_ | refine TJ.rs (id := 42) (fun _ => false) fun K hK => ?_ | refine TJ.cond rfl (fun hcnd => absurd hcnd (by decide)) (fun hcnd => ?_) | refine TJ.seq ?_ | refine TJ.skip ?_
    rename_i pa
    obtain ⟨pb, rfl⟩ : ∃ p, p = pv := ⟨_, rfl⟩
    refine TJ.less (L' := memI xp av1 ν1 lv1 S (⟨pb, 0, nilP, nilP, nilP⟩ :: ⟨pa, 0, nilP, nilP, nilP⟩ :: G1)) (M := []) (by simpa using mem_add2 xp av1 ν1 lv1 S G1 ⟨pb, 0, nilP, nilP, nilP⟩ ⟨pa, 0, nilP, nilP, nilP⟩) ?_
    refine TJ.nodes (T := 88) (G := ⟨pb, 0, nilP, nilP, nilP⟩ :: ⟨pa, 0, nilP, nilP, nilP⟩ :: G1) (M := xT xp av1 :: vT ν1 lv1 av1 :: scS S) (mem_call0 _ _ _ _ _ _) fun hN => ?_
    obtain ⟨hG2, hge2⟩ := hG1.new2 sB hN
    have em := memI_ge hge2 hv1 xp av1 S (⟨pb, 0, nilP, nilP, nilP⟩ :: ⟨pa, 0, nilP, nilP, nilP⟩ :: G1)
    have hv2 := (hv1.ge hge2).1
    have hva : (ν1 ++ [some pa] ++ [some pb])[B1.length]? = some (some pa) := by rw [<- hG1.len]; simp
    have hvb : (ν1 ++ [some pa] ++ [some pb])[B1.length + 1]? = some (some pb) := by rw [<- hG1.len]; simp
    have kdB2 := kdB_two kdB B1.length (B1.length + 1)
    generalize (⟨pb, 0, nilP, nilP, nilP⟩ :: ⟨pa, 0, nilP, nilP, nilP⟩ :: G1 : List Nd) = G2 at *
    generalize ν1 ++ [some pa] ++ [some pb] = ν2 at *
    generalize B1 ++ [IT.v B1.length, IT.v (B1.length + 1)] = B2 at *
    refine TJ.less (L' := memI xp av1 ν2 lv1 S G2) (M := []) (by rw [em, List.append_nil]) ?_
    have hun : ∀ pf, FCalls Try.prog 46 [.c (.d (.raw p0)), .c (.d (.raw pf))] (gS (⟨pf, 5, nilP, pa, pb⟩ :: G2)) (RU (⟨pf, 5, nilP, pa, pb⟩ :: G2) ν2 B' qq) := fun pf => by
     have hs : Ge G2 ν2 (⟨pf, 5, nilP, pa, pb⟩ :: G2) ν2 := Ge.sup fun x hx => by simp [hx]
     exact unify_ok ν2 k _ B2 p0 pf x (.p 5 (.v B1.length) (.v (B1.length + 1))) B' qq (hG2.sup fun x hx => by simp [hx]) kdB2 kx ⟨.inr rfl, trivial, trivial⟩ (rp0.ge (hge2.trans hs)) (.p (by simp) (by decide) (.v hva) (.v hvb)) hu
    clear hN hu em kdB2
    cases qq with
    | false =>
     simp only [if_neg (by decide : ¬ (false = true))] at hz3
     subst hz3
     simp only [Option.map_none] at hz2
     subst hz2
     simp only [Option.map_none] at ho
     subst ho
     repeat' first | (refine aopsJ_end (hK _ _ ?_); clear hK K) | ((first | (refine aopsJ_trU rfl ?_; refine TreR.box rfl rfl rfl fun pv => ?_) | refine aopsJ_go ?_ | (refine wpcallJ_mut (L2 := (xT xp av1 :: vT ν2 lv1 av1 :: scS S)) ?_ ?_ (hun pv) ?_; (focus (solve | exact mem_call xp av1 ν2 lv1 S G2 ⟨pv, 5, nilP, pa, pb⟩)); (focus (solve | repeat' constructor)); rintro _ _ ⟨G3, rfl, rfl, u1, u2⟩)); simp [hk]; (try (refine J2 ?_ ?_ <;> intro hq <;> try simp [hk] at hq))) | (refine TJ.ret ?_; (repeat' first | refine inBlockJ_ret ?_ | refine thenJ_ret ?_ | refine roundJ_ret ?_); refine DoneJ.tup (L' := []) (M := _) (Or.inr rfl) (by simp [Try.results35]; rfl) rfl (by exact List.Perm.refl _) (.inr ⟨_, rfl⟩)) | refine TJ.rs (fun _ => false) fun K hK => ?_ | refine TJ.rs1 (fun _ => false) fun K hK => ?_ | refine TJ.cond rfl (fun hcnd => ?_) (fun hcnd => absurd hcnd (by decide)) | refine TJ.seq ?_
    | true =>
     simp only [if_true] at hz3
     subst hz3
     simp only [Option.map_some, hk] at hz2
     subst hz2
     simp only [Option.map_some] at ho
     subst ho
     repeat' first | (refine aopsJ_end (hK _ _ ?_); clear hK K) | ((first | (refine aopsJ_trU rfl ?_; refine TreR.box rfl rfl rfl fun pv => ?_) | refine aopsJ_go ?_ | (refine wpcallJ_mut (L2 := (xT xp av1 :: vT ν2 lv1 av1 :: scS S)) ?_ ?_ (hun pv) ?_; (focus (solve | exact mem_call xp av1 ν2 lv1 S G2 ⟨pv, 5, nilP, pa, pb⟩)); (focus (solve | repeat' constructor)); rintro _ _ ⟨G3, rfl, rfl, u1, u2⟩)); simp [hk]; (try (refine J2 ?_ ?_ <;> intro hq <;> try simp [hk] at hq))) | (refine TJ.ret ?_; (repeat' first | refine inBlockJ_ret ?_ | refine thenJ_ret ?_ | refine roundJ_ret ?_); refine DoneJ.tup (L' := memI xp av1 ν2 lv1 S G3) (M := []) (Or.inr rfl) (by simp [Try.results35]; rfl) rfl (by simpa using mem_back xp av1 ν2 lv1 S G3) (⟨pb, av1, ν2, lv1, G3, rfl, rfl, rfl, u1, hge.trans (hge2.trans ((Ge.sup fun x hx => by simp [hx]).trans u2)), hv2, by simpa using Rn.v hvb⟩)) | refine TJ.rs (fun _ => false) fun K hK => ?_ | refine TJ.rs1 (fun _ => false) fun K hK => ?_ | refine TJ.cond rfl (fun hcnd => ?_) (fun hcnd => absurd hcnd (by decide)) | refine TJ.seq ?_
  ·obtain ⟨x, y, rfl⟩ : ∃ x y, us = [x, y] := lenI2 (by omega)
   cases hrs2 with
   | @cons p0 _ _ _ rp0 hrs3 =>
   cases hrs3 with
   | @cons p1 _ _ _ rp1 hrs4 =>
   cases hrs4
   have kx := hkd x (by simp)
   have ky := hkd y (by simp)
   obtain rfl : j = 2 := by omega
   simp only [infN, if_neg hn2, if_neg hn34] at hrn2
   rcases hk with hk | hk | hk | hk
   ·-- an application
    have n10 : ¬ e.kind = 10 := by omega
    rw [if_neg n10, if_pos hk] at hrn2
    obtain ⟨zz, hz, hz2⟩ := Option.map_eq_some_iff.1 hrn2
    obtain ⟨B', qq, hu, hz3⟩ := uniQ_some hz
    clear hrn2 hz
    repeat' first | (refine aopsJ_end (hK _ _ ?_); clear hK K) | ((first | (refine aopsJ_trU rfl ?_; refine TreR.box rfl rfl rfl fun pv => ?_) | refine aopsJ_go ?_); simp [hk]; (try (refine J2 ?_ ?_ <;> intro hq <;> try simp [hk] at hq))) | refine TJ.rs1 (id := 29) (fun _ => false) fun K hK => ?_ | refine TJ.rs (id := 30) (fun _ => false) fun K hK => ?_ | refine TJ.cond rfl (fun hcnd => ?_) (fun hcnd => absurd hcnd (by decide)) | refine TJ.seq ?_
    obtain ⟨po, rfl⟩ : ∃ p, p = pv := ⟨_, rfl⟩
    refine TJ.less (L' := memI xp av1 ν1 lv1 S (⟨po, 0, nilP, nilP, nilP⟩ :: G1)) (M := []) (by simpa using mem_add xp av1 ν1 lv1 S G1 ⟨po, 0, nilP, nilP, nilP⟩) ?_
    refine TJ.nodes (T := 88) (G := ⟨po, 0, nilP, nilP, nilP⟩ :: G1) (M := xT xp av1 :: vT ν1 lv1 av1 :: scS S) (mem_call0 _ _ _ _ _ _) fun hN => ?_
    obtain ⟨hG2, hge2⟩ := hG1.new1 sB hN
    have em := memI_ge hge2 hv1 xp av1 S (⟨po, 0, nilP, nilP, nilP⟩ :: G1)
    have hv2 := (hv1.ge hge2).1
    have hvo : (ν1 ++ [some po] ++ [none])[B1.length]? = some (some po) := by rw [<- hG1.len]; simp
    have kdB2 := kdB_two kdB B1.length (B1.length + 1)
    generalize (⟨po, 0, nilP, nilP, nilP⟩ :: G1 : List Nd) = G2 at *
    generalize ν1 ++ [some po] ++ [none] = ν2 at *
    generalize B1 ++ [IT.v B1.length, IT.v (B1.length + 1)] = B2 at *
    refine TJ.less (L' := memI xp av1 ν2 lv1 S G2) (M := []) (by rw [em, List.append_nil]) ?_
    have hun : ∀ pf, FCalls Try.prog 46 [.c (.d (.raw p0)), .c (.d (.raw pf))] (gS (⟨pf, 4, nilP, p1, po⟩ :: G2)) (RU (⟨pf, 4, nilP, p1, po⟩ :: G2) ν2 B' qq) := fun pf => by
     have hs : Ge G2 ν2 (⟨pf, 4, nilP, p1, po⟩ :: G2) ν2 := Ge.sup fun x hx => by simp [hx]
     exact unify_ok ν2 k _ B2 p0 pf x (.p 4 y (.v B1.length)) B' qq (hG2.sup fun x hx => by simp [hx]) kdB2 kx ⟨.inl rfl, ky, trivial⟩ (rp0.ge (hge2.trans hs)) (.p (by simp) (by decide) (rp1.ge (hge2.trans hs)) (.v hvo)) hu
    clear hN hu em kdB2
    cases qq with
    | false =>
     simp only [if_neg (by decide : ¬ (false = true))] at hz3
     subst hz3
     simp only [Option.map_none] at hz2
     subst hz2
     simp only [Option.map_none] at ho
     subst ho
     repeat' first | (refine aopsR_end (hK _ _ ?_); clear hK K) | (refine aopsR_csU rfl rfl ?_; (first | refine TreR.box rfl rfl rfl fun pv => ?_ | refine TreR.call ?_); (try simp [hk])) | (refine aopsR_go rfl rfl ?_; simp [hk]; (try (refine J2 ?_ ?_ <;> intro hq <;> try simp [hk] at hq))) | (refine wpcallP_mut (L2 := (xT xp av1 :: vT ν2 lv1 av1 :: scS S)) ?_ ?_ (hun pv) ?_; (focus (solve | exact mem_call xp av1 ν2 lv1 S G2 ⟨pv, 4, nilP, p1, po⟩)); (focus (solve | repeat' constructor)); rintro _ _ ⟨G3, rfl, rfl, u1, u2⟩; (try (simp [hk])); (try (refine J2 ?_ ?_ <;> intro hq <;> try simp [hk] at hq))) | (refine TJ.ret ?_; (repeat' first | refine inBlockJ_ret ?_ | refine thenJ_ret ?_ | refine roundJ_ret ?_); refine DoneJ.tup (L' := []) (M := _) (Or.inr rfl) (by simp [Try.results35]; rfl) rfl (by exact List.Perm.refl _) (.inr ⟨_, rfl⟩)) | refine TJ.rdR1 (id := 31) mixed (fun _ => false) [] [9, 10] [] (by kernel_rfl) (by kernel_rfl) fun K hK => ?_
    | true =>
     simp only [if_true] at hz3
     subst hz3
     simp only [Option.map_some] at hz2
     subst hz2
     simp only [Option.map_some] at ho
     subst ho
     repeat' first | (refine aopsR_end (hK _ _ ?_); clear hK K) | (refine aopsR_csU rfl rfl ?_; (first | refine TreR.box rfl rfl rfl fun pv => ?_ | refine TreR.call ?_); (try simp [hk])) | (refine aopsR_go rfl rfl ?_; simp [hk]; (try (refine J2 ?_ ?_ <;> intro hq <;> try simp [hk] at hq))) | (refine wpcallP_mut (L2 := (xT xp av1 :: vT ν2 lv1 av1 :: scS S)) ?_ ?_ (hun pv) ?_; (focus (solve | exact mem_call xp av1 ν2 lv1 S G2 ⟨pv, 4, nilP, p1, po⟩)); (focus (solve | repeat' constructor)); rintro _ _ ⟨G3, rfl, rfl, u1, u2⟩; (try (simp [hk])); (try (refine J2 ?_ ?_ <;> intro hq <;> try simp [hk] at hq))) | (refine TJ.ret ?_; (repeat' first | refine inBlockJ_ret ?_ | refine thenJ_ret ?_ | refine roundJ_ret ?_); refine DoneJ.tup (L' := memI xp av1 ν2 lv1 S G3) (M := []) (Or.inr rfl) (by simp [Try.results35]; rfl) rfl (by simpa using mem_back xp av1 ν2 lv1 S G3) (⟨po, av1, ν2, lv1, G3, rfl, rfl, rfl, u1, hge.trans (hge2.trans ((Ge.sup fun x hx => by simp [hx]).trans u2)), hv2, .v hvo⟩)) | refine TJ.rdR1 (id := 31) mixed (fun _ => false) [] [9, 10] [] (by kernel_rfl) (by kernel_rfl) fun K hK => ?_
   ·-- a sum
    have n10 : ¬ e.kind = 10 := by omega
    have n6 : ¬ e.kind = 6 := by omega
    have n78 : e.kind = 7 \/ e.kind = 8 := by omega
    rw [if_neg n10, if_neg n6, if_pos n78] at hrn2
    cases hz : uniQ k B1 x (.b 2) with
    | none => rw [hz] at hrn2; cases hrn2
    | some zz =>
     rw [hz] at hrn2
     obtain ⟨B', qq, hu, hz3⟩ := uniQ_some hz
     have hun1 : ∀ pf, FCalls Try.prog 46 [.c (.d (.raw p0)), .c (.d (.raw pf))] (gS (⟨pf, 2, nilP, nilP, nilP⟩ :: G1)) (RU (⟨pf, 2, nilP, nilP, nilP⟩ :: G1) ν1 B' qq) := fun pf => by
      have hs : Ge G1 ν1 (⟨pf, 2, nilP, nilP, nilP⟩ :: G1) ν1 := Ge.sup fun x hx => by simp [hx]
      exact unify_ok ν1 k _ B1 p0 pf x (.b 2) B' qq (hG1.sup fun x hx => by simp [hx]) kdB kx (.inl rfl) (rp0.ge hs) (.b (by simp) (by decide)) hu
     have kdB' := uni_kd kdB kx (show kdI (.b 2) from .inl rfl) hu
     clear hz hu
     cases qq with
     | false =>
      simp only [if_neg (by decide : ¬ (false = true))] at hz3
      subst hz3
      obtain rfl := Option.some.inj hrn2
      simp only [Option.map_none] at ho
      subst ho
      repeat' first | (refine aopsJ_tre (by first | exact True.intro | (simp; done)) (TreS.box rfl rfl rfl fun pv => ?_); (try simp)) | (refine aopsJ_end (hK _ _ ?_); clear hK K) | ((first | refine aopsJ_go ?_ | (refine wpcallJ_mut (L2 := (xT xp av1 :: vT ν1 lv1 av1 :: scS S)) ?_ ?_ (hun1 pv) ?_; (focus (solve | exact mem_call xp av1 ν1 lv1 S G1 ⟨pv, 2, nilP, nilP, nilP⟩)); (focus (solve | repeat' constructor)); rintro _ _ ⟨G3, rfl, rfl, u1, u2⟩)); simp [hk]; (try (refine J2 ?_ ?_ <;> intro hq <;> try simp [hk] at hq))) | (refine TJ.ret ?_; (repeat' first | refine inBlockJ_ret ?_ | refine thenJ_ret ?_ | refine roundJ_ret ?_); refine DoneJ.tup (L' := []) (M := _) (Or.inr rfl) (by simp [Try.results35]; rfl) rfl (by exact List.Perm.refl _) (.inr ⟨_, rfl⟩)) | refine TJ.rs (fun _ => false) fun K hK => ?_ | refine TJ.rs1 (fun _ => false) fun K hK => ?_ | refine TJ.cond rfl (fun hcnd => ?_) (fun hcnd => absurd hcnd (by decide)) | refine TJ.cond rfl (fun hcnd => absurd hcnd (by decide)) (fun hcnd => ?_) | refine TJ.seq ?_ | refine TJ.skip ?_
     | true =>
      simp only [if_true] at hz3
      subst hz3
      simp only at hrn2
      obtain ⟨z2, hz4, hz5⟩ := Option.map_eq_some_iff.1 hrn2
      obtain ⟨B2, q2, hu2, hz6⟩ := uniQ_some hz4
      have hun2 : ∀ G3 pf, GR G3 ν1 B' -> Ge G1 ν1 G3 ν1 -> FCalls Try.prog 46 [.c (.d (.raw p1)), .c (.d (.raw pf))] (gS (⟨pf, 2, nilP, nilP, nilP⟩ :: G3)) (RU (⟨pf, 2, nilP, nilP, nilP⟩ :: G3) ν1 B2 q2) := fun G3 pf g1 g2 => by
       have hs : Ge G3 ν1 (⟨pf, 2, nilP, nilP, nilP⟩ :: G3) ν1 := Ge.sup fun x hx => by simp [hx]
       exact unify_ok ν1 k _ B' p1 pf y (.b 2) B2 q2 (g1.sup fun x hx => by simp [hx]) kdB' ky (.inl rfl) (rp1.ge (g2.trans hs)) (.b (by simp) (by decide)) hu2
      clear hu2 hz4 hrn2
      cases q2 with
      | false =>
       simp only [if_neg (by decide : ¬ (false = true))] at hz6
       subst hz6
       simp only [Option.map_none] at hz5
       subst hz5
       simp only [Option.map_none] at ho
       subst ho
       repeat' first | (refine aopsJ_tre (by first | exact True.intro | (simp; done)) (TreS.box rfl rfl rfl fun pv => ?_); (try simp)) | (refine aopsJ_end (hK _ _ ?_); clear hK K) | ((first | refine aopsJ_go ?_ | (refine wpcallJ_mut (L2 := (xT xp av1 :: vT ν1 lv1 av1 :: scS S)) ?_ ?_ (hun1 pv) ?_; (focus (solve | exact mem_call xp av1 ν1 lv1 S G1 ⟨pv, 2, nilP, nilP, nilP⟩)); (focus (solve | repeat' constructor)); rintro _ _ ⟨G3, rfl, rfl, u1, u2⟩) | (refine wpcallJ_mut (L2 := (xT xp av1 :: vT ν1 lv1 av1 :: scS S)) ?_ ?_ (hun2 _ pv u1 ((Ge.sup fun x hx => by simp [hx]).trans u2)) ?_; (focus (solve | exact List.Perm.refl _)); (focus (solve | repeat' constructor)); rintro _ _ ⟨G4, rfl, rfl, u3, u4⟩)); simp [hk]; (try (refine J2 ?_ ?_ <;> intro hq <;> try simp [hk] at hq))) | (refine TJ.ret ?_; (repeat' first | refine inBlockJ_ret ?_ | refine thenJ_ret ?_ | refine roundJ_ret ?_); refine DoneJ.tup (L' := []) (M := _) (Or.inr rfl) (by simp [Try.results35]; rfl) rfl (by exact List.Perm.refl _) (.inr ⟨_, rfl⟩)) | refine TJ.rs (fun _ => false) fun K hK => ?_ | refine TJ.rs1 (fun _ => false) fun K hK => ?_ | refine TJ.cond rfl (fun hcnd => ?_) (fun hcnd => absurd hcnd (by decide)) | refine TJ.cond rfl (fun hcnd => absurd hcnd (by decide)) (fun hcnd => ?_) | refine TJ.seq ?_ | refine TJ.skip ?_
      | true =>
       simp only [if_true] at hz6
       subst hz6
       simp only [Option.map_some, hk] at hz5
       subst hz5
       simp only [Option.map_some] at ho
       subst ho
       repeat' first | (refine aopsJ_tre (by first | exact True.intro | (simp; done)) (TreS.box rfl rfl rfl fun pv => ?_); (try simp)) | (refine aopsJ_end (hK _ _ ?_); clear hK K) | ((first | refine aopsJ_go ?_ | (refine wpcallJ_mut (L2 := (xT xp av1 :: vT ν1 lv1 av1 :: scS S)) ?_ ?_ (hun1 pv) ?_; (focus (solve | exact mem_call xp av1 ν1 lv1 S G1 ⟨pv, 2, nilP, nilP, nilP⟩)); (focus (solve | repeat' constructor)); rintro _ _ ⟨G3, rfl, rfl, u1, u2⟩) | (refine wpcallJ_mut (L2 := (xT xp av1 :: vT ν1 lv1 av1 :: scS S)) ?_ ?_ (hun2 _ pv u1 ((Ge.sup fun x hx => by simp [hx]).trans u2)) ?_; (focus (solve | exact List.Perm.refl _)); (focus (solve | repeat' constructor)); rintro _ _ ⟨G4, rfl, rfl, u3, u4⟩)); simp [hk]; (try (refine J2 ?_ ?_ <;> intro hq <;> try simp [hk] at hq))) | (refine TJ.ret ?_; (repeat' first | refine inBlockJ_ret ?_ | refine thenJ_ret ?_ | refine roundJ_ret ?_); refine DoneJ.tup (L' := memI xp av1 ν1 lv1 S G4) (M := []) (Or.inr rfl) (by simp [Try.results35]; rfl) rfl (by simpa using mem_back xp av1 ν1 lv1 S G4) (⟨pn, av1, ν1, lv1, G4, rfl, rfl, rfl, u3, hge.trans (((Ge.sup fun x hx => by simp [hx]).trans u2).trans ((Ge.sup fun x hx => by simp [hx]).trans u4)), hv1, by simpa using r2.ge (((Ge.sup fun x hx => by simp [hx]).trans u2).trans ((Ge.sup fun x hx => by simp [hx]).trans u4))⟩)) | refine TJ.rs (fun _ => false) fun K hK => ?_ | refine TJ.rs1 (fun _ => false) fun K hK => ?_ | refine TJ.cond rfl (fun hcnd => ?_) (fun hcnd => absurd hcnd (by decide)) | refine TJ.cond rfl (fun hcnd => absurd hcnd (by decide)) (fun hcnd => ?_) | refine TJ.seq ?_ | refine TJ.skip ?_
   ·-- a comparison
    have n10 : ¬ e.kind = 10 := by omega
    have n6 : ¬ e.kind = 6 := by omega
    have n78 : e.kind = 7 \/ e.kind = 8 := by omega
    rw [if_neg n10, if_neg n6, if_pos n78] at hrn2
    cases hz : uniQ k B1 x (.b 2) with
    | none => rw [hz] at hrn2; cases hrn2
    | some zz =>
     rw [hz] at hrn2
     obtain ⟨B', qq, hu, hz3⟩ := uniQ_some hz
     have hun1 : ∀ pf, FCalls Try.prog 46 [.c (.d (.raw p0)), .c (.d (.raw pf))] (gS (⟨pf, 2, nilP, nilP, nilP⟩ :: G1)) (RU (⟨pf, 2, nilP, nilP, nilP⟩ :: G1) ν1 B' qq) := fun pf => by
      have hs : Ge G1 ν1 (⟨pf, 2, nilP, nilP, nilP⟩ :: G1) ν1 := Ge.sup fun x hx => by simp [hx]
      exact unify_ok ν1 k _ B1 p0 pf x (.b 2) B' qq (hG1.sup fun x hx => by simp [hx]) kdB kx (.inl rfl) (rp0.ge hs) (.b (by simp) (by decide)) hu
     have kdB' := uni_kd kdB kx (show kdI (.b 2) from .inl rfl) hu
     clear hz hu
     cases qq with
     | false =>
      simp only [if_neg (by decide : ¬ (false = true))] at hz3
      subst hz3
      obtain rfl := Option.some.inj hrn2
      simp only [Option.map_none] at ho
      subst ho
      repeat' first | (refine aopsJ_tre (by first | exact True.intro | (simp; done)) (TreS.box rfl rfl rfl fun pv => ?_); (try simp)) | (refine aopsJ_end (hK _ _ ?_); clear hK K) | ((first | refine aopsJ_go ?_ | (refine wpcallJ_mut (L2 := (xT xp av1 :: vT ν1 lv1 av1 :: scS S)) ?_ ?_ (hun1 pv) ?_; (focus (solve | exact mem_call xp av1 ν1 lv1 S G1 ⟨pv, 2, nilP, nilP, nilP⟩)); (focus (solve | repeat' constructor)); rintro _ _ ⟨G3, rfl, rfl, u1, u2⟩)); simp [hk]; (try (refine J2 ?_ ?_ <;> intro hq <;> try simp [hk] at hq))) | (refine TJ.ret ?_; (repeat' first | refine inBlockJ_ret ?_ | refine thenJ_ret ?_ | refine roundJ_ret ?_); refine DoneJ.tup (L' := []) (M := _) (Or.inr rfl) (by simp [Try.results35]; rfl) rfl (by exact List.Perm.refl _) (.inr ⟨_, rfl⟩)) | refine TJ.rs (fun _ => false) fun K hK => ?_ | refine TJ.rs1 (fun _ => false) fun K hK => ?_ | refine TJ.cond rfl (fun hcnd => ?_) (fun hcnd => absurd hcnd (by decide)) | refine TJ.cond rfl (fun hcnd => absurd hcnd (by decide)) (fun hcnd => ?_) | refine TJ.seq ?_
     | true =>
      simp only [if_true] at hz3
      subst hz3
      simp only at hrn2
      obtain ⟨z2, hz4, hz5⟩ := Option.map_eq_some_iff.1 hrn2
      obtain ⟨B2, q2, hu2, hz6⟩ := uniQ_some hz4
      have hun2 : ∀ G3 pf, GR G3 ν1 B' -> Ge G1 ν1 G3 ν1 -> FCalls Try.prog 46 [.c (.d (.raw p1)), .c (.d (.raw pf))] (gS (⟨pf, 2, nilP, nilP, nilP⟩ :: G3)) (RU (⟨pf, 2, nilP, nilP, nilP⟩ :: G3) ν1 B2 q2) := fun G3 pf g1 g2 => by
       have hs : Ge G3 ν1 (⟨pf, 2, nilP, nilP, nilP⟩ :: G3) ν1 := Ge.sup fun x hx => by simp [hx]
       exact unify_ok ν1 k _ B' p1 pf y (.b 2) B2 q2 (g1.sup fun x hx => by simp [hx]) kdB' ky (.inl rfl) (rp1.ge (g2.trans hs)) (.b (by simp) (by decide)) hu2
      clear hu2 hz4 hrn2
      cases q2 with
      | false =>
       simp only [if_neg (by decide : ¬ (false = true))] at hz6
       subst hz6
       simp only [Option.map_none] at hz5
       subst hz5
       simp only [Option.map_none] at ho
       subst ho
       repeat' first | (refine aopsJ_tre (by first | exact True.intro | (simp; done)) (TreS.box rfl rfl rfl fun pv => ?_); (try simp)) | (refine aopsJ_end (hK _ _ ?_); clear hK K) | ((first | refine aopsJ_go ?_ | (refine wpcallJ_mut (L2 := (xT xp av1 :: vT ν1 lv1 av1 :: scS S)) ?_ ?_ (hun1 pv) ?_; (focus (solve | exact mem_call xp av1 ν1 lv1 S G1 ⟨pv, 2, nilP, nilP, nilP⟩)); (focus (solve | repeat' constructor)); rintro _ _ ⟨G3, rfl, rfl, u1, u2⟩) | (refine wpcallJ_mut (L2 := (xT xp av1 :: vT ν1 lv1 av1 :: scS S)) ?_ ?_ (hun2 _ pv u1 ((Ge.sup fun x hx => by simp [hx]).trans u2)) ?_; (focus (solve | exact List.Perm.refl _)); (focus (solve | repeat' constructor)); rintro _ _ ⟨G4, rfl, rfl, u3, u4⟩)); simp [hk]; (try (refine J2 ?_ ?_ <;> intro hq <;> try simp [hk] at hq))) | (refine TJ.ret ?_; (repeat' first | refine inBlockJ_ret ?_ | refine thenJ_ret ?_ | refine roundJ_ret ?_); refine DoneJ.tup (L' := []) (M := _) (Or.inr rfl) (by simp [Try.results35]; rfl) rfl (by exact List.Perm.refl _) (.inr ⟨_, rfl⟩)) | refine TJ.rs (fun _ => false) fun K hK => ?_ | refine TJ.rs1 (fun _ => false) fun K hK => ?_ | refine TJ.cond rfl (fun hcnd => ?_) (fun hcnd => absurd hcnd (by decide)) | refine TJ.cond rfl (fun hcnd => absurd hcnd (by decide)) (fun hcnd => ?_) | refine TJ.seq ?_
      | true =>
       simp only [if_true] at hz6
       subst hz6
       simp only [Option.map_some, hk] at hz5
       subst hz5
       simp only [Option.map_some] at ho
       subst ho
       repeat' first | (refine aopsJ_tre (by first | exact True.intro | (simp; done)) (TreS.box rfl rfl rfl fun pv => ?_); (try simp)) | (refine aopsJ_end (hK _ _ ?_); clear hK K) | ((first | refine aopsJ_go ?_ | (refine wpcallJ_mut (L2 := (xT xp av1 :: vT ν1 lv1 av1 :: scS S)) ?_ ?_ (hun1 pv) ?_; (focus (solve | exact mem_call xp av1 ν1 lv1 S G1 ⟨pv, 2, nilP, nilP, nilP⟩)); (focus (solve | repeat' constructor)); rintro _ _ ⟨G3, rfl, rfl, u1, u2⟩) | (refine wpcallJ_mut (L2 := (xT xp av1 :: vT ν1 lv1 av1 :: scS S)) ?_ ?_ (hun2 _ pv u1 ((Ge.sup fun x hx => by simp [hx]).trans u2)) ?_; (focus (solve | exact List.Perm.refl _)); (focus (solve | repeat' constructor)); rintro _ _ ⟨G4, rfl, rfl, u3, u4⟩)); simp [hk]; (try (refine J2 ?_ ?_ <;> intro hq <;> try simp [hk] at hq))) | (refine TJ.ret ?_; (repeat' first | refine inBlockJ_ret ?_ | refine thenJ_ret ?_ | refine roundJ_ret ?_); refine DoneJ.tup (L' := memI xp av1 ν1 lv1 S G4) (M := []) (Or.inr rfl) (by simp [Try.results35]; rfl) rfl (by simpa using mem_back xp av1 ν1 lv1 S G4) (⟨pt, av1, ν1, lv1, G4, rfl, rfl, rfl, u3, hge.trans (((Ge.sup fun x hx => by simp [hx]).trans u2).trans ((Ge.sup fun x hx => by simp [hx]).trans u4)), hv1, by simpa using r3.ge (((Ge.sup fun x hx => by simp [hx]).trans u2).trans ((Ge.sup fun x hx => by simp [hx]).trans u4))⟩)) | refine TJ.rs (fun _ => false) fun K hK => ?_ | refine TJ.rs1 (fun _ => false) fun K hK => ?_ | refine TJ.cond rfl (fun hcnd => ?_) (fun hcnd => absurd hcnd (by decide)) | refine TJ.cond rfl (fun hcnd => absurd hcnd (by decide)) (fun hcnd => ?_) | refine TJ.seq ?_
   ·rw [if_pos hk] at hrn2
    obtain rfl := Option.some.inj hrn2
    simp only [Option.map_some] at ho
    subst ho
    repeat' first | (refine aopsR_end (hK _ _ ?_); clear hK K) | (refine aopsR_csU rfl rfl ?_; (first | refine TreR.box rfl rfl rfl fun pv => ?_ | refine TreR.call ?_); (try simp [hk])) | (refine aopsJ_end (hK _ _ ?_); clear hK K) | ((first | refine aopsR_go rfl rfl ?_ | refine aopsJ_go ?_); simp [hk]; (try (refine J2 ?_ ?_ <;> intro hq <;> try simp [hk] at hq))) | (refine TJ.ret ?_; (repeat' first | refine inBlockJ_ret ?_ | refine thenJ_ret ?_ | refine roundJ_ret ?_); refine DoneJ.tup (L' := memI xp av1 ν1 lv1 S (⟨pv, 5, nilP, p0, p1⟩ :: G1)) (M := []) (Or.inr rfl) (by simp [Try.results35]; rfl) rfl (by simpa using mem_add xp av1 ν1 lv1 S G1 ⟨pv, 5, nilP, p0, p1⟩) (⟨pv, av1, ν1, lv1, _, rfl, rfl, rfl, hG1.sup fun x hx => by simp [hx], hge.trans (Ge.sup fun x hx => by simp [hx]), hv1, .p (by simp) (by decide) (rp0.ge (Ge.sup fun x hx => by simp [hx])) (rp1.ge (Ge.sup fun x hx => by simp [hx]))⟩)) | refine TJ.rdR (id := 41) mixed (fun _ => false) [] [7] [] (by kernel_rfl) (by kernel_rfl) fun K hK => ?_ | refine TJ.rs (fun _ => false) fun K hK => ?_ | refine TJ.rs1 (fun _ => false) fun K hK => ?_ | refine TJ.cond rfl (fun hcnd => ?_) (fun hcnd => absurd hcnd (by decide)) | refine TJ.cond rfl (fun hcnd => absurd hcnd (by decide)) (fun hcnd => ?_) | refine TJ.seq ?_
  ·-- a choice
   obtain ⟨x, y, z, rfl⟩ : ∃ x y z, us = [x, y, z] := lenI3 (by omega)
   cases hrs2 with
   | @cons p0 _ _ _ rp0 hrs3 =>
   cases hrs3 with
   | @cons p1 _ _ _ rp1 hrs4 =>
   cases hrs4 with
   | @cons p2 _ _ _ rp2 hrs5 =>
   cases hrs5
   have kx := hkd x (by simp)
   have ky := hkd y (by simp)
   have kz := hkd z (by simp)
   obtain rfl : j = 3 := by omega
   simp only [infN, if_neg hn2, if_neg hn34, if_pos hk] at hrn2
   cases hz : uniQ k B1 x (.b 3) with
   | none => rw [hz] at hrn2; cases hrn2
   | some zz =>
    rw [hz] at hrn2
    obtain ⟨B', qq, hu, hz3⟩ := uniQ_some hz
    have hun1 := unify_ok ν1 k G1 B1 p0 pt x (.b 3) B' qq hG1 kdB kx (.inr rfl) rp0 r3 hu
    have kdB' := uni_kd kdB kx (show kdI (.b 3) from .inr rfl) hu
    clear hz hu
    cases qq with
    | false =>
     simp only [if_neg (by decide : ¬ (false = true))] at hz3
     subst hz3
     obtain rfl := Option.some.inj hrn2
     simp only [Option.map_none] at ho
     subst ho
     repeat' first | (refine aopsR_end (hK _ _ ?_); clear hK K) | (refine aopsR_csU rfl rfl ?_; (first | refine TreR.box rfl rfl rfl fun pv => ?_ | refine TreR.call ?_); (try simp [hk])) | (refine aopsR_csG rfl ?_; simp; (first | (refine id (α := OpsR _ _ _ _ _ _ _ _ _ _ _) ?_) | (first | (refine TreR.box rfl rfl rfl fun pv => ?_; (try (simp [hk]))) | (refine TreR.call ?_; (try (simp [hk])))))) | (refine aopsJ_end (hK _ _ ?_); clear hK K) | ((first | refine aopsR_go rfl rfl ?_ | refine aopsJ_go ?_); simp [hk]; (try (refine J2 ?_ ?_ <;> intro hq <;> try simp [hk] at hq))) | (refine wpcallP_mut (L2 := (xT xp av1 :: vT ν1 lv1 av1 :: scS S)) ?_ ?_ (hun1) ?_; (focus (solve | exact mem_call0 xp av1 ν1 lv1 S G1)); (focus (solve | repeat' constructor)); rintro _ _ ⟨G3, rfl, rfl, u1, u2⟩; (try (simp [hk])); (try (refine J2 ?_ ?_ <;> intro hq <;> try simp [hk] at hq))) | (refine TJ.ret ?_; (repeat' first | refine inBlockJ_ret ?_ | refine thenJ_ret ?_ | refine roundJ_ret ?_); refine DoneJ.tup (L' := []) (M := _) (Or.inr rfl) (by simp [Try.results35]; rfl) rfl (by exact List.Perm.refl _) (.inr ⟨_, rfl⟩)) | refine TJ.rdR (id := 39) mixed (fun _ => false) [] [7, 15] [] (by kernel_rfl) (by kernel_rfl) fun K hK => ?_ | refine TJ.rs (fun _ => false) fun K hK => ?_ | refine TJ.rs1 (fun _ => false) fun K hK => ?_ | refine TJ.cond rfl (fun hcnd => ?_) (fun hcnd => absurd hcnd (by decide)) | refine TJ.cond rfl (fun hcnd => absurd hcnd (by decide)) (fun hcnd => ?_) | refine TJ.seq ?_
    | true =>
     simp only [if_true] at hz3
     subst hz3
     simp only at hrn2
     obtain ⟨z2, hz4, hz5⟩ := Option.map_eq_some_iff.1 hrn2
     obtain ⟨B2, q2, hu2, hz6⟩ := uniQ_some hz4
     have hun2 : ∀ G3, GR G3 ν1 B' -> Ge G1 ν1 G3 ν1 -> FCalls Try.prog 46 [.c (.d (.raw p1)), .c (.d (.raw p2))] (gS G3) (RU G3 ν1 B2 q2) := fun G3 g1 g2 =>
      unify_ok ν1 k _ B' p1 p2 y z B2 q2 g1 kdB' ky kz (rp1.ge g2) (rp2.ge g2) hu2
     clear hu2 hz4 hrn2
     cases q2 with
     | false =>
      simp only [if_neg (by decide : ¬ (false = true))] at hz6
      subst hz6
      simp only [Option.map_none] at hz5
      subst hz5
      simp only [Option.map_none] at ho
      subst ho
      repeat' first | (refine aopsR_end (hK _ _ ?_); clear hK K) | (refine aopsR_csU rfl rfl ?_; (first | refine TreR.box rfl rfl rfl fun pv => ?_ | refine TreR.call ?_); (try simp [hk])) | (refine aopsR_csG rfl ?_; simp; (first | (refine id (α := OpsR _ _ _ _ _ _ _ _ _ _ _) ?_) | (first | (refine TreR.box rfl rfl rfl fun pv => ?_; (try (simp [hk]))) | (refine TreR.call ?_; (try (simp [hk])))))) | (refine aopsJ_end (hK _ _ ?_); clear hK K) | ((first | refine aopsR_go rfl rfl ?_ | refine aopsJ_go ?_); simp [hk]; (try (refine J2 ?_ ?_ <;> intro hq <;> try simp [hk] at hq))) | (refine wpcallP_mut (L2 := (xT xp av1 :: vT ν1 lv1 av1 :: scS S)) ?_ ?_ (hun1) ?_; (focus (solve | exact mem_call0 xp av1 ν1 lv1 S G1)); (focus (solve | repeat' constructor)); rintro _ _ ⟨G3, rfl, rfl, u1, u2⟩; (try (simp [hk])); (try (refine J2 ?_ ?_ <;> intro hq <;> try simp [hk] at hq))) | (refine wpcallP_mut (L2 := (xT xp av1 :: vT ν1 lv1 av1 :: scS S)) ?_ ?_ (hun2 _ u1 u2) ?_; (focus (solve | exact List.Perm.refl _)); (focus (solve | repeat' constructor)); rintro _ _ ⟨G4, rfl, rfl, u3, u4⟩; (try (simp [hk])); (try (refine J2 ?_ ?_ <;> intro hq <;> try simp [hk] at hq))) | (refine TJ.ret ?_; (repeat' first | refine inBlockJ_ret ?_ | refine thenJ_ret ?_ | refine roundJ_ret ?_); refine DoneJ.tup (L' := []) (M := _) (Or.inr rfl) (by simp [Try.results35]; rfl) rfl (by exact List.Perm.refl _) (.inr ⟨_, rfl⟩)) | refine TJ.rdR (id := 39) mixed (fun _ => false) [] [7, 15] [] (by kernel_rfl) (by kernel_rfl) fun K hK => ?_ | refine TJ.rs (fun _ => false) fun K hK => ?_ | refine TJ.rs1 (fun _ => false) fun K hK => ?_ | refine TJ.cond rfl (fun hcnd => ?_) (fun hcnd => absurd hcnd (by decide)) | refine TJ.cond rfl (fun hcnd => absurd hcnd (by decide)) (fun hcnd => ?_) | refine TJ.seq ?_
     | true =>
      simp only [if_true] at hz6
      subst hz6
      simp only [Option.map_some] at hz5
      subst hz5
      simp only [Option.map_some] at ho
      subst ho
      repeat' first | (refine aopsR_end (hK _ _ ?_); clear hK K) | (refine aopsR_csU rfl rfl ?_; (first | refine TreR.box rfl rfl rfl fun pv => ?_ | refine TreR.call ?_); (try simp [hk])) | (refine aopsR_csG rfl ?_; simp; (first | (refine id (α := OpsR _ _ _ _ _ _ _ _ _ _ _) ?_) | (first | (refine TreR.box rfl rfl rfl fun pv => ?_; (try (simp [hk]))) | (refine TreR.call ?_; (try (simp [hk])))))) | (refine aopsJ_end (hK _ _ ?_); clear hK K) | ((first | refine aopsR_go rfl rfl ?_ | refine aopsJ_go ?_); simp [hk]; (try (refine J2 ?_ ?_ <;> intro hq <;> try simp [hk] at hq))) | (refine wpcallP_mut (L2 := (xT xp av1 :: vT ν1 lv1 av1 :: scS S)) ?_ ?_ (hun1) ?_; (focus (solve | exact mem_call0 xp av1 ν1 lv1 S G1)); (focus (solve | repeat' constructor)); rintro _ _ ⟨G3, rfl, rfl, u1, u2⟩; (try (simp [hk])); (try (refine J2 ?_ ?_ <;> intro hq <;> try simp [hk] at hq))) | (refine wpcallP_mut (L2 := (xT xp av1 :: vT ν1 lv1 av1 :: scS S)) ?_ ?_ (hun2 _ u1 u2) ?_; (focus (solve | exact List.Perm.refl _)); (focus (solve | repeat' constructor)); rintro _ _ ⟨G4, rfl, rfl, u3, u4⟩; (try (simp [hk])); (try (refine J2 ?_ ?_ <;> intro hq <;> try simp [hk] at hq))) | (refine TJ.ret ?_; (repeat' first | refine inBlockJ_ret ?_ | refine thenJ_ret ?_ | refine roundJ_ret ?_); refine DoneJ.tup (L' := memI xp av1 ν1 lv1 S G4) (M := []) (Or.inr rfl) (by simp [Try.results35]; rfl) rfl (by simpa using mem_back xp av1 ν1 lv1 S G4) (⟨p1, av1, ν1, lv1, G4, rfl, rfl, rfl, u3, hge.trans (u2.trans u4), hv1, rp1.ge (u2.trans u4)⟩)) | refine TJ.rdR (id := 39) mixed (fun _ => false) [] [7, 15] [] (by kernel_rfl) (by kernel_rfl) fun K hK => ?_ | refine TJ.rs (fun _ => false) fun K hK => ?_ | refine TJ.rs1 (fun _ => false) fun K hK => ?_ | refine TJ.cond rfl (fun hcnd => ?_) (fun hcnd => absurd hcnd (by decide)) | refine TJ.cond rfl (fun hcnd => absurd hcnd (by decide)) (fun hcnd => ?_) | refine TJ.seq ?_
end Go.Proofs.Ytloolmchekcmeaa

namespace Go.Proofs.Ytloolmchekcmeaa
open Go Go.Av
attribute [local irreducible] T ACalls TX EX LX Draws Some_ ACallsX eTy eTm MTy.kind MTy.kids MTm.kind MTm.name MTm.num MTm.ty MTm.fr MTm.label MTm.kids
attribute [local simp] eTy_def eTm_def
set_option maxHeartbeats 16000000
set_option maxRecDepth 8000
attribute [local irreducible] lastUp lastIx

theorem inferT_ok (k : Nat) {e : MTm} (he : Ba e) : InfT k e := by
 induction he with
 | var c => exact term_var k c
 | num z => exact term_base k _ 2 (by simp) (.inl ⟨by simp, rfl⟩)
 | tru => exact term_base k _ 3 (by simp) (.inr ⟨.inl (by simp), rfl⟩)
 | fls => exact term_base k _ 3 (by simp) (.inr ⟨.inr (by simp), rfl⟩)
 | @lam c t b hb ih => exact inferT_lam k c t b ih
 | @n2 kd a b hk ha hb iha ihb =>
  refine inferT_node k _ (by simp; omega) (fun u hu => by simp at hu; rcases hu with rfl | rfl <;> assumption) (fun u hu => by simp at hu; rcases hu with rfl | rfl <;> assumption) (by simp) (.inr (.inl ⟨by simpa using hk, by simp⟩)) ⟨by simp [nodesM, nodesS]; omega, by rw [typesM_n2 hk]; simp [typesS]⟩
 | @ite a b c ha hb hc iha ihb ihc =>
  refine inferT_node k _ (by simp) (fun u hu => by simp at hu; rcases hu with rfl | rfl | rfl <;> assumption) (fun u hu => by simp at hu; rcases hu with rfl | rfl | rfl <;> assumption) (by simp) (.inr (.inr ⟨by simp, by simp⟩)) ⟨by simp [nodesM, nodesS]; omega, by rw [typesM_if]; simp [typesS]⟩
 | @n1 kd a hk ha ih =>
  refine inferT_node k _ (by simp; omega) (fun u hu => by simp at hu; subst hu; assumption) (fun u hu => by simp at hu; subst hu; assumption) (by simp) (.inl ⟨by simpa using hk, by simp⟩) ⟨by simp [nodesM, nodesS]; omega, by rw [typesM_n1 hk]; simp [typesS]⟩

def RW0 (o : Option (List IT × List IT × IT)) (r : AV) (L' : Ts) : Prop := match o with
 | none => ∃ xp, r = .tup [.c (.d (.raw xp)), .c .np, .b false] \/ ∃ v, r = .tup [.c (.d (.raw xp)), .c (.d (.raw v)), .b false]
 | some (B', ls', t) => ∃ xp p av ν lv G, r = .tup [.c (.d (.raw xp)), .c (.d (.raw p)), .b true] /\ L' = memI xp av ν lv [] G /\ ls' = lv.map IT.v /\ GR G ν B' /\ HasV ν lv /\ Rn G ν p t
theorem stI_nil (e : MTm) (h1 : nodesM e <= 30) (h2 : (typesM e).length <= 30) : StI [] [] [] [] [] nilP [] [] (nodesM e + 0) ((typesM e).length + 0) :=
 ⟨.nil, fun n h => (by cases h), .nil, fun t h => (by cases h), condI_nil e h1 h2⟩

theorem inferred_ok {e : MTm} (hv : termValidM e = true) (hn : nTm e <= 1073741824) (k : Nat) (o : Option (List IT × List IT × IT)) (hi : inf k (mapM bareG e) [] [] [] [] = some o) : FCalls Try.prog 19 [aTm e] [] (RW0 o) := by
 obtain ⟨hb, _, hnn, htt⟩ := bare_small hv
 have hq : fitM e := by
  have h := hv
  simp only [termValidM, Bool.and_eq_true] at h
  exact ⟨14, 12, h.1⟩
 have kb := bare_ok e hq (by omega)
 have hT : ∀ xp av, FCalls Try.prog 35 [.c (.d (.raw xp)), aTm (mapM bareG e), .c .np] (memI xp av [] [] [] []) (RI xp [] [] [] o) := fun xp av => by
  refine (inferT_ok k hb xp av nilP [] [] [] [] [] [] [] 0 0 o (stI_nil _ hnn htt) hi).args rfl fun i x' x h1 h2 g w u h3 => ?_
  match i, h1, h2 with
  | 0, h1, h2 => simp at h1 h2; subst h1; subst h2; exact h3
  | 1, h1, h2 => simp at h1 h2; subst h1; subst h2; exact h3
  | 2, h1, h2 => simp at h1 h2; subst h1; subst h2; exact rep_np h3
  | n + 3, h1, h2 => simp at h1
 generalize mapM bareG e = b at *
 clear hi hnn htt hq hb
 refine FCalls.of_body Try.func19 (by kernel_rfl) rfl (by kernel_rfl) (by simp [Try.ntmps19]) ?_
 rw [Try.ntmps19]
 repeat' first | (refine aopsJ_end (hK _ _ ?_); clear hK K) | ((first | (refine aopsJ_trU rfl ?_; refine TreR.box rfl rfl rfl fun pv => ?_) | refine aopsJ_go ?_); simp; (try (refine J2 ?_ ?_ <;> intro hq <;> (try simp at hq) <;> try (have : True := hq; clear this hq)))) | refine TJ.rs (id := 0) (fun _ => false) fun K hK => ?_ | refine TJ.rs (id := 1) (fun _ => false) fun K hK => ?_ | refine TJ.seq ?_
 refine TJ.nils (Ln := [vT [] [] (.slice none 0 0)]) (fun p hp => by simp at hp; subst hp; exact ⟨_, _, rfl⟩) ?_
 refine TJ.less (L' := memI pv (.slice none 0 0) [] [] [] []) (M := []) (List.Perm.swap _ _ _) ?_
 have hT := hT pv (.slice none 0 0)
 cases o with
 | none =>
  repeat' first | (refine aopsJ_end (hK _ _ ?_); clear hK K) | ((first | refine aopsJ_go ?_ | refine wpcallJ_pure rfl (kb) ?_ | (refine wpcallJ_mut (L2 := []) ?_ ?_ (hT) ?_; (focus (solve | simp)); (focus (solve | repeat' constructor)); rintro _ _ (rfl | ⟨v, rfl⟩))); simp [eTm_def e]; (try (refine J2 ?_ ?_ <;> intro hq <;> (try simp [eTm_def e] at hq) <;> try (have : True := hq; clear this hq)))) | (refine TJ.ret ?_; (repeat' first | refine inBlockJ_ret ?_ | refine thenJ_ret ?_ | refine roundJ_ret ?_); refine DoneJ.tup (L' := []) (M := _) (Or.inr rfl) (by simp [Try.results19]; rfl) rfl (by exact List.Perm.refl _) (⟨_, .inl rfl⟩)) | (refine TJ.ret ?_; (repeat' first | refine inBlockJ_ret ?_ | refine thenJ_ret ?_ | refine roundJ_ret ?_); refine DoneJ.tup (L' := []) (M := _) (Or.inr rfl) (by simp [Try.results19]; rfl) rfl (by exact List.Perm.refl _) (⟨_, .inr ⟨_, rfl⟩⟩)) | refine TJ.rs (fun _ => false) fun K hK => ?_ | refine TJ.rs1 (fun _ => false) fun K hK => ?_
 | some z =>
  obtain ⟨B1, ls1, t1⟩ := z
  repeat' first | (refine aopsJ_end (hK _ _ ?_); clear hK K) | ((first | refine aopsJ_go ?_ | refine wpcallJ_pure rfl (kb) ?_ | (refine wpcallJ_mut (L2 := []) ?_ ?_ (hT) ?_; (focus (solve | simp)); (focus (solve | repeat' constructor)); rintro _ _ ⟨p, av, ν, lv, G, rfl, rfl, hls, g1, g2, g3, g4⟩)); simp [eTm_def e]; (try (refine J2 ?_ ?_ <;> intro hq <;> (try simp [eTm_def e] at hq) <;> try (have : True := hq; clear this hq)))) | (refine TJ.ret ?_; (repeat' first | refine inBlockJ_ret ?_ | refine thenJ_ret ?_ | refine roundJ_ret ?_); refine DoneJ.tup (L' := memI pv av ν lv [] G) (M := []) (Or.inr rfl) (by simp [Try.results19]; rfl) rfl (by simp) (⟨pv, p, av, ν, lv, G, rfl, rfl, hls, g1, g3, g4⟩)) | refine TJ.rs (fun _ => false) fun K hK => ?_ | refine TJ.rs1 (fun _ => false) fun K hK => ?_

theorem mem_text (xp av wp sv : Value) (m : Int) (ν : List (Option Value)) (lv : List Nat) (G : List Nd) : (wT wp sv m :: vT ν [] sv :: memI xp av ν lv [] G).Perm ((wT wp sv m :: vT ν [] sv :: gS G) ++ [xT xp av, vT ν lv av]) :=
 ((List.perm_append_comm (l₁ := [xT xp av, vT ν lv av])).cons _).cons _

theorem GeneralType_tree (e : MTm) (hn : nTm e <= 1073741824) : FCalls Try.prog 7 [aTm e] [] fun r L' => r = .tup [.s ((genM e).getD []), .b (genM e).isSome] := by
 have h1 := TermValid_ok e (by omega)
 rw [genM]
 cases hv : termValidM e with
 | false =>
  rw [hv] at h1
  simp only [Bool.false_eq_true, if_false, Option.getD_none, Option.isSome_none]
  refine FCalls.of_body Try.func7 (by kernel_rfl) rfl (by kernel_rfl) (by simp [Try.ntmps7]) ?_
  rw [Try.ntmps7]
  repeat' first | (refine aopsJ_end (hK _ _ ?_); clear hK K) | ((first | refine aopsJ_go ?_ | refine wpcallJ_pure rfl (h1) ?_); simp [eTm_def e]; (try (refine J2 ?_ ?_ <;> intro hq <;> try simp [eTm_def e] at hq))) | (refine TJ.ret ?_; (repeat' first | refine inBlockJ_ret ?_ | refine thenJ_ret ?_ | refine roundJ_ret ?_); refine DoneJ.tup (L' := []) (M := _) (Or.inr rfl) (by simp [Try.results7]; rfl) rfl (by exact List.Perm.refl _) (rfl)) | refine TJ.rs (fun _ => false) fun K hK => ?_ | refine TJ.cond rfl (fun hcnd => ?_) (fun hcnd => absurd hcnd (by decide)) | refine TJ.seq ?_
 | true =>
  rw [hv] at h1
  simp only [if_true]
  rcases whole_or (bare_small hv).1 with ⟨k, B, ls, t, hw⟩ | ⟨k, hk⟩
  ·obtain ⟨hi, hKB, hKl, hkd, hll, hls, hBl⟩ := hw.ok
   obtain ⟨K, hK⟩ := hw.fuel
   obtain ⟨j, hj⟩ := ex_of_fuel hK hi.sct
   have h3 := inferred_ok hv hn k _ hw.inf
   have ht : ∀ (wp p : Value) (ν : List (Option Value)) (G : List Nd), GR G ν B -> Rn G ν p t -> FCalls Try.prog 20 [.c (.d (.raw wp)), .c (.d (.raw p))] (wT wp (.slice none 0 0) 0 :: vT ν [] (.slice none 0 0) :: gS G) (RW G ν B j t wp [] 0) := fun wp p ν G g1 g2 =>
    text_ok g1 hKB wp j p t (.slice none 0 0) [] 0 g2 hj hkd (fun n h => (by cases h)) (by omega) (by omega) (by simp)
   obtain ⟨X, hX⟩ : ∃ X, X = genB (mapM bareG e) := ⟨_, rfl⟩
   have hX1 : szI B j t <= 30 -> X = some (txI B j t []).1 := fun h => hX.trans (genB_some hw hj h)
   have hX2 : ¬ szI B j t <= 30 -> X = none := fun h => hX.trans (genB_large hw hj h)
   rw [<- hX]
   clear hX hw hi hKl hls hK
   refine FCalls.of_body Try.func7 (by kernel_rfl) rfl (by kernel_rfl) (by simp [Try.ntmps7]) ?_
   rw [Try.ntmps7]
   repeat' first | (refine aopsJ_end (hK _ _ ?_); clear hK K) | ((first | refine aopsJ_go ?_ | refine wpcallJ_pure rfl (h1) ?_ | (refine wpcallJ_new ?_ (h3) ?_; (focus (solve | repeat' constructor)); rintro _ _ ⟨xp, p, av, ν, lv, G, rfl, rfl, hls, g1, g3, g4⟩)); simp [eTm_def e]; (try (refine J2 ?_ ?_ <;> intro hq <;> try simp [eTm_def e] at hq))) | refine TJ.rs (id := 0) (fun _ => false) fun K hK => ?_ | refine TJ.rs (id := 1) (fun _ => false) fun K hK => ?_ | refine TJ.rs (id := 3) (fun _ => false) fun K hK => ?_ | refine TJ.rs (id := 4) (fun _ => false) fun K hK => ?_ | refine TJ.cond rfl (fun hcnd => absurd hcnd (by decide)) (fun hcnd => ?_) | refine TJ.seq ?_ | refine TJ.skip ?_
   repeat' first | (refine aopsJ_end (hK _ _ ?_); clear hK K) | ((first | (refine aopsJ_trU rfl ?_; refine TreR.box rfl rfl rfl fun pv => ?_) | refine aopsJ_go ?_); simp; (try (refine J2 ?_ ?_ <;> intro hq <;> try simp at hq))) | refine TJ.rs1 (id := 6) (fun _ => false) fun K hK => ?_ | refine TJ.seq ?_
   refine TJ.nils (Ln := [vT ν [] (.slice none 0 0)]) (fun p hp => by simp at hp; subst hp; exact ⟨_, _, rfl⟩) ?_
   refine TJ.less (L' := wT pv (.slice none 0 0) 0 :: vT ν [] (.slice none 0 0) :: gS G) (M := [xT xp av, vT ν lv av]) ((List.Perm.swap _ _ _).trans (mem_text xp av pv (.slice none 0 0) 0 ν lv G)) ?_
   have ht1 := ht pv p ν G g1 g4
   clear h3 ht hls g3 hBl hll
   by_cases hz : szI B j t <= 30
   ·have hx := hX1 hz
    clear hX1 hX2
    subst hx
    repeat' first | (refine aopsJ_nsU rfl ?_; (first | refine LookR.of (LkS.nilCheck rfl rfl (by (with_reducible first | exact List.mem_cons_self | exact h1 | exact List.mem_cons_of_mem _ List.mem_cons_self))) ?_ | refine LookR.of (LkS.field rfl (by with_reducible first | exact td_sim | exact td_sco | exact td_infr | exact td_wri) rfl (by decide) rfl (by (with_reducible first | exact List.mem_cons_self | exact h1 | exact List.mem_cons_of_mem _ List.mem_cons_self))) ?_ | refine LookR.of (LkS.load rfl (by with_reducible first | exact td_psim | exact td_int | exact td_string | exact td_psco | exact td_psimS) rfl rfl rfl (by (with_reducible first | exact List.mem_cons_self | exact h1 | exact List.mem_cons_of_mem _ List.mem_cons_self)) (by rfl)) ?_ | refine LookR.of (LkS.eql (T := 88) rfl rfl rfl rfl rfl (by (with_reducible first | exact heldN | exact heldM (h1) | exact heldM List.mem_cons_self)) (by (with_reducible first | exact heldN | exact heldM (h1) | exact heldM List.mem_cons_self)) un_psim td_sim (by decide) pt_psim) ?_ | refine LookR.of (LkS.neq (T := 88) rfl rfl rfl rfl rfl (by (with_reducible first | exact heldN | exact heldM (h1) | exact heldM List.mem_cons_self)) (by (with_reducible first | exact heldN | exact heldM (h1) | exact heldM List.mem_cons_self)) un_psim td_sim (by decide) pt_psim) ?_); (try simp); (try (refine J2 ?_ ?_ <;> intro hq <;> try simp at hq))) | (refine aopsJ_end (hK _ _ ?_); clear hK K) | ((first | refine aopsJ_go ?_ | (refine wpcallJ_mut (L2 := []) ?_ ?_ (ht1) ?_; (focus (solve | simp)); (focus (solve | repeat' constructor)); rintro _ _ ⟨s, seen', sv', m', rfl, rfl, hs', w1, l1, n1⟩)); simp; (try (refine J2 ?_ ?_ <;> intro hq <;> try simp at hq))) | (exact absurd (w1.ok (by omega)).2.2 (by omega)) | (refine TJ.ret ?_; (repeat' first | refine inBlockJ_ret ?_ | refine thenJ_ret ?_ | refine roundJ_ret ?_); refine DoneJ.tup (L' := []) (M := _) (Or.inr rfl) (by simp [Try.results7]; rfl) rfl (by exact List.Perm.refl _) (by rw [(w1.ok (by omega)).1]; rfl)) | refine TJ.rs (fun _ => false) fun K hK => ?_ | refine TJ.rs1 (fun _ => false) fun K hK => ?_ | refine TJ.cond rfl (fun hcnd => absurd hcnd (by decide)) (fun hcnd => ?_) | refine TJ.seq ?_ | refine TJ.skip ?_
   ·have hx := hX2 hz
    clear hX1 hX2
    subst hx
    repeat' first | (refine aopsJ_nsU rfl ?_; (first | refine LookR.of (LkS.nilCheck rfl rfl (by (with_reducible first | exact List.mem_cons_self | exact h1 | exact List.mem_cons_of_mem _ List.mem_cons_self))) ?_ | refine LookR.of (LkS.field rfl (by with_reducible first | exact td_sim | exact td_sco | exact td_infr | exact td_wri) rfl (by decide) rfl (by (with_reducible first | exact List.mem_cons_self | exact h1 | exact List.mem_cons_of_mem _ List.mem_cons_self))) ?_ | refine LookR.of (LkS.load rfl (by with_reducible first | exact td_psim | exact td_int | exact td_string | exact td_psco | exact td_psimS) rfl rfl rfl (by (with_reducible first | exact List.mem_cons_self | exact h1 | exact List.mem_cons_of_mem _ List.mem_cons_self)) (by rfl)) ?_ | refine LookR.of (LkS.eql (T := 88) rfl rfl rfl rfl rfl (by (with_reducible first | exact heldN | exact heldM (h1) | exact heldM List.mem_cons_self)) (by (with_reducible first | exact heldN | exact heldM (h1) | exact heldM List.mem_cons_self)) un_psim td_sim (by decide) pt_psim) ?_ | refine LookR.of (LkS.neq (T := 88) rfl rfl rfl rfl rfl (by (with_reducible first | exact heldN | exact heldM (h1) | exact heldM List.mem_cons_self)) (by (with_reducible first | exact heldN | exact heldM (h1) | exact heldM List.mem_cons_self)) un_psim td_sim (by decide) pt_psim) ?_); (try simp); (try (refine J2 ?_ ?_ <;> intro hq <;> try simp at hq))) | (refine aopsJ_end (hK _ _ ?_); clear hK K) | ((first | refine aopsJ_go ?_ | (refine wpcallJ_mut (L2 := []) ?_ ?_ (ht1) ?_; (focus (solve | simp)); (focus (solve | repeat' constructor)); rintro _ _ ⟨s, seen', sv', m', rfl, rfl, hs', w1, l1, n1⟩)); simp; (try (refine J2 ?_ ?_ <;> intro hq <;> try simp at hq))) | (exact absurd (w1.no (by omega)) (by omega)) | (refine TJ.ret ?_; (repeat' first | refine inBlockJ_ret ?_ | refine thenJ_ret ?_ | refine roundJ_ret ?_); refine DoneJ.tup (L' := []) (M := _) (Or.inr rfl) (by simp [Try.results7]; rfl) rfl (by exact List.Perm.refl _) (rfl)) | refine TJ.rs (fun _ => false) fun K hK => ?_ | refine TJ.rs1 (fun _ => false) fun K hK => ?_ | refine TJ.cond rfl (fun hcnd => ?_) (fun hcnd => absurd hcnd (by decide)) | refine TJ.seq ?_
  ·have h3 := inferred_ok hv hn k _ hk
   rw [genB_none hk]
   simp only [Option.getD_none, Option.isSome_none]
   refine FCalls.of_body Try.func7 (by kernel_rfl) rfl (by kernel_rfl) (by simp [Try.ntmps7]) ?_
   rw [Try.ntmps7]
   repeat' first | (refine aopsJ_end (hK _ _ ?_); clear hK K) | ((first | refine aopsJ_go ?_ | refine wpcallJ_pure rfl (h1) ?_ | (refine wpcallJ_new ?_ (h3) ?_; (focus (solve | repeat' constructor)); rintro _ _ ⟨xp, rfl | ⟨v, rfl⟩⟩)); simp [eTm_def e]; (try (refine J2 ?_ ?_ <;> intro hq <;> try simp [eTm_def e] at hq))) | (refine TJ.ret ?_; (repeat' first | refine inBlockJ_ret ?_ | refine thenJ_ret ?_ | refine roundJ_ret ?_); refine DoneJ.tup (L' := []) (M := _) (Or.inr rfl) (by simp [Try.results7]; rfl) rfl (by exact List.Perm.refl _) (rfl)) | refine TJ.rs (fun _ => false) fun K hK => ?_ | refine TJ.cond rfl (fun hcnd => ?_) (fun hcnd => absurd hcnd (by decide)) | refine TJ.cond rfl (fun hcnd => absurd hcnd (by decide)) (fun hcnd => ?_) | refine TJ.seq ?_ | refine TJ.skip ?_
end Go.Proofs.Ytloolmchekcmeaa

namespace Go.Proofs.Ytloolmchekcmeaa
open Go Go.Av
attribute [local irreducible] T ACalls TX EX LX Draws Some_ ACallsX eTy eTm MTy.kind MTy.kids MTm.kind MTm.name MTm.num MTm.ty MTm.fr MTm.label MTm.kids
attribute [local simp] eTy_def eTm_def
set_option maxHeartbeats 16000000
set_option maxRecDepth 8000

theorem lawExactGeneralType_ok (e : MTm) (hw : wTm e) : ACalls Try.prog 3 [aTm e] [] (.b true) [] [] := by
 have hsz := szTerm_ok e hw 1048576 (by omega) (by omega)
 by_cases hn : nTm e <= 1048576
 rotate_left
 ·rw [show szM (nTm e) 1048576 = -1 by simp only [szM]; rw [if_neg (by omega)]] at hsz
  refine ACalls.of_body Try.func3 (by kernel_rfl) rfl (by kernel_rfl) (by simp [Try.ntmps3]) (by simp) ?_
  rw [Try.ntmps3]
  repeat' first | ((first | refine aops_end (hK _ ?_) | refine aopsD_end (hK _ ?_) | refine aopsF_end (hK _ ?_)); clear hK K) | ((first | refine aops_go ?_ | refine aopsD_go ?_ | refine aopsF_go ?_ | refine wpcall_pure rfl (hsz) ?_); simp; (try (refine gen2 ?_ ?_ <;> intro hq <;> try simp at hq))) | (refine T.ret (Done.data (Or.inr rfl) ?_ ?_) <;> simp [Try.results3] <;> omega) | refine T.rd (id := 10) mixed (fun _ => false) [] (by kernel_rfl) fun K hK => ?_ | refine T.rd1 (id := 10) mixed (fun _ => false) [] (by kernel_rfl) fun K hK => ?_ | refine T.r0 fun K hK => ?_ | refine T.r1 fun K hK => ?_ | (refine ⟨by omega, ?_⟩) | refine T.ct rfl ?_ | refine T.cf rfl ?_ | refine T.seq ?_ | refine T.block ?_ | refine T.skip ?_ | refine T.exit ?_
 have hpos : ¬ szM (nTm e) 1048576 < 0 := by simp only [szM]; rw [if_pos (by omega)]; omega
 have hto := toTerm_ok e hn
 have heq := eqTerm_ok e hn
 have h1 := GeneralTypeS_ok e (by omega)
 have h2 := (GeneralType_tree e (by omega)).plain
 generalize szM (nTm e) 1048576 = z at hsz hpos
 generalize genM e = b at h1 h2
 cases b with
 | none =>
  simp only [Option.getD_none, Option.isSome_none] at h1 h2
  refine ACalls.of_body Try.func3 (by kernel_rfl) rfl (by kernel_rfl) (by simp [Try.ntmps3]) (by simp) ?_
  rw [Try.ntmps3]
  repeat' first | ((first | refine aops_end (hK _ ?_) | refine aopsD_end (hK _ ?_) | refine aopsF_end (hK _ ?_)); clear hK K) | ((first | refine aops_go ?_ | refine aopsD_go ?_ | refine aopsF_go ?_ | refine wpcall_pure rfl (hsz) ?_ | refine wpcall_pure rfl (hto) ?_ | refine wpcall_pure rfl (h1) ?_ | refine wpcall_pure rfl (h2) ?_ | refine wpcall_pure rfl (heq) ?_); simp [hpos]; (try (refine gen2 ?_ ?_ <;> intro hq <;> try simp [hpos] at hq))) | (refine T.ret (Done.data (Or.inr rfl) ?_ ?_) <;> simp [Try.results3] <;> omega) | refine T.rd (id := 10) mixed (fun _ => false) [] (by kernel_rfl) fun K hK => ?_ | refine T.rd1 (id := 10) mixed (fun _ => false) [] (by kernel_rfl) fun K hK => ?_ | refine T.r0 fun K hK => ?_ | refine T.r1 fun K hK => ?_ | (refine ⟨by omega, ?_⟩) | refine T.ct rfl ?_ | refine T.cf rfl ?_ | refine T.seq ?_ | refine T.block ?_ | refine T.skip ?_ | refine T.exit ?_
 | some s =>
  simp only [Option.getD_some, Option.isSome_some] at h1 h2
  refine ACalls.of_body Try.func3 (by kernel_rfl) rfl (by kernel_rfl) (by simp [Try.ntmps3]) (by simp) ?_
  rw [Try.ntmps3]
  repeat' first | ((first | refine aops_end (hK _ ?_) | refine aopsD_end (hK _ ?_) | refine aopsF_end (hK _ ?_)); clear hK K) | ((first | refine aops_go ?_ | refine aopsD_go ?_ | refine aopsF_go ?_ | refine wpcall_pure rfl (hsz) ?_ | refine wpcall_pure rfl (hto) ?_ | refine wpcall_pure rfl (h1) ?_ | refine wpcall_pure rfl (h2) ?_ | refine wpcall_pure rfl (heq) ?_); simp [hpos]; (try (refine gen2 ?_ ?_ <;> intro hq <;> try simp [hpos] at hq))) | (refine T.ret (Done.data (Or.inr rfl) ?_ ?_) <;> simp [Try.results3] <;> omega) | refine T.rd (id := 10) mixed (fun _ => false) [] (by kernel_rfl) fun K hK => ?_ | refine T.rd1 (id := 10) mixed (fun _ => false) [] (by kernel_rfl) fun K hK => ?_ | refine T.r0 fun K hK => ?_ | refine T.r1 fun K hK => ?_ | (refine ⟨by omega, ?_⟩) | refine T.ct rfl ?_ | refine T.cf rfl ?_ | refine T.seq ?_ | refine T.block ?_ | refine T.skip ?_ | refine T.exit ?_
end Go.Proofs.Ytloolmchekcmeaa
