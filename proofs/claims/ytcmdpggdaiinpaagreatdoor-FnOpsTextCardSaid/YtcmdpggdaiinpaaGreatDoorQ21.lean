/- A part of the library of this seat. -/
import Derived.Test.YtcmdpggdaiinpaaGreatDoorQ20
import Derived.Shelf.Strings.Builder1
set_option linter.unusedVariables false
set_option linter.unusedSimpArgs false
namespace Go.Av
attribute [-simp] Go.Av.MCo.kind_mk Go.Av.MCo.tag_mk Go.Av.MCo.label_mk Go.Av.MCo.kids_mk Go.Av.astepJ Go.Av.relC Go.Av.relL Go.Av.relV Go.Av.relVs Go.Av.callJ
open Go Go.Shelf Go.Proofs
section
variable {P : Program} {ρ : Ren}

structure Save (w w' : World) (ks : List Nat) : Prop where
 os : w'.os = w.os
 tape : w'.tape = w.tape
 output : w'.output = w.output
 size : w.heap.size <= w'.heap.size
 blk : ∀ k, k < w.heap.size -> k ∉ ks -> w'.heap[k]? = w.heap[k]?
theorem Save.trans {w w' w'' : World} {ks : List Nat} (h : Save w w' ks) (k : Save w' w'' ks) : Save w w'' ks :=
 ⟨k.os.trans h.os, k.tape.trans h.tape, k.output.trans h.output, Nat.le_trans h.size k.size, fun b h1 h2 => (k.blk b (Nat.lt_of_lt_of_le h1 h.size) h2).trans (h.blk b h1 h2)⟩
theorem Save.cell (w : World) (a : Addr) (v : Value) (ks : List Nat) (h : a.block ∈ ks) : Save w (w.setCell a v) ks :=
 ⟨rfl, rfl, rfl, by simp, fun k _ hk => RowKit.Below.heap_setCell w a v k (fun e => hk (e ▸ h))⟩

open Go.Lib in
theorem append_block {w w' : World} (t u ty e : TypeId) (i : TypeInfo) (ht : P.underlying t = some (.slice e)) (hu : P.underlying u = some .string) (hi : P.info? e = some i) (hz : i.zero = some (.int .u8 0)) (hsize : i.size = 1) (hby : i.bytes = 1)
  {v v' : Value} {n : Nat} {xs : List Value} (hown : w.ownsRow 0 e 1 v n xs) (s : ByteArray) (hbytes : n + s.size <= 140737488355328) (hr : (Builtin.append_ #[t, u] ty #[v, .string s]).run P w = .ok v' w') (hnil : v' = .slice none 0 0 ↔ v = .slice none 0 0 /\ s.size = 0) :
  ∀ k, v'.ownBlock = some k -> v.ownBlock = some k \/ k = w.heap.size := by
 intro k hk
 have hxl : xs.length = n := by simpa using hown.1
 rcases hown.2 with ⟨rfl, rfl⟩ | ⟨g, cap, cur, rfl, hbg, hg, hnc, hcm, hcs, htake⟩
 ·by_cases hm : s.size = 0
  ·rw [hnil.2 ⟨rfl, hm⟩] at hk; cases hk
  ·have hr2 := run_append_nil_string (P := P) w t u ty e i (.int .u8 0) ht hu hi hz s (by omega) (by omega) (by rw [hby]; omega)
   rw [hr2] at hr
   cases hr
   simp [Value.ownBlock] at hk
   exact .inr hk.symm
 ·by_cases hroom : n + s.size <= cap
  ·have hr2 := run_append_room_string (P := P) w t u ty e i ht hu hi hsize g n cap cur hg s hroom (by omega)
   rw [hr2] at hr
   cases hr
   exact .inl hk
  ·have holds : ∀ j u, xs[j]? = some u -> w.cell? ((⟨g, 0, none⟩ : Addr).add j) = some u := hown.cells (g := g) rfl
   have hr2 := run_append_grow_string (P := P) w t u ty e i (.int .u8 0) ht hu hi hz ⟨g, 0, none⟩ n cap xs (by rw [hsize]; simpa using hxl) holds s (by omega) (by omega) (by rw [hby]; exact growslice_fits (by omega) (by omega))
   rw [hr2] at hr
   cases hr
   simp [Value.ownBlock] at hk
   exact .inr hk.symm

open Go.Lib in
theorem wpList_append_str {ops : Array Oper} {rest : List Oper} {o : Oper} {a : Act} {w : World} {Q : Exit -> Act -> World -> Prop} (hgd : o.guard = none) (sl x : Operand) (t u : TypeId)
  (ho : o.op = .call { callee := .builtin .append, args := #[sl, x], argTypes := #[t, u] }) (e : TypeId) (i : TypeInfo) (ht : P.underlying t = some (.slice e)) (hu : P.underlying u = some .string) (hi : P.info? e = some i) (hz : i.zero = some (.int .u8 0))
  (hsize : i.size = 1) (hby : i.bytes = 1) (v : Value) (n : Nat) (xs : List Value) (hs : a.eval sl = v) (hown : w.ownsRow 0 e 1 v n xs) (s : ByteArray) (hx : a.eval x = .string s) (hbytes : n + s.size <= 140737488355328)
  (h : ∀ v' w', w'.ownsRow 0 e 1 v' (n + s.size) (xs ++ strCells s) -> w.grownBy w' v.ownBlock -> (∀ k, v'.ownBlock = some k -> v.ownBlock = some k \/ k = w.heap.size) -> wpList P ops Q rest (a.put o.dst v') w') : wpList P ops Q (o :: rest) a w := by
 refine wpList_plain hgd fun K hK => ?_
 obtain ⟨v', w', hr, h2, h3, h4⟩ := run_append_own_string (P := P) w 0 t u o.type e i ht hu hi hz hsize hby v n xs hown s (by unfold maxLen; omega) hbytes (Nat.zero_le _)
 unfold Oper.wp execOp
 simp only [ho, resolve, invoke, builtin, Sem.run_bind, Sem.run_pure, Result.andThen_ok, List.map_toArray, List.map_cons, List.map_nil, hs, hx, hr]
 exact hK _ _ (h v' w' h2 h3 (append_block t u o.type e i ht hu hi hz hsize hby hown s hbytes hr h4))

theorem copyCheck_at (L : Lays.n166 P ρ) (X : Builder.Extra P ρ) {b : Nat} {p u : Value} {w : World} (hb : w.heap[b]? = some (.cells #[p, u] (ρ.t 72) (0, 0))) (hp : p = .pointer none \/ p = .pointer (some ⟨b, 0, none⟩)) :
  Calls P (ρ.f 240) #[.pointer (some ⟨b, 0, none⟩)] w fun e w' => e = .returned (.tuple #[]) /\ w'.heap[b]? = some (.cells #[.pointer (some ⟨b, 0, none⟩), u] (ρ.t 72) (0, 0)) /\ w'.heap.size = w.heap.size /\ Save w w' [b] := by
 have c0 : w.cell? ⟨b, 0, none⟩ = some p := by rw [Lib.cell_of_heap hb]; rfl
 rcases hp with rfl | rfl
 ·refine (Any.Builder_copyCheck_fresh { L with } X.toX72 b w c0 (by simp [World.shape?, hb]) (Lib.frozen_of_heap hb 0)).mono ?_
  rintro e w' ⟨rfl, rfl⟩
  exact ⟨rfl, by simp [World.setCell, Array.getElem?_modify, hb], by simp, Save.cell w _ _ _ (by simp)⟩
 ·refine (Any.Builder_copyCheck_used { L with } X.toX72 b w c0).mono ?_
  rintro e w' ⟨rfl, rfl⟩
  exact ⟨rfl, hb, rfl, rfl, rfl, rfl, Nat.le_refl _, fun _ _ _ => rfl⟩

set_option maxHeartbeats 1000000 in
set_option maxRecDepth 100000 in
theorem writeString_at (L : Lays.n166 P ρ) (X : Builder.Extra P ρ) {b : Nat} {p v : Value} {xs : List Value} (s : ByteArray) {w : World} (hb : w.heap[b]? = some (.cells #[p, v] (ρ.t 72) (0, 0))) (hp : p = .pointer none \/ p = .pointer (some ⟨b, 0, none⟩))
  (hown : w.ownsRow 0 (ρ.t 5) 1 v xs.length xs) (hne : v.ownBlock ≠ some b) (hlen : xs.length + s.size <= 140737488355328) :
  Calls P (ρ.f 166) #[.pointer (some ⟨b, 0, none⟩), .string s] w fun e w' => e = .returned (.tuple #[.int .i64 s.size, .nilIface]) /\
   ∃ v', w'.heap[b]? = some (.cells #[.pointer (some ⟨b, 0, none⟩), v'] (ρ.t 72) (0, 0)) /\ w'.ownsRow 0 (ρ.t 5) 1 v' (xs.length + s.size) (xs ++ Lib.strCells s) /\ (∀ k, v'.ownBlock = some k -> v.ownBlock = some k \/ w.heap.size <= k) /\ v'.ownBlock ≠ some b /\ Save w w' (b :: v.ownBlock.toList) := by
 obtain ⟨i0, hi, hz0, hz1, hz2⟩ := info_parts X.infoByte
 have mixed := L.mixed
 have t72 := L.t72; have a72 := L.a72; have z72 := L.z72; have v72 := L.v72; have u72 := run_underlying L.t72
 have t70 := L.t70; have a70 := L.a70; have z70 := L.z70; have v70 := L.v70; have u70 := run_underlying L.t70
 have t37 := L.t37; have a37 := L.a37; have z37 := L.z37; have v37 := L.v37; have u37 := run_underlying L.t37
 have t3 := L.t3; have a3 := L.a3; have z3 := L.z3; have v3 := L.v3; have u3 := run_underlying L.t3
 have t9 := L.t9; have a9 := L.a9; have z9 := L.z9; have v9 := L.v9; have u9 := run_underlying L.t9
 have t4 := L.t4; have a4 := L.a4; have z4 := L.z4; have v4 := L.v4; have u4 := run_underlying L.t4
 have t164 := L.t164; have a164 := L.a164; have z164 := L.z164; have v164 := L.v164; have u164 := run_underlying L.t164
 have t5 := X.t5; have a5 := X.a5; have z5 := X.z5; have v5 := X.v5; have u5 := run_underlying X.t5
 have e240 : ∀ args w, (callFunc (ρ.f 240) args).run P w = .ok (.enter (ρ.f 240) args) w := enters_of L.f240 (by kernel_rfl) rfl
 have hblt : b < w.heap.size := (Array.getElem?_eq_some_iff.1 hb).1
 go_enter L.f166, Body.n166_ntmps ρ
 go_wp2_with (go_at_fn (ρ.f 240); refine (copyCheck_at L X hb hp).mono ?_)
 rintro e w1 ⟨rfl, hbk, hsz1, hs1⟩
 have hown1 : w1.ownsRow 0 (ρ.t 5) 1 v xs.length xs := ownsRow_heap hown fun k hk => hs1.blk k (hown.lt k hk).2 (by simp only [List.mem_singleton]; rintro rfl; exact hne hk)
 have c0 : w1.cell? ⟨b, 0, none⟩ = some (.pointer (some ⟨b, 0, none⟩)) := by rw [Lib.cell_of_heap hbk]; rfl
 have c1 : w1.cell? ⟨b, 1, none⟩ = some v := by rw [Lib.cell_of_heap hbk]; rfl
 go_wp2_with (at_builtin; refine wpList_append_str rfl _ _ (ρ.t 37) (ρ.t 9) rfl (ρ.t 5) i0 L.t37 L.t9 hi hz0 hz1 hz2 _ _ _ rfl hown1 s rfl ?c4 ?_)
 case c4 => omega
 intro v' w2 hown' hgrow hblk
 have hb2 : w2.heap[b]? = some (.cells #[.pointer (some ⟨b, 0, none⟩), v] (ρ.t 72) (0, 0)) := by
  rw [hgrow.block b (by omega) (fun e => hne e.symm)]
  exact hbk
 have d0 : w2.cell? ⟨b, 0, none⟩ = some (.pointer (some ⟨b, 0, none⟩)) := by rw [Lib.cell_of_heap hb2]; rfl
 have d1 : w2.cell? ⟨b, 1, none⟩ = some v := by rw [Lib.cell_of_heap hb2]; rfl
 have f1 : w2.frozen? ⟨b, 1, none⟩ = false := Lib.frozen_of_heap hb2 1
 obtain ⟨ao, n', cap, rfl⟩ : ∃ ao n' cap, v' = .slice ao n' cap := by
  rcases hown'.2 with ⟨hv, _⟩ | ⟨g, cap, cur, hv, _⟩
  ·exact ⟨_, _, _, hv⟩
  ·exact ⟨_, _, _, hv⟩
 have hne' := Lib.ownBlock_ne hown' hb2 X.neB5
 go_wp2
 go_ret2
 refine ⟨rfl, _, by simp [World.setCell, Array.getElem?_modify, hb2], ownsRow_heap hown' (fun k hk => RowKit.Below.heap_setCell _ _ _ k (by rintro rfl; exact hne' hk)), fun k hk => ?_, hne', ?_⟩
 ·rcases hblk k hk with h | h
  ·exact .inl h
  ·exact .inr (by omega)
 ·refine ⟨hgrow.os.trans hs1.os, hgrow.tape.trans hs1.tape, hgrow.output.trans hs1.output, by simpa using Nat.le_trans hs1.size hgrow.size, fun k hk1 hk2 => ?_⟩
  simp only [List.mem_cons, Option.mem_toList, not_or] at hk2
  rw [RowKit.Below.heap_setCell _ _ _ k hk2.1, hgrow.block k (by omega) (fun e => hk2.2 e.symm)]
  exact hs1.blk k hk1 (by simpa using hk2.1)

theorem Save.freeze (w : World) (a : Addr) (n : Nat) (ks : List Nat) (h : a.block ∈ ks) : Save w (w.freeze a n) ks := by
 unfold World.freeze
 split
 ·exact ⟨rfl, rfl, rfl, Nat.le_refl _, fun _ _ _ => rfl⟩
 ·refine ⟨rfl, rfl, rfl, by simp, fun k _ hk => ?_⟩
  have hne : ¬ a.block = k := fun e => hk (e ▸ h)
  simp [Array.getElem?_modify, hne]
theorem Save.drew (w : World) (ks : List Nat) : Save w w.drew ks := ⟨rfl, rfl, rfl, Nat.le_refl _, fun _ _ _ => rfl⟩

set_option maxHeartbeats 1000000 in
set_option maxRecDepth 100000 in
theorem string_at (L : Lays.n169 P ρ) (X : Builder.Extra P ρ) {b : Nat} {p v : Value} {l : List UInt8} (h0 : l ≠ []) {w : World} (hb : w.heap[b]? = some (.cells #[p, v] (ρ.t 72) (0, 0))) (hown : w.ownsRow 0 (ρ.t 5) 1 v l.length (Lib.byteCells l)) :
  Calls P (ρ.f 169) #[.pointer (some ⟨b, 0, none⟩)] w fun e w' => e = .returned (.string ⟨l.toArray⟩) /\ Save w w' v.ownBlock.toList := by
 have hl0 : l.length ≠ 0 := by simpa using h0
 obtain ⟨g, cap, cur, rfl, hg, hnc, hcm, hcs⟩ : ∃ g cap cur, v = .slice (some ⟨g, 0, none⟩) l.length cap /\ w.heap[g]? = some (.cells cur (ρ.t 5) (0, 0)) /\ l.length <= cap /\ cap <= maxLen /\ cur.size = cap * 1 := by
  rcases hown.2 with ⟨_, hz⟩ | ⟨g, cap, cur, hv, _, h1, h2, h3, h4, _⟩
  ·exact absurd hz hl0
  ·exact ⟨g, cap, cur, hv, h1, h2, h3, h4⟩
 have c1 : w.drew.cell? ⟨b, 1, none⟩ = some (.slice (some ⟨g, 0, none⟩) l.length cap) := by
  have : w.drew.heap[b]? = some (.cells #[p, .slice (some ⟨g, 0, none⟩) l.length cap] (ρ.t 72) (0, 0)) := hb
  rw [Lib.cell_of_heap this]; rfl
 have hSD : (Builtin.unsafeSliceData_ #[(ρ.t 37)] (ρ.t 127) #[.slice (some ⟨g, 0, none⟩) l.length cap]).run P w.drew = .ok (.pointer (some ⟨g, 0, none⟩)) w.drew := Lib.run_unsafeSliceData_row _ _ _ _ _ _ (by omega)
 have hUS : (Builtin.unsafeString_ #[(ρ.t 127), (ρ.t 3)] (ρ.t 9) #[.pointer (some ⟨g, 0, none⟩), .int .i64 l.length]).run P w.drew = .ok (.string ⟨l.toArray⟩) (w.drew.freeze ⟨g, 0, none⟩ l.length) :=
  Lib.run_unsafeString_row w.drew (ρ.t 127) (ρ.t 3) (ρ.t 9) (ρ.t 5) L.t127 X.cellsByte g cur.size (by have hg' : w.drew.heap[g]? = some (.cells cur (ρ.t 5) (0, 0)) := hg; simp [World.shape?, hg']) l h0 (by omega) (by unfold maxLen at hcm; omega)
   fun j x hx => hown.cells (g := g) rfl j (.int .u8 x.toNat) (by simp [Lib.byteCells, hx])
 have mixed := L.mixed
 have t72 := L.t72; have a72 := L.a72; have z72 := L.z72; have v72 := L.v72; have u72 := run_underlying L.t72
 have t70 := L.t70; have a70 := L.a70; have z70 := L.z70; have v70 := L.v70; have u70 := run_underlying L.t70
 have t37 := L.t37; have a37 := L.a37; have z37 := L.z37; have v37 := L.v37; have u37 := run_underlying L.t37
 have t127 := L.t127; have a127 := L.a127; have z127 := L.z127; have v127 := L.v127; have u127 := run_underlying L.t127
 have t3 := L.t3; have a3 := L.a3; have z3 := L.z3; have v3 := L.v3; have u3 := run_underlying L.t3
 have t9 := L.t9; have a9 := L.a9; have z9 := L.z9; have v9 := L.v9; have u9 := run_underlying L.t9
 have t5 := X.t5; have a5 := X.a5; have z5 := X.z5; have v5 := X.v5; have u5 := run_underlying X.t5
 go_enter L.f169, Body.n169_ntmps ρ
 go_wp2
 go_region_o
 all_goals (go_wp2; go_ret; exact ⟨rfl, (Save.drew w _).trans (Save.freeze _ _ _ _ (by simp [Value.ownBlock]))⟩)
end
end Go.Av

namespace Go.Av
attribute [-simp] Go.Av.MCo.kind_mk Go.Av.MCo.tag_mk Go.Av.MCo.label_mk Go.Av.MCo.kids_mk Go.Av.astepJ Go.Av.relC Go.Av.relL Go.Av.relV Go.Av.relVs Go.Av.callJ
open Go Go.Shelf Go.Proofs
section
variable {P : Program} {ρ : Ren}
theorem args2 {vs : Array Value} {x y : Value} (hl : vs.size = 2) (h0 : vs[0]? = some x) (h1 : vs[1]? = some y) : vs = #[x, y] := by
 apply Array.ext
 ·simpa using hl
 ·intro i hi hi'
  match i with
  | 0 => simpa [Array.getElem?_eq_getElem hi] using h0
  | 1 => simpa [Array.getElem?_eq_getElem hi] using h1
  | i + 2 => exact absurd hi' (by simp)

theorem writeString_f (L : Lays.n166 P ρ) (X : Builder.Extra P ρ) (hent : ∀ args w, (callFunc (ρ.f 166) args).run P w = .ok (.enter (ρ.f 166) args) w) (xs : List Value) (s : List UInt8) (pv : Value) (hlen : xs.length + s.length <= 140737488355328) :
  FCalls P (ρ.f 166) [.c (.d (.raw pv)), .s s] [(.b (ρ.t 72) (ρ.t 5) xs, pv)] fun r L' => r = .tup [.i s.length, .c (.d (.raw .nilIface))] /\ L' = [(.b (ρ.t 72) (ρ.t 5) (xs ++ Lib.strCells (bs s)), pv)] := by
 refine ⟨hent, fun g w vs S hob har hI hT hl hr hS hnd hz => ?_⟩
 obtain ⟨S1, S2, rfl, htr, h0⟩ := hS
 simp only [Trs] at h0
 subst h0
 simp only [Tr] at htr
 obtain ⟨b, p, u, rfl, h1, h2, h3, rfl⟩ := htr
 rw [List.append_nil] at hnd hz
 have hsz : (bs s).size = s.length := by show s.toArray.size = _; simp
 have hvs : vs = #[.pointer (some ⟨b, 0, none⟩), .string (bs s)] := by
  have hl' : vs.size = 2 := by simpa using hl
  refine args2 hl' ?_ ?_
  ·have := hr 0 _ vs[0] rfl (by simp [hl'])
   simp only [RepV, RepE, RepC, RepD] at this
   rw [Array.getElem?_eq_getElem (by omega), this.1]
  ·have := hr 1 _ vs[1] rfl (by simp [hl'])
   simp only [RepV, RepE, RepC, RepD] at this
   rw [Array.getElem?_eq_getElem (by omega), this]
 subst hvs
 have hne : u.ownBlock ≠ some b := fun e => by simp [e] at hnd
 refine (writeString_at L X (bs s) h1 h2 h3 hne (by omega)).mono ?_
 rintro e w' ⟨rfl, v', k1, k2, k3, k4, k5⟩
 refine ⟨_, _, _, b :: v'.ownBlock.toList, rfl, ⟨rfl, rfl⟩, fun g w A => ?_, ⟨b :: v'.ownBlock.toList, [], by simp, ?_, rfl⟩, ?_, fun x hx => ?_, k5.os, k5.tape, k5.output, k5.size, fun x h6 h7 => k5.blk x h6 (by simpa using h7)⟩
 ·refine ⟨[.int .i64 (bs s).size, .nilIface], rfl, rfl, fun i x u h6 h7 => ?_⟩
  match i with
  | 0 => simp at h6 h7; subst h6; subst h7; simp [RepE, RepC, RepD, hsz]
  | 1 => simp at h6 h7; subst h6; subst h7; exact ⟨rfl, rfl⟩
  | i + 2 => simp at h6
 ·simp only [Tr]
  exact ⟨b, _, v', rfl, k1, .inr rfl, by rw [List.length_append, Lib.strCells_length]; exact k2, rfl⟩
 ·cases hv : v'.ownBlock with
  | none => simp
  | some y => simp; rintro rfl; exact k4 hv
 ·rcases List.mem_cons.1 hx with rfl | hx
  ·exact .inl (by simp)
  ·rcases k3 x (by simpa using hx) with q | q
   ·exact .inl (by simp [q])
   ·exact .inr q

theorem string_f (L : Lays.n169 P ρ) (X : Builder.Extra P ρ) (hent : ∀ args w, (callFunc (ρ.f 169) args).run P w = .ok (.enter (ρ.f 169) args) w) {l : List UInt8} (h0 : l ≠ []) (pv : Value) {xs : List Value} (hx : xs = Lib.byteCells l) :
  FCalls P (ρ.f 169) [.c (.d (.raw pv))] [(.b (ρ.t 72) (ρ.t 5) xs, pv)] fun r L' => r = .s l /\ L' = [] := by
 subst hx
 refine ⟨hent, fun g w vs S hob har hI hT hl hr hS hnd hz => ?_⟩
 obtain ⟨S1, S2, rfl, htr, h00⟩ := hS
 simp only [Trs] at h00
 subst h00
 simp only [Tr] at htr
 obtain ⟨b, p, u, rfl, h1, h2, h3, rfl⟩ := htr
 have hvs : vs = #[.pointer (some ⟨b, 0, none⟩)] := by
  have hl' : vs.size = 1 := by simpa using hl
  have := hr 0 _ vs[0] rfl (by simp [hl'])
  simp only [RepV, RepE, RepC, RepD] at this
  apply Array.ext
  ·simpa using hl
  ·intro i hi hi'
   match i with
   | 0 => exact this.1
   | i + 1 => exact absurd hi' (by simp)
 subst hvs
 rw [Lib.byteCells_length] at h3
 refine (string_at L X h0 h1 h3).mono ?_
 rintro e w' ⟨rfl, k5⟩
 exact ⟨_, .s l, [], [], rfl, ⟨rfl, rfl⟩, fun g w A => by simp [RepV, RepE, RepC, RepD, bs], rfl, List.nodup_nil, by simp, k5.os, k5.tape, k5.output, k5.size, fun x h6 h7 => k5.blk x h6 (by simp at h7 ⊢; exact h7.2)⟩

theorem aopsJ_builder {n : Nat} {s : St} {L : Ts} {all : Array Oper} {ow : Nat -> Bool} {K : St -> Ts -> Prop} {i : Nat} {o : Oper} {rest : List Oper} {T e : TypeId} {d : TD} (hg : o.guard = none) (ho : o.op = .alloc T) (hd : td P T = some d) (hz : d.zero = some [.np, .nil])
  (hK : ∀ pv, OpsJ P n all ow K (i + 1) rest (s.put o.dst (.c (.d (.raw pv))) s.V s.A) ((.b T e [], pv) :: L)) : OpsJ P n all ow K i (o :: rest) s L := by
 refine ⟨fun hds w0 g0 X S g a w Q hR hQ => ?_⟩
 simp only [dstsOk, List.all_cons, Bool.and_eq_true] at hds
 have hdst : ∀ d, o.dst = some d -> d < n := fun d e => by have := hds.1; rw [e] at this; simpa using this
 obtain ⟨inf, hi, _, _, hzz⟩ := td_info hd
 obtain ⟨v, hv, hc⟩ := hzz _ hz
 have hcs : v.cells = #[.pointer none, .slice none 0 0] := by
  have hx : ∀ l : List Value, cvsOf l = some [.np, .nil] -> l = [.pointer none, .slice none 0 0] := by
   intro l hl
   match l, hl with
   | [], hl => simp [cvsOf] at hl
   | [x], hl => simp only [cvsOf] at hl; split at hl <;> simp_all
   | x :: y :: r, hl =>
    simp only [cvsOf] at hl
    split at hl
    ·rename_i c cs h1 h2
     split at h2
     ·rename_i c2 cs2 h3 h4
      simp only [Option.some.injEq] at h2 hl
      subst h2
      simp only [List.cons.injEq] at hl
      obtain ⟨rfl, rfl, rfl⟩ := hl
      have e1 : x = .pointer none := by
       unfold cvOf at h1
       split at h1 <;> simp_all
      have e2 : y = .slice none 0 0 := by
       unfold cvOf at h3
       split at h3 <;> simp_all
      have e3 : r = [] := by
       cases r with
       | nil => rfl
       | cons z zs => simp only [cvsOf] at h4; split at h4 <;> simp_all
      rw [e1, e2, e3]
     ·simp at h2
    ·simp at hl
  have := hx _ hc
  apply Array.ext'
  simpa using this
 have hrun : (execOp a.eval o).run P w = .ok (.value (.pointer (some ⟨w.heap.size, 0, none⟩))) (w.alloc (.cells #[.pointer none, .slice none 0 0] T)) := by
  simp [execOp, ho, Instr.alloc, zeroValue, typeInfo, hi, hv, newVar, newRow_run, hcs]
 unfold wpList
 rw [if_pos (by simp [Region.wanted, hg])]
 refine .inl ?_
 unfold Oper.wp
 rw [hrun]
 obtain ⟨g1, hg1, hI1, hx1⟩ := hR.inv.newBlock (.cells #[.pointer none, .slice none 0 0] T) 0
 have hF1 := (Fr.refl hR.fr.now).newBlock (.cells #[.pointer none, .slice none 0 0] T) 0
 rw [<- hg1] at hF1
 have hkeep := hR.keepS hF1
 have hlt : ∀ b ∈ S, b < w.heap.size := hR.trs.lt
 refine (hK (.pointer (some ⟨w.heap.size, 0, none⟩))).run hds.2 w0 g0 X (w.heap.size :: S) g1 _ _ Q (hR.put hdst (x := .c (.d (.raw (.pointer (some ⟨w.heap.size, 0, none⟩))))) ⟨rfl, rfl⟩ hI1 hx1 (hR.fr.fr hF1) ⟨[w.heap.size], S, rfl, ?_, hkeep.1⟩ (List.nodup_cons.2 ⟨fun h => absurd (hlt _ h) (by omega), hR.nd⟩) fun b hb => ?_) hQ
 ·simp only [Tr]
  exact ⟨_, .pointer none, .slice none 0 0, rfl, heap_alloc_new w _, .inl rfl, World.ownsRow_nil _ 0 e 1, rfl⟩
 ·rcases List.mem_cons.1 hb with rfl | hb
  ·refine ⟨by rw [hg1]; simp, fun hm => ?_, fun hm => ?_, fun hm => ?_, .inl hR.fr.size⟩
   ·rw [hg1] at hm
    obtain ⟨l, hl⟩ := List.getElem?_of_mem hm
    have := hR.inv.obLt hl
    omega
   ·rw [hg1] at hm
    obtain ⟨k, v', q1, q2⟩ := Gh.mem_arb (g := g) (by simpa [Gh.arb] using hm)
    have := hR.inv.arLt q1 q2
    omega
   ·have := (hR.fr.now _ hm).1
    omega
  ·exact hkeep.2 b hb
end
end Go.Av
