/- A part of the library of this seat: a value-semantic program logic over the model, plain models, and walks of functions. -/
import Derived.Test.YtdcahkkclldhmaaGreatK7
set_option linter.unusedVariables false
set_option linter.unusedSimpArgs false
namespace Go.Av
open Go
theorem Some_.elim {P : Program} {f : FuncId} {as_ : List AV} {α : Type} {enc : α → AV} {arr : α → List Arr} {good : α → Prop} (h : Some_ P f as_ (RV enc arr good)) : ∃ x, good x ∧ ACalls P f as_ [] (enc x) [] (arr x) := by
  obtain ⟨v, V, A, ⟨rfl, x, ⟨rfl, rfl⟩, hg⟩, hc⟩ := h
  exact ⟨x, hg, hc⟩

end Go.Av

namespace Go.Av
open Go
section
variable {P : Program} {s : St} {f : FuncId} {xs as_ : List AV} {K : AV → List (List CV) → List Arr → Prop} {r : AV}
/-- One own array is handed over, and comes back changed. -/
theorem wpcall_hand (h : Nat) {a a' : Arr} (hc : ACallsG P f as_ [] [a] r [] [a']) (ha : s.A[h]? = some a) (hw : a.wr = true) (hz : a'.sz = a.sz) (hin : innAsH [h] xs = some as_)
    (hK : K (r.outnH [h] s.A.length) s.V (s.A.set h a')) : wpcall P s f xs K := by
  refine .inr ⟨[h], as_, r, [a'], by simp, fun i h' hi => ?_, hin, ?_, ?_⟩
  · match i with
    | 0 => simp at hi; subst hi; exact ⟨a, a', ha, hw, rfl, hz⟩
    | i + 1 => simp at hi
  · simpa [ha] using hc
  · simpa [putL] using hK
theorem DoneG.g {fn : Func} {e : Exit} {m a : Nat} {V' : List (List CV)} {A' : List Arr} {ys : List AV} (he : e = .normal ∨ e = .ret) (hr : (ares P s fn.results.toList).bind (resAs s.A (List.range m) (List.range a)) = some ys) (h1 : one ys = r)
    (hV : resVs s.A s.V (List.range m) (List.range a) (List.range m) = some V') (hA : getAs s.A (List.range a) = some A') : DoneG P fn m a r V' A' e s := by
  obtain ⟨xs, hxs, hys⟩ := Option.bind_eq_some_iff.1 hr
  exact ⟨he, [], List.range a, xs, ys, ⟨[], by simp⟩, hxs, List.nodup_range, by simp, by simp, by simpa using hys, h1.symm, by simpa using hV, hA⟩
theorem DoneG.one {fn : Func} {e : Exit} {A' : Arr} (he : e = .normal ∨ e = .ret) (hr : (ares P s fn.results.toList).bind (resAs s.A [] [0]) = some [r]) (hA : s.A[0]? = some A') : DoneG P fn 0 1 r [] [A'] e s :=
  DoneG.g he hr rfl rfl (by simp [getAs, hA, List.range_succ])
end
attribute [simp] innAsH AV.innH CV.innH innHs AV.outnH CV.outnH
end Go.Av

namespace Go.Av
open Go

section
variable {P : Program} {n : Nat} {Q : Exit → St → Prop} {s s' : St} {y : Code}

structure OpsH (P : Program) (all : Array Oper) (ow : Nat → Bool) (wv wa fs : List Nat) (m : Nat) (ex : List Nat) (V0 : List (List CV)) (A0 : List Arr) (K : St → Prop) (i : Nat) (ops : List Oper) (s : St) : Prop where
  mk ::
  run : aopsH P all ow wv wa fs m ex V0 A0 K i ops s

@[congr] theorem aopsH_cong {all : Array Oper} {ow : Nat → Bool} {wv wa fs : List Nat} {m : Nat} {ex : List Nat} {V0 : List (List CV)} {A0 : List Arr} {K : St → Prop} {i i' : Nat} {ops : List Oper} (hi : i = i') (h : s = s') : OpsH P all ow wv wa fs m ex V0 A0 K i ops s = OpsH P all ow wv wa fs m ex V0 A0 K i' ops s' := by rw [h, hi]

theorem OpsH.gen {all : Array Oper} {ow : Nat → Bool} {wv wa fs : List Nat} {m : Nat} {ex : List Nat} {V0 : List (List CV)} {A0 : List Arr} {K : St → Prop} {i : Nat} {ops : List Oper} {d : Nat} {b : Bool} {fr : List (Nat × AV)} {V : List (List CV)} {A : List Arr}
    (h : ∀ q : Bool, b = q → OpsH P all ow wv wa fs m ex V0 A0 K i ops ⟨(d, .c (.d (.bool q))) :: fr, V, A⟩) : OpsH P all ow wv wa fs m ex V0 A0 K i ops ⟨(d, .c (.d (.bool b))) :: fr, V, A⟩ := h b rfl
end
end Go.Av

namespace Go.Av
open Go
theorem ACalls.sealed {P : Program} {f : FuncId} {as_ : List AV} {n : Nat} {a : Arr} (h : ACalls P f as_ [] (.c (.own 0 n)) [] [a]) (hn : n = a.rows.length) : ACalls P f as_ [] (.c (.d (.sl a.rows))) [] [] := by
  obtain ⟨h1, h2, h3⟩ := h
  refine ⟨h1, h2, fun g w vs har hI hs hr => (h3 g w vs har hI hs hr).mono ?_⟩
  rintro e w' ⟨v, g', rfl, hv, hI', hF⟩
  have hd : toD [a] (.own 0 n) = some (.sl a.rows) := by simp [toD, hn]
  obtain ⟨g2, i1, i2, i3, i4, i5, i6⟩ := seal_one hI' hF (show RepC g' w' [a] (.own 0 n) v from hv) hd
  refine ⟨v, { g2 with ar := [] }, rfl, i6, ⟨i1.obl, rfl, fun l row b h => by simp at h, fun k r v h => by simp at h, i1.obob, fun k k' v v' b h => by simp at h, fun l k v b _ h => by simp at h, i1.fresh⟩,
    ⟨i3.os, i3.tape, i3.output, i3.size, i3.blk, i3.imeq, i3.ob, fun k v b h => by simp at h, fun k v h => by rw [har] at h; simp at h⟩⟩
end Go.Av

namespace Go.Av
open Go
section
variable {P : Program} {g g' g0 : Gh} {w w' w0 : World} {V V' : List (List CV)} {A A' : List Arr}
end
end Go.Av
