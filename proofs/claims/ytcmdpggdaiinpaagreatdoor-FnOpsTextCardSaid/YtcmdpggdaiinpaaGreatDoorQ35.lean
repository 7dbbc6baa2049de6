/- A part of the library of this seat. -/
import Derived.Test.YtcmdpggdaiinpaaGreatDoorQ34
import Derived.Lib.UnsafeStr
import Derived.Lib.AppendStr
set_option linter.unusedVariables false
set_option linter.unusedSimpArgs false
namespace Go.Av
attribute [-simp] Go.Av.MCo.kind_mk Go.Av.MCo.tag_mk Go.Av.MCo.label_mk Go.Av.MCo.kids_mk Go.Av.astepJ Go.Av.relC Go.Av.relL Go.Av.relV Go.Av.relVs Go.Av.callJ Go.Av.IT.kind_v Go.Av.IT.kind_b Go.Av.IT.kind_p Go.Av.IT.name_v Go.Av.IT.name_b Go.Av.IT.name_p Go.Av.IT.kids_v Go.Av.IT.kids_b Go.Av.IT.kids_p Go.Av.eIT_len
open Go
def wordsM : List (List UInt8) := [[110, 117, 109], [116, 114, 117, 116, 104], [118, 97, 114], [102, 117, 110], [114, 101, 116], [97, 112, 112, 108, 121], [97, 100, 100], [108, 101, 115, 115], [98, 114, 97, 110, 99, 104], [106, 117, 109, 112], [112, 97, 105, 114], [102, 115, 116], [115, 110, 100]]
abbrev eW (w : List UInt8) : List DV := [.str w]
theorem wordsM_len : wordsM.length = 13 := rfl
theorem wordsM_at {j : Nat} (h : j < 13) : wordsM[j]? = some (opWord ((j : Int) + 1)) := by
 have e : j = 0 \/ j = 1 \/ j = 2 \/ j = 3 \/ j = 4 \/ j = 5 \/ j = 6 \/ j = 7 \/ j = 8 \/ j = 9 \/ j = 10 \/ j = 11 \/ j = 12 := by omega
 rcases e with rfl | rfl | rfl | rfl | rfl | rfl | rfl | rfl | rfl | rfl | rfl | rfl | rfl <;> rfl
theorem opText_len {o : MOp} (h0 : 0 <= o.a) (h1 : o.a <= 1000) : (opText o).length <= 13 := by
 have h2 := opWord_len o.kind
 have h3 := itoa_len_le (n := o.a) (by omega) (by omega)
 rw [opText]
 split <;> simp <;> omega
theorem opsTextM_cons (o : MOp) (r : List MOp) : opsTextM (o :: r) = opText o ++ opsTextM r := rfl
theorem opsTextM_append (l m : List MOp) : opsTextM (l ++ m) = opsTextM l ++ opsTextM m := by simp [opsTextM]
theorem opsText_len : ∀ {l : List MOp}, (∀ o ∈ l, 0 <= o.a /\ o.a <= 1000) -> (opsTextM l).length <= 13 * l.length
 | [], _ => by simp [opsTextM]
 | o :: r, h => by
  have h1 := opText_len (h o (by simp)).1 (h o (by simp)).2
  have h2 := opsText_len (l := r) fun x hx => h x (by simp [hx])
  rw [opsTextM_cons, List.length_append, List.length_cons]; omega
theorem opsText_take {l : List MOp} {p : Nat} {o : MOp} (h : l[p]? = some o) : opsTextM (l.take (p + 1)) = opsTextM (l.take p) ++ opText o := by
 rw [List.take_add_one, h, opsTextM_append]; simp [opsTextM]
theorem opsText_ne {l : List MOp} (h : l ≠ []) : opsTextM l ≠ [] := by
 cases l with
 | nil => exact absurd rfl h
 | cons o r => rw [opsTextM_cons, opText]; simp
theorem strCells_bs (s : List UInt8) : Lib.strCells (bs s) = Lib.byteCells s := by simp [Lib.strCells, Lib.byteCells, bs]
theorem byteCells_app (a b : List UInt8) : Lib.byteCells (a ++ b) = Lib.byteCells a ++ Lib.byteCells b := by simp [Lib.byteCells]
end Go.Av
