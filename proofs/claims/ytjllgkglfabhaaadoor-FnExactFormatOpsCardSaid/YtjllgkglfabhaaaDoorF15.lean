/- A part of the library of this seat: a value-semantic program logic over the model, plain models, and walks of functions. -/
import Derived.Test.YtjllgkglfabhaaaDoorF14
set_option linter.unusedVariables false
set_option linter.unusedSimpArgs false
namespace Go.Av
attribute [-simp] Go.Av.MCo.kind_mk Go.Av.MCo.tag_mk Go.Av.MCo.label_mk Go.Av.MCo.kids_mk Go.Av.astepJ Go.Av.relC Go.Av.relL Go.Av.relV Go.Av.relVs
open Go

def formatTmM (e : MTm) : List UInt8 := if termValidM e = true then tmTextF 12 e else []
def formatCaM (e : MTm) : List UInt8 := if castValidM e = true then tmTextF 40 e else []

def pairB : List UInt8 := [112, 97, 105, 114]
def funB : List UInt8 := [102, 117, 110, 99, 116, 105, 111, 110]
def valTextF : Nat → MTm → List UInt8
  | 0, _ => []
  | d + 1, .mk k s n t f l kids =>
    if decide (k = 10) || (proxyM (.mk k s n t f l []) && decide (t.kind = 5)) then pairB
    else if decide (k = 5) || proxyM (.mk k s n t f l []) then funB
    else match kids with
      | [a] => valTextF d a
      | _ => if k = 2 then Lib.itoa n else if k = 3 then [84] else [70]
section
variable (d : Nat)
end
def valueTextM (e : MTm) : List UInt8 := if (castValidM e && valM e) = true then valTextF 40 e else []
end Go.Av

namespace Go.Av
attribute [-simp] Go.Av.MCo.kind_mk Go.Av.MCo.tag_mk Go.Av.MCo.label_mk Go.Av.MCo.kids_mk Go.Av.astepJ Go.Av.relC Go.Av.relL Go.Av.relV Go.Av.relVs
open Go
theorem catLe {α : Type} {n m : Nat} [inst : Decidable (n ≤ m)] {a b : α} (h : n ≤ m) : (if n ≤ m then a else b) = a := if_pos h

theorem dec_len_le : ∀ n : Nat, n ≤ 9999 → (Lib.decDigits n).length ≤ 4 := by
  intro n hn
  by_cases h1 : 9 < n
  · rw [decDigits_step h1]
    by_cases h2 : 9 < n / 10
    · rw [decDigits_step h2]
      by_cases h3 : 9 < n / 10 / 10
      · rw [decDigits_step h3]
        rw [decDigits_small (by omega)]; simp
      · rw [decDigits_small (by omega)]; simp
    · rw [decDigits_small (by omega)]; simp
  · rw [decDigits_small (by omega)]; simp
theorem itoa_len_le {n : Int} (h0 : -9999 ≤ n) (h1 : n ≤ 9999) : (Lib.itoa n).length ≤ 5 := by
  rw [Lib.itoa]
  split
  · have := dec_len_le n.natAbs (by omega); simp; omega
  · have := dec_len_le n.toNat (by omega); omega
end Go.Av
