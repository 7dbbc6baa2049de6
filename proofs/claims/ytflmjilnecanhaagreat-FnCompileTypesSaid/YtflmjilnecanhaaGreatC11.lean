/- A part of the library of this seat. -/
import Derived.Test.YtflmjilnecanhaaGreatC10
import Derived.Lib.Bytealg
set_option linter.unusedVariables false
set_option linter.unusedSimpArgs false
namespace Go.Av
attribute [-simp] Go.Av.freeStepG Go.Av.exA Go.Av.innAsH Go.Av.AV.innH Go.Av.CV.innH Go.Av.innHs Go.Av.AV.outnH Go.Av.CV.outnH Go.Av.astepJ Go.Av.relC Go.Av.relL Go.Av.relV Go.Av.relVs Go.Av.callJ
open Go
mutual
def freeIn (c : UInt8) : List UInt8 -> MTm -> Bool
 | bd, .mk k s _ _ _ _ l => (decide (k = 1) && (decide (s = [c]) && !(bd.contains c))) || freeInS c (if k = 5 then bd ++ s else bd) l
def freeInS (c : UInt8) : List UInt8 -> List MTm -> Bool
 | _, [] => false
 | bd, e :: r => freeIn c bd e || freeInS c bd r
end
theorem freeInS_any (c : UInt8) (bd : List UInt8) : ∀ l : List MTm, freeInS c bd l = l.any (freeIn c bd)
 | [] => rfl
 | e :: r => by simp [freeInS, freeInS_any c bd r]
theorem freeIn_def (c : UInt8) (bd : List UInt8) (e : MTm) : freeIn c bd e = ((decide (e.kind = 1) && (decide (e.name = [c]) && !(bd.contains c))) || e.kids.any (freeIn c (if e.kind = 5 then bd ++ e.name else bd))) := by
 cases e; simp only [freeIn, freeInS_any]; rfl
@[irreducible] def letters : List UInt8 := (List.range 26).map fun i => UInt8.ofNat (97 + i)
def namesM (e : MTm) : List UInt8 := letters.filter fun c => freeIn c [] e
theorem indexByte_iff : ∀ (s : List UInt8) (c : UInt8), (0 <= Lib.indexByte s c) ↔ s.contains c = true
 | [], c => by simp [Lib.indexByte]
 | b :: r, c => by
  have ih := indexByte_iff r c
  have h1 := Lib.indexByte_ge r c
  rw [List.contains_cons, Bool.or_eq_true, <- ih, Lib.indexByte]
  split
  ·rename_i h
   have : (c == b) = true := by simp at h; simp [h]
   simp [this]
  ·rename_i h
   have h' : ¬ (c == b) = true := by intro e; simp at e; simp [e] at h
   split
   ·rename_i h2
    have h2 : Lib.indexByte r c = -1 := by simpa using h2
    rw [h2]; simp [h']
   ·rename_i h2
    have h2 : ¬ Lib.indexByte r c = -1 := by simpa using h2
    constructor
    ·intro h3; exact .inr (by omega)
    ·rintro (h3 | h3)
     ·exact absurd h3 h'
     ·omega
theorem wrap8 {n : Nat} (h : n <= 255) : IntKind.u8.wrap (n : Int) = n := by simp [IntKind.wrap, IntKind.signed, IntKind.bits]; omega
theorem nameM_one {s : List UInt8} (h : nameM s = true) : ∃ c, s = [c] /\ 97 <= c.toNat /\ c.toNat <= 122 := by
 match s with
 | [] => simp [nameM] at h
 | [c] => simp [nameM] at h; exact ⟨c, rfl, by omega, by omega⟩
 | _ :: _ :: _ => simp [nameM] at h
theorem own_named {e : MTm} (h : ownM e = true) (ht : namedM e.kind = true) : nameM e.name = true := by
 simp only [ownM, Bool.and_eq_true] at h
 have := h.1.1.1
 rwa [if_pos ht] at this
abbrev rowB (S : List Bool) : List CV := S.map fun b => CV.d (.bool b)
def orF (f : UInt8 -> Bool) (S : List Bool) : List Bool := List.zipWith (fun c b => b || f c) letters S
theorem letters_len : letters.length = 26 := by unfold letters; rfl
theorem orF_len {f : UInt8 -> Bool} {S : List Bool} (h : S.length = 26) : (orF f S).length = 26 := by simp [orF, letters_len, h]
theorem letters_get {i : Nat} (h : i < 26) : letters[i]? = some (UInt8.ofNat (97 + i)) := by unfold letters; simp [h]
theorem orF_get {f : UInt8 -> Bool} {S : List Bool} {i : Nat} {b : Bool} (h : i < 26) (hs : S[i]? = some b) : (orF f S)[i]? = some (b || f (UInt8.ofNat (97 + i))) := by
 simp [orF, List.getElem?_zipWith, letters_get h, hs]
theorem orF_ext {S T : List Bool} (hs : S.length = 26) (ht : T.length = 26) (h : ∀ (i : Nat) a b, i < 26 -> S[i]? = some a -> T[i]? = some b -> a = b) : S = T := by
 apply List.ext_getElem (by omega)
 intro i h1 h2
 exact h i _ _ (by omega) (List.getElem?_eq_getElem h1) (List.getElem?_eq_getElem h2)
@[irreducible] def noB : List Bool := List.replicate 26 false
theorem noB_len : noB.length = 26 := by unfold noB; simp
theorem noB_get {p : Nat} (h : p < 26) : noB[p]? = some false := by unfold noB; rw [List.getElem?_replicate, if_pos h]
theorem orF_none {S : List Bool} (hs : S.length = 26) {f : UInt8 -> Bool} (hf : ∀ c, f c = false) : orF f S = S := by
 refine orF_ext (orF_len hs) hs fun i a b hi ha hb => ?_
 rw [orF_get hi hb] at ha
 simp [hf] at ha; exact ha.symm
theorem orF_or {S : List Bool} (hs : S.length = 26) (f g : UInt8 -> Bool) : orF g (orF f S) = orF (fun c => f c || g c) S := by
 refine orF_ext (orF_len (orF_len hs)) (orF_len hs) fun i a b hi ha hb => ?_
 obtain ⟨x, hx⟩ : ∃ x, S[i]? = some x := ⟨_, List.getElem?_eq_getElem (by omega)⟩
 rw [orF_get hi (orF_get hi hx)] at ha
 rw [orF_get hi hx] at hb
 simp at ha hb
 rw [<- ha, <- hb, Bool.or_assoc]
theorem orF_congr {S : List Bool} {f g : UInt8 -> Bool} (h : ∀ c, f c = g c) : orF f S = orF g S := by rw [show f = g from funext h]
theorem orF_set {S : List Bool} (hs : S.length = 26) {c : UInt8} (h1 : 97 <= c.toNat) (h2 : c.toNat <= 122) : S.set (c.toNat - 97) true = orF (fun x => decide (x = c)) S := by
 refine orF_ext (by simpa using hs) (orF_len hs) fun i a b hi ha hb => ?_
 obtain ⟨x, hx⟩ : ∃ x, S[i]? = some x := ⟨_, List.getElem?_eq_getElem (by omega)⟩
 rw [orF_get hi hx, Option.some.injEq] at hb
 rw [List.getElem?_set] at ha
 by_cases e : c.toNat - 97 = i
 ·have hlt : c.toNat - 97 < S.length := by omega
  simp [e] at ha
  have : UInt8.ofNat (97 + i) = c := by rw [<- e]; rw [show 97 + (c.toNat - 97) = c.toNat by omega]; simp
  rw [this] at hb
  simp at hb
  obtain ⟨_, rfl⟩ := ha
  rw [<- hb]
 ·have hne : ¬ UInt8.ofNat (97 + i) = c := by
   intro hh
   have := congrArg UInt8.toNat hh
   simp at this; omega
  simp [e, hx] at ha
  rw [decide_eq_false hne, Bool.or_false] at hb
  rw [<- ha, <- hb]

theorem closed_names {e : MTm} (h : ∀ z, freeIn z [] e = false) : namesM e = [] := by
 simp only [namesM, List.filter_eq_nil_iff]
 intro z _; simp [h z]
def substTermM (e : MTm) (x : List UInt8) (v : MTm) : Option MTm :=
 if (termValidM e && (termValidM v && (nameM x && (decide (namesM v = []) && termValidM (substM x v e))))) = true then some (substM x v e) else none
end Go.Av
