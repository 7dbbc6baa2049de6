/- A part of the library of this seat. -/
import Derived.Test.YtcmdpggdaiinpaaGreatDoorQ17
set_option linter.unusedVariables false
set_option linter.unusedSimpArgs false
namespace Go.Av
attribute [-simp] Go.Av.MCo.kind_mk Go.Av.MCo.tag_mk Go.Av.MCo.label_mk Go.Av.MCo.kids_mk Go.Av.freeStepG Go.Av.exA Go.Av.innAsH Go.Av.AV.innH Go.Av.CV.innH Go.Av.innHs Go.Av.AV.outnH Go.Av.CV.outnH Go.Av.astepJ Go.Av.relC Go.Av.relL Go.Av.relV Go.Av.relVs Go.Av.callJ
open Go
def subsP {α : Type} (f : α -> List α) (l : List α) (p : Nat) : List (List α) := (subsM f (l.take p)).map (· ++ l.drop p)
end Go.Av

namespace Go.Av
attribute [-simp] Go.Av.MCo.kind_mk Go.Av.MCo.tag_mk Go.Av.MCo.label_mk Go.Av.MCo.kids_mk Go.Av.freeStepG Go.Av.exA Go.Av.innAsH Go.Av.AV.innH Go.Av.CV.innH Go.Av.innHs Go.Av.AV.outnH Go.Av.CV.outnH Go.Av.astepJ Go.Av.relC Go.Av.relL Go.Av.relV Go.Av.relVs Go.Av.callJ
open Go
def castN (c : List MBd) (e : MTm) (ts : List MTy) : Option MTy :=
 if e.kind = 14 then match ts with
  | x :: _ => if sameTy x e.fr = true then some e.ty else none
  | [] => none
 else match wantM c e.kind e.name e.ty ts with
  | none => none
  | some (ws, u) => if shapeTy 4 u = true /\ exactS ws ts = true then some u else none
def castTypeM (e : MTm) : Option MTy := if castValidM e = true then castTyM [] e else none

end Go.Av

namespace Go.Av
attribute [-simp] Go.Av.MCo.kind_mk Go.Av.MCo.tag_mk Go.Av.MCo.label_mk Go.Av.MCo.kids_mk Go.Av.freeStepG Go.Av.exA Go.Av.innAsH Go.Av.AV.innH Go.Av.CV.innH Go.Av.innHs Go.Av.AV.outnH Go.Av.CV.outnH Go.Av.astepJ Go.Av.relC Go.Av.relL Go.Av.relV Go.Av.relVs Go.Av.callJ
open Go
theorem TmV.plain {nt : Int} {d : Nat} {e : MTm} (h : TmV nt d e) : (e.kind = 13 \/ e.kind = 14 -> ∃ x, e.kids = [x]) /\ (¬ (e.kind = 13 \/ e.kind = 14) -> e.fr = zeroT /\ e.label = 0 /\ (e.kind ≠ 5 -> e.ty = zeroT)) := by
 cases h with
 | var => simp
 | num => simp
 | tru => simp
 | fls => simp
 | lam => simp
 | n2 _ hk => refine ⟨fun h => ?_, fun _ => by simp⟩; simp at h; omega
 | ite => simp
 | n1 _ hk => refine ⟨fun h => ?_, fun _ => by simp⟩; simp at h; omega
 | asc => simp
 | cast => simp
end Go.Av
