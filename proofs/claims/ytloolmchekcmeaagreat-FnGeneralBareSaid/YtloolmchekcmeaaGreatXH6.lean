/- A part. -/
import Derived.Test.YtloolmchekcmeaaGreatXH5
set_option linter.unusedVariables false
set_option linter.unusedSimpArgs false
namespace Go.Av
open Go
section
variable {P:Program} {n:Nat} {Q:Exit->St->Prop} {s:St}
end
section
variable {P:Program} {s:St}
end
section
attribute [-simp] bJ dF fT bE bA fz jP oX j8 wk rowsOf look qb St.put eX Bw bH wi E0 oW oV AB AV.plain AV.cells CV.hM lS fK iC er bC fA AV.iI CV.iI kR AV.ej CV.ej bq fL ie lG cG eD qY AV.nF CV.res me pos? sV s5 eZ Sub iu iJ
attribute [-simp] cW rh eU fP fb bQ bw back ev one
def xv (ex:List Nat) (rs:Nat->bp) (V:List bp):List bp:=ex.foldl (fun W i=>W.set i (rs i)) V
def cK (P:Program) (s:St) (ow:Bool) (o:Oper) (ex exa:List Nat) (V0:List (List CV)) (A0:List bp) (x:AV):Prop:=
 ∀(rs:Nat->List CV) (ra:Nat->bp) GV GA,bJ P ⟨s.fr,rh ex rs V0++GV,xv exa ra A0++GA⟩ ow o fun y V' A'=>y=x/\V'=rh ex rs V0++GV/\A'=xv exa ra A0++GA
def DE (P:Program) (all:Array Oper) (ow:Nat->Bool) (ws fs:List Nat) (m:Nat) (ex exa:List Nat) (V0:List (List CV)) (A0:List bp) (K:St->Prop):Nat->List Oper->St->Prop
 |_,[],s=>K s
 |i,o::rest,s=>fT all s o (bJ P s (ow i) o fun x V A=>(i∈ws\/(V=s.V/\A=s.A))/\(i∈ws->i<m->V.take V0.length=rh ex (fun i=>V.getD i []) V0/\A.take A0.length=xv exa (fun i=>A.getD i xK) A0)/\(i∈fs->cK P s (ow i) o ex exa V0 A0 x)/\
   DE P all ow ws fs m ex exa V0 A0 K (i+1) rest (s.put o.dst x V A)) (DE P all ow ws fs m ex exa V0 A0 K (i+1) rest (s.put o.dst (.c .undef) s.V s.A))
section
variable {P:Program} {n:Nat} {Q Q':Exit->St->Prop} {s s':St} {w0:World} {g0 g g':Gh} {a:Act} {w w':World} {V:List (List CV)} {A A':List bp}
def Qt (P:Program) (all:Array Oper) (ow:Bool) (fs:List Nat) (j:Nat) (ex exa:List Nat) (V0:List (List CV)) (A0:List bp) (o:Oper) (s s':St):Prop:=
 fT all s o True True/\((gw all s o=true/\∃x V A,s'=s.put o.dst x V A/\(∀K:AV->List (List CV)->List bp->Prop,K x V A->bJ P s ow o K)/\(j∈fs->cK P s ow o ex exa V0 A0 x))\/(gw all s o=false/\s'=s.put o.dst (.c .undef) s.V s.A))
def Qu (ex exa:List Nat) (V0:List (List CV)) (A0:List bp) (s:St):Prop:=s.V.take V0.length=rh ex (fun i=>s.V.getD i []) V0/\s.A.take A0.length=xv exa (fun i=>s.A.getD i xK) A0
end
section
variable {P:Program} {n:Nat} {Q:Exit->St->Prop} {s s':St} {y:Code}
structure J0 (P:Program) (all:Array Oper) (ow:Nat->Bool) (ws fs:List Nat) (m:Nat) (ex exa:List Nat) (V0:List (List CV)) (A0:List bp) (K:St->Prop) (i:Nat) (ops:List Oper) (s:St):Prop where
 mk::
 run:DE P all ow ws fs m ex exa V0 A0 K i ops s
@[congr] theorem HK {all:Array Oper} {ow:Nat->Bool} {ws fs:List Nat} {m:Nat} {ex exa:List Nat} {V0:List (List CV)} {A0:List bp} {K:St->Prop} {i i':Nat} {ops:List Oper} (hi:i=i') (h:s=s'):J0 P all ow ws fs m ex exa V0 A0 K i ops s=J0 P all ow ws fs m ex exa V0 A0 K i' ops s':=by rw[h,hi]
end
end
attribute [simp] cK xv
end Go.Av
