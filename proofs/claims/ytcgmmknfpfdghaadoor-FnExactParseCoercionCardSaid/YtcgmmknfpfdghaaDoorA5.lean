/- A part of the library of this seat. -/
import Derived.Test.YtcgmmknfpfdghaaDoorA4
set_option linter.unusedVariables false
set_option linter.unusedSimpArgs false
namespace Go.Av
attribute [-simp] Go.Av.MCo.kind_mk Go.Av.MCo.tag_mk Go.Av.MCo.label_mk Go.Av.MCo.kids_mk Go.Av.freeStepG Go.Av.exA Go.Av.innAsH Go.Av.AV.innH Go.Av.CV.innH Go.Av.innHs Go.Av.AV.outnH Go.Av.CV.outnH
open Go

mutual
def nodesM : MTm -> Nat
 | .mk _ _ _ _ _ _ l => 1 + nodesS l
def nodesS : List MTm -> Nat
 | [] => 0
 | e :: r => nodesM e + nodesS r
end
inductive CaV (n : Int) (e : MTm) (f t : MTy) : MTm -> Int -> Prop
 | same : f = t -> CaV n e f t e n
 | cast : f ≠ t -> CaV n e f t (tCast e f t (n + 1)) (n + 1)
inductive EV : List MBd -> MTm -> Int -> MTm -> MTy -> Int -> Prop
 | var {c : List MBd} {s : List UInt8} {t : MTy} {n : Int} : lookM c s = some t -> EV c (tVar s) n (tVar s) t n
 | num {c : List MBd} {k n : Int} : EV c (tNum k) n (tNum k) intT n
 | tru {c : List MBd} {n : Int} : EV c tTrue n tTrue boolT n
 | fls {c : List MBd} {n : Int} : EV c tFalse n tFalse boolT n
 | lam {c : List MBd} {s : List UInt8} {u t : MTy} {b b' : MTm} {n m : Int} : EV (c ++ [⟨s, u⟩]) b n b' t m -> shapeTy 4 (.mk 4 [u, t]) = true -> EV c (tLam s u b) n (tLam s u b') (.mk 4 [u, t]) m
 | app {c : List MBd} {a b a' b' a2 b2 : MTm} {ta tb x y : MTy} {n n1 n2 n3 n4 : Int} : EV c a n a' ta n1 -> EV c b n1 b' tb n2 -> matchM 4 ta = some (x, y) -> consTy tb x = true ->
   CaV n2 a' ta (.mk 4 [x, y]) a2 n3 -> CaV n3 b' tb x b2 n4 -> EV c (tN2 6 a b) n (tN2 6 a2 b2) y n4
 | op {c : List MBd} {k : Int} {a b a' b' a2 b2 : MTm} {ta tb t : MTy} {n n1 n2 n3 n4 : Int} : (k = 7 /\ t = intT \/ k = 8 /\ t = boolT) -> EV c a n a' ta n1 -> EV c b n1 b' tb n2 -> consTy ta intT = true -> consTy tb intT = true ->
   CaV n2 a' ta intT a2 n3 -> CaV n3 b' tb intT b2 n4 -> EV c (tN2 k a b) n (tN2 k a2 b2) t n4
 | ite {c : List MBd} {p a b p' a' b' p2 a2 b2 : MTm} {tp ta tb : MTy} {n n1 n2 n3 n4 n5 n6 : Int} : EV c p n p' tp n1 -> EV c a n1 a' ta n2 -> EV c b n2 b' tb n3 -> consTy tp boolT = true -> consTy ta tb = true ->
   CaV n3 p' tp boolT p2 n4 -> CaV n4 a' ta (meetTy ta tb) a2 n5 -> CaV n5 b' tb (meetTy ta tb) b2 n6 -> EV c (tIf p a b) n (tIf p2 a2 b2) (meetTy ta tb) n6
 | pair {c : List MBd} {a b a' b' : MTm} {ta tb : MTy} {n n1 n2 : Int} : EV c a n a' ta n1 -> EV c b n1 b' tb n2 -> shapeTy 4 (.mk 5 [ta, tb]) = true -> EV c (tN2 10 a b) n (tN2 10 a' b') (.mk 5 [ta, tb]) n2
 | sel {c : List MBd} {k : Int} {a a' a2 : MTm} {ta x y t : MTy} {n n1 n2 : Int} : (k = 11 /\ t = x \/ k = 12 /\ t = y) -> EV c a n a' ta n1 -> matchM 5 ta = some (x, y) -> CaV n1 a' ta (.mk 5 [x, y]) a2 n2 -> EV c (tN1 k a) n (tN1 k a2) t n2
 | asc {c : List MBd} {a a' a2 : MTm} {ta t : MTy} {n n1 n2 : Int} : EV c a n a' ta n1 -> consTy ta t = true -> CaV n1 a' ta t a2 n2 -> EV c (tAs a t) n a2 t n2

def bareG (e : MTm) : MTm := if e.kind = 13 \/ e.kind = 14 then match e.kids with
  | x :: _ => x
  | [] => e
 else if e.kind = 5 then .mk 5 e.name e.num anyT e.fr e.label e.kids else e
def exactS : List MTy -> List MTy -> Bool
 | [], _ => true
 | w :: ws, h :: hs => sameTy w h && exactS ws hs
 | _ :: _, [] => false
mutual
def castTyM : List MBd -> MTm -> Option MTy
 | c, .mk k s n t f b l => match castTyS (if k = 5 then c ++ [⟨s, t⟩] else c) l with
  | none => none
  | some ts => if k = 14 then match ts with
    | x :: _ => if sameTy x f = true then some t else none
    | [] => none
   else match wantM c k s t ts with
    | none => none
    | some (ws, u) => if shapeTy 4 u = true /\ exactS ws ts = true then some u else none
def castTyS : List MBd -> List MTm -> Option (List MTy)
 | _, [] => some []
 | c, e :: r => match castTyM c e with
  | none => none
  | some t => match castTyS c r with
   | none => none
   | some ts => some (t :: ts)
end
end Go.Av

namespace Go.Av
attribute [-simp] Go.Av.MCo.kind_mk Go.Av.MCo.tag_mk Go.Av.MCo.label_mk Go.Av.MCo.kids_mk Go.Av.freeStepG Go.Av.exA Go.Av.innAsH Go.Av.AV.innH Go.Av.CV.innH Go.Av.innHs Go.Av.AV.outnH Go.Av.CV.outnH
open Go
mutual
def typesM : MTm -> List MTy
 | .mk k _ _ t _ _ l => (if hasTyM k = true then [t] else []) ++ typesS l
def typesS : List MTm -> List MTy
 | [] => []
 | e :: r => typesM e ++ typesS r
end
mutual
def withM : MTm -> List MTy -> MTm
 | .mk k s n t f lb l, ts => .mk k s n (if hasTyM k = true then ts.headD t else t) f lb (withS l (if hasTyM k = true then ts.drop 1 else ts))
def withS : List MTm -> List MTy -> List MTm
 | [], _ => []
 | e :: r, ts => withM e ts :: withS r (ts.drop (typesM e).length)
end
def withTypesM (e : MTm) (ts : List MTy) : Option MTm := if (termValidM e && decide (ts.length = (typesM e).length) && ts.all (shapeTy 4)) = true then some (withM e ts) else none
def tmRes : Option MTm -> List AV
 | some e => [aTm e, .b true]
 | none => [aTm zeroE, .b false]
def tm0 (o : Option MTm) : MTm := o.getD zeroE
end Go.Av
