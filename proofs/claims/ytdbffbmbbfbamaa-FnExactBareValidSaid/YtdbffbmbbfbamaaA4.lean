/- What an operation does to the abstract state: its weakest precondition 'wpo' (a definition). Calls of Go functions stand apart. -/
import Derived.Test.YtdbffbmbbfbamaaA3
namespace Go.Av
open Go

/-- What the logic asks of a type. -/
structure TD where
  ag : Bool
  sz : Nat
  by_ : Nat
  zero : Option (List CV)
  el : Option TypeId
  ar : Option (Nat × TypeId)
  fl : List (Nat × Nat)
  ik : Option IntKind
  isS : Bool
  isB : Bool

def cvOf : Value → Option CV
  | .int k n => some (.d (.int k n))
  | .bool b => some (.d (.bool b))
  | .string s => some (.d (.str s.data.toList))
  | .slice none 0 0 => some .nil
  | .pointer none => some .np
  | _ => none

def cvsOf : List Value → Option (List CV)
  | [] => some []
  | v :: r => match cvOf v, cvsOf r with
    | some c, some cs => some (c :: cs)
    | _, _ => none

def flOf (P : Program) : List Field → Option (List (Nat × Nat))
  | [] => some []
  | f :: r => match P.info? f.type, flOf P r with
    | some i, some l => some ((f.offset, i.size) :: l)
    | _, _ => none

def agD : TypeDesc → Bool | .struct _ => true | .array _ _ => true | _ => false
def elD : TypeDesc → Option TypeId | .slice e => some e | _ => none
def arD : TypeDesc → Option (Nat × TypeId) | .array n e => some (n, e) | _ => none
def flD (P : Program) : TypeDesc → List (Nat × Nat) | .struct fs => (flOf P fs.toList).getD [] | _ => []
def ikD : TypeDesc → Option IntKind | .int k => some k | _ => none
def isSD : TypeDesc → Bool | .string => true | _ => false
def isBD : TypeDesc → Bool | .bool => true | _ => false
def zeD : Option Value → Option (List CV) | some z => cvsOf z.cells.toList | none => none

def td (P : Program) (t : TypeId) : Option TD :=
  match P.underlying t, P.info? t with
  | some d, some i => some { ag := agD d, sz := i.size, by_ := i.bytes, zero := zeD i.zero, el := elD d, ar := arD d, fl := flD P d, ik := ikD d, isS := isSD d, isB := isBD d }
  | _, _ => none

def aval (s : St) : Operand → Option AV
  | .tmp t => look s.fr t
  | .const v => (cvOf v).map AV.c
  | .func f => some (.c (.fn f []))
  | .global _ => none

def onv {α : Type} (o : Option α) (k : α → Prop) : Prop :=
  match o with
  | some v => k v
  | none => False

/-- A cell's value as plain data: an own array is sealed by it. -/
def toD (A : List Arr) : CV → Option DV
  | .d x => some x
  | .nil => some (.sl [])
  | .own k n => match A[k]? with
    | some r => if n = r.rows.length then some (.sl r.rows) else none
    | none => none
  | _ => none

def toDs (A : List Arr) : List CV → Option (List DV)
  | [] => some []
  | c :: r => match toD A c, toDs A r with
    | some d, some ds => some (d :: ds)
    | _, _ => none

def toRows (A : List Arr) : List (List CV) → Option (List (List DV))
  | [] => some []
  | c :: r => match toDs A c, toRows A r with
    | some d, some ds => some (d :: ds)
    | _, _ => none

def sealA (A : List Arr) : CV → List Arr
  | .own k _ => match A[k]? with
    | some r => A.set k { r with wr := false }
    | none => A
  | _ => A

def sealAs (A : List Arr) (cs : List CV) : List Arr := cs.foldl sealA A

/-- The cells behind an address. -/
def cellsAt (s : St) (p : CV) (n : Nat) : Option (List CV) :=
  match p with
  | .ptr l off => match s.V[l]? with
    | some row => if off + n ≤ row.length then some ((row.drop off).take n) else none
    | none => none
  | .ip row off => if off + n ≤ row.length then some (((row.drop off).take n).map CV.d) else none
  | .op k m i off => match s.A[k]? with
    | some r => if m = r.rows.length then
        match r.rows[i]? with
        | some row => if off + n ≤ row.length then some (((row.drop off).take n).map CV.d) else none
        | none => none
      else none
    | none => none
  | _ => none

def mkV (ag : Bool) (cs : List CV) : Option AV :=
  if ag then some (.agg cs) else
  match cs with
  | [c] => some (.c c)
  | _ => none

def AV.plain : AV → Bool
  | .tup _ => false
  | .c x => !x.isUndef
  | .agg xs => xs.all fun x => !x.isUndef

def abin (op : BinOp) (x y : AV) : Option AV :=
  match x, y with
  | .c (.d (.int k a)), .c (.d (.int k' b)) =>
    if k = k' then
      match op with
      | .add => some (.c (.d (.int k (k.wrap (a + b)))))
      | .sub => some (.c (.d (.int k (k.wrap (a - b)))))
      | .mul => some (.c (.d (.int k (k.wrap (a * b)))))
      | .quo => if b = 0 then none else some (.c (.d (.int k (k.wrap (a.tdiv b)))))
      | .rem => if b = 0 then none else some (.c (.d (.int k (a.tmod b))))
      | .eql => some (.c (.d (.bool (a == b))))
      | .neq => some (.c (.d (.bool (a != b))))
      | .lss => some (.c (.d (.bool (a < b))))
      | .leq => some (.c (.d (.bool (a ≤ b))))
      | .gtr => some (.c (.d (.bool (a > b))))
      | .geq => some (.c (.d (.bool (a ≥ b))))
      | _ => none
    else none
  | .c (.d (.str a)), .c (.d (.str b)) =>
    match op with
    | .add => if a.length + b.length ≤ 4611686018427387904 then some (.c (.d (.str (a ++ b)))) else none
    | .eql => some (.c (.d (.bool (a == b))))
    | .neq => some (.c (.d (.bool (!(a == b)))))
    | .lss => some (.c (.d (.bool (Op.bytesLess a b))))
    | .leq => some (.c (.d (.bool (Op.bytesLess a b || a == b))))
    | .gtr => some (.c (.d (.bool (!(Op.bytesLess a b || a == b)))))
    | .geq => some (.c (.d (.bool (!(Op.bytesLess a b)))))
    | _ => none
  | _, _ => none

def abinB (op : BinOp) (x y : AV) : Option AV :=
  match x, y with
  | .c (.d (.bool a)), .c (.d (.bool b)) =>
    match op with
    | .eql => some (.c (.d (.bool (a == b))))
    | .neq => some (.c (.d (.bool (!(a == b)))))
    | _ => none
  | _, _ => none

/-- Structs of plain cells that '==' compares: the kinds of the cells. -/
def kindOf : TypeDesc → Option Nat
  | .int _ => some 0
  | .bool => some 1
  | .string => some 2
  | _ => none

def sqs (P : Program) : Nat → List Field → Option (List Nat)
  | _, [] => some []
  | i, f :: r => match P.underlying f.type with
    | some d => match kindOf d, sqs P (i + 1) r with
      | some k, some ks => if f.name ≠ "_" ∧ f.offset = i then some (k :: ks) else none
      | _, _ => none
    | none => none

def sq (P : Program) (t : TypeId) : Option (List Nat) :=
  match P.underlying t with
  | some (.struct fs) => if P.stoodInHeld t = false ∧ P.eqGuardType P.depth t = false then sqs P 0 fs.toList else none
  | _ => none

def cEq : List Nat → List CV → List CV → Option Bool
  | [], [], [] => some true
  | 0 :: ks, .d (.int k a) :: xs, .d (.int k' b) :: ys => if k = k' then (cEq ks xs ys).map fun r => (a == b) && r else none
  | 1 :: ks, .d (.bool a) :: xs, .d (.bool b) :: ys => (cEq ks xs ys).map fun r => (a == b) && r
  | 2 :: ks, .d (.str a) :: xs, .d (.str b) :: ys => (cEq ks xs ys).map fun r => (a == b) && r
  | _, _, _ => none

def abinS (P : Program) (op : BinOp) (t : TypeId) (x y : AV) : Option AV :=
  match x, y with
  | .agg xs, .agg ys => match sq P t with
    | some ks => match cEq ks xs ys with
      | some r => match op with
        | .eql => some (.c (.d (.bool r)))
        | .neq => some (.c (.d (.bool (!r))))
        | _ => none
      | none => none
    | none => none
  | _, _ => none

def aun (op : UnOp) (x : AV) : Option AV :=
  match op, x with
  | .not, .c (.d (.bool b)) => some (.c (.d (.bool (!b))))
  | .neg, .c (.d (.int k n)) => some (.c (.d (.int k (k.wrap (0 - n)))))
  | _, _ => none

/-- Parts laid over the zero cells of a struct. -/
def afill (fl : List (Nat × Nat)) : List CV → List (Nat × List CV) → Option (List CV)
  | cells, [] => some cells
  | cells, (i, x) :: r =>
    match fl[i]? with
    | none => none
    | some (off, size) => if x.length = size ∧ off + size ≤ cells.length then afill fl (splice cells off x) r else none

def aparts (s : St) : List (Nat × Operand) → Option (List (Nat × List CV))
  | [] => some []
  | (i, x) :: r => match aval s x, aparts s r with
    | some v, some l => if v.plain then some ((i, v.cells) :: l) else none
    | _, _ => none

/-- A whole literal's rows: the parts are numbered from 0 on. -/
def arows (s : St) (sz : Nat) : Nat → List (Nat × Operand) → Option (List (List CV))
  | _, [] => some []
  | k, (i, x) :: r => match aval s x, arows s sz (k + 1) r with
    | some v, some l => if i = k ∧ v.plain ∧ v.cells.length = sz then some (v.cells :: l) else none
    | _, _ => none

def caps : List AV → Option (List Nat)
  | [] => some []
  | .c (.ptr l 0) :: r => (caps r).map (l :: ·)
  | _ => none

def avals (s : St) : List Operand → Option (List AV)
  | [] => some []
  | x :: r => match aval s x, avals s r with
    | some v, some l => some (v :: l)
    | _, _ => none

def alen : AV → Option Nat
  | .c (.d (.str b)) => some b.length
  | .c (.d (.sl rows)) => some rows.length
  | .c .nil => some 0
  | .c (.own _ n) => some n
  | _ => none

/-- The rows of a slice that is only read. -/
def rowsOf (A : List Arr) : AV → Option (List (List DV))
  | .c (.d (.sl rows)) => some rows
  | .c .nil => some []
  | .c (.own k n) => match A[k]? with
    | some r => if n = r.rows.length then some r.rows else none
    | none => none
  | _ => none

def byteOfRow : List DV → Option UInt8
  | [.int .u8 n] => if 0 ≤ n ∧ n < 256 then some (UInt8.ofNat n.toNat) else none
  | _ => none

def bytesOf : List (List DV) → Option (List UInt8)
  | [] => some []
  | r :: rs => match byteOfRow r, bytesOf rs with
    | some b, some l => some (b :: l)
    | _, _ => none

def slow (lo : Option AV) : Option Int :=
  match lo with
  | none => some 0
  | some (.c (.d (.int _ n))) => some n
  | _ => none

def shigh (hi : Option AV) (n : Nat) : Option Int :=
  match hi with
  | none => some n
  | some (.c (.d (.int _ n))) => some n
  | _ => none

def oval (s : St) : Option Operand → Option (Option AV)
  | none => some none
  | some x => (aval s x).map some

/-- THE WEAKEST PRECONDITION of an operation that is no call of a Go function. 'ow': a slice literal stays the call's own (it will be appended to or stored into). -/
def wpo (P : Program) (s : St) (ow : Bool) (op : Op) (K : AV → List (List CV) → List Arr → Prop) : Prop :=
  match op with
  | .move x | .assign x => onv (aval s x) fun v => K v s.V s.A
  | .pick c a b => onv (aval s c) fun v => match v with
    | .c (.d (.bool t)) => if t = true then onv (aval s a) fun v => K v s.V s.A else onv (aval s b) fun v => K v s.V s.A
    | _ => False
  | .alloc e => onv (td P e) fun d => onv d.zero fun z => K (.c (.ptr s.V.length 0)) (s.V ++ [z]) s.A
  | .box _ x => onv (aval s x) fun v => v.plain = true ∧ K (.c (.ptr s.V.length 0)) (s.V ++ [v.cells]) s.A
  | .build t parts => onv (td P t) fun d => onv d.zero fun z => onv (aparts s parts.toList) fun ps => onv (afill d.fl z ps) fun cs => d.ar = none ∧ d.fl ≠ [] ∧ K (.agg cs) s.V s.A
  | .buildSlice t len parts => onv (td P t) fun d => onv d.el fun e => onv (td P e) fun de => onv (arows s de.sz 0 parts.toList) fun rows =>
      onv (toRows s.A rows) fun ds => rows.length = len ∧ len * de.sz ≤ 16777216 ∧ 0 < de.sz ∧ de.zero.isSome = true ∧
        if ow then K (.c (.own s.A.length len)) s.V (sealAs s.A rows.flatten ++ [{ sz := de.sz, ety := e, rows := ds, wr := true }]) else K (.c (.d (.sl ds))) s.V (sealAs s.A rows.flatten)
  | .load t a => onv (td P t) fun d => onv (aval s a) fun p => match p with
    | .c p => onv (cellsAt s p d.sz) fun cs => onv (mkV d.ag cs) fun v => K v s.V s.A
    | _ => False
  | .store t a x => onv (td P t) fun d => onv (aval s a) fun p => onv (aval s x) fun v => v.plain = true ∧ v.cells.length = d.sz ∧ match p with
    | .c (.ptr l off) => onv s.V[l]? fun row => off + d.sz ≤ row.length ∧ K (.c .undef) (s.V.set l (splice row off v.cells)) s.A
    | .c (.op k n i off) => onv s.A[k]? fun r => n = r.rows.length ∧ r.wr = true ∧ onv r.rows[i]? fun row => onv (toDs s.A v.cells) fun ds => off + d.sz ≤ r.sz ∧ (v.cells.all fun c => match c with | .own k' _ => k' ≠ k | _ => true) = true ∧
        K (.c .undef) s.V ((sealAs s.A v.cells).set k { r with rows := r.rows.set i (splice row off ds) })
    | _ => False
  | .nilCheck x => onv (aval s x) fun v => match v with
    | .c (.ptr l off) => K (.c (.ptr l off)) s.V s.A
    | .c (.ip r off) => K (.c (.ip r off)) s.V s.A
    | .c (.op k n i off) => K (.c (.op k n i off)) s.V s.A
    | .c (.fn f cap) => K (.c (.fn f cap)) s.V s.A
    | _ => False
  | .binOp op t x y _ => onv (aval s x) fun a => onv (aval s y) fun b => match abin op a b with
    | some v => K v s.V s.A
    | none => match abinS P op t a b with
      | some v => K v s.V s.A
      | none => onv (abinB op a b) fun v => onv (td P t) fun d => d.isB = true ∧ K v s.V s.A
  | .unOp op _ x => onv (aval s x) fun a => onv (aun op a) fun v => K v s.V s.A
  | .convert src dst x => onv (aval s x) fun a => onv (td P src) fun ds => onv (td P dst) fun dd => match a with
    | .c (.d (.int _ n)) => onv dd.ik fun k => K (.c (.d (.int k (k.wrap n)))) s.V s.A
    | .c (.d (.str b)) => dd.isS = true ∧ ds.isS = true ∧ K (.c (.d (.str b))) s.V s.A
    | .c (.d (.sl rows)) => dd.isS = true ∧ onv ds.el fun e => onv (td P e) fun de => de.ik = some .u8 ∧ onv (bytesOf rows) fun b => K (.c (.d (.str b))) s.V s.A
    | _ => False
  | .makeFunc (.func f) first captured => first.size = 0 ∧ onv (avals s captured.toList) fun cs => onv (caps cs) fun ls => K (.c (.fn f ls)) s.V s.A
  | .makeSlice t l c => onv (td P t) fun d => onv d.el fun e => onv (td P e) fun de => onv de.zero fun z => onv (toDs s.A z) fun dz => onv (aval s l) fun vl => onv (aval s c) fun vc => match vl, vc with
    | .c (.d (.int _ n)), .c (.d (.int _ m)) => n = m ∧ 0 ≤ n ∧ n.toNat * de.by_ ≤ 140737488355328 ∧ n.toNat ≤ 9223372036854775807 ∧ 0 < de.sz ∧ z.length = de.sz ∧
        K (.c (.own s.A.length n.toNat)) s.V (s.A ++ [{ sz := de.sz, ety := e, rows := List.replicate n.toNat dz, wr := true }])
    | _, _ => False
  | .slice t x lo hi mx => mx = none ∧ onv (td P t) fun d => onv (aval s x) fun v => onv (oval s lo) fun l => onv (oval s hi) fun h => match v with
    | .c (.d (.str b)) => d.isS = true ∧ onv (slow l) fun i => onv (shigh h b.length) fun j => 0 ≤ i ∧ i ≤ j ∧ j ≤ b.length ∧ K (.c (.d (.str ((b.take j.toNat).drop i.toNat)))) s.V s.A
    | v => onv (rowsOf s.A v) fun rows => onv d.el fun e => onv (td P e) fun de => onv (slow l) fun i => onv (shigh h rows.length) fun j => 0 ≤ i ∧ i ≤ j ∧ j ≤ rows.length ∧ (∀ r ∈ rows, r.length = de.sz) ∧
        K (.c (.d (.sl ((rows.take j.toNat).drop i.toNat)))) s.V (sealAs s.A v.cells)
  | .fieldAddr t x f => onv (td P t) fun d => onv d.fl[f]? fun (off, sz) => sz ≠ 0 ∧ onv (aval s x) fun v => match v with
    | .c (.ptr l o) => K (.c (.ptr l (o + off))) s.V s.A
    | .c (.ip r o) => K (.c (.ip r (o + off))) s.V s.A
    | .c (.op k n i o) => K (.c (.op k n i (o + off))) s.V s.A
    | _ => False
  | .indexAddr t x ix => onv (td P t) fun d => onv (aval s x) fun v => onv (aval s ix) fun i => match i with
    | .c (.d (.int _ n)) => 0 ≤ n ∧ (match v with
      | .c (.d (.sl rows)) => onv d.el fun e => onv (td P e) fun de => onv rows[n.toNat]? fun row => row.length = de.sz ∧ K (.c (.ip row 0)) s.V s.A
      | .c (.own k m) => onv d.el fun e => onv (td P e) fun de => onv s.A[k]? fun r => m = r.rows.length ∧ n.toNat < m ∧ r.sz = de.sz ∧ K (.c (.op k m n.toNat 0)) s.V s.A
      | .c (.ptr l off) => onv d.ar fun (len, e) => onv (td P e) fun de => n < len ∧ K (.c (.ptr l (off + n.toNat * de.sz))) s.V s.A
      | _ => False)
    | _ => False
  | .index t x ix => onv (td P t) fun d => onv (aval s x) fun v => onv (aval s ix) fun i => match v, i with
    | .c (.d (.str b)), .c (.d (.int _ n)) => d.isS = true ∧ 0 ≤ n ∧ onv b[n.toNat]? fun c => K (.c (.d (.int .u8 c.toNat))) s.V s.A
    | _, _ => False
  | .extract x i => onv (aval s x) fun v => match v with
    | .tup xs => onv xs[i]? fun u => match u with
      | .tup _ => False
      | u => K u s.V s.A
    | _ => False
  | .call { callee := .builtin .len, args, argTypes } => onv args[0]? fun x => onv (aval s x) fun v => onv argTypes[0]? fun t => onv (td P t) fun d => onv (alen v) fun n => (d.isS = true ∨ d.el.isSome = true) ∧
      (match v with | .c (.d (.str _)) => d.isS = true | _ => d.el.isSome = true) ∧ K (.c (.d (.int .i64 n))) s.V s.A
  | .call { callee := .builtin .append, args, argTypes } => onv args[0]? fun x => onv args[1]? fun y => onv argTypes[0]? fun t => argTypes[1]? = some t ∧ onv (td P t) fun d => onv d.el fun e => onv (td P e) fun de =>
      de.zero.isSome = true ∧ (onv de.zero fun z => z.length = de.sz) ∧ onv (aval s x) fun v => onv (aval s y) fun u => onv (rowsOf s.A u) fun nr => (∀ r ∈ nr, r.length = de.sz) ∧ match v with
    | .c (.own k n) => onv s.A[k]? fun r => n = r.rows.length ∧ r.ety = e ∧ r.sz = de.sz ∧ (n + nr.length) * de.by_ ≤ 140737488355328 ∧ n + nr.length ≤ 9223372036854775807 ∧
        K (.c (.own k (n + nr.length))) s.V (s.A.set k { r with rows := r.rows ++ nr })
    | .c .nil => nr.length * de.by_ ≤ 140737488355328 ∧ nr.length ≤ 9223372036854775807 ∧ K (.c (.own s.A.length nr.length)) s.V (s.A ++ [{ sz := de.sz, ety := e, rows := nr, wr := true }])
    | _ => False
  | .call { callee := .builtin .max, args, .. } => onv args[0]? fun x => onv args[1]? fun y => args.size = 2 ∧ onv (aval s x) fun v => onv (aval s y) fun u => match v, u with
    | .c (.d (.int k a)), .c (.d (.int _ b)) => K (.c (.d (.int k (if b > a then b else a)))) s.V s.A
    | _, _ => False
  | .call { callee := .builtin .min, args, .. } => onv args[0]? fun x => onv args[1]? fun y => args.size = 2 ∧ onv (aval s x) fun v => onv (aval s y) fun u => match v, u with
    | .c (.d (.int k a)), .c (.d (.int _ b)) => K (.c (.d (.int k (if b < a then b else a)))) s.V s.A
    | _, _ => False
  | _ => False

end Go.Av
