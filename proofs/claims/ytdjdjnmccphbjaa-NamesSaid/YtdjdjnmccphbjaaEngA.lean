/- EngA: an abstract machine on readable data: values, state, what an operation does. No program is named here. -/
import Derived.WalkKit
import Derived.ProofKit
import Derived.Orders
import Derived.Below
namespace Go.Proofs.Ytdjdjnmccphbjaa.E
open Go.RowKit

/-- a value, read: memory of others is read as lists; memory of one's own is named -/
inductive AV where
  | und
  | nilv
  | nn
  | at (v : Value)
  | nl
  | lst (fr : Bool) (s : Nat) (rows : List (List AV))
  | rp (cells : List AV)
  | own (i o n : Nat)
  | ptr (i s r o : Nat)
  | agg (l : List AV)
  | tup (l : List AV)
  | fn (f : FuncId) (caps : List AV)

instance : Inhabited AV := ⟨.nl⟩

/-- a row of one's own: the type of its elements, their size, the elements -/
structure HE where
  ty : TypeId
  s : Nat
  rows : List (List AV)

abbrev Heap := Nat → Option HE

def upd {α : Type} (f : Nat → α) (k : Nat) (v : α) : Nat → α := fun x => if x = k then v else f x

structure St where
  t : Nat → AV
  h : Heap
  n : Nat

def St.put (st : St) (d : Option Tmp) (v : AV) : St :=
  match d with
  | some d => ⟨upd st.t d v, st.h, st.n⟩
  | none => st

/-- a constant, read -/
def leafOf : Value → AV
  | .slice none 0 0 => .nl
  | v => .at v
def ofVal : Value → AV
  | .slice none 0 0 => .nl
  | .agg cs => .agg (cs.toList.map leafOf)
  | v => .at v

def evA (t : Nat → AV) : Operand → AV
  | .tmp k => t k
  | .const v => ofVal v
  | .func f => .fn f []
  | .global g => .at (.pointer (some ⟨g, 0, none⟩))

/-- what is known of a type: its size, whether it is a struct or an array, bytes -/
structure TI where
  size : Nat
  agg : Bool
  bytes : Nat
  zero : List AV

inductive TK where
  | struct (l : List (Nat × Nat))
  | slice (e : TypeId)
  | array (n : Nat) (e : TypeId)
  | bool
  | int (k : IntKind)
  | string
  | other

def zeroA (v : Value) : List AV := match v with
  | .agg cs => cs.toList.map leafOf
  | v => [leafOf v]

def tkOf (P : Program) (t : TypeId) : TK :=
  match P.underlying t with
  | some (.struct fs) => match fs.toList.mapM (fun f => (P.info? f.type).map fun i => (f.offset, i.size)) with
    | some l => .struct l
    | none => .other
  | some (.slice e) => .slice e
  | some (.array n e) => .array n e
  | some .bool => .bool
  | some (.int k) => .int k
  | some .string => .string
  | _ => .other

/-- a value that no memory bears on -/
def atomic : Value → Bool
  | .bool _ | .int _ _ | .string _ | .pointer none | .nilFunc | .nilIface => true
  | _ => false

def okLeaf : Value → Bool
  | .slice none 0 0 => true
  | v => atomic v
def okConst : Value → Bool
  | .agg cs => cs.toList.all okLeaf
  | v => okLeaf v
def tiOf (P : Program) (t : TypeId) : Option TI :=
  match P.info? t, P.underlying t with
  | some i, some d =>
    match i.zero with
    | some z => if okConst z && z.cells.size == i.size then some ⟨i.size, (match d with | .struct _ => true | .array _ _ => true | _ => false), i.bytes, zeroA z⟩ else none
    | none => none
  | _, _ => none

def cellsA : AV → List AV
  | .agg l => l
  | .und => []
  | .tup _ => []
  | a => [a]

def natOf : AV → Option Nat
  | .at (.int _ n) => if 0 ≤ n then some n.toNat else none
  | _ => none

/-- so many cells out of a row, as a value -/
def takeA (ti : TI) (cells : List AV) (o : Nat) : Option AV :=
  if o + ti.size ≤ cells.length then (if ti.agg then some (.agg ((cells.drop o).take ti.size)) else cells[o]?) else none

def loadA (P : Program) (h : Heap) (t : TypeId) (x : AV) : Option AV :=
  match tiOf P t with
  | none => none
  | some ti => match x with
    | .rp cells => takeA ti cells 0
    | .ptr i s r o => match h i with
      | some e => if e.s = s then (match e.rows[r]? with | some row => takeA ti row o | none => none) else none
      | none => none
    | _ => none

def putCells (row : List AV) (o : Nat) (cs : List AV) : List AV := row.take o ++ cs ++ row.drop (o + cs.length)

def storeA (P : Program) (h : Heap) (t : TypeId) (x v : AV) : Option Heap :=
  match tiOf P t with
  | none => none
  | some ti => match x with
    | .ptr i s r o => match h i with
      | some e => if e.s = s then (match e.rows[r]? with
          | some row => if (cellsA v).length = ti.size ∧ 0 < ti.size ∧ o + ti.size ≤ row.length then some (upd h i (some ⟨e.ty, e.s, e.rows.set r (putCells row o (cellsA v))⟩)) else none
          | none => none) else none
      | none => none
    | _ => none

def cmpA (op : BinOp) (x y : Int) : Option Bool :=
  match op with
  | .eql => some (decide (x = y))
  | .neq => some (!decide (x = y))
  | .lss => some (decide (x < y))
  | .leq => some (decide (x ≤ y))
  | .gtr => some (decide (x > y))
  | .geq => some (decide (x ≥ y))
  | _ => none

def binA (P : Program) (op : BinOp) (t : TypeId) (x y : AV) : Option AV :=
  match x, y with
  | .at (.int k a), .at (.int k' b) =>
    if k = k' then
      match op with
      | .add => some (.at (.int k (k.wrap (a + b))))
      | .sub => some (.at (.int k (k.wrap (a - b))))
      | .mul => some (.at (.int k (k.wrap (a * b))))
      | .rem => if b = 0 then none else some (.at (.int k (a.tmod b)))
      | op => (cmpA op a b).map fun r => .at (.bool r)
    else none
  | .at (.bool a), .at (.bool b) =>
    match tkOf P t, op with
    | .bool, .eql => some (.at (.bool (a == b)))
    | .bool, .neq => some (.at (.bool (!(a == b))))
    | _, _ => none
  | .at (.string a), .at (.string b) =>
    match op with
    | .eql => some (.at (.bool (decide (a = b))))
    | .neq => some (.at (.bool (!decide (a = b))))
    | _ => none
  | _, _ => none

def unA (op : UnOp) (x : AV) : Option AV :=
  match op, x with
  | .not, .at (.bool b) => some (.at (.bool !b))
  | _, _ => none

def fieldAddrA (P : Program) (t : TypeId) (x : AV) (f : Nat) : Option AV :=
  match tkOf P t with
  | .struct fs => match fs[f]? with
    | some (off, sz) => if sz = 0 then none else match x with
      | .ptr i s r o => some (.ptr i s r (o + off))
      | .rp cells => some (.rp (cells.drop off))
      | _ => none
    | none => none
  | _ => none

def indexAddrA (P : Program) (h : Heap) (t : TypeId) (x : AV) (ix : AV) : Option AV :=
  match natOf ix with
  | none => none
  | some k => match tkOf P t with
    | .slice e => match tiOf P e with
      | none => none
      | some ti => match x with
        | .lst _ s rows => if s = ti.size then (rows[k]?).map .rp else none
        | .own i o n => match h i with
          | some en => if en.s = ti.size ∧ k < n ∧ o + n ≤ en.rows.length then some (.ptr i en.s (o + k) 0) else none
          | none => none
        | _ => none
    | .array n e => match tiOf P e with
      | none => none
      | some ti => match x with
        | .ptr i s r o => if k < n then some (.ptr i s r (o + k * ti.size)) else none
        | _ => none
    | _ => none

def indexA (P : Program) (t : TypeId) (x : AV) (ix : AV) : Option AV :=
  match natOf ix with
  | none => none
  | some k => match tkOf P t, x with
    | .array n e, .agg cs => match tiOf P e with
      | none => none
      | some ti => if k < n then takeA ti cs (k * ti.size) else none
    | .string, .at (.string s) => (s[k]?).map fun b => .at (.int .u8 b.toNat)
    | _, _ => none

def lenA (k : TK) (x : AV) : Option Nat :=
  match k, x with
  | .slice _, .nl => some 0
  | .slice _, .lst _ _ rows => some rows.length
  | .slice _, .own _ _ n => some n
  | .string, .at (.string s) => some s.size
  | _, _ => none

/-- a slice of a slice; with a third index: only where nothing is left room for -/
def sliceA (h : Heap) (sz : Nat) (x : AV) (lo hi mx : Option AV) : Option AV :=
  match mx with
  | some m => match lo, hi, natOf m with
    | none, some hi, some 0 => if natOf hi = some 0 then (match x with | .nl | .lst _ _ _ => some .nl | .own _ 0 _ => some .nl | _ => none) else none
    | _, _, _ => none
  | none => match x with
    | .nl => match lo.elim (some 0) natOf, hi.elim (some 0) natOf with
      | some 0, some 0 => some .nl
      | _, _ => none
    | .lst fr s rows => match lo.elim (some 0) natOf, hi.elim (some rows.length) natOf with
      | some l, some m => if s = sz ∧ l ≤ m ∧ m ≤ rows.length then some (.lst fr s ((rows.take m).drop l)) else none
      | _, _ => none
    | .own i o n => match lo.elim (some 0) natOf, hi.elim (some n) natOf, h i with
      | some l, some m, some e => if e.s = sz ∧ l ≤ m ∧ m ≤ n then (if l = m ∧ 0 < l then some (.lst true e.s []) else some (.own i (o + l) (m - l))) else none
      | _, _, _ => none
    | _ => none

/-- parts laid over cells -/
def buildA (cells : List AV) (place : Nat → Option (Nat × Nat)) : List (Nat × AV) → Option (List AV)
  | [] => some cells
  | (i, v) :: rest => match place i with
    | none => none
    | some (off, sz) => if (cellsA v).length = sz ∧ 0 < sz ∧ off + sz ≤ cells.length then buildA (putCells cells off (cellsA v)) place rest else none

/-- a row of cells, cut into so many rows -/
def chunk (s : Nat) : Nat → List AV → List (List AV)
  | 0, _ => []
  | n + 1, l => l.take s :: chunk s n (l.drop s)

/-- rows, of which some are laid -/
def buildRows (n s : Nat) (zero : List AV) (parts : List (Nat × AV)) : Option (List (List AV)) :=
  if zero.length = s then (buildA ((List.replicate n zero).flatten) (fun i => some (i * s, s)) parts).map (chunk s n) else none

/-- is a slice nil? -/
def nilTest : AV → Option Bool
  | .nilv => some true
  | .nn => some false
  | .lst _ _ (_ :: _) => some false
  | .own _ _ (_ + 1) => some false
  | _ => none

/-- the lesser of two numbers -/
def minA (x y : AV) : Option AV := match x, y with
  | .at (.int k a), .at (.int k' b) => if k = k' then some (.at (.int k (if b < a then b else a))) else none
  | _, _ => none

def valA (P : Program) (t : Nat → AV) (h : Heap) : Op → Option AV
  | .move x => some (evA t x)
  | .assign x => some (evA t x)
  | .pick c a b => match evA t c with | .at (.bool x) => some (if x then evA t a else evA t b) | _ => none
  | .load ty a => loadA P h ty (evA t a)
  | .nilCheck x => match evA t x with | .ptr i s r o => some (.ptr i s r o) | .rp c => some (.rp c) | _ => none
  | .binOp .eql ty x (.const (.slice none 0 0)) _ => match tkOf P ty with
    | .slice _ => (nilTest (evA t x)).map fun b => .at (.bool b)
    | _ => none
  | .binOp op ty x y _ => binA P op ty (evA t x) (evA t y)
  | .unOp op _ x => unA op (evA t x)
  | .extract x k => match evA t x with | .tup l => l[k]? | _ => none
  | .fieldAddr ty x f => fieldAddrA P ty (evA t x) f
  | .indexAddr ty x i => indexAddrA P h ty (evA t x) (evA t i)
  | .index ty x i => indexA P ty (evA t x) (evA t i)
  | .slice ty x lo hi mx => match tkOf P ty with
    | .slice e => (tiOf P e).bind fun ti => sliceA h ti.size (evA t x) (lo.map (evA t)) (hi.map (evA t)) (mx.map (evA t))
    | _ => none
  | .build ty parts => (tiOf P ty).bind fun ti => match tkOf P ty with
    | .struct fs => (buildA ti.zero (fun i => fs[i]?) (parts.toList.map fun p => (p.1, evA t p.2))).map .agg
    | .array _ e => (tiOf P e).bind fun te => (buildA ti.zero (fun i => some (i * te.size, te.size)) (parts.toList.map fun p => (p.1, evA t p.2))).map .agg
    | _ => none
  | .makeFunc (.func f) first caps => if first.isEmpty then some (.fn f (caps.toList.map (evA t))) else none
  | .call ⟨.builtin .len, args, tys⟩ => match args.toList, tys.toList with
    | [x], [ty] => (lenA (tkOf P ty) (evA t x)).map fun n => .at (.int .i64 n)
    | _, _ => none
  | .call ⟨.builtin .min, args, _⟩ => match args.toList with
    | [x, y] => minA (evA t x) (evA t y)
    | _ => none
  | _ => none

/-- what makes memory: the new row, and the value that names it -/
def newA (P : Program) (t : Nat → AV) (id : Nat) : Op → Option (HE × AV)
  | .alloc e => (tiOf P e).bind fun ti => if ti.zero.length = ti.size ∧ 0 < ti.size then some (⟨e, ti.size, [ti.zero]⟩, .ptr id ti.size 0 0) else none
  | .box e x => (tiOf P e).bind fun ti => if (cellsA (evA t x)).length = ti.size ∧ 0 < ti.size then some (⟨e, ti.size, [cellsA (evA t x)]⟩, .ptr id ti.size 0 0) else none
  | .buildSlice ty n parts => match tkOf P ty with
    | .slice e => (tiOf P e).bind fun ti => if 0 < ti.size ∧ n * ti.size ≤ 10000 then (buildRows n ti.size ti.zero (parts.toList.map fun p => (p.1, evA t p.2))).map fun rows => (⟨e, ti.size, rows⟩, .own id 0 n) else none
    | _ => none
  | .makeSlice ty l c => match tkOf P ty, natOf (evA t l), natOf (evA t c) with
    | .slice e, some n, some m => (tiOf P e).bind fun ti => if 0 < ti.size ∧ ti.zero.length = ti.size ∧ n = m ∧ n ≤ 1000000 ∧ ti.bytes ≤ 1000 then some (⟨e, ti.size, List.replicate n ti.zero⟩, .own id 0 n) else none
    | _, _, _ => none
  | _ => none

end Go.Proofs.Ytdjdjnmccphbjaa.E
