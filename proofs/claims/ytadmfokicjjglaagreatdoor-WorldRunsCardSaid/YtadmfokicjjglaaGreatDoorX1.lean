/- X1: EngA: an abstract machine on readable data: values, state, what an operation does. No program is named here. EngB: how what is read lies in memory; what a call promises; the abstract machine on code. EngC: how values stay while the world goes on; types. EngD: each operation that only reckons or reads does what the abstract machine says. EngE: the other operations that reckon or read. EngF: parts laid over cells; every operation that reckons or reads. EngG: every operation that reckons or reads does what the abstract machine says; what makes memory; what writes. EngH: what makes memory, what writes. -/
import Derived.WalkKit
import Derived.ProofKit
import Derived.Orders
import Derived.Below
import GoSem.ClaimData
import Derived.Test.YtadmfokicjjglaaGreatDoorProg
import Derived.Lib.LaidTab
import Derived.Lib.ItoaNum
import Derived.Laws.Slices
import Derived.Laws.StructEq
import Derived.Laws.BytesArg
import Derived.Laws.Tables
import Derived.Laws.MakeOwn
import Derived.Maps.AppendAt
namespace Go.Proofs.YtadmfokicjjglaaGreatDoor.E
open Go.RowKit
inductive AV where
 | und
 | nilv
 | nn
 | at (v : Value)
 | nl
 | lst (fr : Bool) (s : Nat) (rows : List (List AV))
 | rp (cells : List AV)
 | own (i o n : Nat)
 | ptr (i s r o : Nat)
 | agg (l : List AV)
 | tup (l : List AV)
 | fn (f : FuncId) (caps : List AV)
 | err
instance : Inhabited AV := ⟨.nl⟩
structure HE where
 ty : TypeId
 s : Nat
 rows : List (List AV)
abbrev Heap := Nat -> Option HE
def upd {α : Type} (f : Nat -> α) (k : Nat) (v : α) : Nat -> α := fun x => if x = k then v else f x
structure St where
 t : Nat -> AV
 h : Heap
 n : Nat
def St.put (st : St) (d : Option Tmp) (v : AV) : St :=
 match d with
 | some d => ⟨upd st.t d v, st.h, st.n⟩
 | none => st
def leafOf : Value -> AV
 | .slice none 0 0 => .nl
 | v => .at v
def ofVal : Value -> AV
 | .slice none 0 0 => .nl
 | .agg cs => .agg (cs.toList.map leafOf)
 | v => .at v
def evA (t : Nat -> AV) : Operand -> AV
 | .tmp k => t k
 | .const v => ofVal v
 | .func f => .fn f []
 | .global g => .at (.pointer (some ⟨g, 0, none⟩))
structure TI where
 size : Nat
 agg : Bool
 bytes : Nat
 zero : List AV
inductive TK where
 | struct (l : List (Nat × Nat))
 | slice (e : TypeId)
 | array (n : Nat) (e : TypeId)
 | bool
 | int (k : IntKind)
 | string
 | iface
 | other
def zeroA (v : Value) : List AV := match v with
 | .agg cs => cs.toList.map leafOf
 | v => [leafOf v]
def tkOf (P : Program) (t : TypeId) : TK :=
 match P.underlying t with
 | some (.struct fs) => match fs.toList.mapM (fun f => (P.info? f.type).map fun i => (f.offset, i.size)) with
  | some l => .struct l
  | none => .other
 | some (.slice e) => .slice e
 | some (.array n e) => .array n e
 | some .bool => .bool
 | some (.int k) => .int k
 | some .string => .string
 | some (.interface _) => .iface
 | _ => .other
def atomic : Value -> Bool
 | .bool _ | .int _ _ | .string _ | .pointer none | .nilFunc | .nilIface | .map _ => true
 | _ => false
def okLeaf : Value -> Bool
 | .slice none 0 0 => true
 | v => atomic v
def okConst : Value -> Bool
 | .agg cs => cs.toList.all okLeaf
 | v => okLeaf v
def tiOf (P : Program) (t : TypeId) : Option TI :=
 match P.info? t, P.underlying t with
 | some i, some d =>
  match i.zero with
  | some z => if okConst z && z.cells.size == i.size then some ⟨i.size, (match d with | .struct _ => true | .array _ _ => true | _ => false), i.bytes, zeroA z⟩ else none
  | none => none
 | _, _ => none
def cellsA : AV -> List AV
 | .agg l => l
 | .und => []
 | .tup _ => []
 | a => [a]
def natOf : AV -> Option Nat
 | .at (.int _ n) => if 0 <= n then some n.toNat else none
 | _ => none
def takeA (ti : TI) (cells : List AV) (o : Nat) : Option AV :=
 if o + ti.size <= cells.length then (if ti.agg then some (.agg ((cells.drop o).take ti.size)) else cells[o]?) else none
def loadA (P : Program) (h : Heap) (t : TypeId) (x : AV) : Option AV :=
 match tiOf P t with
 | none => none
 | some ti => match x with
  | .rp cells => takeA ti cells 0
  | .ptr i s r o => match h i with
   | some e => if e.s = s then (match e.rows[r]? with | some row => takeA ti row o | none => none) else none
   | none => none
  | _ => none
def putCells (row : List AV) (o : Nat) (cs : List AV) : List AV := row.take o ++ cs ++ row.drop (o + cs.length)
def storeA (P : Program) (h : Heap) (t : TypeId) (x v : AV) : Option Heap :=
 match tiOf P t with
 | none => none
 | some ti => match x with
  | .ptr i s r o => match h i with
   | some e => if e.s = s then (match e.rows[r]? with
     | some row => if (cellsA v).length = ti.size /\ 0 < ti.size /\ o + ti.size <= row.length then some (upd h i (some ⟨e.ty, e.s, e.rows.set r (putCells row o (cellsA v))⟩)) else none
     | none => none) else none
   | none => none
  | _ => none
def cmpA (op : BinOp) (x y : Int) : Option Bool :=
 match op with
 | .eql => some (decide (x = y))
 | .neq => some (!decide (x = y))
 | .lss => some (decide (x < y))
 | .leq => some (decide (x <= y))
 | .gtr => some (decide (x > y))
 | .geq => some (decide (x >= y))
 | _ => none
def binA (P : Program) (op : BinOp) (t : TypeId) (x y : AV) : Option AV :=
 match x, y with
 | .at (.int k a), .at (.int k' b) =>
  if k = k' then
   match op with
   | .add => some (.at (.int k (k.wrap (a + b))))
   | .sub => some (.at (.int k (k.wrap (a - b))))
   | .mul => some (.at (.int k (k.wrap (a * b))))
   | .rem => if b = 0 then none else some (.at (.int k (a.tmod b)))
   | op => (cmpA op a b).map fun r => .at (.bool r)
  else none
 | .at (.bool a), .at (.bool b) =>
  match tkOf P t, op with
  | .bool, .eql => some (.at (.bool (a == b)))
  | .bool, .neq => some (.at (.bool (!(a == b))))
  | _, _ => none
 | .at (.string a), .at (.string b) =>
  match op with
  | .eql => some (.at (.bool (decide (a = b))))
  | .neq => some (.at (.bool (!decide (a = b))))
  | .add => if a.size + b.size <= 4000000000000000000 then some (.at (.string ⟨(a.data.toList ++ b.data.toList).toArray⟩)) else none
  | _ => none
 | _, _ => none
def unA (op : UnOp) (x : AV) : Option AV :=
 match op, x with
 | .not, .at (.bool b) => some (.at (.bool !b))
 | _, _ => none
def fieldAddrA (P : Program) (t : TypeId) (x : AV) (f : Nat) : Option AV :=
 match tkOf P t with
 | .struct fs => match fs[f]? with
  | some (off, sz) => if sz = 0 then none else match x with
   | .ptr i s r o => some (.ptr i s r (o + off))
   | .rp cells => some (.rp (cells.drop off))
   | _ => none
  | none => none
 | _ => none
def indexAddrA (P : Program) (h : Heap) (t : TypeId) (x : AV) (ix : AV) : Option AV :=
 match natOf ix with
 | none => none
 | some k => match tkOf P t with
  | .slice e => match tiOf P e with
   | none => none
   | some ti => match x with
    | .lst _ s rows => if s = ti.size then (rows[k]?).map .rp else none
    | .own i o n => match h i with
     | some en => if en.s = ti.size /\ k < n /\ o + n <= en.rows.length then some (.ptr i en.s (o + k) 0) else none
     | none => none
    | _ => none
  | .array n e => match tiOf P e with
   | none => none
   | some ti => match x with
    | .ptr i s r o => if k < n then some (.ptr i s r (o + k * ti.size)) else none
    | _ => none
  | _ => none
def indexA (P : Program) (t : TypeId) (x : AV) (ix : AV) : Option AV :=
 match natOf ix with
 | none => none
 | some k => match tkOf P t, x with
  | .array n e, .agg cs => match tiOf P e with
   | none => none
   | some ti => if k < n then takeA ti cs (k * ti.size) else none
  | .string, .at (.string s) => (s[k]?).map fun b => .at (.int .u8 b.toNat)
  | _, _ => none
def lenA (k : TK) (x : AV) : Option Nat :=
 match k, x with
 | .slice _, .nl => some 0
 | .slice _, .lst _ _ rows => some rows.length
 | .slice _, .own _ _ n => some n
 | .string, .at (.string s) => some s.size
 | _, _ => none
def sliceA (h : Heap) (sz : Nat) (x : AV) (lo hi mx : Option AV) : Option AV :=
 match mx with
 | some m => match lo, hi, natOf m with
  | none, some hi, some 0 => if natOf hi = some 0 then (match x with | .nl | .lst _ _ _ => some .nl | .own _ 0 _ => some .nl | _ => none) else none
  | _, _, _ => none
 | none => match x with
  | .nl => match lo.elim (some 0) natOf, hi.elim (some 0) natOf with
   | some 0, some 0 => some .nl
   | _, _ => none
  | .lst fr s rows => match lo.elim (some 0) natOf, hi.elim (some rows.length) natOf with
   | some l, some m => if s = sz /\ l <= m /\ m <= rows.length then some (.lst fr s ((rows.take m).drop l)) else none
   | _, _ => none
  | .own i o n => match lo.elim (some 0) natOf, hi.elim (some n) natOf, h i with
   | some l, some m, some e => if e.s = sz /\ l <= m /\ m <= n then (if l = m /\ 0 < l then some (.lst true e.s []) else some (.own i (o + l) (m - l))) else none
   | _, _, _ => none
  | _ => none
def sliceS (x : AV) (lo hi mx : Option AV) : Option AV :=
 match mx, x with
 | none, .at (.string s) => match lo.elim (some 0) natOf, hi.elim (some s.size) natOf with
  | some l, some m => if l <= m /\ m <= s.size then some (.at (.string ⟨((s.data.toList.take m).drop l).toArray⟩)) else none
  | _, _ => none
 | _, _ => none
def B8 (l : List UInt8) : List (List AV) := l.map fun b => [.at (.int .u8 b.toNat)]
def bytesOf : List (List AV) -> Option (List UInt8)
 | [] => some []
 | [.at (.int .u8 n)] :: rest => (bytesOf rest).map (UInt8.ofNat n.toNat :: ·)
 | _ => none
@[simp] theorem bytesOf_B8 (l : List UInt8) : bytesOf (B8 l) = some l := by
 induction l with
 | nil => rfl
 | cons b l ih =>
  show (bytesOf (B8 l)).map _ = _;rw [ih];simp
@[simp] theorem B8_length (l : List UInt8) : (B8 l).length = l.length := by simp [B8]
@[simp] theorem B8_get (l : List UInt8) (k : Nat) : (B8 l)[k]? = (l[k]?).map fun x => [AV.at (.int .u8 x.toNat)] := by simp [B8]
def isByte : TK -> Bool
 | .int .u8 => true
 | _ => false
def convA (P : Program) (src dst : TypeId) (x : AV) : Option AV :=
 match tkOf P src, tkOf P dst, x with
 | .int _, .int k, .at (.int _ n) => some (.at (.int k (k.wrap n)))
 | .slice e, .string, .nl => if isByte (tkOf P e) then some (.at (.string ⟨[].toArray⟩)) else none
 | .slice e, .string, .lst _ s rows => if isByte (tkOf P e) /\ s = 1 then (bytesOf rows).map fun l => .at (.string ⟨l.toArray⟩) else none
 | .string, .slice e, .at (.string s) => if isByte (tkOf P e) /\ s.size <= 1000000 then some (.lst true 1 (B8 s.data.toList)) else none
 | _, _, _ => none
def errTest : AV -> Option Bool
 | .err => some false
 | .at .nilIface => some true
 | _ => none
def buildA (cells : List AV) (place : Nat -> Option (Nat × Nat)) : List (Nat × AV) -> Option (List AV)
 | [] => some cells
 | (i, v) :: rest => match place i with
  | none => none
  | some (off, sz) => if (cellsA v).length = sz /\ 0 < sz /\ off + sz <= cells.length then buildA (putCells cells off (cellsA v)) place rest else none
def chunk (s : Nat) : Nat -> List AV -> List (List AV)
 | 0, _ => []
 | n + 1, l => l.take s :: chunk s n (l.drop s)
def buildRows (n s : Nat) (zero : List AV) (parts : List (Nat × AV)) : Option (List (List AV)) :=
 if zero.length = s then (buildA ((List.replicate n zero).flatten) (fun i => some (i * s, s)) parts).map (chunk s n) else none
def nilTest : AV -> Option Bool
 | .nilv => some true
 | .nn => some false
 | .lst _ _ (_ :: _) => some false
 | .own _ _ (_ + 1) => some false
 | _ => none
def minA (x y : AV) : Option AV := match x, y with
 | .at (.int k a), .at (.int k' b) => if k = k' then some (.at (.int k (if b < a then b else a))) else none
 | _, _ => none
def valA (P : Program) (t : Nat -> AV) (h : Heap) : Op -> Option AV
 | .move x => some (evA t x)
 | .assign x => some (evA t x)
 | .pick c a b => match evA t c with | .at (.bool x) => some (if x then evA t a else evA t b) | _ => none
 | .load ty a => loadA P h ty (evA t a)
 | .nilCheck x => match evA t x with | .ptr i s r o => some (.ptr i s r o) | .rp c => some (.rp c) | _ => none
 | .binOp .eql ty x (.const (.slice none 0 0)) _ => match tkOf P ty with
  | .slice _ => (nilTest (evA t x)).map fun b => .at (.bool b)
  | _ => none
 | .binOp .eql ty x (.const .nilIface) _ => match tkOf P ty with
  | .iface => (errTest (evA t x)).map fun b => .at (.bool b)
  | _ => none
 | .binOp .neq ty x (.const .nilIface) _ => match tkOf P ty with
  | .iface => (errTest (evA t x)).map fun b => .at (.bool !b)
  | _ => none
 | .binOp op ty x y _ => binA P op ty (evA t x) (evA t y)
 | .unOp op _ x => unA op (evA t x)
 | .extract x k => match evA t x with | .tup l => l[k]? | _ => none
 | .fieldAddr ty x f => fieldAddrA P ty (evA t x) f
 | .indexAddr ty x i => indexAddrA P h ty (evA t x) (evA t i)
 | .index ty x i => indexA P ty (evA t x) (evA t i)
 | .slice ty x lo hi mx => match tkOf P ty with
  | .slice e => (tiOf P e).bind fun ti => sliceA h ti.size (evA t x) (lo.map (evA t)) (hi.map (evA t)) (mx.map (evA t))
  | .string => sliceS (evA t x) (lo.map (evA t)) (hi.map (evA t)) (mx.map (evA t))
  | _ => none
 | .convert src dst x => convA P src dst (evA t x)
 | .build ty parts => (tiOf P ty).bind fun ti => match tkOf P ty with
  | .struct fs => (buildA ti.zero (fun i => fs[i]?) (parts.toList.map fun p => (p.1, evA t p.2))).map .agg
  | .array _ e => (tiOf P e).bind fun te => (buildA ti.zero (fun i => some (i * te.size, te.size)) (parts.toList.map fun p => (p.1, evA t p.2))).map .agg
  | _ => none
 | .makeFunc (.func f) first caps => if first.isEmpty then some (.fn f (caps.toList.map (evA t))) else none
 | .call ⟨.builtin .len, args, tys⟩ => match args.toList, tys.toList with
  | [x], [ty] => (lenA (tkOf P ty) (evA t x)).map fun n => .at (.int .i64 n)
  | _, _ => none
 | .call ⟨.builtin .min, args, _⟩ => match args.toList with
  | [x, y] => minA (evA t x) (evA t y)
  | _ => none
 | _ => none
def newA (P : Program) (t : Nat -> AV) (id : Nat) : Op -> Option (HE × AV)
 | .alloc e => (tiOf P e).bind fun ti => if ti.zero.length = ti.size /\ 0 < ti.size then some (⟨e, ti.size, [ti.zero]⟩, .ptr id ti.size 0 0) else none
 | .box e x => (tiOf P e).bind fun ti => if (cellsA (evA t x)).length = ti.size /\ 0 < ti.size then some (⟨e, ti.size, [cellsA (evA t x)]⟩, .ptr id ti.size 0 0) else none
 | .buildSlice ty n parts => match tkOf P ty with
  | .slice e => (tiOf P e).bind fun ti => if 0 < ti.size /\ n * ti.size <= 10000 then (buildRows n ti.size ti.zero (parts.toList.map fun p => (p.1, evA t p.2))).map fun rows => (⟨e, ti.size, rows⟩, .own id 0 n) else none
  | _ => none
 | .makeSlice ty l c => match tkOf P ty, natOf (evA t l), natOf (evA t c) with
  | .slice e, some n, some m => (tiOf P e).bind fun ti => if 0 < ti.size /\ ti.zero.length = ti.size /\ n = m /\ n <= 1000000 /\ ti.bytes <= 1000 then some (⟨e, ti.size, List.replicate n ti.zero⟩, .own id 0 n) else none
  | _, _, _ => none
 | _ => none
end Go.Proofs.YtadmfokicjjglaaGreatDoor.E
namespace Go.Proofs.YtadmfokicjjglaaGreatDoor.E
universe u
open Go.RowKit
inductive PV (F : Nat -> Prop) (w : World) : AV -> Value -> Prop
 | at {v : Value} : atomic v = true -> PV F w (.at v) v
 | nl {a : Option Addr} : PV F w .nl (.slice a 0 0)
 | lst {s : Nat} {rows : List (List AV)} {a : Option Addr} {cap : Nat} {us : List Value} :
   (∀ r, r ∈ rows -> r.length = s) -> rows.length <= cap -> cap <= maxLen -> (a = none -> rows = [] /\ cap = 0) -> us.length = rows.flatten.length -> (∀ u, u ∈ us -> u.oneCell' = true) ->
   (∀ ad, a = some ad -> rows ≠ [] -> ad.spot = none /\ F ad.block /\ ∀ (j : Nat) (u : Value), us[j]? = some u -> w.cell? ⟨ad.block, ad.off + j, none⟩ = some u) ->
   (∀ (j : Nat) (c : AV) (u : Value), rows.flatten[j]? = some c -> us[j]? = some u -> PV F w c u) ->
   PV F w (.lst false s rows) (.slice a rows.length cap)
abbrev Place := Option (Nat × Nat × Nat)
inductive V (B : Nat) (ρ : Nat -> Option Place) (ok : Nat -> Prop) (w : World) : AV -> Value -> Prop
 | und : V B ρ ok w .und (.tuple #[])
 | nilv : V B ρ ok w .nilv (.slice none 0 0)
 | nn {ad : Addr} {cap : Nat} : cap <= maxLen -> V B ρ ok w .nn (.slice (some ad) 0 cap)
 | at {v : Value} : atomic v = true -> V B ρ ok w (.at v) v
 | nl {a : Option Addr} : V B ρ ok w .nl (.slice a 0 0)
 | lst {fr : Bool} {s : Nat} {rows : List (List AV)} {v : Value} : PV (fun b => ok b /\ (fr = true -> B <= b)) w (.lst false s rows) v -> V B ρ ok w (.lst fr s rows) v
 | rp {cells : List AV} {b off : Nat} {us : List Value} : ok b -> us.length = cells.length -> (∀ u, u ∈ us -> u.oneCell' = true) -> (∀ (j : Nat) (u : Value), us[j]? = some u -> w.cell? ⟨b, off + j, none⟩ = some u) ->
   (∀ (j : Nat) (c : AV) (u : Value), cells[j]? = some c -> us[j]? = some u -> PV ok w c u) -> V B ρ ok w (.rp cells) (.pointer (some ⟨b, off, none⟩))
 | own0 {i : Nat} {a : Option Addr} : ρ i = some none -> V B ρ ok w (.own i 0 0) (.slice a 0 0)
 | own {i o n b cap s : Nat} : ρ i = some (some (b, cap, s)) -> o + n <= cap -> cap <= maxLen -> V B ρ ok w (.own i o n) (.slice (some ⟨b, o * s, none⟩) n (cap - o))
 | ptr {i s r o b cap : Nat} : ρ i = some (some (b, cap, s)) -> V B ρ ok w (.ptr i s r o) (.pointer (some ⟨b, r * s + o, none⟩))
 | agg {l : List AV} {vs : List Value} : l.length = vs.length -> (∀ u, u ∈ vs -> u.oneCell' = true) -> (∀ (j : Nat) (c : AV) (u : Value), l[j]? = some c -> vs[j]? = some u -> V B ρ ok w c u) -> V B ρ ok w (.agg l) (.agg vs.toArray)
 | tup {l : List AV} {vs : List Value} : l.length = vs.length -> (∀ (j : Nat) (c : AV) (u : Value), l[j]? = some c -> vs[j]? = some u -> V B ρ ok w c u) -> V B ρ ok w (.tup l) (.tuple vs.toArray)
 | fn {f : FuncId} {l : List AV} {vs : List Value} : l.length = vs.length -> (∀ (j : Nat) (c : AV) (u : Value), l[j]? = some c -> vs[j]? = some u -> V B ρ ok w c u) -> V B ρ ok w (.fn f l) (.func (.func f) #[] vs.toArray)
 | err {t : TypeId} {v : Value} : V B ρ ok w .err (.iface t v)
def CR (B : Nat) (ρ : Nat -> Option Place) (ok : Nat -> Prop) (w : World) (cl : List AV) (vs : List Value) : Prop :=
 cl.length = vs.length /\ (∀ u, u ∈ vs -> u.oneCell' = true) /\ ∀ (j : Nat) (c : AV) (u : Value), cl[j]? = some c -> vs[j]? = some u -> V B ρ ok w c u
def GlobAt (n : String) (F : Nat -> World -> Prop) (B : Nat) (w : World) : Prop := ∀ g, Tryz.prog.globalNamed n = some g -> g < B /\ F g w
structure Glob (B : Nat) (w : World) : Prop where
 maxLen : GlobAt "internal/bytealg.MaxLen" (fun g w => ∃ m, w.cell? ⟨g, 0, none⟩ = some (.int .i64 m)) B w
 pow10 : GlobAt "internal/strconv.uint64pow10" (fun _ w => Lib.TabIs Tryz.prog w "internal/strconv.uint64pow10" .u64 Lib.pow10Tab) B w
 errSyntax : GlobAt "strconv.ErrSyntax" (fun g w => ∃ ev, w.cell? ⟨g, 0, none⟩ = some ev /\ (ev = .nilIface \/ ∃ te pe, ev = .iface te pe)) B w
 errRange : GlobAt "strconv.ErrRange" (fun g w => ∃ ev, w.cell? ⟨g, 0, none⟩ = some ev /\ (ev = .nilIface \/ ∃ te pe, ev = .iface te pe)) B w
structure Base (B : Nat) (W0 : World) : Prop where
 le : B <= W0.heap.size
 glob : Glob B W0
structure HRel (B : Nat) (W0 : World) (ρ : Nat -> Option Place) (ok : Nat -> Prop) (h : Heap) (n : Nat) (w : World) : Prop where
 below : Below B W0 w
 base : Base B W0
 okb : ∀ b, ok b -> b < w.heap.size
 fresh : ∀ i, n <= i -> ρ i = none
 row : ∀ i e, h i = some e -> (ρ i = some none /\ e.rows = []) \/
  ∃ b cap cur, ρ i = some (some (b, cap, e.s)) /\ B <= b /\ ¬ ok b /\ w.heap[b]? = some (.cells cur e.ty (0, 0)) /\ cur.size = cap * e.s /\ e.rows.length <= cap /\ cap <= maxLen /\ 0 < e.s /\
   (∀ r, r ∈ e.rows -> r.length = e.s) /\ CR B ρ ok w e.rows.flatten (cur.toList.take (e.rows.length * e.s))
 inj : ∀ i j e e' b c s c' s', h i = some e -> h j = some e' -> ρ i = some (some (b, c, s)) -> ρ j = some (some (b, c', s')) -> i = j
structure Ext (U : Nat -> Prop) (ρ ρ' : Nat -> Option Place) (ok ok' : Nat -> Prop) (w w' : World) : Prop where
 pl : ∀ i, ¬ U i -> ρ' i = ρ i
 keep : ∀ i, ρ i ≠ none -> ρ' i = ρ i
 stay : ∀ b, ok b -> ok' b /\ w'.heap[b]? = w.heap[b]?
 new : ∀ b, ok' b -> ok b \/ w.heap.size <= b
 size : w.heap.size <= w'.heap.size
def VL (B : Nat) (ρ : Nat -> Option Place) (ok : Nat -> Prop) (w : World) (l : List AV) (vs : List Value) : Prop :=
 l.length = vs.length /\ ∀ (j : Nat) (c : AV) (u : Value), l[j]? = some c -> vs[j]? = some u -> V B ρ ok w c u
def noPlace : Nat -> Option Place := fun _ => none
def Callable (P : Program) (f : FuncId) : Prop := ∀ (args : Array Value) (w : World), (callFunc f args).run P w = .ok (.enter f args) w
def heapOf (l : List HE) : Heap := fun i => l[i]?
def leafP (h : Heap) (av : List Nat) : Nat -> AV -> Option AV
 | _, .at v => some (.at v)
 | _, .nl => some .nl
 | _, .lst _ s rows => some (.lst false s rows)
 | d + 1, .own i o n => if av.contains i then none else match h i with
  | some e => if o + n <= e.rows.length then (((e.rows.drop o).take n).mapM fun (r : List AV) => r.mapM (leafP h av d)).map (.lst false e.s ·) else none
  | none => none
 | _, _ => none
def leafV (h : Heap) : AV -> Option AV
 | .fn f [] => some (.fn f [])
 | a => leafP h [] 3 a
def viewV (h : Heap) : AV -> Option AV
 | .agg l => (l.mapM (leafV h)).map .agg
 | a => leafV h a
def plainLeaf : AV -> Bool
 | .at _ | .nl | .lst _ _ _ => true
 | .fn _ l => l.isEmpty
 | _ => false
def plainV : AV -> Bool
 | .agg l => l.all plainLeaf
 | a => plainLeaf a
def newLeaf : AV -> Bool
 | .und | .at _ | .nl | .own _ _ _ | .err => true
 | .lst fr _ _ => fr
 | .fn _ l => l.isEmpty
 | _ => false
def newAgg : AV -> Bool
 | .agg l => l.all newLeaf
 | a => newLeaf a
def newV : AV -> Bool
 | .tup l => l.all newAgg
 | a => newAgg a
def newNews (l : List HE) : Bool := l.all fun e => e.rows.all fun r => r.all newLeaf
def resLeaf : AV -> Bool
 | .und | .at _ | .nl | .own _ _ _ | .lst _ _ _ | .err => true
 | .fn _ l => l.isEmpty
 | _ => false
def resAgg : AV -> Bool
 | .agg l => l.all resLeaf
 | a => resLeaf a
def resV : AV -> Bool
 | .tup l => l.all resAgg
 | a => resAgg a
def plainCell : AV -> Bool
 | .at _ | .nl | .lst _ _ _ => true
 | _ => false
def plainNews (l : List HE) : Bool := l.all fun e => e.rows.all fun r => r.all plainCell
def C (P : Program) (f : FuncId) (args : List AV) (r : AV) (news : List HE) : Prop :=
 Callable P f /\ resV r = true /\ plainNews news = true /\ ∀ (F : Nat -> Prop) (w : World) (vs : List Value), (∀ b, F b -> b < w.heap.size) -> Glob w.heap.size w -> VL 0 noPlace F w args vs ->
  Calls P f vs.toArray w fun e w' => ∃ v ρ ok, e = .returned v /\ HRel w.heap.size w ρ ok (heapOf news) news.length w' /\ V w.heap.size ρ ok w' r v /\ ∀ b, ok b -> F b \/ w.heap.size <= b
def CS (P : Program) (f : FuncId) (args : List AV) (h : Heap) (n : Nat) (Q : Heap -> Nat -> AV -> Prop) : Prop :=
 Callable P f /\ ∀ (B : Nat) (W0 : World) (ρ : Nat -> Option Place) (ok : Nat -> Prop) (w : World) (vs : List Value), HRel B W0 ρ ok h n w -> VL B ρ ok w args vs ->
  Calls P f vs.toArray w fun e w' => ∃ v h' n' r ρ' ok', e = .returned v /\ Q h' n' r /\ n <= n' /\ HRel B W0 ρ' ok' h' n' w' /\ V B ρ' ok' w' r v /\ Ext (fun i => n <= i) ρ ρ' ok ok' w w'
def shiftLeaf (k : Nat) : AV -> AV
 | .own i o n => .own (k + i) o n
 | a => a
def shiftAgg (k : Nat) : AV -> AV
 | .agg l => .agg (l.map (shiftLeaf k))
 | a => shiftLeaf k a
def shiftV (k : Nat) : AV -> AV
 | .tup l => .tup (l.map (shiftAgg k))
 | a => shiftAgg k a
def updL (h : Heap) (k : Nat) : List HE -> Heap
 | [] => h
 | e :: l => updL (upd h k (some e)) (k + 1) l
def wantA (ops : Array Oper) (o : Oper) (t : Nat -> AV) : Bool :=
 match o.guard with
 | none => true
 | some (j, b) => match (ops[j]?).bind (·.dst) with
  | some d => match t d with
   | .at (.bool x) => if b then x else !x
   | _ => false
  | none => false
def srcRows (h : Heap) (s : Nat) : AV -> Option (List (List AV))
 | .nl => some []
 | .nn => some []
 | .lst _ s' rows => if s' = s then some rows else none
 | .at (.string b) => if s = 1 then some (B8 b.data.toList) else none
 | .own i o n => match h i with
  | some e => if e.s = s /\ o + n <= e.rows.length then some ((e.rows.drop o).take n) else none
  | none => none
 | _ => none
def otherRow (y : AV) (i : Nat) : Bool := match y with
 | .own j _ _ => j != i
 | _ => true
def isStr : TK -> Bool
 | .string => true
 | _ => false
def appBad (P : Program) (ty ty' : TypeId) : AV -> Bool
 | .at _ => !isStr (tkOf P ty')
 | _ => decide (ty' ≠ ty)
def appendA (P : Program) (h : Heap) (id : Nat) (ty : TypeId) (x y : AV) : Option (Heap × AV) :=
 match tkOf P ty with
 | .slice el => (tiOf P el).bind fun ti => if ti.size = 0 \/ 1000 < ti.bytes then none else
  (srcRows h ti.size y).bind fun news => if 100000000 < news.length then none else
  match x with
  | .nl => some (upd h id (some ⟨el, ti.size, news⟩), .own id 0 news.length)
  | .own i 0 n => match h i with
   | some e => if e.ty = el /\ e.s = ti.size /\ n <= e.rows.length /\ n <= 100000000 /\ otherRow y i = true then
     some (upd (upd h i none) id (some ⟨el, ti.size, e.rows.take n ++ news⟩), .own id 0 (n + news.length)) else none
   | none => none
  | _ => none
 | _ => none
structure Tg {α : Sort u} (a : α) : Type where
def bindO {α : Type} (o : Option α) (K : α -> Prop) (_ : Tg K) : Prop := ∃ x, o = some x /\ K x
@[simp] theorem bindO_some {α : Type} (x : α) (K : α -> Prop) (i : Tg K) : bindO (some x) K i = K x := by simp [bindO]
@[simp] theorem bindO_none {α : Type} (K : α -> Prop) (i : Tg K) : bindO none K i = False := by simp [bindO]
def brA (c : Bool) (x y : Prop) (_ : Tg x) (_ : Tg y) : Prop := if c = true then x else y
@[simp] theorem brA_true (x y : Prop) (i : Tg x) (j : Tg y) : brA true x y i j = x := rfl
@[simp] theorem brA_false (x y : Prop) (i : Tg x) (j : Tg y) : brA false x y i j = y := rfl
@[simp] theorem brA_not (c : Bool) (x y : Prop) (i : Tg x) (j : Tg y) : brA (!c) x y i j = brA c y x j i := by cases c <;> rfl
theorem brA_split {c : Bool} {x y : Prop} {i : Tg x} {j : Tg y} (h1 : c = true -> x) (h2 : c = false -> y) : brA c x y i j := by
 cases c
 ·exact h2 rfl
 ·exact h1 rfl
@[simp] theorem bindO_ite {α : Type} (c : Prop) [Decidable c] (a b : Option α) (K : α -> Prop) (i : Tg K) : bindO (if c then a else b) K i = brA (decide c) (bindO a K i) (bindO b K i) ⟨⟩ ⟨⟩ := by
 by_cases h : c <;> simp [h]
def callA (P : Program) (draw : Bool) (id : Nat) (f : FuncId) (args : List AV) (t : Nat -> AV) (h : Heap) (n : Nat) (d : Option Tmp) (K : St -> Prop) (_ : Tg K) (_ : Tg t) : Prop :=
 (∃ r news args', args.mapM (viewV h) = some args' /\ C P f args' r news /\ ((newV r = true /\ newNews news = true) \/ args.all plainV = true) /\ news.length <= 4 /\
  K (St.put ⟨t, updL h id news, n⟩ d (shiftV id r))) \/
 (draw = false /\ CS P f args h n fun h' n' r => K (St.put ⟨t, h', n'⟩ d r))
def fnOf : AV -> Option (FuncId × List AV)
 | .fn f caps => some (f, caps)
 | _ => none
def boolOf : AV -> Option Bool
 | .at (.bool b) => some b
 | _ => none
@[simp] theorem fnOf_fn (f : FuncId) (caps : List AV) : fnOf (.fn f caps) = some (f, caps) := rfl
@[simp] theorem boolOf_at (b : Bool) : boolOf (.at (.bool b)) = some b := rfl
def stepA (P : Program) (draw : Bool) (id : Nat) (d : Option Tmp) (op : Op) (K : St -> Prop) (_ : Tg op) (_ : Tg K) (st : St) : Prop :=
 match op with
 | .store ty x y => bindO (storeA P st.h ty (evA st.t x) (evA st.t y)) (fun h' => K (St.put ⟨st.t, h', st.n⟩ d .und)) ⟨⟩
 | .alloc e => bindO (newA P st.t id (.alloc e)) (fun ev => K (St.put ⟨st.t, upd st.h id (some ev.1), st.n⟩ d ev.2)) ⟨⟩
 | .box e x => bindO (newA P st.t id (.box e x)) (fun ev => K (St.put ⟨st.t, upd st.h id (some ev.1), st.n⟩ d ev.2)) ⟨⟩
 | .buildSlice a b c => bindO (newA P st.t id (.buildSlice a b c)) (fun ev => K (St.put ⟨st.t, upd st.h id (some ev.1), st.n⟩ d ev.2)) ⟨⟩
 | .makeSlice a b c => bindO (newA P st.t id (.makeSlice a b c)) (fun ev => K (St.put ⟨st.t, upd st.h id (some ev.1), st.n⟩ d ev.2)) ⟨⟩
 | .call ⟨.builtin .append, args, tys⟩ => match args.toList, tys.toList with
  | [x, y], [ty, ty'] => if appBad P ty ty' (evA st.t y) then False else bindO (appendA P st.h id ty (evA st.t x) (evA st.t y)) (fun hv => K (St.put ⟨st.t, hv.1, st.n⟩ d hv.2)) ⟨⟩
  | _, _ => False
 | .call ⟨.value g, args, _⟩ => bindO (fnOf (evA st.t g)) (fun fc => callA P draw id fc.1 ((args.toList.map (evA st.t)) ++ fc.2) st.t st.h st.n d K ⟨⟩ ⟨⟩) ⟨⟩
 | op => bindO (valA P st.t st.h op) (fun r => K (st.put d r)) ⟨⟩
def runR (P : Program) (draw : Bool) (ops : Array Oper) (base : Nat) : List Oper -> Nat -> (St -> Prop) -> St -> Prop
 | [], _, Q, st => Q st
 | o :: os, k, Q, st =>
  brA (wantA ops o st.t) (stepA P draw (base + 4 * k) o.dst o.op (runR P draw ops base os (k + 1) Q) ⟨⟩ ⟨⟩ st) (runR P draw ops base os (k + 1) Q (st.put o.dst .und)) ⟨⟩ ⟨⟩
def regA (P : Program) (draw : Bool) (ops : Array Oper) (base : Nat) (os : List Oper) (k : Nat) (Q : St -> Prop) (_ : Tg ops) (_ : Tg os) (_ : Tg Q) (st : St) : Prop := runR P draw ops base os k Q st
theorem regA_nil {P : Program} {draw : Bool} {ops : Array Oper} {base : Nat} {k : Nat} {Q : St -> Prop} {st : St} : regA P draw ops base [] k Q ⟨⟩ ⟨⟩ ⟨⟩ st = Q st := rfl
theorem regA_cons {P : Program} {draw : Bool} {ops : Array Oper} {base : Nat} {os : List Oper} {k : Nat} {Q : St -> Prop} {st : St} {d : Option Tmp} {op : Op} {ty : TypeId} {pos : String} {after : Array Edge} :
  regA P draw ops base (⟨d, op, ty, pos, after, none⟩ :: os) k Q ⟨⟩ ⟨⟩ ⟨⟩ st = stepA P draw (base + 4 * k) d op (regA P draw ops base os (k + 1) Q ⟨⟩ ⟨⟩ ⟨⟩) ⟨⟩ ⟨⟩ st := rfl
theorem regA_guard {P : Program} {draw : Bool} {ops : Array Oper} {base : Nat} {os : List Oper} {k : Nat} {Q : St -> Prop} {st : St} {d : Option Tmp} {op : Op} {ty : TypeId} {pos : String} {after : Array Edge} {g : Nat × Bool} :
  regA P draw ops base (⟨d, op, ty, pos, after, some g⟩ :: os) k Q ⟨⟩ ⟨⟩ ⟨⟩ st =
   brA (wantA ops ⟨d, op, ty, pos, after, some g⟩ st.t) (stepA P draw (base + 4 * k) d op (regA P draw ops base os (k + 1) Q ⟨⟩ ⟨⟩ ⟨⟩) ⟨⟩ ⟨⟩ st) (regA P draw ops base os (k + 1) Q ⟨⟩ ⟨⟩ ⟨⟩ (st.put d .und)) ⟨⟩ ⟨⟩ := rfl
def thenA (K : St -> Prop) (Q : Exit -> St -> Prop) (_ : Tg K) (_ : Tg Q) : Exit -> St -> Prop
 | .normal, s => K s
 | e, s => Q e s
@[simp] theorem thenA_normal (K : St -> Prop) (Q : Exit -> St -> Prop) (s : St) (i j) : thenA K Q i j .normal s = K s := rfl
@[simp] theorem thenA_ret (K : St -> Prop) (Q : Exit -> St -> Prop) (s : St) (i j) : thenA K Q i j .ret s = Q .ret s := rfl
@[simp] theorem thenA_exit (K : St -> Prop) (Q : Exit -> St -> Prop) (s : St) (k : Nat) (i j) : thenA K Q i j (.exit k) s = Q (.exit k) s := rfl
def blockA (id : Nat) (Q : Exit -> St -> Prop) (_ : Tg Q) : Exit -> St -> Prop
 | .exit k, s => if k = id then Q .normal s else Q (.exit k) s
 | e, s => Q e s
@[simp] theorem blockA_normal (id : Nat) (Q : Exit -> St -> Prop) (s : St) (i) : blockA id Q i .normal s = Q .normal s := rfl
@[simp] theorem blockA_ret (id : Nat) (Q : Exit -> St -> Prop) (s : St) (i) : blockA id Q i .ret s = Q .ret s := rfl
@[simp] theorem blockA_exit (id : Nat) (Q : Exit -> St -> Prop) (s : St) (k : Nat) (i) : blockA id Q i (.exit k) s = brA (decide (k = id)) (Q .normal s) (Q (.exit k) s) ⟨⟩ ⟨⟩ := by
 by_cases h : k = id <;> simp [h, blockA]
def rowNo : AV -> Option Nat
 | .ptr i _ _ _ => some i
 | .own i _ _ => some i
 | _ => none
def apartA (x y : AV) : Prop := ∀ i, rowNo x = some i -> rowNo y ≠ some i
def gateF (k : Nat) (st : St) : Prop :=
 if k < 1000000 then apartA (st.t (k / 1000)) (st.t (k % 1000))
 else if k < 2000000 then plainV (st.t (k - 1000000)) = true
 else ∀ i, rowNo (st.t ((k - 2000000) % 1000)) = some i -> i + 4 * ((k - 2000000) / 100000) < st.n + 4 * ((k - 2000000) / 1000 % 100) \/ st.n + 4 * ((k - 2000000) / 1000 % 100) + 4 <= i + 4 * ((k - 2000000) / 100000)
def wp0 (P : Program) : Code -> (Exit -> St -> Prop) -> St -> Prop
 | .skip, Q, st => Q .normal st
 | .region _ ops d, Q, st => runR P d ops st.n ops.toList 0 (Q .normal) ⟨st.t, st.h, st.n + 4 * ops.size⟩
 | .seq a b, Q, st => wp0 P a (thenA (wp0 P b Q) Q ⟨⟩ ⟨⟩) st
 | .cond c x y, Q, st => bindO (boolOf (evA st.t c)) (fun b => brA b (wp0 P x Q st) (wp0 P y Q st) ⟨⟩ ⟨⟩) ⟨⟩
 | .block id c, Q, st => wp0 P c (blockA id Q ⟨⟩) st
 | .loop c, Q, st => ∃ (I : St -> Prop) (m : St -> Nat), I st /\ ∀ s, I s -> wp0 P c (thenA (fun s' => I s' /\ m s' < m s) Q ⟨⟩ ⟨⟩) s
 | .exit id, Q, st => Q (.exit id) st
 | .ret, Q, st => Q .ret st
 | .goto k, Q, st => gateF k st /\ Q .normal st
 | _, _, _ => False
def wpA (P : Program) (c : Code) (Q : Exit -> St -> Prop) (_ : Tg c) (_ : Tg Q) (st : St) : Prop := wp0 P c Q st
section
variable {P : Program} {Q : Exit -> St -> Prop} {st : St}
theorem wpA_skip : wpA P .skip Q ⟨⟩ ⟨⟩ st = Q .normal st := rfl
theorem wpA_region {id : Nat} {l : List Oper} {d : Bool} : wpA P (.region id l.toArray d) Q ⟨⟩ ⟨⟩ st = regA P d l.toArray st.n l 0 (Q .normal) ⟨⟩ ⟨⟩ ⟨⟩ ⟨st.t, st.h, st.n + 4 * l.length⟩ := rfl
theorem wpA_seq {a b : Code} : wpA P (.seq a b) Q ⟨⟩ ⟨⟩ st = wpA P a (thenA (wpA P b Q ⟨⟩ ⟨⟩) Q ⟨⟩ ⟨⟩) ⟨⟩ ⟨⟩ st := rfl
theorem wpA_cond {c : Operand} {x y : Code} : wpA P (.cond c x y) Q ⟨⟩ ⟨⟩ st = bindO (boolOf (evA st.t c)) (fun b => brA b (wpA P x Q ⟨⟩ ⟨⟩ st) (wpA P y Q ⟨⟩ ⟨⟩ st) ⟨⟩ ⟨⟩) ⟨⟩ := rfl
theorem wpA_block {id : Nat} {c : Code} : wpA P (.block id c) Q ⟨⟩ ⟨⟩ st = wpA P c (blockA id Q ⟨⟩) ⟨⟩ ⟨⟩ st := rfl
theorem wpA_exit {id : Nat} : wpA P (.exit id) Q ⟨⟩ ⟨⟩ st = Q (.exit id) st := rfl
theorem wpA_ret : wpA P .ret Q ⟨⟩ ⟨⟩ st = Q .ret st := rfl
theorem wpA_loop {c : Code} (I : St -> Prop) (m : St -> Nat) (h0 : I st) (h : ∀ s, I s -> wpA P c (thenA (fun s' => I s' /\ m s' < m s) Q ⟨⟩ ⟨⟩) ⟨⟩ ⟨⟩ s) : wpA P (.loop c) Q ⟨⟩ ⟨⟩ st := ⟨I, m, h0, h⟩
end
def resA (P : Program) (st : St) : ResultVar -> Option AV
 | .tmp k => some (st.t k)
 | .cell a t => loadA P st.h t (st.t a)
def resultsA (P : Program) (l : List ResultVar) (st : St) : Option AV :=
 match l with
 | [x] => resA P st x
 | l => (l.mapM (resA P st)).map .tup
def freshCell : AV -> Bool
 | .at _ | .nl => true
 | .lst fr _ _ => fr
 | _ => false
def outLeaf (h : Heap) (keep : List Nat) : AV -> Option AV
 | .und => some .und
 | .at v => some (.at v)
 | .nl => some .nl
 | .nilv => some .nl
 | .lst fr s rows => some (.lst fr s rows)
 | .own i o n => match keep.idxOf? i with
  | some j => some (.own j o n)
  | none => match h i, leafP h keep 3 (.own i o n) with
   | some e, some (.lst _ s rows) => some (.lst (e.rows.all fun r => r.all freshCell) s rows)
   | _, _ => none
 | .fn f [] => some (.fn f [])
 | _ => none
def outAgg (h : Heap) (keep : List Nat) : AV -> Option AV
 | .agg l => (l.mapM (outLeaf h keep)).map .agg
 | a => outLeaf h keep a
def outV (h : Heap) (keep : List Nat) : AV -> Option AV
 | .tup l => (l.mapM (outAgg h keep)).map .tup
 | a => outAgg h keep a
def initT (l : List AV) : Nat -> AV := fun k => (l[k]?).getD .und
def endA (P : Program) (l : List ResultVar) (Q : Heap -> Nat -> AV -> Prop) (_ : Tg Q) : Exit -> St -> Prop
 | .normal, st | .ret, st => bindO (resultsA P l st) (fun r => Q st.h st.n r) ⟨⟩
 | _, _ => False
theorem endA_normal {P : Program} {l : List ResultVar} {Q : Heap -> Nat -> AV -> Prop} {st : St} : endA P l Q ⟨⟩ .normal st = bindO (resultsA P l st) (fun r => Q st.h st.n r) ⟨⟩ := rfl
theorem endA_ret {P : Program} {l : List ResultVar} {Q : Heap -> Nat -> AV -> Prop} {st : St} : endA P l Q ⟨⟩ .ret st = bindO (resultsA P l st) (fun r => Q st.h st.n r) ⟨⟩ := rfl
@[simp] theorem upd_app {α : Type} (f : Nat -> α) (k : Nat) (v : α) (x : Nat) : upd f k v x = if x = k then v else f x := rfl
@[simp] theorem evA_tmp (t : Nat -> AV) (k : Tmp) : evA t (.tmp k) = t k := rfl
@[simp] theorem evA_const (t : Nat -> AV) (v : Value) : evA t (.const v) = ofVal v := rfl
@[simp] theorem evA_fun (t : Nat -> AV) (f : FuncId) : evA t (.func f) = .fn f [] := rfl
@[simp] theorem evA_glob (t : Nat -> AV) (g : Nat) : evA t (.global g) = .at (.pointer (some ⟨g, 0, none⟩)) := rfl
@[simp] theorem initT_app (l : List AV) (k : Nat) : initT l k = (l[k]?).getD .und := rfl
@[simp] theorem heapOf_app (l : List HE) (k : Nat) : heapOf l k = l[k]? := rfl
attribute [simp] nilTest.eq_def errTest.eq_def sliceS.eq_def convA.eq_def isByte.eq_def isStr.eq_def appBad.eq_def lenA.eq_def srcRows.eq_def appendA.eq_def otherRow.eq_def viewV.eq_def leafV.eq_def leafP outV.eq_def outAgg.eq_def outLeaf.eq_def freshCell.eq_def newV.eq_def newAgg.eq_def newLeaf.eq_def newNews.eq_def plainV.eq_def plainLeaf.eq_def chunk buildRows.eq_def sliceA.eq_def indexA.eq_def wpA_skip wpA_region wpA_seq wpA_cond wpA_block wpA_exit wpA_ret endA_normal endA_ret regA_nil regA_cons regA_guard stepA.eq_def valA.eq_def newA.eq_def St.put.eq_def wantA.eq_def loadA.eq_def takeA.eq_def cellsA.eq_def storeA.eq_def ofVal.eq_def leafOf.eq_def zeroA.eq_def updL shiftV.eq_def shiftAgg.eq_def shiftLeaf.eq_def binA.eq_def cmpA.eq_def unA.eq_def fieldAddrA.eq_def indexAddrA.eq_def natOf.eq_def buildA putCells resultsA.eq_def resA.eq_def
end Go.Proofs.YtadmfokicjjglaaGreatDoor.E
namespace Go.Proofs.YtadmfokicjjglaaGreatDoor.E
open Go.RowKit
theorem GlobAt.go {n : String} {F : Nat -> World -> Prop} {B : Nat} {W0 w : World} (h : GlobAt n F B W0) (hf : ∀ g, g < B -> Tryz.prog.globalNamed n = some g -> F g W0 -> F g w) : GlobAt n F B w :=
 fun g hg => ⟨(h g hg).1, hf g (h g hg).1 hg (h g hg).2⟩
theorem GlobAt.up {n : String} {F : Nat -> World -> Prop} {B B' : Nat} {w : World} (h : GlobAt n F B w) (hb : B <= B') : GlobAt n F B' w := fun g hg => ⟨Nat.lt_of_lt_of_le (h g hg).1 hb, (h g hg).2⟩
theorem Glob.go {B : Nat} {W0 w : World} (h : Glob B W0) (hb : Below B W0 w) : Glob B w := by
 have cell : ∀ (g : Nat), g < B -> w.cell? ⟨g, 0, none⟩ = W0.cell? ⟨g, 0, none⟩ := fun g hg => World.cell?_of_block (w := W0) (hb.block g hg)
 refine ⟨h.maxLen.go fun g hg _ hf => ?_, h.pow10.go fun g hg hn hf => ?_, h.errSyntax.go fun g hg _ hf => ?_, h.errRange.go fun g hg _ hf => ?_⟩
 ·rw [cell g hg]; exact hf
 ·unfold Lib.TabIs World.var? at hf ⊢;rw [hn] at hf ⊢;simp only [Option.bind_some] at hf ⊢;rw [hb.block g hg];exact hf
 ·rw [cell g hg]; exact hf
 ·rw [cell g hg]; exact hf
theorem Glob.up {B B' : Nat} {w : World} (h : Glob B w) (hb : B <= B') : Glob B' w := ⟨h.maxLen.up hb, h.pow10.up hb, h.errSyntax.up hb, h.errRange.up hb⟩
theorem cell_same {w w' : World} {b o : Nat} (h : w'.heap[b]? = w.heap[b]?) : w'.cell? ⟨b, o, none⟩ = w.cell? ⟨b, o, none⟩ := World.cell?_of_block (w := w) h
theorem PV.mono {F F' : Nat -> Prop} {w w' : World} {a : AV} {v : Value} (h : PV F w a v) (hF : ∀ b, F b -> F' b /\ w'.heap[b]? = w.heap[b]?) : PV F' w' a v := by
 induction h with
 | «at» h => exact .at h
 | nl => exact .nl
 | lst h1 h2 h3 h4 h5 h6 h7 _ ih =>
  refine .lst h1 h2 h3 h4 h5 h6 (fun ad e hn => ?_) ih;obtain ⟨g1, g2, g3⟩ := h7 ad e hn;refine ⟨g1, (hF _ g2).1, fun j u hj => ?_⟩;rw [cell_same (hF _ g2).2];exact g3 j u hj
theorem PV.V {B : Nat} {ρ : Nat -> Option Place} {ok : Nat -> Prop} {w : World} {a : AV} {v : Value} (h : PV ok w a v) : V B ρ ok w a v := by
 cases h with
 | «at» h => exact .at h
 | nl => exact .nl
 | lst h1 h2 h3 h4 h5 h6 h7 h8 =>
  exact .lst (PV.mono (PV.lst h1 h2 h3 h4 h5 h6 h7 h8) (fun b hb => ⟨⟨hb, fun e => by cases e⟩, rfl⟩))
theorem V.mono {B : Nat} {ρ ρ' : Nat -> Option Place} {ok ok' : Nat -> Prop} {w w' : World} {a : AV} {v : Value} (h : V B ρ ok w a v) (hρ : ∀ i, ρ i ≠ none -> ρ' i = ρ i)
  (hF : ∀ b, ok b -> ok' b /\ w'.heap[b]? = w.heap[b]?) : V B ρ' ok' w' a v := by
 induction h with
 | und => exact .und
 | nilv => exact .nilv
 | nn h => exact .nn h
 | «at» h => exact .at h
 | nl => exact .nl
 | lst h => exact .lst (h.mono fun b ⟨hb, hf⟩ => ⟨⟨(hF b hb).1, hf⟩, (hF b hb).2⟩)
 | rp h1 h2 h3 h4 h5 =>
  refine .rp (hF _ h1).1 h2 h3 (fun j u hj => ?_) (fun j c u hc hu => (h5 j c u hc hu).mono hF);rw [cell_same (hF _ h1).2];exact h4 j u hj
 | own0 h => exact .own0 ((hρ _ (by rw [h]; simp)).trans h)
 | own h h1 h2 => exact .own ((hρ _ (by rw [h]; simp)).trans h) h1 h2
 | ptr h => exact .ptr ((hρ _ (by rw [h]; simp)).trans h)
 | agg h1 h2 _ ih => exact .agg h1 h2 ih
 | tup h1 _ ih => exact .tup h1 ih
 | fn h1 _ ih => exact .fn h1 ih
 | err => exact .err
theorem V.ext {B : Nat} {U : Nat -> Prop} {ρ ρ' : Nat -> Option Place} {ok ok' : Nat -> Prop} {w w' : World} {a : AV} {v : Value} (h : V B ρ ok w a v) (x : Ext U ρ ρ' ok ok' w w') : V B ρ' ok' w' a v :=
 h.mono x.keep x.stay
theorem Ext.refl (U : Nat -> Prop) (ρ : Nat -> Option Place) (ok : Nat -> Prop) (w : World) : Ext U ρ ρ ok ok w w := ⟨fun _ _ => rfl, fun _ _ => rfl, fun _ h => ⟨h, rfl⟩, fun _ h => Or.inl h, Nat.le_refl _⟩
theorem Ext.trans {U : Nat -> Prop} {r1 r2 r3 : Nat -> Option Place} {o1 o2 o3 : Nat -> Prop} {w1 w2 w3 : World} (x : Ext U r1 r2 o1 o2 w1 w2) (y : Ext U r2 r3 o2 o3 w2 w3) : Ext U r1 r3 o1 o3 w1 w3 := by
 refine ⟨fun i h => (y.pl i h).trans (x.pl i h), fun i h => ?_, fun b h => ?_, fun b h => ?_, Nat.le_trans x.size y.size⟩
 ·rw [y.keep i (by rw [x.keep i h]; exact h), x.keep i h]
 ·have := x.stay b h; have g := y.stay b this.1; exact ⟨g.1, g.2.trans this.2⟩
 ·rcases y.new b h with h | h
  ·exact x.new b h
  ·exact Or.inr (Nat.le_trans x.size h)
theorem Ext.weaken {U U' : Nat -> Prop} {r1 r2 : Nat -> Option Place} {o1 o2 : Nat -> Prop} {w1 w2 : World} (x : Ext U r1 r2 o1 o2 w1 w2) (h : ∀ i, U i -> U' i) : Ext U' r1 r2 o1 o2 w1 w2 :=
 ⟨fun i hn => x.pl i (fun hu => hn (h i hu)), x.keep, x.stay, x.new, x.size⟩
section
variable {P : Program} {t : TypeId}
theorem tk_slice {e : TypeId} (h : tkOf P t = .slice e) : P.underlying t = some (.slice e) := by
 unfold tkOf at h;split at h <;> (try simp at h) <;> (try (split at h <;> cases h; done))
 subst h; assumption
theorem tk_array {n : Nat} {e : TypeId} (h : tkOf P t = .array n e) : P.underlying t = some (.array n e) := by
 unfold tkOf at h;split at h <;> (try simp at h) <;> (try (split at h <;> cases h; done))
 obtain ⟨rfl, rfl⟩ := h; assumption
theorem tk_bool (h : tkOf P t = .bool) : P.underlying t = some .bool := by
 unfold tkOf at h;split at h <;> (try simp at h) <;> (try (split at h <;> cases h; done))
 assumption
theorem tk_string (h : tkOf P t = .string) : P.underlying t = some .string := by
 unfold tkOf at h;split at h <;> (try simp at h) <;> (try (split at h <;> cases h; done))
 assumption
theorem tk_int {k : IntKind} (h : tkOf P t = .int k) : P.underlying t = some (.int k) := by
 unfold tkOf at h;split at h <;> (try simp at h) <;> (try (split at h <;> cases h; done))
 subst h; assumption
theorem tk_iface (h : tkOf P t = .iface) : ∃ ms, P.underlying t = some (.interface ms) := by
 unfold tkOf at h;split at h <;> (try simp at h) <;> (try (split at h <;> cases h; done))
 exact ⟨_, by assumption⟩
theorem tk_struct {l : List (Nat × Nat)} (h : tkOf P t = .struct l) : ∃ fs : Array Field, P.underlying t = some (.struct fs) /\
  fs.toList.mapM (fun f => (P.info? f.type).map fun i => (f.offset, i.size)) = some l := by
 unfold tkOf at h;split at h <;> (try (simp at h; done))
 ·rename_i fs hu;split at h
  ·rename_i l' hl;simp at h;subst h;exact ⟨fs, hu, hl⟩
  ·cases h
theorem mapM_get {α β : Type} {f : α -> Option β} : ∀ {xs : List α} {ys : List β}, xs.mapM f = some ys -> ∀ (k : Nat) (y : β), ys[k]? = some y -> ∃ x, xs[k]? = some x /\ f x = some y
 | [], ys, h, k, y, hk => by simp at h; subst h; simp at hk
 | x :: xs, ys, h, k, y, hk => by
  simp only [List.mapM_cons, Option.bind_eq_bind, Option.pure_def] at h;cases hx : f x with
  | none => simp [hx] at h
  | some b =>
   cases hr : xs.mapM f with
   | none => simp [hx, hr] at h
   | some rest =>
    simp [hx, hr] at h;subst h;cases k with
    | zero => simp at hk; subst hk; exact ⟨x, rfl, hx⟩
    | succ k => exact mapM_get hr k y (by simpa using hk)
theorem ti_info {ti : TI} (h : tiOf P t = some ti) : ∃ i d z, P.info? t = some i /\ P.underlying t = some d /\ i.zero = some z /\ ti.size = i.size /\ ti.bytes = i.bytes /\ ti.zero = zeroA z /\
  ti.agg = (match d with | .struct _ => true | .array _ _ => true | _ => false) := by
 unfold tiOf at h;split at h
 ·rename_i i d h1 h2;split at h
  ·rename_i z hz;split at h
   ·simp at h;subst h;exact ⟨i, d, z, h1, h2, hz, rfl, rfl, rfl, rfl⟩
   ·cases h
  ·cases h
 ·cases h
theorem run_isAgg {ti : TI} (h : tiOf P t = some ti) (w : World) : (isAgg t).run P w = .ok ti.agg w := by
 obtain ⟨i, d, z, h1, h2, h3, h4, h5, h6, h7⟩ := ti_info h;unfold isAgg;rw [Sem.run_bind, run_underlying h2 w, h7];cases d <;> rfl
theorem run_sizeOf {ti : TI} (h : tiOf P t = some ti) (w : World) : (sizeOf t).run P w = .ok ti.size w := by
 obtain ⟨i, d, z, h1, h2, h3, h4, h5, h6, h7⟩ := ti_info h;simp [sizeOf, typeInfo, h1, h4]
end
theorem addr_add (b o k : Nat) : (⟨b, o, none⟩ : Addr).add k = ⟨b, o + k, none⟩ := by
 unfold Addr.add; split
 ·rename_i h; subst h; rfl
 ·rfl
def CellsAt (B : Nat) (ρ : Nat -> Option Place) (ok : Nat -> Prop) (w : World) (b off : Nat) (cells : List AV) : Prop :=
 ∃ us : List Value, us.length = cells.length /\ (∀ u, u ∈ us -> u.oneCell' = true) /\ (∀ (j : Nat) (u : Value), us[j]? = some u -> w.cell? ⟨b, off + j, none⟩ = some u) /\
  ∀ (j : Nat) (c : AV) (u : Value), cells[j]? = some c -> us[j]? = some u -> V B ρ ok w c u
theorem CellsAt.drop {B : Nat} {ρ : Nat -> Option Place} {ok : Nat -> Prop} {w : World} {b off : Nat} {cells : List AV} (h : CellsAt B ρ ok w b off cells) (k : Nat) : CellsAt B ρ ok w b (off + k) (cells.drop k) := by
 obtain ⟨us, h1, h2, h3, h4⟩ := h;refine ⟨us.drop k, by simp [h1], fun u hu => h2 u (List.mem_of_mem_drop hu), fun j u hj => ?_, fun j c u hc hu => ?_⟩
 ·rw [List.getElem?_drop] at hj;rw [Nat.add_assoc];exact h3 _ u hj
 ·rw [List.getElem?_drop] at hc hu;exact h4 _ c u hc hu
theorem CellsAt.take {B : Nat} {ρ : Nat -> Option Place} {ok : Nat -> Prop} {w : World} {b off : Nat} {cells : List AV} (h : CellsAt B ρ ok w b off cells) (k : Nat) : CellsAt B ρ ok w b off (cells.take k) := by
 obtain ⟨us, h1, h2, h3, h4⟩ := h;refine ⟨us.take k, by simp [h1], fun u hu => h2 u (List.mem_of_mem_take hu), fun j u hj => ?_, fun j c u hc hu => ?_⟩
 ·rw [List.getElem?_take] at hj;split at hj
  ·exact h3 _ u hj
  ·cases hj
 ·rw [List.getElem?_take] at hc hu;split at hc
  ·rename_i hlt;rw [if_pos hlt] at hu;exact h4 _ c u hc hu
  ·cases hc
theorem cellsAt_rp {B : Nat} {ρ : Nat -> Option Place} {ok : Nat -> Prop} {w : World} {cells : List AV} {v : Value} (h : V B ρ ok w (.rp cells) v) : ∃ b off, v = .pointer (some ⟨b, off, none⟩) /\ ok b /\ CellsAt B ρ ok w b off cells := by
 cases h with
 | rp h1 h2 h3 h4 h5 => exact ⟨_, _, rfl, h1, _, h2, h3, h4, fun j c u hc hu => (h5 j c u hc hu).V⟩
theorem flatten_get {α : Type} {rows : List (List α)} {s k : Nat} {row : List α} (hs : ∀ r, r ∈ rows -> r.length = s) (hk : rows[k]? = some row) {j : Nat} (hj : j < s) : rows.flatten[k * s + j]? = row[j]? := by
 induction rows generalizing k with
 | nil => simp at hk
 | cons r rows ih =>
  have hr := hs r (by simp);cases k with
  | zero =>
   simp at hk;subst hk;simp only [List.flatten_cons, Nat.zero_mul, Nat.zero_add];rw [List.getElem?_append_left (by omega)]
  | succ k =>
   simp only [List.flatten_cons];rw [List.getElem?_append_right (by rw [hr, Nat.succ_mul]; omega)];have e : (k + 1) * s + j - r.length = k * s + j := by rw [hr, Nat.succ_mul]; omega
   rw [e];exact ih (fun r hr => hs r (by simp [hr])) (by simpa using hk)
theorem flatten_length {α : Type} {rows : List (List α)} {s : Nat} (hs : ∀ r, r ∈ rows -> r.length = s) : rows.flatten.length = rows.length * s := by
 induction rows with
 | nil => simp
 | cons r rows ih =>
  simp only [List.flatten_cons, List.length_append, List.length_cons];rw [ih (fun r hr => hs r (by simp [hr])), hs r (by simp), Nat.succ_mul];omega
theorem HRel.cellsAt {B : Nat} {W0 w : World} {ρ : Nat -> Option Place} {ok : Nat -> Prop} {h : Heap} {n : Nat} (H : HRel B W0 ρ ok h n w) {i : Nat} {e : HE} (he : h i = some e) {k : Nat} {row : List AV} (hk : e.rows[k]? = some row) :
  ∃ b cap, ρ i = some (some (b, cap, e.s)) /\ row.length = e.s /\ CellsAt B ρ ok w b (k * e.s) row := by
 rcases H.row i e he with ⟨_, h2⟩ | ⟨b, cap, cur, h1, h2, h3, h4, h5, h6, h7, h8, h9, hcr⟩
 ·rw [h2] at hk; simp at hk
 ·have h10 : ∀ (j : Nat) (c : AV), e.rows.flatten[j]? = some c -> ∃ u, cur[j]? = some u /\ u.oneCell' = true /\ V B ρ ok w c u := by
   intro j c hc;obtain ⟨q1, q2, q3⟩ := hcr;have hjl := (List.getElem?_eq_some_iff.1 hc).1;obtain ⟨u, hu⟩ : ∃ u, (cur.toList.take (e.rows.length * e.s))[j]? = some u := ⟨_, List.getElem?_eq_getElem (by omega)⟩;refine ⟨u, ?_, q2 u (List.mem_of_getElem? hu), q3 j c u hc hu⟩;rw [List.getElem?_take] at hu;split at hu
   ·simpa using hu
   ·cases hu
  have hl := h9 row (List.mem_of_getElem? hk);refine ⟨b, cap, h1, hl, (cur.toList.drop (k * e.s)).take e.s, ?_, ?_, ?_, ?_⟩
  ·have hkl : k < e.rows.length := (List.getElem?_eq_some_iff.1 hk).1;have : (k + 1) * e.s <= cap * e.s := Nat.mul_le_mul_right _ (by omega);rw [Nat.succ_mul] at this;simp only [List.length_take, List.length_drop, Array.length_toList];omega
  ·intro u hu;obtain ⟨j, hj⟩ := List.mem_iff_getElem?.1 hu;rw [List.getElem?_take] at hj;split at hj
   ·rename_i hjs;rw [List.getElem?_drop] at hj;obtain ⟨c, hc⟩ : ∃ c, row[j]? = some c := ⟨row[j]'(by omega), by simp⟩;obtain ⟨u', g1, g2, _⟩ := h10 (k * e.s + j) c ((flatten_get h9 hk hjs).trans hc);simp only [Array.getElem?_toList] at hj;rw [g1] at hj; cases hj; exact g2
   ·cases hj
  ·intro j u hj;rw [List.getElem?_take] at hj;split at hj
   ·rw [List.getElem?_drop] at hj;simp only [World.cell?, h4];simpa using hj
   ·cases hj
  ·intro j c u hc hu;rw [List.getElem?_take] at hu;split at hu
   ·rename_i hjs;rw [List.getElem?_drop] at hu;obtain ⟨u', g1, _, g3⟩ := h10 (k * e.s + j) c ((flatten_get h9 hk hjs).trans hc);simp only [Array.getElem?_toList] at hu;rw [g1] at hu; cases hu; exact g3
   ·cases hu
theorem load_cells {P : Program} {B : Nat} {ρ : Nat -> Option Place} {ok : Nat -> Prop} {w : World} {b off : Nat} {cells : List AV} (h : CellsAt B ρ ok w b off cells) {t : TypeId} {ti : TI} (ht : tiOf P t = some ti) {o : Nat} {r : AV} (hr : takeA ti cells o = some r) :
  ∃ v, (loadVar t ⟨b, off + o, none⟩).run P w = .ok v w /\ V B ρ ok w r v := by
 unfold takeA at hr;split at hr
 ·rename_i hle;unfold loadVar;rw [Sem.run_bind, run_isAgg ht];obtain ⟨us, h1, h2, h3, h4⟩ := h.drop o;split at hr
  ·rename_i hag;simp only [Option.some.injEq] at hr;subst hr;simp only [Result.andThen_ok, hag, if_true, Sem.run_bind, run_sizeOf ht];have hl : (us.take ti.size).length = ti.size := by simp [h1]; omega
   have := run_loadCells_list (P := P) w ⟨b, off + o, none⟩ (us.take ti.size) (fun j v hj => by
    rw [addr_add];rw [List.getElem?_take] at hj;split at hj
    ·exact h3 j v hj
    ·cases hj)
   rw [hl] at this;rw [this];refine ⟨_, rfl, .agg (by simp [h1]) (fun u hu => h2 u (List.mem_of_mem_take hu)) (fun j c u hc hu => ?_)⟩;rw [List.getElem?_take] at hc hu;split at hc
   ·rename_i hlt;rw [if_pos hlt] at hu;exact h4 j c u hc hu
   ·cases hc
  ·rename_i hag;have hag' : ti.agg = false := by simpa using hag
   simp only [Result.andThen_ok, hag', Bool.false_eq_true, if_false];have hlt : o < cells.length := (List.getElem?_eq_some_iff.1 hr).1;obtain ⟨u, hu⟩ : ∃ u, us[0]? = some u := ⟨us[0]'(by rw [h1]; simp; omega), by simp⟩;have hc := h3 0 u hu;refine ⟨u, ?_, h4 0 r u (by rw [List.getElem?_drop]; exact hr) hu⟩;simp only [Nat.add_zero] at hc;simp [load, Sem.run, hc]
 ·cases hr
end Go.Proofs.YtadmfokicjjglaaGreatDoor.E
namespace Go.Proofs.YtadmfokicjjglaaGreatDoor.E
open Go.RowKit
def okOpd : Operand -> Bool
 | .const v => okConst v
 | .global _ => false
 | _ => true
structure Rl (B : Nat) (W0 : World) (ρ : Nat -> Option Place) (ok : Nat -> Prop) (nt : Nat) (st : St) (a : Act) (w : World) : Prop where
 heap : HRel B W0 ρ ok st.h st.n w
 tmps : ∀ k, V B ρ ok w (st.t k) (a.tmps.getD k undef)
 size : a.tmps.size = nt
 defers : a.defers = []
section
variable {P : Program} {B : Nat} {W0 : World} {ρ : Nat -> Option Place} {ok : Nat -> Prop} {w : World} {nt : Nat} {st : St} {a : Act}
theorem leafOf_sound {v : Value} (h : okLeaf v = true) : V B ρ ok w (leafOf v) v /\ v.oneCell' = true := by
 unfold okLeaf at h;split at h
 ·exact ⟨.nl, rfl⟩
 ·rename_i hn
  have e : leafOf v = .at v := by
   unfold leafOf;split
   ·exact absurd rfl hn
   ·rfl
  rw [e];refine ⟨.at h, ?_⟩;unfold atomic at h;split at h <;> first | rfl | cases h
theorem ofVal_sound {v : Value} (h : okConst v = true) : V B ρ ok w (ofVal v) v := by
 unfold okConst at h;split at h
 ·rename_i cs;have e : ofVal (.agg cs) = .agg (cs.toList.map leafOf) := rfl;rw [e];have ha := List.all_eq_true.1 h
  have := V.agg (B := B) (ρ := ρ) (ok := ok) (w := w) (l := cs.toList.map leafOf) (vs := cs.toList) (by simp) (fun u hu => (leafOf_sound (B := B) (ρ := ρ) (ok := ok) (w := w) (ha u hu)).2) (fun j c u hc hu => by
   rw [List.getElem?_map, hu] at hc;cases hc
   exact (leafOf_sound (ha u (List.mem_of_getElem? hu))).1)
  simpa using this
 ·rename_i hn
  have e : ofVal v = leafOf v := by
   unfold ofVal leafOf;split
   ·rfl
   ·rename_i cs; exact absurd rfl (hn cs)
   ·rename_i h1 h2;split
    ·exact absurd rfl h1
    ·rfl
  rw [e];exact (leafOf_sound h).1
theorem ev_sound (R : Rl B W0 ρ ok nt st a w) {x : Operand} (h : okOpd x = true) : V B ρ ok w (evA st.t x) (a.eval x) := by
 cases x with
 | tmp k => exact R.tmps k
 | const v => exact ofVal_sound h
 | global g => cases h
 | func f => exact .fn (l := []) (vs := []) rfl (by simp)
theorem V_at {v u : Value} (h : V B ρ ok w (.at v) u) : u = v := by cases h; rfl
theorem V_natOf {x : AV} {u : Value} {k : Nat} (h : V B ρ ok w x u) (hk : natOf x = some k) : ∃ kd, u = .int kd (k : Int) := by
 unfold natOf at hk;split at hk
 ·rename_i kd n;split at hk
  ·cases hk;have := V_at h;exact ⟨kd, by rw [this]; congr 1; omega⟩
  ·cases hk
 ·cases hk
theorem run_equalIn_bool (d : Nat) {t : TypeId} (x y : Bool) (h : P.underlying t = some .bool) (w : World) : (Op.equalIn (d + 1) t (.bool x) (.bool y)).run P w = .ok (x == y) w := by
 simp [Op.equalIn, run_underlying h]
theorem run_equal_bool {t : TypeId} (x y : Bool) (h : P.underlying t = some .bool) (w : World) : (Op.equal t (.bool x) (.bool y)).run P w = .ok (x == y) w := run_equalIn_bool 9999 x y h w
theorem bin_sound {op : BinOp} {t : TypeId} {xo yo : Operand} {x y r : AV} {u v : Value} (hx : V B ρ ok w x u) (hy : V B ρ ok w y v) (h : binA P op t x y = some r) :
  ∃ z, (do eqGuard op t xo yo u v; binOp op t u v : Sem Value).run P w = .ok z w /\ V B ρ ok w r z := by
 unfold binA at h;split at h
 ·rename_i k a k' b;cases V_at hx; cases V_at hy
  split at h
  ·rename_i hk;subst hk
   cases op <;> simp [cmpA] at h <;> (first | subst h | (obtain ⟨h0, h⟩ := h; subst h)) <;>
    (refine ⟨_, ?_, .at rfl⟩; simp [eqGuard, binOp, Op.intArith, Op.intCmp, Op.intDiv, Bool.beq_eq_decide_eq, bne, *])
  ·cases h
 ·rename_i a b;cases V_at hx; cases V_at hy
  split at h
  ·rename_i hb;cases h;refine ⟨_, ?_, .at rfl⟩;simp [eqGuard, binOp, run_equal_bool _ _ (tk_bool hb)]
  ·rename_i hb;cases h;refine ⟨_, ?_, .at rfl⟩;simp [eqGuard, binOp, run_equal_bool _ _ (tk_bool hb)]
  ·cases h
 ·rename_i a b;cases V_at hx; cases V_at hy
  have e : (a.toList == b.toList) = decide (a = b) := by
   by_cases hab : a = b
   ·simp [hab]
   ·have hne : a.toList ≠ b.toList := fun e => hab (by rw [ByteArray.toList_eq, ByteArray.toList_eq] at e; exact ByteArray.ext (Array.toList_inj.1 e))
    simp [hab, hne]
  split at h
  ·cases h;exact ⟨_, by simp [eqGuard, binOp, Op.stringOp, e], .at rfl⟩
  ·cases h;exact ⟨_, by simp [eqGuard, binOp, Op.stringOp, e], .at rfl⟩
  ·split at h
   ·rename_i hle;cases h
    have hc : (⟨(a.data.toList ++ b.data.toList).toArray⟩ : ByteArray) = a ++ b := by
     apply ByteArray.ext;simp
    refine ⟨.string (a ++ b), ?_, by rw [hc]; exact .at rfl⟩;simp [eqGuard, binOp, Op.stringOp];omega
   ·cases h
  ·cases h
 ·cases h
theorem un_sound {op : UnOp} {x r : AV} {u : Value} (hx : V B ρ ok w x u) (h : unA op x = some r) : ∃ z, (Op.unary op u).run P w = .ok z w /\ V B ρ ok w r z := by
 unfold unA at h;split at h
 ·cases V_at hx;cases h;exact ⟨_, rfl, .at rfl⟩
 ·cases h
theorem extract_sound {l : List AV} {k : Nat} {r : AV} {u : Value} (hx : V B ρ ok w (.tup l) u) (h : l[k]? = some r) : ∃ z, (Instr.extract u k).run P w = .ok z w /\ V B ρ ok w r z := by
 cases hx with
 | tup h1 h2 =>
  rename_i vs;obtain ⟨z, hz⟩ : ∃ z, vs[k]? = some z := ⟨vs[k]'(by have := (List.getElem?_eq_some_iff.1 h).1; omega), by simp⟩;exact ⟨z, by simp [Instr.extract, hz], h2 k r z h hz⟩
theorem fieldAddr_sound {t : TypeId} {f : Nat} {x r : AV} {u : Value} (hx : V B ρ ok w x u) (h : fieldAddrA P t x f = some r) : ∃ z, (Instr.fieldAt t u f).run P w = .ok z w /\ V B ρ ok w r z := by
 unfold fieldAddrA at h;split at h
 ·rename_i fs htk;obtain ⟨fields, hu, hm⟩ := tk_struct htk;split at h
  ·rename_i off sz hf;obtain ⟨fld, hff, hfi⟩ := mapM_get hm f _ hf;have hfld : fields[f]? = some fld := by simpa using hff
   cases hq : P.info? fld.type with
   | none => rw [hq] at hfi; cases hfi
   | some i =>
    rw [hq] at hfi;simp only [Option.map_some, Option.some.injEq, Prod.mk.injEq] at hfi;obtain ⟨rfl, hsz⟩ := hfi;split at h
    ·cases h
    ·rename_i hne;have hi := hq;have his := hsz;have hso : (sizeOf fld.type).run P w = .ok sz w := by simp [sizeOf, typeInfo, hi, his]
     split at h
     ·cases h;cases hx with
      | ptr hp =>
       refine ⟨_, ?_, .ptr hp⟩;simp [Instr.fieldAt, run_underlying hu, hfld, Instr.sureAddr, fieldPlace, hso, hne, addr_add, Nat.add_assoc]
     ·cases h;obtain ⟨b, o, rfl, hb, us, h1, h2, h3, h4⟩ := cellsAt_rp hx;cases hx with
      | rp g1 g2 g3 g4 g5 =>
       rename_i us;refine ⟨.pointer (some ⟨b, o + fld.offset, none⟩), ?_, .rp hb (us := us.drop fld.offset) (by simp [g2]) (fun u hu => g3 u (List.mem_of_mem_drop hu)) (fun j u hj => ?_) (fun j c u hc hu => ?_)⟩
       ·simp [Instr.fieldAt, run_underlying hu, hfld, Instr.sureAddr, fieldPlace, hso, hne, addr_add]
       ·rw [List.getElem?_drop] at hj;rw [Nat.add_assoc];exact g4 _ u hj
       ·rw [List.getElem?_drop] at hc hu;exact g5 _ c u hc hu
     ·cases h
  ·cases h
 ·cases h
end
end Go.Proofs.YtadmfokicjjglaaGreatDoor.E
namespace Go.Proofs.YtadmfokicjjglaaGreatDoor.E
open Go.RowKit
section
variable {P : Program} {B : Nat} {W0 : World} {ρ : Nat -> Option Place} {ok : Nat -> Prop} {w : World} {h : Heap} {n : Nat}
theorem load_sound (H : HRel B W0 ρ ok h n w) {t : TypeId} {x r : AV} {u : Value} (hx : V B ρ ok w x u) (e : loadA P h t x = some r) : ∃ z, (Instr.loadAt t u).run P w = .ok z w /\ V B ρ ok w r z := by
 unfold loadA at e;split at e
 ·cases e
 ·rename_i ti hti;split at e
  ·obtain ⟨b, off, rfl, -, hc⟩ := cellsAt_rp hx;obtain ⟨v, h1, h2⟩ := load_cells hc hti e;exact ⟨v, by simpa [Instr.loadAt, Instr.sureAddr] using h1, h2⟩
  ·rename_i i s r0 o;split at e
   ·rename_i en hen;split at e
    ·rename_i hs;split at e
     ·rename_i row hrow;obtain ⟨b, cap, hρ, hl, hc⟩ := H.cellsAt hen hrow;cases hx with
      | ptr hp =>
       rename_i b' cap';have : ρ i = some (some (b', cap', s)) := hp;rw [this] at hρ;simp only [Option.some.injEq, Prod.mk.injEq] at hρ;obtain ⟨rfl, rfl, hs'⟩ := hρ;subst hs';obtain ⟨v, h1, h2⟩ := load_cells hc hti e;exact ⟨v, by simpa [Instr.loadAt, Instr.sureAddr] using h1, h2⟩
     ·cases e
    ·cases e
   ·cases e
  ·cases e
theorem rows_size {rows : List (List AV)} {s : Nat} {k : Nat} {row : List AV} (hs : ∀ r, r ∈ rows -> r.length = s) (hk : rows[k]? = some row) : row.length = s := hs row (List.mem_of_getElem? hk)
theorem indexAddr_sound (H : HRel B W0 ρ ok h n w) {t : TypeId} {x ix r : AV} {u ui : Value} (hx : V B ρ ok w x u) (hi : V B ρ ok w ix ui) (e : indexAddrA P h t x ix = some r) : ∃ z, (Instr.indexAt t u ui).run P w = .ok z w /\ V B ρ ok w r z := by
 unfold indexAddrA at e;split at e
 ·cases e
 ·rename_i k hk;obtain ⟨kd, rfl⟩ := V_natOf hi hk;split at e
  ·rename_i el htk;have hu := tk_slice htk;split at e
   ·cases e
   ·rename_i ti hti;split at e
    ·rename_i fr s rows;split at e
     ·rename_i hs;cases hrow : rows[k]? with
      | none => rw [hrow] at e; cases e
      | some row =>
       rw [hrow] at e;cases e;have hkl : k < rows.length := (List.getElem?_eq_some_iff.1 hrow).1;cases hx with
       | lst hp =>
        cases hp with
        | lst g1 g2 g3 g4 g5 g6 g7 g8 =>
         rename_i a cap us;have hrs := rows_size g1 hrow;cases a with
         | none => have := (g4 rfl).1; subst this; simp at hkl
         | some ad =>
          obtain ⟨b, off, sp⟩ := ad;obtain ⟨q1, q2, q3⟩ := g7 _ rfl (by intro e; subst e; simp at hkl);simp only at q1 q2 q3;subst q1;refine ⟨.pointer (some ⟨b, off + k * s, none⟩), ?_, .rp q2.1 (us := (us.drop (k * s)).take s) ?_ ?_ ?_ ?_⟩
          ·simp [Instr.indexAt, asIntOf, run_underlying hu, hkl, run_sizeOf hti, addr_add, hs]
          ·have : (k + 1) * s <= rows.length * s := Nat.mul_le_mul_right _ (by omega);rw [Nat.succ_mul] at this;rw [flatten_length g1] at g5;simp only [List.length_take, List.length_drop];omega
          ·exact fun u hu => g6 u (List.mem_of_mem_drop (List.mem_of_mem_take hu))
          ·intro j u hj;rw [List.getElem?_take] at hj;split at hj
           ·rw [List.getElem?_drop] at hj;rw [Nat.add_assoc];exact q3 _ u hj
           ·cases hj
          ·intro j c u hc hu;rw [List.getElem?_take] at hu;split at hu
           ·rename_i hjs;rw [List.getElem?_drop] at hu;exact (g8 _ c u ((flatten_get g1 hrow hjs).trans hc) hu).mono fun b hb => ⟨hb.1, rfl⟩
           ·cases hu
     ·cases e
    ·rename_i i o m;split at e
     ·rename_i en hen;split at e
      ·rename_i hc;obtain ⟨hs, hkm, hle⟩ := hc;cases e;cases hx with
       | own0 => omega
       | own hp g1 g2 =>
        rename_i b cap s;rcases H.row i en hen with ⟨q, _⟩ | ⟨b', cap', cur, q, _⟩
        ·rw [hp] at q; cases q
        ·rw [hp] at q;simp only [Option.some.injEq, Prod.mk.injEq] at q;obtain ⟨rfl, rfl, rfl⟩ := q;refine ⟨_, ?_, .ptr hp⟩;have e1 : o * en.s + k * en.s = (o + k) * en.s + 0 := by rw [Nat.add_mul, Nat.add_zero]
         simp [Instr.indexAt, asIntOf, run_underlying hu, hkm, run_sizeOf hti, addr_add, <- hs, e1]
      ·cases e
     ·cases e
    ·cases e
  ·rename_i m el htk;have hu := tk_array htk;split at e
   ·cases e
   ·rename_i ti hti;split at e
    ·rename_i i s r0 o;split at e
     ·rename_i hkm;cases e;cases hx with
      | ptr hp =>
       refine ⟨_, ?_, .ptr hp⟩;simp [Instr.indexAt, asIntOf, run_underlying hu, hkm, run_sizeOf hti, addr_add, Instr.sureAddr, Nat.add_assoc]
     ·cases e
    ·cases e
  ·cases e
theorem part_sound {t : TypeId} {ti : TI} (hti : tiOf P t = some ti) {cs : List AV} {vs : List Value} (h1 : cs.length = vs.length) (h2 : ∀ u, u ∈ vs -> u.oneCell' = true)
  (h3 : ∀ (j : Nat) (c : AV) (u : Value), cs[j]? = some c -> vs[j]? = some u -> V B ρ ok w c u) {o : Nat} {r : AV} (e : takeA ti cs o = some r) : ∃ z, (part t vs.toArray o).run P w = .ok z w /\ V B ρ ok w r z := by
 unfold takeA at e;split at e
 ·rename_i hle;split at e
  ·rename_i hag;cases e;refine ⟨.agg (vs.toArray.extract o (o + ti.size)), by simp [part, run_isAgg hti, hag, run_sizeOf hti], ?_⟩;have e2 : vs.toArray.extract o (o + ti.size) = ((vs.drop o).take ti.size).toArray := by simp [List.extract_eq_take_drop]
   rw [e2];refine .agg (by simp [h1]) (fun u hu => h2 u (List.mem_of_mem_drop (List.mem_of_mem_take hu))) (fun j c u hc hu => ?_);rw [List.getElem?_take] at hc hu;split at hc
   ·rename_i hlt;rw [if_pos hlt, List.getElem?_drop] at hu;rw [List.getElem?_drop] at hc;exact h3 _ c u hc hu
   ·cases hc
  ·rename_i hag;have hag' : ti.agg = false := by simpa using hag
   obtain ⟨z, hz⟩ : ∃ z, vs[o]? = some z := ⟨vs[o]'(by have := (List.getElem?_eq_some_iff.1 e).1; omega), by simp⟩;exact ⟨z, by simp [part, run_isAgg hti, hag', hz], h3 o r z e hz⟩
 ·cases e
theorem index_sound {t : TypeId} {x ix r : AV} {u ui : Value} (hx : V B ρ ok w x u) (hi : V B ρ ok w ix ui) (e : indexA P t x ix = some r) : ∃ z, (Instr.index t u ui).run P w = .ok z w /\ V B ρ ok w r z := by
 unfold indexA at e;split at e
 ·cases e
 ·rename_i k hk;obtain ⟨kd, rfl⟩ := V_natOf hi hk;split at e
  ·rename_i m el cs htk;have hu := tk_array htk;split at e
   ·cases e
   ·rename_i ti hti;split at e
    ·rename_i hkm;cases hx with
     | agg h1 h2 h3 =>
      obtain ⟨z, g1, g2⟩ := part_sound (P := P) hti h1 h2 h3 e;exact ⟨z, by simp [Instr.index, asIntOf, run_underlying hu, hkm, run_sizeOf hti, g1], g2⟩
    ·cases e
  ·rename_i s htk;have hu := tk_string htk;cases V_at hx;cases hs : s[k]? with
   | none => rw [hs] at e; cases e
   | some b =>
    rw [hs] at e;cases e;exact ⟨_, by simp [Instr.index, asIntOf, run_underlying hu, hs], .at rfl⟩
  ·cases e
theorem len_sound {x : AV} {u : Value} {m : Nat} {t ty : TypeId} (hx : V B ρ ok w x u) (e : lenA (tkOf P t) x = some m) :
  ∃ z, (Builtin.len_ #[t] ty #[u]).run P w = .ok z w /\ V B ρ ok w (.at (.int .i64 m)) z := by
 unfold lenA at e;split at e
 ·rename_i hk;cases e;cases hx;exact ⟨_, by simp [Builtin.len_, run_underlying (tk_slice hk), goInt], .at rfl⟩
 ·rename_i hk;cases e;cases hx with
  | lst hp =>
   cases hp;exact ⟨_, by simp [Builtin.len_, run_underlying (tk_slice hk), goInt], .at rfl⟩
 ·rename_i hk;cases e;cases hx <;> exact ⟨_, by simp [Builtin.len_, run_underlying (tk_slice hk), goInt], .at rfl⟩
 ·rename_i hk;cases e;cases V_at hx;exact ⟨_, by simp [Builtin.len_, run_underlying (tk_string hk), goInt], .at rfl⟩
 ·cases e
theorem flatten_take {α : Type} {rows : List (List α)} {s : Nat} (hs : ∀ r, r ∈ rows -> r.length = s) (m : Nat) : (rows.take m).flatten = rows.flatten.take (m * s) := by
 induction rows generalizing m with
 | nil => simp
 | cons r rows ih =>
  cases m with
  | zero => simp
  | succ m =>
   have hr := hs r (by simp);simp only [List.take_succ_cons, List.flatten_cons];have e1 : r.take ((m + 1) * s) = r := List.take_of_length_le (by rw [hr, Nat.succ_mul]; omega);have e2 : (m + 1) * s - r.length = m * s := by rw [hr, Nat.succ_mul]; omega
   rw [ih (fun r hr => hs r (by simp [hr])), List.take_append, e1, e2]
theorem flatten_drop {α : Type} {rows : List (List α)} {s : Nat} (hs : ∀ r, r ∈ rows -> r.length = s) (m : Nat) : (rows.drop m).flatten = rows.flatten.drop (m * s) := by
 induction rows generalizing m with
 | nil => simp
 | cons r rows ih =>
  cases m with
  | zero => simp
  | succ m =>
   have hr := hs r (by simp);simp only [List.drop_succ_cons, List.flatten_cons];have e1 : r.drop ((m + 1) * s) = [] := List.drop_of_length_le (by rw [hr, Nat.succ_mul]; omega);have e2 : (m + 1) * s - r.length = m * s := by rw [hr, Nat.succ_mul]; omega
   rw [ih (fun r hr => hs r (by simp [hr])), List.drop_append, e1, e2, List.nil_append]
theorem PV.cut {F : Nat -> Prop} {s : Nat} {rows : List (List AV)} {a : Option Addr} {k cap l m : Nat} (h : PV F w (.lst false s rows) (.slice a k cap)) (hl : l <= m) (hm : m <= rows.length) :
  PV F w (.lst false s ((rows.take m).drop l)) (.slice (if cap = l then a else a.map (·.add (l * s))) (m - l) (cap - l)) := by
 cases h with
 | lst g1 g2 g3 g4 g5 g6 g7 g8 =>
  rename_i us;have hlen : ((rows.take m).drop l).length = m - l := by simp; omega
  have hs' : ∀ r, r ∈ rows.take m -> r.length = s := fun r hr => g1 r (List.mem_of_mem_take hr)
  have hfl : ((rows.take m).drop l).flatten = (rows.flatten.take (m * s)).drop (l * s) := by rw [flatten_drop hs', flatten_take g1]
  rw [<- hlen];refine .lst (us := (us.take (m * s)).drop (l * s)) (fun r hr => hs' r (List.mem_of_mem_drop hr)) (by omega) (by omega) (fun e => ?_) ?_ (fun u hu => g6 u (List.mem_of_mem_take (List.mem_of_mem_drop hu))) (fun ad e hn => ?_) (fun j c u hc hu => ?_)
  ·cases a with
   | none =>
    obtain ⟨q1, q2⟩ := g4 rfl;subst q1;exact ⟨by simp, by omega⟩
   | some ad => split at e <;> cases e
  ·rw [hfl]; simp [g5]
  ·have hne : rows ≠ [] := by intro e; subst e; simp at hn
   have hcl : cap ≠ l := by
    intro e; subst e
    apply hn;apply List.eq_nil_of_length_eq_zero;omega
   rw [if_neg hcl] at e;cases a with
   | none => cases e
   | some ad0 =>
    obtain ⟨q1, q2, q3⟩ := g7 ad0 rfl hne;obtain ⟨b, off, sp⟩ := ad0;simp only at q1;subst q1;simp only [Option.map_some, addr_add] at e;cases e;refine ⟨rfl, q2, fun j u hj => ?_⟩;rw [List.getElem?_drop, List.getElem?_take] at hj;split at hj
    ·simp only at q3 ⊢;rw [Nat.add_assoc];exact q3 _ u hj
    ·cases hj
  ·rw [hfl, List.getElem?_drop, List.getElem?_take] at hc;rw [List.getElem?_drop, List.getElem?_take] at hu;split at hc
   ·rename_i hlt;rw [if_pos hlt] at hu;exact g8 _ c u hc hu
   ·cases hc
theorem optBound {lo : Option AV} {lov : Option Value} {d l : Nat} (h : lo.elim (some d) natOf = some l) (hv : ∀ x, lo = some x -> ∃ v, lov = some v /\ V B ρ ok w x v) (hn : lo = none -> lov = none) :
  (lov = none /\ l = d) \/ ∃ kd, lov = some (.int kd (l : Int)) := by
 cases lo with
 | none => simp at h; exact Or.inl ⟨hn rfl, h.symm⟩
 | some x =>
  obtain ⟨v, rfl, hx⟩ := hv x rfl;obtain ⟨kd, rfl⟩ := V_natOf hx h;exact Or.inr ⟨kd, rfl⟩
theorem run_sliceBounds {isS : Bool} {len cap l m : Nat} {lov hiv : Option Value} (h1 : (lov = none /\ l = 0) \/ ∃ kd, lov = some (.int kd (l : Int))) (h2 : (hiv = none /\ m = len) \/ ∃ kd, hiv = some (.int kd (m : Int))) (hl : l <= m) (hm : m <= cap) (w : World) :
  (Instr.sliceBounds isS len cap lov hiv none).run P w = .ok (l, m, cap) w := by
 rcases h1 with ⟨rfl, rfl⟩ | ⟨k1, rfl⟩ <;> rcases h2 with ⟨rfl, rfl⟩ | ⟨k2, rfl⟩ <;>
  simp [Instr.sliceBounds, Instr.sliceBound, asIntOf] <;> (try simp [hl, hm]) <;> (try (intro hh; omega)) <;> (try (refine ⟨?_, ?_⟩ <;> intro hh <;> omega))
theorem slice_sound (H : HRel B W0 ρ ok h n w) {t e : TypeId} {ti : TI} {x r : AV} {u : Value} {lo hi mx : Option AV} {lov hiv mxv : Option Value} (hk : tkOf P t = .slice e) (hti : tiOf P e = some ti) (hx : V B ρ ok w x u)
  (hlo : ∀ x, lo = some x -> ∃ v, lov = some v /\ V B ρ ok w x v) (hlo' : lo = none -> lov = none)
  (hhi : ∀ x, hi = some x -> ∃ v, hiv = some v /\ V B ρ ok w x v) (hhi' : hi = none -> hiv = none)
  (hmx : ∀ x, mx = some x -> ∃ v, mxv = some v /\ V B ρ ok w x v) (hmx' : mx = none -> mxv = none)
  (he : sliceA h ti.size x lo hi mx = some r) : ∃ z, (Instr.sliceAt t u lov hiv mxv).run P w = .ok z w /\ V B ρ ok w r z := by
 have hu := tk_slice hk;unfold sliceA at he;split at he
 ·rename_i m;obtain ⟨mv, rfl, hmv⟩ := hmx m rfl;split at he
  ·rename_i hi0 hz;obtain ⟨hv, rfl, hhv⟩ := hhi _ rfl;have hlo0 : lov = none := hlo' rfl;subst hlo0;split at he
   ·rename_i h0;obtain ⟨k1, rfl⟩ := V_natOf hmv hz;obtain ⟨k2, rfl⟩ := V_natOf hhv h0
    have key : ∀ a len cap, ∃ z, (Instr.sliceAt t (.slice a len cap) none (some (.int k2 ((0 : Nat) : Int))) (some (.int k1 ((0 : Nat) : Int)))).run P w = .ok z w /\ V B ρ ok w .nl z := by
     intro a len cap;refine ⟨.slice a 0 0, ?_, .nl⟩;simp [Instr.sliceAt, Instr.slice, run_underlying hu, Instr.sliceBounds, Instr.sliceBound, asIntOf, run_sizeOf hti]
    split at he
    ·cases he; cases hx; exact key _ _ _
    ·cases he;cases hx with
     | lst hp => cases hp; exact key _ _ _
    ·cases he;cases hx <;> exact key _ _ _
    ·cases he
   ·cases he
  ·cases he
 ·have hmx0 : mxv = none := hmx' rfl;subst hmx0;split at he
  ·split at he
   ·rename_i h1 h2;cases he;cases hx;rename_i a;have b1 := optBound h1 hlo hlo';have b2 := optBound h2 hhi hhi';have := run_sliceBounds (P := P) (isS := true) (len := 0) (cap := 0) b1 b2 (Nat.le_refl _) (Nat.le_refl _) w;exact ⟨.slice a 0 0, by simp [Instr.sliceAt, Instr.slice, run_underlying hu, this, run_sizeOf hti], .nl⟩
   ·cases he
  ·rename_i fr s rows;split at he
   ·rename_i l m h1 h2;split at he
    ·rename_i hc;obtain ⟨rfl, hl, hm⟩ := hc;cases he;cases hx with
     | lst hp =>
      have hp0 := hp;cases hp with
      | lst g1 g2 g3 g4 g5 g6 g7 g8 =>
       rename_i a cap us;have b1 := optBound h1 hlo hlo';have b2 := optBound h2 hhi hhi';have := run_sliceBounds (P := P) (isS := true) (len := rows.length) (cap := cap) b1 b2 hl (by omega) w;exact ⟨_, by simp [Instr.sliceAt, Instr.slice, run_underlying hu, this, run_sizeOf hti], .lst (hp0.cut hl hm)⟩
    ·cases he
   ·cases he
  ·rename_i i o k;split at he
   ·rename_i l m en h1 h2 hen;split at he
    ·rename_i hc;obtain ⟨hs, hl, hm⟩ := hc;have b1 := optBound h1 hlo hlo';have b2 := optBound h2 hhi hhi';cases hx with
     | own0 hp =>
      have hm0 : m = 0 := by omega
      have hl0 : l = 0 := by omega
      subst hm0; subst hl0
      simp at he;cases he;rename_i a;have := run_sliceBounds (P := P) (isS := true) (len := 0) (cap := 0) b1 b2 (Nat.le_refl _) (Nat.le_refl _) w;exact ⟨.slice a 0 0, by simp [Instr.sliceAt, Instr.slice, run_underlying hu, this, run_sizeOf hti], .own0 hp⟩
     | own hp q1 q2 =>
      rename_i b cap s
      have hse : s = en.s := by
       rcases H.row i en hen with ⟨q, _⟩ | ⟨b', cap', cur, q, _⟩
       ·rw [hp] at q; cases q
       ·rw [hp] at q;simp only [Option.some.injEq, Prod.mk.injEq] at q;exact q.2.2
      have hrun := run_sliceBounds (P := P) (isS := true) (len := k) (cap := cap - o) b1 b2 hl (by omega) w
      have hrun2 : (Instr.sliceAt t (.slice (some ⟨b, o * s, none⟩) k (cap - o)) lov hiv none).run P w = .ok (.slice (if cap - o = l then some ⟨b, o * s, none⟩ else some ⟨b, o * s + l * ti.size, none⟩) (m - l) (cap - o - l)) w := by
       simp [Instr.sliceAt, Instr.slice, run_underlying hu, hrun, run_sizeOf hti, addr_add]
      refine ⟨_, hrun2, ?_⟩;split at he
      ·rename_i hlm;obtain ⟨rfl, hl0⟩ := hlm;cases he;rw [Nat.sub_self];exact .lst (PV.lst (us := []) (rows := []) (by simp) (by simp) (by omega) (fun e => by split at e <;> cases e) (by simp) (by simp) (fun _ _ hn => absurd rfl hn) (by simp))
      ·rename_i hlm;cases he;have e1 : cap - o - l = cap - (o + l) := by omega
       rw [e1];split
       ·rename_i hcl;have : l = 0 := by omega
        subst this;have hm0 : m = 0 := by omega
        subst hm0;exact .own hp (by omega) q2
       ·rw [<- hs, <- hse, <- Nat.add_mul];exact .own hp (by omega) q2
    ·cases he
   ·cases he
  ·cases he
theorem sliceS_sound {t : TypeId} {x r : AV} {u : Value} {lo hi mx : Option AV} {lov hiv mxv : Option Value} (hk : tkOf P t = .string) (hx : V B ρ ok w x u)
  (hlo : ∀ x, lo = some x -> ∃ v, lov = some v /\ V B ρ ok w x v) (hlo' : lo = none -> lov = none)
  (hhi : ∀ x, hi = some x -> ∃ v, hiv = some v /\ V B ρ ok w x v) (hhi' : hi = none -> hiv = none) (hmx' : mx = none -> mxv = none)
  (he : sliceS x lo hi mx = some r) : ∃ z, (Instr.sliceAt t u lov hiv mxv).run P w = .ok z w /\ V B ρ ok w r z := by
 have hu := tk_string hk;unfold sliceS at he;split at he
 ·rename_i s;have hmx0 : mxv = none := hmx' rfl;subst hmx0;cases V_at hx;split at he
  ·rename_i l m h1 h2;split at he
   ·rename_i hc;obtain ⟨hl, hm⟩ := hc;cases he;have b1 := optBound h1 hlo hlo';have b2 := optBound h2 hhi hhi';have := run_sliceBounds (P := P) (isS := false) (len := s.size) (cap := s.size) b1 b2 hl hm w
    have e : (⟨((s.data.toList.take m).drop l).toArray⟩ : ByteArray) = s.extract l m := by
     apply ByteArray.ext;apply Array.toList_inj.1;simp [List.extract_eq_take_drop, List.drop_take]
    exact ⟨.string (s.extract l m), by simp [Instr.sliceAt, Instr.slice, run_underlying hu, this], by rw [e]; exact .at rfl⟩
   ·cases he
  ·cases he
 ·cases he
theorem bytesOf_rows : ∀ {rows : List (List AV)} {l : List UInt8}, bytesOf rows = some l -> ∃ xs : List Int, rows = xs.map (fun n => [.at (.int .u8 n)]) /\ l = xs.map fun n => UInt8.ofNat n.toNat
 | [], l, h => by cases h; exact ⟨[], rfl, rfl⟩
 | r :: rows, l, h => by
  unfold bytesOf at h;split at h
  ·rename_i hq; cases hq
  ·rename_i n rest hq;simp only [List.cons.injEq] at hq;obtain ⟨rfl, rfl⟩ := hq;cases hr : bytesOf rows with
   | none => rw [hr] at h; cases h
   | some l' =>
    rw [hr] at h;cases h;obtain ⟨xs, rfl, rfl⟩ := bytesOf_rows hr;exact ⟨n :: xs, rfl, rfl⟩
  ·cases h
def convNew (P : Program) : Op -> Bool
 | .convert src dst _ => match tkOf P src, tkOf P dst with
  | .string, .slice _ => true
  | _, _ => false
 | _ => false
theorem flat_bytes : ∀ xs : List Int, (xs.map (fun n => [AV.at (.int .u8 n)])).flatten = xs.map fun n => AV.at (.int .u8 n)
 | [] => rfl
 | x :: xs => by simp [flat_bytes xs]
theorem isByte_eq {k : TK} (h : isByte k = true) : k = .int .u8 := by
 unfold isByte at h;split at h
 ·rfl
 ·cases h
theorem conv_sound {src dst : TypeId} {xo : Operand} {x r : AV} {u : Value} (hn : convNew P (.convert src dst xo) = false) (hx : V B ρ ok w x u) (he : convA P src dst x = some r) :
  ∃ z, (convert src dst u).run P w = .ok z w /\ V B ρ ok w r z := by
 unfold convA at he;split at he
 ·rename_i k k' k0 n h1 h2;cases he;cases V_at hx;exact ⟨_, by simp [convert, run_underlying (tk_int h1), run_underlying (tk_int h2), Conv.intToInt], .at rfl⟩
 ·rename_i e h1 h2;split at he
  ·rename_i hb;cases he;cases hx;rename_i a;have hs := tk_slice h1;have hd := tk_string h2;have hbt := tk_int (isByte_eq hb);refine ⟨.string ⟨[].toArray⟩, ?_, .at rfl⟩;cases a with
   | none => rw [run_convert_bytes_nil w src e hs hbt 0 0 dst hd]; rfl
   | some a =>
    rw [run_convert_bytes_string w src dst e _ 0 0 hs hbt hd, run_bytesToString w a 0 0 [] (by simp [loadCells, loadCellsFrom])];rfl
  ·cases he
 ·rename_i e fr s rows h1 h2;split at he
  ·rename_i hb;obtain ⟨hb, rfl⟩ := hb;cases hl : bytesOf rows with
   | none => rw [hl] at he; cases he
   | some l =>
    rw [hl] at he;cases he;obtain ⟨xs, hxr, rfl⟩ := bytesOf_rows hl;have hs := tk_slice h1;have hd := tk_string h2;have hbt := tk_int (isByte_eq hb)
    have hst : (⟨(xs.map fun n => UInt8.ofNat n.toNat).toArray⟩ : ByteArray) = strOfNums xs := by
     apply ByteArray.ext;apply Array.toList_inj.1;rw [strOfNums_data]
    refine ⟨.string (strOfNums xs), ?_, by show V B ρ ok w (.at (.string ⟨(xs.map fun n => UInt8.ofNat n.toNat).toArray⟩)) _; rw [hst]; exact .at rfl⟩;cases hx with
    | lst hp =>
     cases hp with
     | lst g1 g2 g3 g4 g5 g6 g7 g8 =>
      rename_i a cap us
      have hfl : rows.flatten = xs.map fun n => AV.at (.int .u8 n) := by
       rw [hxr];exact flat_bytes xs
      have hlen : rows.length = xs.length := by rw [hxr]; simp
      cases a with
      | none =>
       obtain ⟨q1, q2⟩ := g4 rfl;have : xs = [] := List.eq_nil_of_length_eq_zero (by rw [<- hlen, q1]; rfl);subst this;rw [run_convert_bytes_nil w src e hs hbt _ _ dst hd];rfl
      | some ad =>
       by_cases hr0 : rows = []
       ·have : xs = [] := List.eq_nil_of_length_eq_zero (by rw [<- hlen, hr0]; rfl);subst this;rw [hr0];rw [run_convert_bytes_string w src dst e _ _ _ hs hbt hd, run_bytesToString w ad _ cap [] (by simp [loadCells, loadCellsFrom])];rfl
       ·obtain ⟨b, off, sp⟩ := ad;obtain ⟨q1, q2, q3⟩ := g7 _ rfl hr0;simp only at q1 q3;subst q1;refine run_convert_bytes_arg w src e hs hbt b off _ cap xs hlen.symm (fun i hi => ?_) dst hd;have hi' : i < xs.length := by omega
        obtain ⟨u, hu⟩ : ∃ u, us[i]? = some u := ⟨us[i]'(by rw [g5, hfl]; simpa using hi'), by simp⟩;rw [q3 i u hu];have hc : rows.flatten[i]? = some (.at (.int .u8 (xs[i]'hi'))) := by rw [hfl]; simp [hi']
        have := g8 i _ u hc hu;cases this;simp [hi']
  ·cases he
 ·rename_i e s h1 h2;simp [convNew, h1, h2] at hn
 ·cases he
end
end Go.Proofs.YtadmfokicjjglaaGreatDoor.E
namespace Go.Proofs.YtadmfokicjjglaaGreatDoor.E
open Go.RowKit
section
variable {P : Program} {B : Nat} {W0 : World} {ρ : Nat -> Option Place} {ok : Nat -> Prop} {w : World} {h : Heap} {n : Nat}
theorem CR.one {c : AV} {u : Value} (h : V B ρ ok w c u) (h1 : u.oneCell' = true) : CR B ρ ok w [c] [u] := by
 refine ⟨rfl, by simpa using h1, fun j c' u' hc hu => ?_⟩;cases j with
 | zero => simp at hc hu; subst hc; subst hu; exact h
 | succ j => simp at hc
theorem CR.append {a b : List AV} {x y : List Value} (h : CR B ρ ok w a x) (g : CR B ρ ok w b y) : CR B ρ ok w (a ++ b) (x ++ y) := by
 obtain ⟨h1, h2, h3⟩ := h;obtain ⟨g1, g2, g3⟩ := g;refine ⟨by simp [h1, g1], fun u hu => ?_, fun j c u hc hu => ?_⟩
 ·rcases List.mem_append.1 hu with hu | hu
  ·exact h2 u hu
  ·exact g2 u hu
 ·by_cases hj : j < a.length
  ·rw [List.getElem?_append_left hj] at hc;rw [List.getElem?_append_left (by omega)] at hu;exact h3 j c u hc hu
  ·rw [List.getElem?_append_right (by omega)] at hc;rw [List.getElem?_append_right (by omega), <- h1] at hu;exact g3 _ c u hc hu
theorem CR.take {a : List AV} {x : List Value} (h : CR B ρ ok w a x) (k : Nat) : CR B ρ ok w (a.take k) (x.take k) := by
 obtain ⟨h1, h2, h3⟩ := h;refine ⟨by simp [h1], fun u hu => h2 u (List.mem_of_mem_take hu), fun j c u hc hu => ?_⟩;rw [List.getElem?_take] at hc hu;split at hc
 ·rename_i hj; rw [if_pos hj] at hu; exact h3 j c u hc hu
 ·cases hc
theorem CR.drop {a : List AV} {x : List Value} (h : CR B ρ ok w a x) (k : Nat) : CR B ρ ok w (a.drop k) (x.drop k) := by
 obtain ⟨h1, h2, h3⟩ := h;refine ⟨by simp [h1], fun u hu => h2 u (List.mem_of_mem_drop hu), fun j c u hc hu => ?_⟩;rw [List.getElem?_drop] at hc hu;exact h3 _ c u hc hu
theorem cells_sound {x : AV} {u : Value} (hx : V B ρ ok w x u) (hp : 0 < (cellsA x).length) : CR B ρ ok w (cellsA x) u.cells.toList := by
 cases hx with
 | und => simp [cellsA] at hp
 | nilv => exact .one .nilv rfl
 | nn h1 => exact .one (.nn h1) rfl
 | «at» h1 =>
  have hc : u.cells = #[u] /\ u.oneCell' = true := by
   unfold atomic at h1;split at h1 <;> first | exact ⟨rfl, rfl⟩ | cases h1
  simp only [cellsA, hc.1];exact .one (.at h1) hc.2
 | nl => exact .one .nl rfl
 | lst h1 =>
  have h1' := h1;cases h1;exact .one (.lst h1') rfl
 | rp h1 h2 h3 h4 h5 => exact .one (.rp h1 h2 h3 h4 h5) rfl
 | own0 h1 => exact .one (.own0 h1) rfl
 | own h1 h2 h3 => exact .one (.own h1 h2 h3) rfl
 | ptr h1 => exact .one (.ptr h1) rfl
 | agg h1 h2 h3 => exact ⟨by simpa [cellsA, Value.cells] using h1, by simpa [Value.cells] using h2, by simpa [cellsA, Value.cells] using h3⟩
 | tup h1 h2 => simp [cellsA] at hp
 | fn h1 h2 => exact .one (.fn h1 h2) rfl
 | err => exact .one .err rfl
theorem zero_sound {z : Value} (hz : okConst z = true) : CR B ρ ok w (zeroA z) z.cells.toList := by
 unfold okConst at hz;split at hz
 ·rename_i cs;have ha := List.all_eq_true.1 hz;refine ⟨by simp [zeroA, Value.cells], fun u hu => (leafOf_sound (B := B) (ρ := ρ) (ok := ok) (w := w) (ha u hu)).2, fun j c u hc hu => ?_⟩;have hu' : cs.toList[j]? = some u := hu;simp only [zeroA, List.getElem?_map, hu'] at hc;cases hc;exact (leafOf_sound (ha u (List.mem_of_getElem? hu'))).1
 ·rename_i hn;obtain ⟨h1, h2⟩ := leafOf_sound (B := B) (ρ := ρ) (ok := ok) (w := w) hz
  have e1 : zeroA z = [leafOf z] := by
   unfold zeroA;split
   ·rename_i cs; exact absurd rfl (hn cs)
   ·rfl
  have e2 : z.cells = #[z] := by
   unfold Value.cells;split
   ·rename_i cs; exact absurd rfl (hn cs)
   ·rfl
  rw [e1, e2];exact .one h1 h2
theorem fold_put (l : List Value) : ∀ (k off : Nat) (cs : Array Value), off + k + l.length <= cs.size ->
  ((l.zipIdx k).foldl (fun cs (p : Value × Nat) => cs.setIfInBounds (off + p.2) p.1) cs).toList = cs.toList.take (off + k) ++ l ++ cs.toList.drop (off + k + l.length) := by
 induction l with
 | nil => intro k off cs _; simp
 | cons v l ih =>
  intro k off cs hle;simp only [List.zipIdx_cons, List.foldl_cons];rw [ih (k + 1) off _ (by simp at hle ⊢; omega)];have := list_seg_step cs.toList (off + k) v l (by simp at hle ⊢; omega);simpa [Array.toList_setIfInBounds, Nat.add_assoc] using this
theorem fill_sound {place : Nat -> Option (Nat × Nat)} : ∀ (parts : List (Nat × AV)) (pv : List (Nat × Value)) (cl : List AV) (cs : Array Value) (out : List AV),
  parts.length = pv.length -> (∀ (j : Nat) (p : Nat × AV) (q : Nat × Value), parts[j]? = some p -> pv[j]? = some q -> p.1 = q.1 /\ V B ρ ok w p.2 q.2) -> CR B ρ ok w cl cs.toList ->
  buildA cl place parts = some out -> ∃ cs' : Array Value, Instr.fill place cs pv = some cs' /\ CR B ρ ok w out cs'.toList
 | [], [], cl, cs, out, _, _, hc, he => by simp [buildA] at he; subst he; exact ⟨cs, rfl, hc⟩
 | (i, x) :: parts, (i', u) :: pv, cl, cs, out, hl, hp, hc, he => by
  obtain ⟨e1, e2⟩ := hp 0 (i, x) (i', u) rfl rfl;simp only at e1 e2;subst e1;simp only [buildA] at he;split at he
  ·cases he
  ·rename_i off sz hpl;split at he
   ·rename_i hcond;obtain ⟨c1, c2, c3⟩ := hcond;have hcr := cells_sound e2 (by omega);have hus : u.cells.size = sz := by have := hcr.1; rw [c1] at this; simpa using this.symm
    have hcl : cs.size = cl.length := by have := hc.1; simpa using this.symm
    have hf := fold_put u.cells.toList 0 off cs (by simp [hus, hcl]; omega);simp only [Nat.add_zero] at hf
    have hz : (u.cells.zipIdx.foldl (fun cs (c, j) => cs.setIfInBounds (off + j) c) cs).toList = cs.toList.take off ++ u.cells.toList ++ cs.toList.drop (off + u.cells.toList.length) := by
     rw [<- hf, <- Array.foldl_toList];simp
    have hcr2 : CR B ρ ok w (putCells cl off (cellsA x)) (u.cells.zipIdx.foldl (fun cs (c, j) => cs.setIfInBounds (off + j) c) cs).toList := by
     rw [hz, putCells, hcr.1];exact ((hc.take off).append hcr).append (hc.drop _)
    obtain ⟨cs', g1, g2⟩ := fill_sound parts pv _ _ out (by simpa using hl) (fun j p q h1 h2 => hp (j + 1) p q (by simpa using h1) (by simpa using h2)) hcr2 he;refine ⟨cs', ?_, g2⟩;simp only [Instr.fill, hpl];rw [if_neg]
    ·exact g1
    ·simp [hus, hcl]; omega
   ·cases he
 | [], _ :: _, _, _, _, hl, _, _, _ => by simp at hl
 | _ :: _, [], _, _, _, hl, _, _, _ => by simp at hl
def TypesOk (P : Program) : Prop := ∀ t ti, tiOf P t = some ti -> ∀ i z, P.info? t = some i -> i.zero = some z -> okConst z = true /\ z.cells.size = i.size
theorem typesOk (P : Program) : TypesOk P := by
 intro t ti h i z h1 h2;unfold tiOf at h;rw [h1] at h;split at h
 ·rename_i i' d e1 e2;cases e1;rw [h2] at h;simp only at h;split at h
  ·rename_i hc;simpa using hc
  ·cases h
 ·cases h
theorem parts_sound {t : Nat -> AV} {a : Act} (hev : ∀ x, okOpd x = true -> V B ρ ok w (evA t x) (a.eval x)) (parts : Array (Nat × Operand)) (hok : ∀ p, p ∈ parts.toList -> okOpd p.2 = true) :
  (parts.toList.map fun p => (p.1, evA t p.2)).length = ((parts.map fun (i, x) => (i, a.eval x)).toList).length /\
  ∀ (j : Nat) (p : Nat × AV) (q : Nat × Value), (parts.toList.map fun p => (p.1, evA t p.2))[j]? = some p -> ((parts.map fun (i, x) => (i, a.eval x)).toList)[j]? = some q -> p.1 = q.1 /\ V B ρ ok w p.2 q.2 := by
 refine ⟨by simp, fun j p q hp hq => ?_⟩;rw [List.getElem?_map] at hp;simp only [Array.toList_map, List.getElem?_map] at hq;cases hj : parts.toList[j]? with
 | none => rw [hj] at hp; cases hp
 | some x =>
  rw [hj] at hp hq;cases hp; cases hq
  exact ⟨rfl, hev _ (hok x (List.mem_of_getElem? hj))⟩
theorem build_sound (T : TypesOk P) {t : TypeId} {r : AV} {parts : List (Nat × AV)} {pv : Array (Nat × Value)} (hl : parts.length = pv.toList.length)
  (hp : ∀ (j : Nat) (p : Nat × AV) (q : Nat × Value), parts[j]? = some p -> pv.toList[j]? = some q -> p.1 = q.1 /\ V B ρ ok w p.2 q.2)
  (he : ((tiOf P t).bind fun ti => match tkOf P t with
   | .struct fs => (buildA ti.zero (fun i => fs[i]?) parts).map .agg
   | .array _ e => (tiOf P e).bind fun te => (buildA ti.zero (fun i => some (i * te.size, te.size)) parts).map .agg
   | _ => none) = some r) : ∃ z, (Instr.build t pv).run P w = .ok z w /\ V B ρ ok w r z := by
 cases hti : tiOf P t with
 | none => rw [hti] at he; cases he
 | some ti =>
  obtain ⟨i, d, z, h1, h2, h3, h4, h5, h6, h7⟩ := ti_info hti;have hz0 := T t ti hti i z h1 h3;have hz : CR B ρ ok w ti.zero z.cells.toList := by rw [h6]; exact zero_sound hz0.1
  rw [hti] at he;simp only [Option.bind_some] at he
  have fin : ∀ place out, buildA ti.zero place parts = some out -> ∃ cs' : Array Value, Instr.fill place z.cells pv.toList = some cs' /\ V B ρ ok w (.agg out) (.agg cs') := by
   intro place out ho;obtain ⟨cs', g1, g2⟩ := fill_sound parts pv.toList ti.zero z.cells out hl hp hz ho;refine ⟨cs', g1, ?_⟩;have := V.agg (B := B) (ρ := ρ) (ok := ok) (w := w) g2.1 g2.2.1 g2.2.2;simpa using this
  split at he
  ·rename_i fs htk;obtain ⟨fields, hu, hm⟩ := tk_struct htk;cases hb : buildA ti.zero (fun i => fs[i]?) parts with
   | none => rw [hb] at he; cases he
   | some out =>
    rw [hb] at he;cases he;obtain ⟨cs', g1, g2⟩ := fin _ _ hb;refine ⟨.agg cs', run_build w t pv cs' ?_, g2⟩;have g1' : Instr.fill (fs.toArray[·]?) z.cells pv.toList = some cs' := by simpa using g1
    simp only [Program.built, h1, hu, h3, hm];exact g1'
  ·rename_i k e htk;have hu := tk_array htk;cases hte : tiOf P e with
   | none => rw [hte] at he; cases he
   | some te =>
    rw [hte] at he;simp only [Option.bind_some] at he;obtain ⟨ie, de, ze, k1, k2, k3, k4, k5, k6, k7⟩ := ti_info hte;cases hb : buildA ti.zero (fun i => some (i * te.size, te.size)) parts with
    | none => rw [hb] at he; cases he
    | some out =>
     rw [hb] at he;cases he;obtain ⟨cs', g1, g2⟩ := fin _ _ hb;refine ⟨.agg cs', run_build w t pv cs' ?_, g2⟩;simp only [Program.built, h1, hu, h3, k1];rw [k4] at g1;exact g1
  ·cases he
end
end Go.Proofs.YtadmfokicjjglaaGreatDoor.E
namespace Go.Proofs.YtadmfokicjjglaaGreatDoor.E
open Go.RowKit
section
variable {P : Program} {B : Nat} {W0 : World} {ρ : Nat -> Option Place} {ok : Nat -> Prop} {w : World} {nt : Nat} {st : St} {a : Act}
def opOk (op : Op) : Bool := op.operands.toList.all okOpd
theorem opd {op : Op} (h : opOk op = true) {x : Operand} (hx : x ∈ op.operands) : okOpd x = true := List.all_eq_true.1 h x (by simpa using hx)
theorem val_sound (T : TypesOk P) (R : Rl B W0 ρ ok nt st a w) {o : Oper} (hok : opOk o.op = true) (hcn : convNew P o.op = false) {r : AV} (he : valA P st.t st.h o.op = some r) :
  ∃ z, (execOp a.eval o).run P w = .ok (.value z) w /\ V B ρ ok w r z := by
 have ev : ∀ x, okOpd x = true -> V B ρ ok w (evA st.t x) (a.eval x) := fun x hx => ev_sound R hx
 generalize ho : o.op = op at *;unfold execOp;simp only [ho];unfold valA at he;split at he
 ·-- move
  cases he;exact ⟨_, rfl, ev _ (opd hok (by simp [Op.operands]))⟩
 ·cases he;exact ⟨_, rfl, ev _ (opd hok (by simp [Op.operands]))⟩
 ·-- pick
  rename_i c x y;have hc := ev c (opd hok (by simp [Op.operands]));split at he
  ·rename_i b hb;rw [hb] at hc;have hcv := V_at hc;cases he;refine ⟨if b then a.eval x else a.eval y, by simp [hcv, asBool], ?_⟩;cases b
   ·exact ev y (opd hok (by simp [Op.operands]))
   ·exact ev x (opd hok (by simp [Op.operands]))
  ·cases he
 ·-- load
  rename_i ty x;obtain ⟨z, h1, h2⟩ := load_sound R.heap (ev x (opd hok (by simp [Op.operands]))) he;exact ⟨z, by simp [h1], h2⟩
 ·-- nilCheck
  rename_i x;have hx := ev x (opd hok (by simp [Op.operands]));dsimp only;generalize a.eval x = u at *;split at he
  ·rename_i i s r0 o0 hq;cases he;rw [hq] at hx;cases hx with
   | ptr hp => exact ⟨_, rfl, .ptr hp⟩
  ·rename_i c hq;cases he;rw [hq] at hx;obtain ⟨b, off, hv, -, -⟩ := cellsAt_rp hx;subst hv;exact ⟨_, rfl, hx⟩
  ·cases he
 ·-- is it nil
  rename_i ty x yt;have hx := ev x (opd hok (by simp [Op.operands]));split at he
  ·rename_i el htk;cases hn : nilTest (evA st.t x) with
   | none => rw [hn] at he; cases he
   | some b =>
    rw [hn] at he;cases he;have hu := tk_slice htk
    have key : ∀ (ad : Option Addr) (k c : Nat), (ad.isNone = b) -> (Op.equal ty (.slice ad k c) (.slice none 0 0)).run P w = .ok b w := by
     intro ad k c hb
     have : ∀ d, (Op.equalIn (d + 1) ty (.slice ad k c) (.slice none 0 0)).run P w = .ok b w := by
      intro d;cases ad <;> simp at hb <;> subst hb <;> simp [Op.equalIn, run_underlying hu]
     exact this 9999
    have shape : ∃ ad k c, a.eval x = .slice ad k c /\ ad.isNone = b := by
     generalize a.eval x = u at hx;unfold nilTest at hn;split at hn
     ·rename_i hq; rw [hq] at hx; cases hn; cases hx; exact ⟨_, _, _, rfl, rfl⟩
     ·rename_i hq; rw [hq] at hx; cases hn; cases hx; exact ⟨_, _, _, rfl, rfl⟩
     ·rename_i hq; rw [hq] at hx; cases hn
      cases hx with
      | lst hp =>
       cases hp with
       | lst g1 g2 g3 g4 g5 g6 g7 g8 =>
        rename_i ad cap us;refine ⟨ad, _, cap, rfl, ?_⟩;cases ad with
        | none => have := (g4 rfl).1; cases this
        | some ad => rfl
     ·rename_i hq; rw [hq] at hx; cases hn
      cases hx with
      | own hp g1 g2 => exact ⟨_, _, _, rfl, rfl⟩
     ·cases hn
    obtain ⟨ad, k, c, hs, hb⟩ := shape;refine ⟨.bool b, ?_, .at rfl⟩;have hcv : a.eval (.const (.slice none 0 0)) = .slice none 0 0 := rfl;simp [hs, hcv, eqGuard, binOp, key ad k c hb]
  ·cases he
 ·-- is an error nil
  rename_i ty x yt;have hx := ev x (opd hok (by simp [Op.operands]));split at he
  ·rename_i htk;obtain ⟨ms, hu⟩ := tk_iface htk;cases hn : errTest (evA st.t x) with
   | none => rw [hn] at he; cases he
   | some b =>
    rw [hn] at he;cases he;have hcv : a.eval (.const .nilIface) = .nilIface := rfl;unfold errTest at hn;split at hn
    ·rename_i hq;rw [hq] at hx;cases hn
     obtain ⟨tt, vv, hv⟩ : ∃ tt vv, a.eval x = .iface tt vv := by
      generalize a.eval x = u at hx;cases hx;exact ⟨_, _, rfl⟩
     have : (Op.equal ty (.iface tt vv) .nilIface).run P w = .ok false w := by
      have : ∀ d, (Op.equalIn (d + 1) ty (.iface tt vv) .nilIface).run P w = .ok false w := fun d => by simp [Op.equalIn, run_underlying hu]
      exact this 9999
     exact ⟨.bool false, by simp [hv, hcv, eqGuard, binOp, this], .at rfl⟩
    ·rename_i hq;rw [hq] at hx;cases hn;have hv := V_at hx
     have : (Op.equal ty .nilIface .nilIface).run P w = .ok true w := by
      have : ∀ d, (Op.equalIn (d + 1) ty .nilIface .nilIface).run P w = .ok true w := fun d => by simp [Op.equalIn, run_underlying hu]
      exact this 9999
     exact ⟨.bool true, by simp [hv, hcv, eqGuard, binOp, this], .at rfl⟩
    ·cases hn
  ·cases he
 ·-- is an error not nil
  rename_i ty x yt;have hx := ev x (opd hok (by simp [Op.operands]));split at he
  ·rename_i htk;obtain ⟨ms, hu⟩ := tk_iface htk;cases hn : errTest (evA st.t x) with
   | none => rw [hn] at he; cases he
   | some b =>
    rw [hn] at he;cases he;have hcv : a.eval (.const .nilIface) = .nilIface := rfl;unfold errTest at hn;split at hn
    ·rename_i hq;rw [hq] at hx;cases hn
     obtain ⟨tt, vv, hv⟩ : ∃ tt vv, a.eval x = .iface tt vv := by
      generalize a.eval x = u at hx;cases hx;exact ⟨_, _, rfl⟩
     have : (Op.equal ty (.iface tt vv) .nilIface).run P w = .ok false w := by
      have : ∀ d, (Op.equalIn (d + 1) ty (.iface tt vv) .nilIface).run P w = .ok false w := fun d => by simp [Op.equalIn, run_underlying hu]
      exact this 9999
     exact ⟨.bool true, by simp [hv, hcv, eqGuard, binOp, this], .at rfl⟩
    ·rename_i hq;rw [hq] at hx;cases hn;have hv := V_at hx
     have : (Op.equal ty .nilIface .nilIface).run P w = .ok true w := by
      have : ∀ d, (Op.equalIn (d + 1) ty .nilIface .nilIface).run P w = .ok true w := fun d => by simp [Op.equalIn, run_underlying hu]
      exact this 9999
     exact ⟨.bool false, by simp [hv, hcv, eqGuard, binOp, this], .at rfl⟩
    ·cases hn
  ·cases he
 ·-- binOp
  rename_i op ty x y yt _ _ _;obtain ⟨z, h1, h2⟩ := bin_sound (P := P) (xo := x) (yo := y) (ev x (opd hok (by simp [Op.operands]))) (ev y (opd hok (by simp [Op.operands]))) he;exact ⟨z, by dsimp only; rw [Sem.run_bind, h1]; rfl, h2⟩
 ·-- unOp
  rename_i op ty x;obtain ⟨z, h1, h2⟩ := un_sound (P := P) (ev x (opd hok (by simp [Op.operands]))) he;exact ⟨z, by simp [h1], h2⟩
 ·-- extract
  rename_i x k;have hx := ev x (opd hok (by simp [Op.operands]));split at he
  ·rename_i l hq;rw [hq] at hx;obtain ⟨z, h1, h2⟩ := extract_sound (P := P) hx he;exact ⟨z, by simp [h1], h2⟩
  ·cases he
 ·-- fieldAddr
  rename_i ty x f;obtain ⟨z, h1, h2⟩ := fieldAddr_sound (P := P) (ev x (opd hok (by simp [Op.operands]))) he;exact ⟨z, by simp [h1], h2⟩
 ·-- indexAddr
  rename_i ty x i;obtain ⟨z, h1, h2⟩ := indexAddr_sound R.heap (ev x (opd hok (by simp [Op.operands]))) (ev i (opd hok (by simp [Op.operands]))) he;exact ⟨z, by simp [h1], h2⟩
 ·-- index
  rename_i ty x i;obtain ⟨z, h1, h2⟩ := index_sound (P := P) (ev x (opd hok (by simp [Op.operands]))) (ev i (opd hok (by simp [Op.operands]))) he;exact ⟨z, by simp [h1], h2⟩
 ·-- slice
  rename_i ty x lo hi mx;split at he
  ·rename_i e htk;cases hti : tiOf P e with
   | none => rw [hti] at he; cases he
   | some ti =>
    rw [hti] at he;simp only [Option.bind_some] at he
    have one : ∀ (y : Option Operand), (∀ q, y = some q -> okOpd q = true) -> (∀ x, y.map (evA st.t) = some x -> ∃ v, y.map a.eval = some v /\ V B ρ ok w x v) := by
     intro y hy x hx;cases y with
     | none => cases hx
     | some q => cases hx; exact ⟨_, rfl, ev q (hy q rfl)⟩
    have two : ∀ (y : Option Operand), y.map (evA st.t) = none -> y.map a.eval = none := by
     intro y hy; cases y with
     | none => rfl
     | some q => cases hy
    obtain ⟨z, h1, h2⟩ := slice_sound R.heap htk hti (ev x (opd hok (by simp [Op.operands])))
     (one lo (fun q e => opd hok (by subst e; simp [Op.operands]))) (two lo)
     (one hi (fun q e => opd hok (by subst e; simp [Op.operands]))) (two hi)
     (one mx (fun q e => opd hok (by subst e; simp [Op.operands]))) (two mx) he
    exact ⟨z, by simp [h1], h2⟩
  ·rename_i htk
   have one : ∀ (y : Option Operand), (∀ q, y = some q -> okOpd q = true) -> (∀ x, y.map (evA st.t) = some x -> ∃ v, y.map a.eval = some v /\ V B ρ ok w x v) := by
    intro y hy x hx;cases y with
    | none => cases hx
    | some q => cases hx; exact ⟨_, rfl, ev q (hy q rfl)⟩
   have two : ∀ (y : Option Operand), y.map (evA st.t) = none -> y.map a.eval = none := by
    intro y hy; cases y with
    | none => rfl
    | some q => cases hy
   obtain ⟨z, h1, h2⟩ := sliceS_sound htk (ev x (opd hok (by simp [Op.operands])))
    (one lo (fun q e => opd hok (by subst e; simp [Op.operands]))) (two lo)
    (one hi (fun q e => opd hok (by subst e; simp [Op.operands]))) (two hi) (two mx) he
   exact ⟨z, by simp [h1], h2⟩
  ·cases he
 ·-- convert
  rename_i src dst x;obtain ⟨z, h1, h2⟩ := conv_sound (xo := x) hcn (ev x (opd hok (by simp [Op.operands]))) he;exact ⟨z, by simp [h1], h2⟩
 ·-- build
  rename_i ty parts
  obtain ⟨p1, p2⟩ := parts_sound ev parts (fun p hp => opd hok (by
   simp only [Op.operands];simp only [List.mem_toArray, List.mem_map]
   exact ⟨p, hp, rfl⟩))
  obtain ⟨z, h1, h2⟩ := build_sound (P := P) T p1 p2 he;exact ⟨z, by simp [h1], h2⟩
 ·-- makeFunc
  rename_i f first caps;split at he
  ·rename_i hf;cases he;have hfe : first = #[] := by simpa using hf
   subst hfe;refine ⟨.func (.func f) #[] (caps.map a.eval), by simp [Instr.makeFunc], ?_⟩
   have : V B ρ ok w (.fn f (caps.toList.map (evA st.t))) (.func (.func f) #[] ((caps.map a.eval).toList).toArray) := .fn (by simp) (fun j c u hc hu => by
    simp only [Array.toList_map, List.getElem?_map] at hc hu;cases hj : caps.toList[j]? with
    | none => rw [hj] at hc; cases hc
    | some q =>
     rw [hj] at hc hu;cases hc; cases hu
     exact ev q (opd hok (by have := List.mem_of_getElem? hj; simp [Op.operands]; simpa using this)))
   rw [Array.toArray_toList] at this;exact this
  ·cases he
 ·-- len
  rename_i args tys;split at he
  ·rename_i x ty hx hty;cases hl : lenA (tkOf P ty) (evA st.t x) with
   | none => rw [hl] at he; cases he
   | some m =>
    rw [hl] at he;cases he;have ha : args = #[x] := by rw [<- Array.toArray_toList (xs := args), hx]
    have ht : tys = #[ty] := by rw [<- Array.toArray_toList (xs := tys), hty]
    subst ha; subst ht
    obtain ⟨z, h1, h2⟩ := len_sound (P := P) (ty := o.type) (ev x (opd hok (by simp [Op.operands, Call.operands]))) hl;exact ⟨z, by simp [resolve, invoke, builtin, h1], h2⟩
  ·cases he
 ·-- min
  rename_i args tys;split at he
  ·rename_i x y hxy;have ha : args = #[x, y] := by rw [<- Array.toArray_toList (xs := args), hxy]
   subst ha;have v1 := ev x (opd hok (by simp [Op.operands, Call.operands]));have v2 := ev y (opd hok (by simp [Op.operands, Call.operands]));unfold minA at he;split at he
   ·rename_i k p k' q e1 e2;split at he
    ·rename_i hk;subst hk;cases he;rw [e1] at v1;rw [e2] at v2;have u1 := V_at v1;have u2 := V_at v2;refine ⟨.int k (if q < p then q else p), ?_, .at rfl⟩;simp [resolve, invoke, builtin, Builtin.min_, u1, u2, Builtin.min2]
    ·cases he
   ·cases he
  ·cases he
 ·cases he
end
end Go.Proofs.YtadmfokicjjglaaGreatDoor.E
namespace Go.Proofs.YtadmfokicjjglaaGreatDoor.E
open Go.RowKit
section
variable {P : Program} {B : Nat} {W0 : World} {ρ : Nat -> Option Place} {ok : Nat -> Prop} {w : World} {h : Heap} {n : Nat}
theorem CR.mono {ρ' : Nat -> Option Place} {ok' : Nat -> Prop} {w' : World} {cl : List AV} {vs : List Value} (c : CR B ρ ok w cl vs) (hρ : ∀ i, ρ i ≠ none -> ρ' i = ρ i) (hF : ∀ b, ok b -> ok' b /\ w'.heap[b]? = w.heap[b]?) : CR B ρ' ok' w' cl vs :=
 ⟨c.1, c.2.1, fun j x u hc hu => (c.2.2 j x u hc hu).mono hρ hF⟩
theorem upd_same {α : Type} (f : Nat -> α) (k : Nat) (v : α) : upd f k v k = v := by simp [upd]
theorem upd_ne {α : Type} (f : Nat -> α) {k x : Nat} (v : α) (h : x ≠ k) : upd f k v x = f x := by simp [upd, h]
theorem lt_some {w : World} {b : Nat} {o : Obj} (h : w.heap[b]? = some o) : b < w.heap.size := by
 rcases Nat.lt_or_ge b w.heap.size with g | g
 ·exact g
 ·simp [Array.getElem?_eq_none g] at h
theorem HRel.row_mono (H : HRel B W0 ρ ok h n w) {ρ' : Nat -> Option Place} {ok' : Nat -> Prop} {w' : World} (hρ : ∀ i, ρ i ≠ none -> ρ' i = ρ i) (hF : ∀ b, ok b -> ok' b /\ w'.heap[b]? = w.heap[b]?) {i : Nat} {e : HE} (he : h i = some e)
  (hb : ∀ b cap s, ρ i = some (some (b, cap, s)) -> w'.heap[b]? = w.heap[b]? /\ ¬ ok' b) :
  (ρ' i = some none /\ e.rows = []) \/ ∃ b cap cur, ρ' i = some (some (b, cap, e.s)) /\ B <= b /\ ¬ ok' b /\ w'.heap[b]? = some (.cells cur e.ty (0, 0)) /\ cur.size = cap * e.s /\ e.rows.length <= cap /\ cap <= maxLen /\ 0 < e.s /\
   (∀ r, r ∈ e.rows -> r.length = e.s) /\ CR B ρ' ok' w' e.rows.flatten (cur.toList.take (e.rows.length * e.s)) := by
 rcases H.row i e he with ⟨h1, h2⟩ | ⟨b, cap, cur, h1, h2, h3, h4, h5, h6, h7, h8, h9, hcr⟩
 ·exact Or.inl ⟨(hρ i (by rw [h1]; simp)).trans h1, h2⟩
 ·obtain ⟨g1, g2⟩ := hb b cap e.s h1;exact Or.inr ⟨b, cap, cur, (hρ i (by rw [h1]; simp)).trans h1, h2, g2, by rw [g1]; exact h4, h5, h6, h7, h8, h9, hcr.mono hρ hF⟩
theorem alloc_row (H : HRel B W0 ρ ok h n w) {id : Nat} (hid : id < n) (hfree : ρ id = none) {e : HE} {cs : Array Value} (hs : 0 < e.s) (hr : ∀ r, r ∈ e.rows -> r.length = e.s) (hlen : e.rows.length <= maxLen)
  (hcr : CR B ρ ok w e.rows.flatten cs.toList) (hnone : h id = none \/ True) :
  HRel B W0 (upd ρ id (some (some (w.heap.size, e.rows.length, e.s)))) ok (upd h id (some e)) n (w.alloc (.cells cs e.ty)) /\
  Ext (fun i => i = id) ρ (upd ρ id (some (some (w.heap.size, e.rows.length, e.s)))) ok ok w (w.alloc (.cells cs e.ty)) := by
 have hbase : B <= w.heap.size := Nat.le_trans H.base.le H.below.size;have hold : ∀ b, b < w.heap.size -> (w.alloc (.cells cs e.ty)).heap[b]? = w.heap[b]? := fun b hb => Below.heap_alloc w _ b hb
 have hρ : ∀ i, ρ i ≠ none -> upd ρ id (some (some (w.heap.size, e.rows.length, e.s))) i = ρ i := fun i hi => upd_ne _ _ (by intro e; subst e; exact hi hfree)
 have hF : ∀ b, ok b -> ok b /\ (w.alloc (.cells cs e.ty)).heap[b]? = w.heap[b]? := fun b hb => ⟨hb, hold b (H.okb b hb)⟩
 refine ⟨⟨H.below.alloc hbase _, H.base, fun b hb => ?_, fun i hi => ?_, fun i en hi => ?_, ?_⟩, ⟨fun i hi => upd_ne _ _ hi, hρ, hF, fun b hb => Or.inl hb, by simp⟩⟩
 ·simp only [World.alloc, Array.size_push]; exact Nat.lt_succ_of_lt (H.okb b hb)
 ·rw [upd_ne _ _ (by omega)]; exact H.fresh i hi
 ·by_cases hc : i = id
  ·subst hc;rw [upd_same] at hi;cases hi;refine Or.inr ⟨w.heap.size, e.rows.length, cs, upd_same _ _ _, hbase, fun hk => Nat.lt_irrefl _ (H.okb _ hk), heap_alloc_new w _, ?_, Nat.le_refl _, hlen, hs, hr, ?_⟩
   ·have := hcr.1;rw [flatten_length hr] at this;simpa using this.symm
   ·have : cs.toList.take (e.rows.length * e.s) = cs.toList := List.take_of_length_le (by have := hcr.1; rw [flatten_length hr] at this; omega);rw [this];exact hcr.mono hρ hF
  ·rw [upd_ne _ _ hc] at hi;refine H.row_mono hρ hF hi fun b cap s hb => ?_
   rcases H.row i en hi with ⟨q, _⟩ | ⟨b', cap', cur, q1, q2, q3, q4, _⟩
   ·rw [hb] at q; cases q
   ·rw [hb] at q1;simp only [Option.some.injEq, Prod.mk.injEq] at q1;obtain ⟨rfl, rfl, rfl⟩ := q1;exact ⟨hold _ (lt_some q4), q3⟩
 ·intro i j ei ej b c s c' s' hi hj hbi hbj
  have old : ∀ k ek c s, k ≠ id -> upd h id (some e) k = some ek -> upd ρ id (some (some (w.heap.size, e.rows.length, e.s))) k = some (some (b, c, s)) -> h k = some ek /\ ρ k = some (some (b, c, s)) /\ b < w.heap.size := by
   intro k ek c s hk he hb;rw [upd_ne _ _ hk] at he hb;refine ⟨he, hb, ?_⟩;rcases H.row k ek he with ⟨q, _⟩ | ⟨b', cap', cur, q1, q2, q3, q4, _⟩
   ·rw [hb] at q; cases q
   ·rw [hb] at q1;simp only [Option.some.injEq, Prod.mk.injEq] at q1;obtain ⟨rfl, rfl, rfl⟩ := q1;exact lt_some q4
  by_cases h1 : i = id <;> by_cases h2 : j = id
  ·rw [h1, h2]
  ·obtain ⟨_, _, q⟩ := old j ej c' s' h2 hj hbj;subst h1;rw [upd_same] at hbi;simp only [Option.some.injEq, Prod.mk.injEq] at hbi;omega
  ·obtain ⟨_, _, q⟩ := old i ei c s h1 hi hbi;subst h2;rw [upd_same] at hbj;simp only [Option.some.injEq, Prod.mk.injEq] at hbj;omega
  ·obtain ⟨a1, a2, _⟩ := old i ei c s h1 hi hbi;obtain ⟨b1, b2, _⟩ := old j ej c' s' h2 hj hbj;exact H.inj i j ei ej b c s c' s' a1 b1 a2 b2
theorem chunk_length (s : Nat) : ∀ (n : Nat) (l : List AV), (chunk s n l).length = n
 | 0, _ => rfl
 | n + 1, l => by simp [chunk, chunk_length s n]
theorem chunk_rows (s : Nat) : ∀ (n : Nat) (l : List AV), l.length = n * s -> ∀ r, r ∈ chunk s n l -> r.length = s
 | 0, _, _, r, hr => by simp [chunk] at hr
 | n + 1, l, hl, r, hr => by
  rw [Nat.succ_mul] at hl;simp only [chunk, List.mem_cons] at hr;rcases hr with rfl | hr
  ·simp; omega
  ·exact chunk_rows s n (l.drop s) (by simp; omega) r hr
theorem chunk_flatten (s : Nat) : ∀ (n : Nat) (l : List AV), l.length = n * s -> (chunk s n l).flatten = l
 | 0, l, hl => by simp at hl; subst hl; rfl
 | n + 1, l, hl => by
  rw [Nat.succ_mul] at hl;simp only [chunk, List.flatten_cons];rw [chunk_flatten s n (l.drop s) (by simp; omega), List.take_append_drop]
theorem CR.replicate {zl : List AV} {zv : List Value} (c : CR B ρ ok w zl zv) : ∀ n, CR B ρ ok w (List.replicate n zl).flatten (List.replicate n zv).flatten
 | 0 => ⟨rfl, by simp, by simp⟩
 | n + 1 => by
  simp only [List.replicate_succ, List.flatten_cons];exact c.append (CR.replicate c n)
theorem zeros_eq (z : Array Value) (s n : Nat) (hs : z.size = s) (h0 : 0 < s) : ((Array.range (n * s)).map (z[· % z.size]!)).toList = (List.replicate n z.toList).flatten := by
 have hu : ∀ r, r ∈ List.replicate n z.toList -> r.length = s := by
  intro r hr; rw [List.eq_of_mem_replicate hr]; simpa using hs
 apply List.ext_getElem?;intro j;by_cases hj : j < n * s
 ·have hk : j / s < n := by rw [Nat.div_lt_iff_lt_mul h0]; exact hj
  have hm := Nat.mod_lt j h0;have e := flatten_get (rows := List.replicate n z.toList) (k := j / s) (row := z.toList) hu (by simp [hk]) hm;have hdm : j / s * s + j % s = j := by rw [Nat.mul_comm]; exact Nat.div_add_mod j s
  rw [hdm] at e;rw [e];simp [hj, hs];have hmz : j % s < z.size := by omega
  simp [hmz]
 ·rw [List.getElem?_eq_none (by simp; omega), List.getElem?_eq_none (by rw [flatten_length hu]; simp; omega)]
theorem buildA_length {place : Nat -> Option (Nat × Nat)} : ∀ {parts : List (Nat × AV)} {cl out : List AV}, buildA cl place parts = some out -> out.length = cl.length
 | [], cl, out, he => by simp [buildA] at he; rw [he]
 | (i, x) :: parts, cl, out, he => by
  simp only [buildA] at he;split at he
  ·cases he
  ·split at he
   ·rename_i hc;rw [buildA_length he];simp only [putCells, List.length_append, List.length_take, List.length_drop];omega
   ·cases he
theorem new_sound (T : TypesOk P) {nt : Nat} {st : St} {a : Act} (R : Rl B W0 ρ ok nt st a w) {o : Oper} (hok : opOk o.op = true) {id : Nat} (hid : id < st.n) (hfree : ρ id = none) {e : HE} {v : AV} (he : newA P st.t id o.op = some (e, v)) :
  ∃ z w' ρ', (execOp a.eval o).run P w = .ok (.value z) w' /\ HRel B W0 ρ' ok (upd st.h id (some e)) st.n w' /\ V B ρ' ok w' v z /\ Ext (fun i => i = id) ρ ρ' ok ok w w' := by
 have ev : ∀ x, okOpd x = true -> V B ρ ok w (evA st.t x) (a.eval x) := fun x hx => ev_sound R hx
 generalize ho : o.op = op at *;unfold execOp;simp only [ho]
 have zc : ∀ {t ti}, tiOf P t = some ti -> ∃ z, (zeroValue t).run P w = .ok z w /\ CR B ρ ok w ti.zero z.cells.toList /\ z.cells.size = ti.size /\ (∃ i, P.info? t = some i /\ i.zero = some z /\ i.size = ti.size /\ i.bytes = ti.bytes) := by
  intro t ti hti;obtain ⟨i, d, z, h1, h2, h3, h4, h5, h6, h7⟩ := ti_info hti;have hz0 := T t ti hti i z h1 h3;exact ⟨z, by simp [zeroValue, typeInfo, h1, h3], by rw [h6]; exact zero_sound hz0.1, by rw [h4]; exact hz0.2, i, h1, h3, h4.symm, h5.symm⟩
 unfold newA at he;split at he
 ·-- alloc
  rename_i t;cases hti : tiOf P t with
  | none => rw [hti] at he; cases he
  | some ti =>
   rw [hti] at he;simp only [Option.bind_some] at he;split at he
   ·rename_i hc;cases he;obtain ⟨z, h1, h2, h3, -⟩ := zc hti;obtain ⟨g1, g2⟩ := alloc_row R.heap hid hfree (e := ⟨t, ti.size, [ti.zero]⟩) (cs := z.cells) hc.2 (by simpa using hc.1) (by simp [maxLen]) (by simpa using h2) (Or.inr trivial);refine ⟨_, _, _, ?_, g1, .ptr (upd_same _ _ _), g2⟩;simp [Instr.alloc, h1, newVar, newRow]
   ·cases he
 ·-- box
  rename_i t x;cases hti : tiOf P t with
  | none => rw [hti] at he; cases he
  | some ti =>
   rw [hti] at he;simp only [Option.bind_some] at he;split at he
   ·rename_i hc;cases he;have hx := ev x (opd hok (by simp [Op.operands]));have hcr := cells_sound hx (by omega);obtain ⟨g1, g2⟩ := alloc_row R.heap hid hfree (e := ⟨t, ti.size, [cellsA (evA st.t x)]⟩) (cs := (a.eval x).cells) hc.2 (by simpa using hc.1) (by simp [maxLen]) (by simpa using hcr) (Or.inr trivial);refine ⟨_, _, _, ?_, g1, .ptr (upd_same _ _ _), g2⟩;simp [Instr.box, newVar, newRow]
   ·cases he
 ·-- buildSlice
  rename_i ty m parts;split at he
  ·rename_i el htk;have hu := tk_slice htk;cases hti : tiOf P el with
   | none => rw [hti] at he; cases he
   | some ti =>
    rw [hti] at he;simp only [Option.bind_some] at he;split at he
    ·rename_i hc;obtain ⟨hc1, hc2⟩ := hc;obtain ⟨z, h1, h2, h3, -⟩ := zc hti
     obtain ⟨p1, p2⟩ := parts_sound ev parts (fun p hp => opd hok (by
      simp only [Op.operands, List.mem_toArray, List.mem_map]
      exact ⟨p, hp, rfl⟩))
     unfold buildRows at he;split at he
     ·rename_i hzl;cases hb : buildA ((List.replicate m ti.zero).flatten) (fun i => some (i * ti.size, ti.size)) (parts.toList.map fun p => (p.1, evA st.t p.2)) with
      | none => rw [hb] at he; cases he
      | some out =>
       rw [hb] at he;simp only [Option.map_some, Option.some.injEq, Prod.mk.injEq] at he;obtain ⟨rfl, rfl⟩ := he
       have hz2 : CR B ρ ok w (List.replicate m ti.zero).flatten ((Array.range (m * ti.size)).map (z.cells[· % z.cells.size]!)).toList := by
        rw [zeros_eq z.cells ti.size m h3 hc1];exact h2.replicate m
       obtain ⟨cs', f1, f2⟩ := fill_sound _ _ _ _ out p1 p2 hz2 hb
       have hol : out.length = m * ti.size := by
        rw [buildA_length hb, flatten_length (s := ti.size) (fun r hr => by rw [List.eq_of_mem_replicate hr]; exact hzl)]; simp
       have hm : m <= m * ti.size := Nat.le_mul_of_pos_right _ hc1;obtain ⟨g1, g2⟩ := alloc_row R.heap hid hfree (e := ⟨el, ti.size, chunk ti.size m out⟩) (cs := cs') hc1 (chunk_rows _ _ _ hol) (by simp only [chunk_length, maxLen]; omega) (by simpa [chunk_flatten _ _ _ hol] using f2) (Or.inr trivial);refine ⟨.slice (some ⟨w.heap.size, 0, none⟩) m m, _, _, ?_, g1, ?_, g2⟩
       ·have hne : ¬ (m * ti.size > 2 ^ 24) := by omega
        by_cases hm0 : m * ti.size = 0
        ·have hmz : m = 0 := by
          rcases Nat.eq_zero_or_pos m with h0 | h0
          ·exact h0
          ·have := Nat.mul_pos h0 hc1; omega
         subst hmz
         have hf' : Instr.fill (fun i => some (i * ti.size, ti.size)) #[] (parts.map fun (i, x) => (i, a.eval x)).toList = some cs' := by
          simpa [Array.range_zero'] using f1
         have hf2 : Instr.fill (fun i => some (i * ti.size, ti.size)) #[] (List.map (fun (p : Nat × Operand) => (p.1, a.eval p.2)) parts.toList) = some cs' := by simpa using hf'
         simp [Instr.buildSlice, run_underlying hu, run_sizeOf hti, newRow, Array.range_zero', hf2]
        ·have hf2 : Instr.fill (fun i => some (i * ti.size, ti.size)) ((Array.range (m * ti.size)).map (z.cells[· % z.cells.size]!)) (List.map (fun (p : Nat × Operand) => (p.1, a.eval p.2)) parts.toList) = some cs' := by simpa using f1
         simp [Instr.buildSlice, run_underlying hu, run_sizeOf hti, newRow, hm0, h1, hf2];omega
       ·have hp : upd ρ id (some (some (w.heap.size, (chunk ti.size m out).length, ti.size))) id = some (some (w.heap.size, m, ti.size)) := by rw [upd_same, chunk_length]
        have := V.own (B := B) (ok := ok) (w := w.alloc (.cells cs' el)) (o := 0) (n := m) hp (by omega) (by simp only [maxLen]; omega);simpa using this
     ·cases he
    ·cases he
  ·cases he
 ·-- makeSlice
  rename_i ty l c;split at he
  ·rename_i el m m' htk hl hc;have hu := tk_slice htk;cases hti : tiOf P el with
   | none => rw [hti] at he; cases he
   | some ti =>
    rw [hti] at he;simp only [Option.bind_some] at he;split at he
    ·rename_i hcc;obtain ⟨hc1, hzl, rfl, hc2, hc3⟩ := hcc;cases he;obtain ⟨z, h1, h2, h3, i, q1, q2, q3, q4⟩ := zc hti;obtain ⟨kl, hlv⟩ := V_natOf (ev l (opd hok (by simp [Op.operands]))) hl;obtain ⟨kc, hcv⟩ := V_natOf (ev c (opd hok (by simp [Op.operands]))) hc
     have hz2 : CR B ρ ok w (List.replicate m ti.zero).flatten ((Array.range (m * ti.size)).map (z.cells[· % z.cells.size]!)).toList := by
      rw [zeros_eq z.cells ti.size m h3 hc1];exact h2.replicate m
     obtain ⟨g1, g2⟩ := alloc_row R.heap hid hfree (e := ⟨el, ti.size, List.replicate m ti.zero⟩) (cs := (Array.range (m * ti.size)).map (z.cells[· % z.cells.size]!)) hc1 (fun r hr => by rw [List.eq_of_mem_replicate hr]; exact hzl) (by simp only [List.length_replicate, maxLen]; omega) hz2 (Or.inr trivial);refine ⟨.slice (some ⟨w.heap.size, 0, none⟩) m m, _, _, ?_, g1, ?_, g2⟩
     ·have hby : (i.bytes : Int) * (m : Int) <= 281474976710656 := by
       have : i.bytes * m <= 1000 * 1000000 := Nat.mul_le_mul (by omega) hc2;have e : ((i.bytes * m : Nat) : Int) = (i.bytes : Int) * (m : Int) := by simp
       omega
      have hr := run_make (P := P) w ty el i z hu q1 q2 kl kc (m : Int) (m : Int) (by omega) (Int.le_refl _) hby (by omega);simp only [Int.toNat_natCast, q3] at hr;simp [hlv, hcv, hr, madeCells]
     ·have hp : upd ρ id (some (some (w.heap.size, (List.replicate m ti.zero).length, ti.size))) id = some (some (w.heap.size, m, ti.size)) := by rw [upd_same, List.length_replicate]
      have := V.own (B := B) (ok := ok) (w := w.alloc (.cells ((Array.range (m * ti.size)).map (z.cells[· % z.cells.size]!)) el)) (o := 0) (n := m) hp (by omega) (by simp only [maxLen]; omega);simpa using this
    ·cases he
  ·cases he
 ·cases he
end
end Go.Proofs.YtadmfokicjjglaaGreatDoor.E
