/- EngB: how what is read lies in memory; what a call promises; the abstract machine on code. -/
import Derived.Test.YtdjdjnmccphbjaaEngA
import GoSem.ClaimData
namespace Go.Proofs.Ytdjdjnmccphbjaa.E
universe u
open Go.RowKit

/-- a leaf that is read: memory of F -/
inductive PV (F : Nat → Prop) (w : World) : AV → Value → Prop
  | at {v : Value} : atomic v = true → PV F w (.at v) v
  | nl {a : Option Addr} : PV F w .nl (.slice a 0 0)
  | lst {s : Nat} {rows : List (List AV)} {a : Option Addr} {cap : Nat} {us : List Value} :
      (∀ r, r ∈ rows → r.length = s) → rows.length ≤ cap → cap ≤ maxLen → (a = none → rows = [] ∧ cap = 0) → us.length = rows.flatten.length → (∀ u, u ∈ us → u.oneCell' = true) →
      (∀ ad, a = some ad → rows ≠ [] → ad.spot = none ∧ F ad.block ∧ ∀ (j : Nat) (u : Value), us[j]? = some u → w.cell? ⟨ad.block, ad.off + j, none⟩ = some u) →
      (∀ (j : Nat) (c : AV) (u : Value), rows.flatten[j]? = some c → us[j]? = some u → PV F w c u) →
      PV F w (.lst false s rows) (.slice a rows.length cap)

/-- where a row of one's own lies: nowhere (nothing is in it), or in a block, of so much room, of elements of such a size -/
abbrev Place := Option (Nat × Nat × Nat)

/-- a value that is read: leaves of memory in ok; what is one's own lies where ρ says -/
inductive V (B : Nat) (ρ : Nat → Option Place) (ok : Nat → Prop) (w : World) : AV → Value → Prop
  | und : V B ρ ok w .und (.tuple #[])
  | nilv : V B ρ ok w .nilv (.slice none 0 0)
  | nn {ad : Addr} {cap : Nat} : cap ≤ maxLen → V B ρ ok w .nn (.slice (some ad) 0 cap)
  | at {v : Value} : atomic v = true → V B ρ ok w (.at v) v
  | nl {a : Option Addr} : V B ρ ok w .nl (.slice a 0 0)
  | lst {fr : Bool} {s : Nat} {rows : List (List AV)} {v : Value} : PV (fun b => ok b ∧ (fr = true → B ≤ b)) w (.lst false s rows) v → V B ρ ok w (.lst fr s rows) v
  | rp {cells : List AV} {b off : Nat} {us : List Value} : ok b → us.length = cells.length → (∀ u, u ∈ us → u.oneCell' = true) → (∀ (j : Nat) (u : Value), us[j]? = some u → w.cell? ⟨b, off + j, none⟩ = some u) →
      (∀ (j : Nat) (c : AV) (u : Value), cells[j]? = some c → us[j]? = some u → PV ok w c u) → V B ρ ok w (.rp cells) (.pointer (some ⟨b, off, none⟩))
  | own0 {i : Nat} {a : Option Addr} : ρ i = some none → V B ρ ok w (.own i 0 0) (.slice a 0 0)
  | own {i o n b cap s : Nat} : ρ i = some (some (b, cap, s)) → o + n ≤ cap → cap ≤ maxLen → V B ρ ok w (.own i o n) (.slice (some ⟨b, o * s, none⟩) n (cap - o))
  | ptr {i s r o b cap : Nat} : ρ i = some (some (b, cap, s)) → V B ρ ok w (.ptr i s r o) (.pointer (some ⟨b, r * s + o, none⟩))
  | agg {l : List AV} {vs : List Value} : l.length = vs.length → (∀ u, u ∈ vs → u.oneCell' = true) → (∀ (j : Nat) (c : AV) (u : Value), l[j]? = some c → vs[j]? = some u → V B ρ ok w c u) → V B ρ ok w (.agg l) (.agg vs.toArray)
  | tup {l : List AV} {vs : List Value} : l.length = vs.length → (∀ (j : Nat) (c : AV) (u : Value), l[j]? = some c → vs[j]? = some u → V B ρ ok w c u) → V B ρ ok w (.tup l) (.tuple vs.toArray)
  | fn {f : FuncId} {l : List AV} {vs : List Value} : l.length = vs.length → (∀ (j : Nat) (c : AV) (u : Value), l[j]? = some c → vs[j]? = some u → V B ρ ok w c u) → V B ρ ok w (.fn f l) (.func (.func f) #[] vs.toArray)

/-- cells, one by one -/
def CR (B : Nat) (ρ : Nat → Option Place) (ok : Nat → Prop) (w : World) (cl : List AV) (vs : List Value) : Prop :=
  cl.length = vs.length ∧ (∀ u, u ∈ vs → u.oneCell' = true) ∧ ∀ (j : Nat) (c : AV) (u : Value), cl[j]? = some c → vs[j]? = some u → V B ρ ok w c u

/-- what an abstract heap says of a world: rows of one's own lie in blocks of one's own, from B on -/
structure HRel (B : Nat) (W0 : World) (ρ : Nat → Option Place) (ok : Nat → Prop) (h : Heap) (n : Nat) (w : World) : Prop where
  below : Below B W0 w
  base : B ≤ W0.heap.size
  okb : ∀ b, ok b → b < w.heap.size
  fresh : ∀ i, n ≤ i → ρ i = none
  row : ∀ i e, h i = some e → (ρ i = some none ∧ e.rows = []) ∨
    ∃ b cap cur, ρ i = some (some (b, cap, e.s)) ∧ B ≤ b ∧ ¬ ok b ∧ w.heap[b]? = some (.cells cur e.ty (0, 0)) ∧ cur.size = cap * e.s ∧ e.rows.length ≤ cap ∧ cap ≤ maxLen ∧ 0 < e.s ∧
      (∀ r, r ∈ e.rows → r.length = e.s) ∧ CR B ρ ok w e.rows.flatten (cur.toList.take (e.rows.length * e.s))
  inj : ∀ i j e e' b c s c' s', h i = some e → h j = some e' → ρ i = some (some (b, c, s)) → ρ j = some (some (b, c', s')) → i = j

/-- the world has gone on: what was there stays; new things have new names, of U -/
structure Ext (U : Nat → Prop) (ρ ρ' : Nat → Option Place) (ok ok' : Nat → Prop) (w w' : World) : Prop where
  pl : ∀ i, ¬ U i → ρ' i = ρ i
  keep : ∀ i, ρ i ≠ none → ρ' i = ρ i
  stay : ∀ b, ok b → ok' b ∧ w'.heap[b]? = w.heap[b]?
  new : ∀ b, ok' b → ok b ∨ w.heap.size ≤ b
  size : w.heap.size ≤ w'.heap.size

/-- values, one by one -/
def VL (B : Nat) (ρ : Nat → Option Place) (ok : Nat → Prop) (w : World) (l : List AV) (vs : List Value) : Prop :=
  l.length = vs.length ∧ ∀ (j : Nat) (c : AV) (u : Value), l[j]? = some c → vs[j]? = some u → V B ρ ok w c u

def noPlace : Nat → Option Place := fun _ => none

/-- a function that can be entered -/
def Callable (P : Program) (f : FuncId) : Prop := ∀ (args : Array Value) (w : World), (callFunc f args).run P w = .ok (.enter f args) w

def heapOf (l : List HE) : Heap := fun i => l[i]?

/-- leaves that are handed on: what is one's own is shown as it is now; but not what is of 'av' -/
def leafP (h : Heap) (av : List Nat) : Nat → AV → Option AV
  | _, .at v => some (.at v)
  | _, .nl => some .nl
  | _, .lst _ s rows => some (.lst false s rows)
  | d + 1, .own i o n => if av.contains i then none else match h i with
    | some e => if o + n ≤ e.rows.length then (((e.rows.drop o).take n).mapM fun (r : List AV) => r.mapM (leafP h av d)).map (.lst false e.s ·) else none
    | none => none
  | _, _ => none

def leafV (h : Heap) : AV → Option AV
  | .fn f [] => some (.fn f [])
  | a => leafP h [] 3 a
def viewV (h : Heap) : AV → Option AV
  | .agg l => (l.mapM (leafV h)).map .agg
  | a => leafV h a

/-- nothing of one's own is in it -/
def plainLeaf : AV → Bool
  | .at _ | .nl | .lst _ _ _ => true
  | .fn _ l => l.isEmpty
  | _ => false
def plainV : AV → Bool
  | .agg l => l.all plainLeaf
  | a => plainLeaf a
/-- nothing in it lies in memory that was there -/
def newLeaf : AV → Bool
  | .und | .at _ | .nl | .own _ _ _ => true
  | .lst fr _ _ => fr
  | .fn _ l => l.isEmpty
  | _ => false
def newAgg : AV → Bool
  | .agg l => l.all newLeaf
  | a => newLeaf a
def newV : AV → Bool
  | .tup l => l.all newAgg
  | a => newAgg a
def newNews (l : List HE) : Bool := l.all fun e => e.rows.all fun r => r.all newLeaf
/-- what a result may be -/
def resLeaf : AV → Bool
  | .und | .at _ | .nl | .own _ _ _ | .lst _ _ _ => true
  | .fn _ l => l.isEmpty
  | _ => false
def resAgg : AV → Bool
  | .agg l => l.all resLeaf
  | a => resLeaf a
def resV : AV → Bool
  | .tup l => l.all resAgg
  | a => resAgg a
def plainCell : AV → Bool
  | .at _ | .nl | .lst _ _ _ => true
  | _ => false
def plainNews (l : List HE) : Bool := l.all fun e => e.rows.all fun r => r.all plainCell

/-- what a function promises of what is read: the result, and the rows in it that the caller then owns -/
def C (P : Program) (f : FuncId) (args : List AV) (r : AV) (news : List HE) : Prop :=
  Callable P f ∧ resV r = true ∧ plainNews news = true ∧ ∀ (F : Nat → Prop) (w : World) (vs : List Value), (∀ b, F b → b < w.heap.size) → VL 0 noPlace F w args vs →
    Calls P f vs.toArray w fun e w' => ∃ v ρ ok, e = .returned v ∧ HRel w.heap.size w ρ ok (heapOf news) news.length w' ∧ V w.heap.size ρ ok w' r v ∧ ∀ b, ok b → F b ∨ w.heap.size ≤ b

/-- what a function promises that works on memory of the caller's -/
def CS (P : Program) (f : FuncId) (args : List AV) (h : Heap) (n : Nat) (Q : Heap → Nat → AV → Prop) : Prop :=
  Callable P f ∧ ∀ (B : Nat) (W0 : World) (ρ : Nat → Option Place) (ok : Nat → Prop) (w : World) (vs : List Value), HRel B W0 ρ ok h n w → VL B ρ ok w args vs →
    Calls P f vs.toArray w fun e w' => ∃ v h' n' r ρ' ok', e = .returned v ∧ Q h' n' r ∧ n ≤ n' ∧ HRel B W0 ρ' ok' h' n' w' ∧ V B ρ' ok' w' r v ∧ Ext (fun i => n ≤ i) ρ ρ' ok ok' w w'

/-! the abstract machine on code -/

def shiftLeaf (k : Nat) : AV → AV
  | .own i o n => .own (k + i) o n
  | a => a
def shiftAgg (k : Nat) : AV → AV
  | .agg l => .agg (l.map (shiftLeaf k))
  | a => shiftLeaf k a
def shiftV (k : Nat) : AV → AV
  | .tup l => .tup (l.map (shiftAgg k))
  | a => shiftAgg k a

def updL (h : Heap) (k : Nat) : List HE → Heap
  | [] => h
  | e :: l => updL (upd h k (some e)) (k + 1) l

def wantA (ops : Array Oper) (o : Oper) (t : Nat → AV) : Bool :=
  match o.guard with
  | none => true
  | some (j, b) => match (ops[j]?).bind (·.dst) with
    | some d => match t d with
      | .at (.bool x) => if b then x else !x
      | _ => false
    | none => false

/-- rows that are appended -/
def srcRows (h : Heap) (s : Nat) : AV → Option (List (List AV))
  | .nl => some []
  | .nn => some []
  | .lst _ s' rows => if s' = s then some rows else none
  | .own i o n => match h i with
    | some e => if e.s = s ∧ o + n ≤ e.rows.length then some ((e.rows.drop o).take n) else none
    | none => none
  | _ => none

def otherRow (y : AV) (i : Nat) : Bool := match y with
  | .own j _ _ => j != i
  | _ => true

/-- an append: the heap then, and the value -/
def appendA (P : Program) (h : Heap) (id : Nat) (ty : TypeId) (x y : AV) : Option (Heap × AV) :=
  match tkOf P ty with
  | .slice el => (tiOf P el).bind fun ti => if ti.size = 0 ∨ 1000 < ti.bytes then none else
    (srcRows h ti.size y).bind fun news => if 100000000 < news.length then none else
    match x with
    | .nl => some (upd h id (some ⟨el, ti.size, news⟩), .own id 0 news.length)
    | .own i 0 n => match h i with
      | some e => if e.ty = el ∧ e.s = ti.size ∧ n ≤ e.rows.length ∧ n ≤ 100000000 ∧ otherRow y i = true then
          some (upd (upd h i none) id (some ⟨el, ti.size, e.rows.take n ++ news⟩), .own id 0 (n + news.length)) else none
      | none => none
    | _ => none
  | _ => none

/-- what is not to be looked into: what bears such a mark stays as it is while the rest is reckoned -/
structure Tg {α : Sort u} (a : α) : Type where

/-- what follows where there is an answer -/
def bindO {α : Type} (o : Option α) (K : α → Prop) (_ : Tg K) : Prop := ∃ x, o = some x ∧ K x
@[simp] theorem bindO_some {α : Type} (x : α) (K : α → Prop) (i : Tg K) : bindO (some x) K i = K x := by simp [bindO]
@[simp] theorem bindO_none {α : Type} (K : α → Prop) (i : Tg K) : bindO none K i = False := by simp [bindO]

/-- two ways -/
def brA (c : Bool) (x y : Prop) (_ : Tg x) (_ : Tg y) : Prop := if c = true then x else y
@[simp] theorem brA_true (x y : Prop) (i : Tg x) (j : Tg y) : brA true x y i j = x := rfl
@[simp] theorem brA_false (x y : Prop) (i : Tg x) (j : Tg y) : brA false x y i j = y := rfl
@[simp] theorem brA_not (c : Bool) (x y : Prop) (i : Tg x) (j : Tg y) : brA (!c) x y i j = brA c y x j i := by cases c <;> rfl
theorem brA_split {c : Bool} {x y : Prop} {i : Tg x} {j : Tg y} (h1 : c = true → x) (h2 : c = false → y) : brA c x y i j := by
  cases c
  · exact h2 rfl
  · exact h1 rfl
@[simp] theorem bindO_ite {α : Type} (c : Prop) [Decidable c] (a b : Option α) (K : α → Prop) (i : Tg K) : bindO (if c then a else b) K i = brA (decide c) (bindO a K i) (bindO b K i) ⟨⟩ ⟨⟩ := by
  by_cases h : c <;> simp [h]

/-- a call of function f: by what it promises of what is read, or by what it promises on the caller's memory -/
def callA (P : Program) (draw : Bool) (id : Nat) (f : FuncId) (args : List AV) (t : Nat → AV) (h : Heap) (n : Nat) (d : Option Tmp) (K : St → Prop) (_ : Tg K) (_ : Tg t) : Prop :=
  (∃ r news args', args.mapM (viewV h) = some args' ∧ C P f args' r news ∧ ((newV r = true ∧ newNews news = true) ∨ args.all plainV = true) ∧ news.length ≤ 4 ∧
    K (St.put ⟨t, updL h id news, n⟩ d (shiftV id r))) ∨
  (draw = false ∧ CS P f args h n fun h' n' r => K (St.put ⟨t, h', n'⟩ d r))

def fnOf : AV → Option (FuncId × List AV)
  | .fn f caps => some (f, caps)
  | _ => none
def boolOf : AV → Option Bool
  | .at (.bool b) => some b
  | _ => none
@[simp] theorem fnOf_fn (f : FuncId) (caps : List AV) : fnOf (.fn f caps) = some (f, caps) := rfl
@[simp] theorem boolOf_at (b : Bool) : boolOf (.at (.bool b)) = some b := rfl

/-- one operation, at a place that names what it makes; draw: the order is open -/
def stepA (P : Program) (draw : Bool) (id : Nat) (d : Option Tmp) (op : Op) (K : St → Prop) (_ : Tg op) (_ : Tg K) (st : St) : Prop :=
  match op with
  | .store ty x y => bindO (storeA P st.h ty (evA st.t x) (evA st.t y)) (fun h' => K (St.put ⟨st.t, h', st.n⟩ d .und)) ⟨⟩
  | .alloc e => bindO (newA P st.t id (.alloc e)) (fun ev => K (St.put ⟨st.t, upd st.h id (some ev.1), st.n⟩ d ev.2)) ⟨⟩
  | .box e x => bindO (newA P st.t id (.box e x)) (fun ev => K (St.put ⟨st.t, upd st.h id (some ev.1), st.n⟩ d ev.2)) ⟨⟩
  | .buildSlice a b c => bindO (newA P st.t id (.buildSlice a b c)) (fun ev => K (St.put ⟨st.t, upd st.h id (some ev.1), st.n⟩ d ev.2)) ⟨⟩
  | .makeSlice a b c => bindO (newA P st.t id (.makeSlice a b c)) (fun ev => K (St.put ⟨st.t, upd st.h id (some ev.1), st.n⟩ d ev.2)) ⟨⟩
  | .call ⟨.builtin .append, args, tys⟩ => match args.toList, tys.toList with
    | [x, y], [ty, ty'] => if ty' ≠ ty then False else bindO (appendA P st.h id ty (evA st.t x) (evA st.t y)) (fun hv => K (St.put ⟨st.t, hv.1, st.n⟩ d hv.2)) ⟨⟩
    | _, _ => False
  | .call ⟨.value g, args, _⟩ => bindO (fnOf (evA st.t g)) (fun fc => callA P draw id fc.1 ((args.toList.map (evA st.t)) ++ fc.2) st.t st.h st.n d K ⟨⟩ ⟨⟩) ⟨⟩
  | op => bindO (valA P st.t st.h op) (fun r => K (st.put d r)) ⟨⟩

def runR (P : Program) (draw : Bool) (ops : Array Oper) (base : Nat) : List Oper → Nat → (St → Prop) → St → Prop
  | [], _, Q, st => Q st
  | o :: os, k, Q, st =>
    brA (wantA ops o st.t) (stepA P draw (base + 4 * k) o.dst o.op (runR P draw ops base os (k + 1) Q) ⟨⟩ ⟨⟩ st) (runR P draw ops base os (k + 1) Q (st.put o.dst .und)) ⟨⟩ ⟨⟩
/-- the rest of a region -/
def regA (P : Program) (draw : Bool) (ops : Array Oper) (base : Nat) (os : List Oper) (k : Nat) (Q : St → Prop) (_ : Tg ops) (_ : Tg os) (_ : Tg Q) (st : St) : Prop := runR P draw ops base os k Q st
theorem regA_nil {P : Program} {draw : Bool} {ops : Array Oper} {base : Nat} {k : Nat} {Q : St → Prop} {st : St} : regA P draw ops base [] k Q ⟨⟩ ⟨⟩ ⟨⟩ st = Q st := rfl
theorem regA_cons {P : Program} {draw : Bool} {ops : Array Oper} {base : Nat} {os : List Oper} {k : Nat} {Q : St → Prop} {st : St} {d : Option Tmp} {op : Op} {ty : TypeId} {pos : String} {after : Array Edge} :
    regA P draw ops base (⟨d, op, ty, pos, after, none⟩ :: os) k Q ⟨⟩ ⟨⟩ ⟨⟩ st = stepA P draw (base + 4 * k) d op (regA P draw ops base os (k + 1) Q ⟨⟩ ⟨⟩ ⟨⟩) ⟨⟩ ⟨⟩ st := rfl
theorem regA_guard {P : Program} {draw : Bool} {ops : Array Oper} {base : Nat} {os : List Oper} {k : Nat} {Q : St → Prop} {st : St} {d : Option Tmp} {op : Op} {ty : TypeId} {pos : String} {after : Array Edge} {g : Nat × Bool} :
    regA P draw ops base (⟨d, op, ty, pos, after, some g⟩ :: os) k Q ⟨⟩ ⟨⟩ ⟨⟩ st =
      brA (wantA ops ⟨d, op, ty, pos, after, some g⟩ st.t) (stepA P draw (base + 4 * k) d op (regA P draw ops base os (k + 1) Q ⟨⟩ ⟨⟩ ⟨⟩) ⟨⟩ ⟨⟩ st) (regA P draw ops base os (k + 1) Q ⟨⟩ ⟨⟩ ⟨⟩ (st.put d .und)) ⟨⟩ ⟨⟩ := rfl

/-- what follows: the code behind, or what follows that -/
def thenA (K : St → Prop) (Q : Exit → St → Prop) (_ : Tg K) (_ : Tg Q) : Exit → St → Prop
  | .normal, s => K s
  | e, s => Q e s
@[simp] theorem thenA_normal (K : St → Prop) (Q : Exit → St → Prop) (s : St) (i j) : thenA K Q i j .normal s = K s := rfl
@[simp] theorem thenA_ret (K : St → Prop) (Q : Exit → St → Prop) (s : St) (i j) : thenA K Q i j .ret s = Q .ret s := rfl
@[simp] theorem thenA_exit (K : St → Prop) (Q : Exit → St → Prop) (s : St) (k : Nat) (i j) : thenA K Q i j (.exit k) s = Q (.exit k) s := rfl
def blockA (id : Nat) (Q : Exit → St → Prop) (_ : Tg Q) : Exit → St → Prop
  | .exit k, s => if k = id then Q .normal s else Q (.exit k) s
  | e, s => Q e s
@[simp] theorem blockA_normal (id : Nat) (Q : Exit → St → Prop) (s : St) (i) : blockA id Q i .normal s = Q .normal s := rfl
@[simp] theorem blockA_ret (id : Nat) (Q : Exit → St → Prop) (s : St) (i) : blockA id Q i .ret s = Q .ret s := rfl
@[simp] theorem blockA_exit (id : Nat) (Q : Exit → St → Prop) (s : St) (k : Nat) (i) : blockA id Q i (.exit k) s = brA (decide (k = id)) (Q .normal s) (Q (.exit k) s) ⟨⟩ ⟨⟩ := by
  by_cases h : k = id <;> simp [h, blockA]

def wp0 (P : Program) : Code → (Exit → St → Prop) → St → Prop
  | .skip, Q, st => Q .normal st
  | .region _ ops d, Q, st => runR P d ops st.n ops.toList 0 (Q .normal) ⟨st.t, st.h, st.n + 4 * ops.size⟩
  | .seq a b, Q, st => wp0 P a (thenA (wp0 P b Q) Q ⟨⟩ ⟨⟩) st
  | .cond c x y, Q, st => bindO (boolOf (evA st.t c)) (fun b => brA b (wp0 P x Q st) (wp0 P y Q st) ⟨⟩ ⟨⟩) ⟨⟩
  | .block id c, Q, st => wp0 P c (blockA id Q ⟨⟩) st
  | .loop c, Q, st => ∃ (I : St → Prop) (m : St → Nat), I st ∧ ∀ s, I s → wp0 P c (thenA (fun s' => I s' ∧ m s' < m s) Q ⟨⟩ ⟨⟩) s
  | .exit id, Q, st => Q (.exit id) st
  | .ret, Q, st => Q .ret st
  | _, _, _ => False
def wpA (P : Program) (c : Code) (Q : Exit → St → Prop) (_ : Tg c) (_ : Tg Q) (st : St) : Prop := wp0 P c Q st
section
variable {P : Program} {Q : Exit → St → Prop} {st : St}
theorem wpA_skip : wpA P .skip Q ⟨⟩ ⟨⟩ st = Q .normal st := rfl
theorem wpA_region {id : Nat} {l : List Oper} {d : Bool} : wpA P (.region id l.toArray d) Q ⟨⟩ ⟨⟩ st = regA P d l.toArray st.n l 0 (Q .normal) ⟨⟩ ⟨⟩ ⟨⟩ ⟨st.t, st.h, st.n + 4 * l.length⟩ := rfl
theorem wpA_seq {a b : Code} : wpA P (.seq a b) Q ⟨⟩ ⟨⟩ st = wpA P a (thenA (wpA P b Q ⟨⟩ ⟨⟩) Q ⟨⟩ ⟨⟩) ⟨⟩ ⟨⟩ st := rfl
theorem wpA_cond {c : Operand} {x y : Code} : wpA P (.cond c x y) Q ⟨⟩ ⟨⟩ st = bindO (boolOf (evA st.t c)) (fun b => brA b (wpA P x Q ⟨⟩ ⟨⟩ st) (wpA P y Q ⟨⟩ ⟨⟩ st) ⟨⟩ ⟨⟩) ⟨⟩ := rfl
theorem wpA_block {id : Nat} {c : Code} : wpA P (.block id c) Q ⟨⟩ ⟨⟩ st = wpA P c (blockA id Q ⟨⟩) ⟨⟩ ⟨⟩ st := rfl
theorem wpA_exit {id : Nat} : wpA P (.exit id) Q ⟨⟩ ⟨⟩ st = Q (.exit id) st := rfl
theorem wpA_ret : wpA P .ret Q ⟨⟩ ⟨⟩ st = Q .ret st := rfl
theorem wpA_loop {c : Code} (I : St → Prop) (m : St → Nat) (h0 : I st) (h : ∀ s, I s → wpA P c (thenA (fun s' => I s' ∧ m s' < m s) Q ⟨⟩ ⟨⟩) ⟨⟩ ⟨⟩ s) : wpA P (.loop c) Q ⟨⟩ ⟨⟩ st := ⟨I, m, h0, h⟩
end

/-- the results of a function -/
def resA (P : Program) (st : St) : ResultVar → Option AV
  | .tmp k => some (st.t k)
  | .cell a t => loadA P st.h t (st.t a)
def resultsA (P : Program) (l : List ResultVar) (st : St) : Option AV :=
  match l with
  | [x] => resA P st x
  | l => (l.mapM (resA P st)).map .tup

/-- a result, handed out: rows of one's own that are not kept for the caller are shown; the flag says that all of it is new -/
def freshCell : AV → Bool
  | .at _ | .nl => true
  | .lst fr _ _ => fr
  | _ => false
def outLeaf (h : Heap) (keep : List Nat) : AV → Option AV
  | .und => some .und
  | .at v => some (.at v)
  | .nl => some .nl
  | .nilv => some .nl
  | .lst fr s rows => some (.lst fr s rows)
  | .own i o n => match keep.idxOf? i with
    | some j => some (.own j o n)
    | none => match h i, leafP h keep 3 (.own i o n) with
      | some e, some (.lst _ s rows) => some (.lst (e.rows.all fun r => r.all freshCell) s rows)
      | _, _ => none
  | .fn f [] => some (.fn f [])
  | _ => none
def outAgg (h : Heap) (keep : List Nat) : AV → Option AV
  | .agg l => (l.mapM (outLeaf h keep)).map .agg
  | a => outLeaf h keep a
def outV (h : Heap) (keep : List Nat) : AV → Option AV
  | .tup l => (l.mapM (outAgg h keep)).map .tup
  | a => outAgg h keep a

def initT (l : List AV) : Nat → AV := fun k => (l[k]?).getD .und

/-- the end of a function -/
def endA (P : Program) (l : List ResultVar) (Q : Heap → Nat → AV → Prop) (_ : Tg Q) : Exit → St → Prop
  | .normal, st | .ret, st => bindO (resultsA P l st) (fun r => Q st.h st.n r) ⟨⟩
  | _, _ => False
theorem endA_normal {P : Program} {l : List ResultVar} {Q : Heap → Nat → AV → Prop} {st : St} : endA P l Q ⟨⟩ .normal st = bindO (resultsA P l st) (fun r => Q st.h st.n r) ⟨⟩ := rfl
theorem endA_ret {P : Program} {l : List ResultVar} {Q : Heap → Nat → AV → Prop} {st : St} : endA P l Q ⟨⟩ .ret st = bindO (resultsA P l st) (fun r => Q st.h st.n r) ⟨⟩ := rfl

@[simp] theorem upd_app {α : Type} (f : Nat → α) (k : Nat) (v : α) (x : Nat) : upd f k v x = if x = k then v else f x := rfl
@[simp] theorem evA_tmp (t : Nat → AV) (k : Tmp) : evA t (.tmp k) = t k := rfl
@[simp] theorem evA_const (t : Nat → AV) (v : Value) : evA t (.const v) = ofVal v := rfl
@[simp] theorem evA_fun (t : Nat → AV) (f : FuncId) : evA t (.func f) = .fn f [] := rfl
@[simp] theorem evA_glob (t : Nat → AV) (g : Nat) : evA t (.global g) = .at (.pointer (some ⟨g, 0, none⟩)) := rfl
@[simp] theorem initT_app (l : List AV) (k : Nat) : initT l k = (l[k]?).getD .und := rfl
@[simp] theorem heapOf_app (l : List HE) (k : Nat) : heapOf l k = l[k]? := rfl
attribute [simp] nilTest.eq_def lenA.eq_def srcRows.eq_def appendA.eq_def otherRow.eq_def viewV.eq_def leafV.eq_def leafP outV.eq_def outAgg.eq_def outLeaf.eq_def freshCell.eq_def newV.eq_def newAgg.eq_def newLeaf.eq_def newNews.eq_def plainV.eq_def plainLeaf.eq_def chunk buildRows.eq_def sliceA.eq_def indexA.eq_def wpA_skip wpA_region wpA_seq wpA_cond wpA_block wpA_exit wpA_ret endA_normal endA_ret regA_nil regA_cons regA_guard stepA.eq_def valA.eq_def newA.eq_def St.put.eq_def wantA.eq_def loadA.eq_def takeA.eq_def cellsA.eq_def storeA.eq_def ofVal.eq_def leafOf.eq_def zeroA.eq_def updL shiftV.eq_def shiftAgg.eq_def shiftLeaf.eq_def binA.eq_def cmpA.eq_def unA.eq_def fieldAddrA.eq_def indexAddrA.eq_def natOf.eq_def buildA putCells resultsA.eq_def resA.eq_def

end Go.Proofs.Ytdjdjnmccphbjaa.E
