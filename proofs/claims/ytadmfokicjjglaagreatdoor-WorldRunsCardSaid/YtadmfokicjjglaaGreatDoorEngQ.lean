
/- EngQ: guarded operations without effect, reckoned side by side: no branch is taken at them. -/
import Derived.Test.YtadmfokicjjglaaGreatDoorX3
namespace Go.Proofs.YtadmfokicjjglaaGreatDoor.E
open Go.RowKit
set_option linter.unusedVariables false
def impB (c d : Bool) : Bool := !c || d
@[simp] theorem impB_self (c : Bool) : impB c c = true := by cases c <;> rfl
@[simp] theorem impB_tt (c : Bool) : impB c true = true := by cases c <;> rfl
@[simp] theorem impB_ff (c : Bool) : impB false c = true := by cases c <;> rfl
@[simp] theorem impB_t (c : Bool) : impB true c = c := by cases c <;> rfl
@[simp] theorem impB_and (c a b : Bool) : impB c (a && b) = (impB c a && impB c b) := by cases c <;> cases a <;> cases b <;> rfl
@[simp] theorem impB_l {a b d : Bool} (h : impB a d = true) : impB (a && b) d = true := by cases a <;> cases b <;> cases d <;> first | rfl | exact h
@[simp] theorem impB_r {a b d : Bool} (h : impB b d = true) : impB (a && b) d = true := by cases a <;> cases b <;> cases d <;> first | rfl | exact h
theorem impB_mp {c d : Bool} (h : impB c d = true) (hc : c = true) : d = true := by subst hc; simpa using h
def selA (c : Bool) (v : AV) : AV := match c with | true => v | false => .und
@[simp] theorem selA_true (v : AV) : selA true v = v := rfl
@[simp] theorem selA_false (v : AV) : selA false v = .und := rfl
theorem selA_of {c : Bool} (h : c = true) (v : AV) : selA c v = v := by subst h; rfl
def pickV (x : Bool) (a b : AV) : AV := match x with | true => a | false => b
@[simp] theorem pickV_true (a b : AV) : pickV true a b = a := rfl
@[simp] theorem pickV_false (a b : AV) : pickV false a b = b := rfl
@[simp] theorem pickV_same (x : Bool) (a : AV) : pickV x a a = a := by cases x <;> rfl
@[simp] theorem pickV_or (x y : Bool) : pickV x (.at (.bool true)) (.at (.bool y)) = .at (.bool (x || y)) := by cases x <;> rfl
@[simp] theorem pickV_and (x y : Bool) : pickV x (.at (.bool y)) (.at (.bool false)) = .at (.bool (x && y)) := by cases x <;> rfl
@[simp] theorem pickV_l {x c : Bool} {v b : AV} (h : impB x c = true) : pickV x (selA c v) b = pickV x v b := by
 cases x
 ·rfl
 ·rw [selA_of (impB_mp h rfl)]
@[simp] theorem pickV_r {x c : Bool} {v a : AV} (h : impB (!x) c = true) : pickV x a (selA c v) = pickV x a v := by
 cases x
 ·rw [selA_of (impB_mp h rfl)]
 ·rfl
def pickO (c a b : AV) : Option AV := match c with | .at (.bool x) => some (pickV x a b) | _ => none
@[simp] theorem pickO_at (x : Bool) (a b : AV) : pickO (.at (.bool x)) a b = some (pickV x a b) := rfl
theorem valA_pick {P : Program} {t : Nat -> AV} {h : Heap} {c a b : Operand} : valA P t h (.pick c a b) = pickO (evA t c) (evA t a) (evA t b) := by
 simp only [valA, pickO];split <;> rename_i hh <;> simp only [hh]
 rename_i x;cases x <;> rfl
def extractA (a : AV) (k : Nat) : Option AV := match a with | .tup l => l[k]? | _ => none
@[simp] theorem extractA_tup (l : List AV) (k : Nat) : extractA (.tup l) k = l[k]? := rfl
def wantB (b : Bool) (a : AV) : Bool := match a with | .at (.bool x) => if b then x else !x | _ => false
@[simp] theorem wantB_true (x : Bool) : wantB true (.at (.bool x)) = x := rfl
@[simp] theorem wantB_false (x : Bool) : wantB false (.at (.bool x)) = !x := rfl
@[simp] theorem wantB_und (b : Bool) : wantB b .und = false := rfl
@[simp] theorem wantB_sel (b c : Bool) (v : AV) : wantB b (selA c v) = (c && wantB b v) := by cases c <;> rfl
def wantD (b : Bool) (d : Option Tmp) (t : Nat -> AV) : Bool := match d with | some d => wantB b (t d) | none => false
@[simp] theorem wantD_some (b : Bool) (d : Tmp) (t : Nat -> AV) : wantD b (some d) t = wantB b (t d) := rfl
def guardA (c : Bool) (o : Option AV) (d : Option Tmp) (K : St -> Prop) (_ : Tg K) (st : St) : Prop := if c = true then (∃ r, o = some r /\ K (st.put d r)) else K (st.put d .und)
@[simp] theorem guardA_true (o : Option AV) (d : Option Tmp) (K : St -> Prop) (i : Tg K) (st : St) : guardA true o d K i st = bindO o (fun r => K (st.put d r)) ⟨⟩ := rfl
@[simp] theorem guardA_false (o : Option AV) (d : Option Tmp) (K : St -> Prop) (i : Tg K) (st : St) : guardA false o d K i st = K (st.put d .und) := rfl
theorem guardA_cong {c : Bool} {o o' : Option AV} {d : Option Tmp} {K : St -> Prop} {i : Tg K} {st : St} (ho : c = true -> o = o') : guardA c o d K i st = guardA c o' d K i st := by
 cases c
 ·rfl
 ·rw [ho rfl]
@[simp] theorem guardA_some (c : Bool) (v : AV) (d : Option Tmp) (K : St -> Prop) (i : Tg K) (st : St) : guardA c (some v) d K i st = K (st.put d (selA c v)) := by
 cases c <;> simp [guardA]
@[simp high] theorem guardA_pl {c x e : Bool} {v b : AV} {d : Option Tmp} {K : St -> Prop} {i : Tg K} {st : St} (h : impB (c && x) e = true) : guardA c (some (pickV x (selA e v) b)) d K i st = guardA c (some (pickV x v b)) d K i st :=
 guardA_cong fun hc => by
  cases x
  ·rfl
  ·rw [selA_of (impB_mp h (by simp [hc]))]
@[simp high] theorem guardA_pr {c x e : Bool} {v a : AV} {d : Option Tmp} {K : St -> Prop} {i : Tg K} {st : St} (h : impB (c && !x) e = true) : guardA c (some (pickV x a (selA e v))) d K i st = guardA c (some (pickV x a v)) d K i st :=
 guardA_cong fun hc => by
  cases x
  ·rw [selA_of (impB_mp h (by simp [hc]))]
  ·rfl
def guard1 (c : Bool) (x : AV) (f : AV -> Option AV) (_ : Tg f) (d : Option Tmp) (K : St -> Prop) (i : Tg K) (st : St) : Prop := guardA c (f x) d K i st
@[simp high] theorem guard1_sel {c e : Bool} {v : AV} {f : AV -> Option AV} {j : Tg f} {d : Option Tmp} {K : St -> Prop} {i : Tg K} {st : St} (h : impB c e = true) : guard1 c (selA e v) f j d K i st = guard1 c v f j d K i st :=
 guardA_cong fun hc => by rw [selA_of (impB_mp h hc)]
@[simp low] theorem guard1_out (c : Bool) (x : AV) (f : AV -> Option AV) (j : Tg f) (d : Option Tmp) (K : St -> Prop) (i : Tg K) (st : St) : guard1 c x f j d K i st = guardA c (f x) d K i st := rfl
def guard2 (c : Bool) (x y : AV) (f : AV -> AV -> Option AV) (_ : Tg f) (d : Option Tmp) (K : St -> Prop) (i : Tg K) (st : St) : Prop := guardA c (f x y) d K i st
@[simp high] theorem guard2_sel1 {c e : Bool} {v y : AV} {f : AV -> AV -> Option AV} {j : Tg f} {d : Option Tmp} {K : St -> Prop} {i : Tg K} {st : St} (h : impB c e = true) : guard2 c (selA e v) y f j d K i st = guard2 c v y f j d K i st :=
 guardA_cong fun hc => by rw [selA_of (impB_mp h hc)]
@[simp high] theorem guard2_sel2 {c e : Bool} {v y : AV} {f : AV -> AV -> Option AV} {j : Tg f} {d : Option Tmp} {K : St -> Prop} {i : Tg K} {st : St} (h : impB c e = true) : guard2 c y (selA e v) f j d K i st = guard2 c y v f j d K i st :=
 guardA_cong fun hc => by rw [selA_of (impB_mp h hc)]
@[simp low] theorem guard2_out (c : Bool) (x y : AV) (f : AV -> AV -> Option AV) (j : Tg f) (d : Option Tmp) (K : St -> Prop) (i : Tg K) (st : St) : guard2 c x y f j d K i st = guardA c (f x y) d K i st := rfl
def guard3 (c : Bool) (x y z : AV) (f : AV -> AV -> AV -> Option AV) (_ : Tg f) (d : Option Tmp) (K : St -> Prop) (i : Tg K) (st : St) : Prop := guardA c (f x y z) d K i st
@[simp high] theorem guard3_sel1 {c e : Bool} {v y z : AV} {f : AV -> AV -> AV -> Option AV} {j : Tg f} {d : Option Tmp} {K : St -> Prop} {i : Tg K} {st : St} (h : impB c e = true) : guard3 c (selA e v) y z f j d K i st = guard3 c v y z f j d K i st :=
 guardA_cong fun hc => by rw [selA_of (impB_mp h hc)]
@[simp high] theorem guard3_sel2 {c e : Bool} {v y z : AV} {f : AV -> AV -> AV -> Option AV} {j : Tg f} {d : Option Tmp} {K : St -> Prop} {i : Tg K} {st : St} (h : impB c e = true) : guard3 c y (selA e v) z f j d K i st = guard3 c y v z f j d K i st :=
 guardA_cong fun hc => by rw [selA_of (impB_mp h hc)]
@[simp high] theorem guard3_sel3 {c e : Bool} {v y z : AV} {f : AV -> AV -> AV -> Option AV} {j : Tg f} {d : Option Tmp} {K : St -> Prop} {i : Tg K} {st : St} (h : impB c e = true) : guard3 c y z (selA e v) f j d K i st = guard3 c y z v f j d K i st :=
 guardA_cong fun hc => by rw [selA_of (impB_mp h hc)]
@[simp low] theorem guard3_out (c : Bool) (x y z : AV) (f : AV -> AV -> AV -> Option AV) (j : Tg f) (d : Option Tmp) (K : St -> Prop) (i : Tg K) (st : St) : guard3 c x y z f j d K i st = guardA c (f x y z) d K i st := rfl
def guardC (P : Program) (draw : Bool) (c : Bool) (id : Nat) (f : Option (FuncId × List AV)) (args : List AV) (d : Option Tmp) (K : St -> Prop) (i : Tg K) (st : St) : Prop :=
 if c = true then bindO f (fun fc => callA P draw id fc.1 (args ++ fc.2) st.t st.h st.n d K ⟨⟩ ⟨⟩) ⟨⟩ else K (st.put d .und)
@[simp] theorem guardC_true (P : Program) (draw : Bool) (id : Nat) (f : Option (FuncId × List AV)) (args : List AV) (d : Option Tmp) (K : St -> Prop) (i : Tg K) (st : St) :
  guardC P draw true id f args d K i st = bindO f (fun fc => callA P draw id fc.1 (args ++ fc.2) st.t st.h st.n d K ⟨⟩ ⟨⟩) ⟨⟩ := rfl
@[simp] theorem guardC_false (P : Program) (draw : Bool) (id : Nat) (f : Option (FuncId × List AV)) (args : List AV) (d : Option Tmp) (K : St -> Prop) (i : Tg K) (st : St) :
  guardC P draw false id f args d K i st = K (st.put d .und) := rfl
def guardS (P : Program) (draw : Bool) (c : Bool) (id : Nat) (f : Option (FuncId × List AV)) (acc args : List AV) (d : Option Tmp) (K : St -> Prop) (i : Tg K) (st : St) : Prop := guardC P draw c id f (acc ++ args) d K i st
@[simp] theorem guardS_nil (P : Program) (draw : Bool) (c : Bool) (id : Nat) (f : Option (FuncId × List AV)) (acc : List AV) (d : Option Tmp) (K : St -> Prop) (i : Tg K) (st : St) : guardS P draw c id f acc [] d K i st = guardC P draw c id f acc d K i st := by
 unfold guardS; rw [List.append_nil]
@[simp low] theorem guardS_cons (P : Program) (draw : Bool) (c : Bool) (id : Nat) (f : Option (FuncId × List AV)) (acc : List AV) (x : AV) (l : List AV) (d : Option Tmp) (K : St -> Prop) (i : Tg K) (st : St) :
  guardS P draw c id f acc (x :: l) d K i st = guardS P draw c id f (acc ++ [x]) l d K i st := by
 unfold guardS; rw [List.append_assoc]; rfl
@[simp high] theorem guardS_sel {P : Program} {draw : Bool} {c e : Bool} {id : Nat} {f : Option (FuncId × List AV)} {acc : List AV} {v : AV} {l : List AV} {d : Option Tmp} {K : St -> Prop} {i : Tg K} {st : St} (h : impB c e = true) :
  guardS P draw c id f acc (selA e v :: l) d K i st = guardS P draw c id f (acc ++ [v]) l d K i st := by
 unfold guardS;cases c
 ·rfl
 ·rw [selA_of (impB_mp h rfl), List.append_assoc]; rfl
theorem guardC_C {P : Program} {draw : Bool} {c : Bool} {id : Nat} {f : FuncId} {args args' : List AV} {d : Option Tmp} {K : St -> Prop} {i : Tg K} {t : Nat -> AV} {h : Heap} {n : Nat} {r : AV} (hC : C P f args' r []) (hv : args.mapM (viewV h) = some args')
  (hp : newV r = true \/ args.all plainV = true) (hk : K (St.put ⟨t, h, n⟩ d (selA c (shiftV id r)))) : guardC P draw c id (some (f, [])) args d K i ⟨t, h, n⟩ := by
 cases c
 ·exact hk
 ·refine ⟨(f, []), rfl, ?_⟩;simp only [List.append_nil];exact Or.inl ⟨r, [], args', hv, hC, hp.imp (fun g => ⟨g, rfl⟩) (fun g => g), by simp, hk⟩
section
variable {P : Program} {draw : Bool} {ops : Array Oper} {base : Nat} {os : List Oper} {k : Nat} {Q : St -> Prop} {st : St} {d : Option Tmp} {ty : TypeId} {pos : String} {after : Array Edge} {j : Nat} {b : Bool}
theorem want_guard {op : Op} : wantA ops ⟨d, op, ty, pos, after, some (j, b)⟩ st.t = wantD b ((ops[j]?).bind (·.dst)) st.t := by
 simp only [wantA, wantD];split <;> rename_i h <;> simp only [h]
 rename_i d';unfold wantB;split <;> rename_i h2 <;> simp [h2]
theorem reg_g {op : Op} {o : Option AV} (hs : ∀ K : St -> Prop, stepA P draw (base + 4 * k) d op K ⟨⟩ ⟨⟩ st = bindO o (fun r => K (st.put d r)) ⟨⟩) :
  regA P draw ops base (⟨d, op, ty, pos, after, some (j, b)⟩ :: os) k Q ⟨⟩ ⟨⟩ ⟨⟩ st = guardA (wantD b ((ops[j]?).bind (·.dst)) st.t) o d (regA P draw ops base os (k + 1) Q ⟨⟩ ⟨⟩ ⟨⟩) ⟨⟩ st := by
 rw [regA_guard, want_guard, hs];unfold brA guardA bindO;rfl
theorem step_move {x : Operand} {K : St -> Prop} : stepA P draw (base + 4 * k) d (.move x) K ⟨⟩ ⟨⟩ st = bindO (some (evA st.t x)) (fun r => K (st.put d r)) ⟨⟩ := by
 rfl
@[simp ↓ high] theorem reg_g_move {x : Operand} : regA P draw ops base (⟨d, .move x, ty, pos, after, some (j, b)⟩ :: os) k Q ⟨⟩ ⟨⟩ ⟨⟩ st = guard1 (wantD b ((ops[j]?).bind (·.dst)) st.t) (evA st.t x) (fun a => some a) ⟨⟩ d (regA P draw ops base os (k + 1) Q ⟨⟩ ⟨⟩ ⟨⟩) ⟨⟩ st := reg_g fun _ => step_move
@[simp ↓ high] theorem reg_move {x : Operand} : regA P draw ops base (⟨d, .move x, ty, pos, after, none⟩ :: os) k Q ⟨⟩ ⟨⟩ ⟨⟩ st = bindO (some (evA st.t x)) (fun r => (regA P draw ops base os (k + 1) Q ⟨⟩ ⟨⟩ ⟨⟩) (st.put d r)) ⟨⟩ := by rw [regA_cons, step_move]
theorem step_assign {x : Operand} {K : St -> Prop} : stepA P draw (base + 4 * k) d (.assign x) K ⟨⟩ ⟨⟩ st = bindO (some (evA st.t x)) (fun r => K (st.put d r)) ⟨⟩ := by
 rfl
@[simp ↓ high] theorem reg_g_assign {x : Operand} : regA P draw ops base (⟨d, .assign x, ty, pos, after, some (j, b)⟩ :: os) k Q ⟨⟩ ⟨⟩ ⟨⟩ st = guard1 (wantD b ((ops[j]?).bind (·.dst)) st.t) (evA st.t x) (fun a => some a) ⟨⟩ d (regA P draw ops base os (k + 1) Q ⟨⟩ ⟨⟩ ⟨⟩) ⟨⟩ st := reg_g fun _ => step_assign
@[simp ↓ high] theorem reg_assign {x : Operand} : regA P draw ops base (⟨d, .assign x, ty, pos, after, none⟩ :: os) k Q ⟨⟩ ⟨⟩ ⟨⟩ st = bindO (some (evA st.t x)) (fun r => (regA P draw ops base os (k + 1) Q ⟨⟩ ⟨⟩ ⟨⟩) (st.put d r)) ⟨⟩ := by rw [regA_cons, step_assign]
theorem step_pick {x y z : Operand} {K : St -> Prop} : stepA P draw (base + 4 * k) d (.pick x y z) K ⟨⟩ ⟨⟩ st = bindO (pickO (evA st.t x) (evA st.t y) (evA st.t z)) (fun r => K (st.put d r)) ⟨⟩ := by
 rw [<- valA_pick (P := P) (h := st.h)];rfl
@[simp ↓ high] theorem reg_g_pick {x y z : Operand} : regA P draw ops base (⟨d, .pick x y z, ty, pos, after, some (j, b)⟩ :: os) k Q ⟨⟩ ⟨⟩ ⟨⟩ st = guard3 (wantD b ((ops[j]?).bind (·.dst)) st.t) (evA st.t x) (evA st.t y) (evA st.t z) (fun a b c => pickO a b c) ⟨⟩ d (regA P draw ops base os (k + 1) Q ⟨⟩ ⟨⟩ ⟨⟩) ⟨⟩ st := reg_g fun _ => step_pick
@[simp ↓ high] theorem reg_pick {x y z : Operand} : regA P draw ops base (⟨d, .pick x y z, ty, pos, after, none⟩ :: os) k Q ⟨⟩ ⟨⟩ ⟨⟩ st = bindO (pickO (evA st.t x) (evA st.t y) (evA st.t z)) (fun r => (regA P draw ops base os (k + 1) Q ⟨⟩ ⟨⟩ ⟨⟩) (st.put d r)) ⟨⟩ := by rw [regA_cons, step_pick]
theorem step_load {x : TypeId} {y : Operand} {K : St -> Prop} : stepA P draw (base + 4 * k) d (.load x y) K ⟨⟩ ⟨⟩ st = bindO (loadA P st.h x (evA st.t y)) (fun r => K (st.put d r)) ⟨⟩ := by
 rfl
@[simp ↓ high] theorem reg_g_load {x : TypeId} {y : Operand} : regA P draw ops base (⟨d, .load x y, ty, pos, after, some (j, b)⟩ :: os) k Q ⟨⟩ ⟨⟩ ⟨⟩ st = guard1 (wantD b ((ops[j]?).bind (·.dst)) st.t) (evA st.t y) (fun a => loadA P st.h x a) ⟨⟩ d (regA P draw ops base os (k + 1) Q ⟨⟩ ⟨⟩ ⟨⟩) ⟨⟩ st := reg_g fun _ => step_load
@[simp ↓ high] theorem reg_load {x : TypeId} {y : Operand} : regA P draw ops base (⟨d, .load x y, ty, pos, after, none⟩ :: os) k Q ⟨⟩ ⟨⟩ ⟨⟩ st = bindO (loadA P st.h x (evA st.t y)) (fun r => (regA P draw ops base os (k + 1) Q ⟨⟩ ⟨⟩ ⟨⟩) (st.put d r)) ⟨⟩ := by rw [regA_cons, step_load]
theorem step_binT {o : BinOp} {x z : TypeId} {y : Operand} {u : Tmp} {K : St -> Prop} : stepA P draw (base + 4 * k) d (.binOp o x y (.tmp u) z) K ⟨⟩ ⟨⟩ st = bindO (binA P o x (evA st.t y) (st.t u)) (fun r => K (st.put d r)) ⟨⟩ := by
 cases o <;> rfl
@[simp ↓ high] theorem reg_g_binT {o : BinOp} {x z : TypeId} {y : Operand} {u : Tmp} : regA P draw ops base (⟨d, .binOp o x y (.tmp u) z, ty, pos, after, some (j, b)⟩ :: os) k Q ⟨⟩ ⟨⟩ ⟨⟩ st = guard2 (wantD b ((ops[j]?).bind (·.dst)) st.t) (evA st.t y) (st.t u) (fun a b => binA P o x a b) ⟨⟩ d (regA P draw ops base os (k + 1) Q ⟨⟩ ⟨⟩ ⟨⟩) ⟨⟩ st := reg_g fun _ => step_binT
@[simp ↓ high] theorem reg_binT {o : BinOp} {x z : TypeId} {y : Operand} {u : Tmp} : regA P draw ops base (⟨d, .binOp o x y (.tmp u) z, ty, pos, after, none⟩ :: os) k Q ⟨⟩ ⟨⟩ ⟨⟩ st = bindO (binA P o x (evA st.t y) (st.t u)) (fun r => (regA P draw ops base os (k + 1) Q ⟨⟩ ⟨⟩ ⟨⟩) (st.put d r)) ⟨⟩ := by rw [regA_cons, step_binT]
theorem step_binI {o : BinOp} {x z : TypeId} {y : Operand} {u : IntKind} {v : Int} {K : St -> Prop} : stepA P draw (base + 4 * k) d (.binOp o x y (.const (.int u v)) z) K ⟨⟩ ⟨⟩ st = bindO (binA P o x (evA st.t y) (.at (.int u v))) (fun r => K (st.put d r)) ⟨⟩ := by
 cases o <;> rfl
@[simp ↓ high] theorem reg_g_binI {o : BinOp} {x z : TypeId} {y : Operand} {u : IntKind} {v : Int} : regA P draw ops base (⟨d, .binOp o x y (.const (.int u v)) z, ty, pos, after, some (j, b)⟩ :: os) k Q ⟨⟩ ⟨⟩ ⟨⟩ st = guard1 (wantD b ((ops[j]?).bind (·.dst)) st.t) (evA st.t y) (fun a => binA P o x a (.at (.int u v))) ⟨⟩ d (regA P draw ops base os (k + 1) Q ⟨⟩ ⟨⟩ ⟨⟩) ⟨⟩ st := reg_g fun _ => step_binI
@[simp ↓ high] theorem reg_binI {o : BinOp} {x z : TypeId} {y : Operand} {u : IntKind} {v : Int} : regA P draw ops base (⟨d, .binOp o x y (.const (.int u v)) z, ty, pos, after, none⟩ :: os) k Q ⟨⟩ ⟨⟩ ⟨⟩ st = bindO (binA P o x (evA st.t y) (.at (.int u v))) (fun r => (regA P draw ops base os (k + 1) Q ⟨⟩ ⟨⟩ ⟨⟩) (st.put d r)) ⟨⟩ := by rw [regA_cons, step_binI]
theorem step_binB {o : BinOp} {x z : TypeId} {y : Operand} {v : Bool} {K : St -> Prop} : stepA P draw (base + 4 * k) d (.binOp o x y (.const (.bool v)) z) K ⟨⟩ ⟨⟩ st = bindO (binA P o x (evA st.t y) (.at (.bool v))) (fun r => K (st.put d r)) ⟨⟩ := by
 cases o <;> rfl
@[simp ↓ high] theorem reg_g_binB {o : BinOp} {x z : TypeId} {y : Operand} {v : Bool} : regA P draw ops base (⟨d, .binOp o x y (.const (.bool v)) z, ty, pos, after, some (j, b)⟩ :: os) k Q ⟨⟩ ⟨⟩ ⟨⟩ st = guard1 (wantD b ((ops[j]?).bind (·.dst)) st.t) (evA st.t y) (fun a => binA P o x a (.at (.bool v))) ⟨⟩ d (regA P draw ops base os (k + 1) Q ⟨⟩ ⟨⟩ ⟨⟩) ⟨⟩ st := reg_g fun _ => step_binB
@[simp ↓ high] theorem reg_binB {o : BinOp} {x z : TypeId} {y : Operand} {v : Bool} : regA P draw ops base (⟨d, .binOp o x y (.const (.bool v)) z, ty, pos, after, none⟩ :: os) k Q ⟨⟩ ⟨⟩ ⟨⟩ st = bindO (binA P o x (evA st.t y) (.at (.bool v))) (fun r => (regA P draw ops base os (k + 1) Q ⟨⟩ ⟨⟩ ⟨⟩) (st.put d r)) ⟨⟩ := by rw [regA_cons, step_binB]
theorem step_unOp {o : UnOp} {x : TypeId} {y : Operand} {K : St -> Prop} : stepA P draw (base + 4 * k) d (.unOp o x y) K ⟨⟩ ⟨⟩ st = bindO (unA o (evA st.t y)) (fun r => K (st.put d r)) ⟨⟩ := by
 rfl
@[simp ↓ high] theorem reg_g_unOp {o : UnOp} {x : TypeId} {y : Operand} : regA P draw ops base (⟨d, .unOp o x y, ty, pos, after, some (j, b)⟩ :: os) k Q ⟨⟩ ⟨⟩ ⟨⟩ st = guard1 (wantD b ((ops[j]?).bind (·.dst)) st.t) (evA st.t y) (fun a => unA o a) ⟨⟩ d (regA P draw ops base os (k + 1) Q ⟨⟩ ⟨⟩ ⟨⟩) ⟨⟩ st := reg_g fun _ => step_unOp
@[simp ↓ high] theorem reg_unOp {o : UnOp} {x : TypeId} {y : Operand} : regA P draw ops base (⟨d, .unOp o x y, ty, pos, after, none⟩ :: os) k Q ⟨⟩ ⟨⟩ ⟨⟩ st = bindO (unA o (evA st.t y)) (fun r => (regA P draw ops base os (k + 1) Q ⟨⟩ ⟨⟩ ⟨⟩) (st.put d r)) ⟨⟩ := by rw [regA_cons, step_unOp]
theorem step_extract {x : Operand} {y : Nat} {K : St -> Prop} : stepA P draw (base + 4 * k) d (.extract x y) K ⟨⟩ ⟨⟩ st = bindO (extractA (evA st.t x) y) (fun r => K (st.put d r)) ⟨⟩ := by
 rfl
@[simp ↓ high] theorem reg_g_extract {x : Operand} {y : Nat} : regA P draw ops base (⟨d, .extract x y, ty, pos, after, some (j, b)⟩ :: os) k Q ⟨⟩ ⟨⟩ ⟨⟩ st = guard1 (wantD b ((ops[j]?).bind (·.dst)) st.t) (evA st.t x) (fun a => extractA a y) ⟨⟩ d (regA P draw ops base os (k + 1) Q ⟨⟩ ⟨⟩ ⟨⟩) ⟨⟩ st := reg_g fun _ => step_extract
@[simp ↓ high] theorem reg_extract {x : Operand} {y : Nat} : regA P draw ops base (⟨d, .extract x y, ty, pos, after, none⟩ :: os) k Q ⟨⟩ ⟨⟩ ⟨⟩ st = bindO (extractA (evA st.t x) y) (fun r => (regA P draw ops base os (k + 1) Q ⟨⟩ ⟨⟩ ⟨⟩) (st.put d r)) ⟨⟩ := by rw [regA_cons, step_extract]
theorem step_fieldAddr {x : TypeId} {y : Operand} {z : Nat} {K : St -> Prop} : stepA P draw (base + 4 * k) d (.fieldAddr x y z) K ⟨⟩ ⟨⟩ st = bindO (fieldAddrA P x (evA st.t y) z) (fun r => K (st.put d r)) ⟨⟩ := by
 rfl
@[simp ↓ high] theorem reg_g_fieldAddr {x : TypeId} {y : Operand} {z : Nat} : regA P draw ops base (⟨d, .fieldAddr x y z, ty, pos, after, some (j, b)⟩ :: os) k Q ⟨⟩ ⟨⟩ ⟨⟩ st = guard1 (wantD b ((ops[j]?).bind (·.dst)) st.t) (evA st.t y) (fun a => fieldAddrA P x a z) ⟨⟩ d (regA P draw ops base os (k + 1) Q ⟨⟩ ⟨⟩ ⟨⟩) ⟨⟩ st := reg_g fun _ => step_fieldAddr
@[simp ↓ high] theorem reg_fieldAddr {x : TypeId} {y : Operand} {z : Nat} : regA P draw ops base (⟨d, .fieldAddr x y z, ty, pos, after, none⟩ :: os) k Q ⟨⟩ ⟨⟩ ⟨⟩ st = bindO (fieldAddrA P x (evA st.t y) z) (fun r => (regA P draw ops base os (k + 1) Q ⟨⟩ ⟨⟩ ⟨⟩) (st.put d r)) ⟨⟩ := by rw [regA_cons, step_fieldAddr]
theorem step_indexAddr {x : TypeId} {y z : Operand} {K : St -> Prop} : stepA P draw (base + 4 * k) d (.indexAddr x y z) K ⟨⟩ ⟨⟩ st = bindO (indexAddrA P st.h x (evA st.t y) (evA st.t z)) (fun r => K (st.put d r)) ⟨⟩ := by
 rfl
@[simp ↓ high] theorem reg_g_indexAddr {x : TypeId} {y z : Operand} : regA P draw ops base (⟨d, .indexAddr x y z, ty, pos, after, some (j, b)⟩ :: os) k Q ⟨⟩ ⟨⟩ ⟨⟩ st = guard2 (wantD b ((ops[j]?).bind (·.dst)) st.t) (evA st.t y) (evA st.t z) (fun a b => indexAddrA P st.h x a b) ⟨⟩ d (regA P draw ops base os (k + 1) Q ⟨⟩ ⟨⟩ ⟨⟩) ⟨⟩ st := reg_g fun _ => step_indexAddr
@[simp ↓ high] theorem reg_indexAddr {x : TypeId} {y z : Operand} : regA P draw ops base (⟨d, .indexAddr x y z, ty, pos, after, none⟩ :: os) k Q ⟨⟩ ⟨⟩ ⟨⟩ st = bindO (indexAddrA P st.h x (evA st.t y) (evA st.t z)) (fun r => (regA P draw ops base os (k + 1) Q ⟨⟩ ⟨⟩ ⟨⟩) (st.put d r)) ⟨⟩ := by rw [regA_cons, step_indexAddr]
theorem step_build {x : TypeId} {y : Array (Nat × Operand)} {K : St -> Prop} : stepA P draw (base + 4 * k) d (.build x y) K ⟨⟩ ⟨⟩ st = bindO (valA P st.t st.h (.build x y)) (fun r => K (st.put d r)) ⟨⟩ := by
 rfl
@[simp ↓ high] theorem reg_g_build {x : TypeId} {y : Array (Nat × Operand)} : regA P draw ops base (⟨d, .build x y, ty, pos, after, some (j, b)⟩ :: os) k Q ⟨⟩ ⟨⟩ ⟨⟩ st = guardA (wantD b ((ops[j]?).bind (·.dst)) st.t) (valA P st.t st.h (.build x y)) d (regA P draw ops base os (k + 1) Q ⟨⟩ ⟨⟩ ⟨⟩) ⟨⟩ st := reg_g fun _ => step_build
@[simp ↓ high] theorem reg_build {x : TypeId} {y : Array (Nat × Operand)} : regA P draw ops base (⟨d, .build x y, ty, pos, after, none⟩ :: os) k Q ⟨⟩ ⟨⟩ ⟨⟩ st = bindO (valA P st.t st.h (.build x y)) (fun r => (regA P draw ops base os (k + 1) Q ⟨⟩ ⟨⟩ ⟨⟩) (st.put d r)) ⟨⟩ := by rw [regA_cons, step_build]
theorem step_len {x : Operand} {y : TypeId} {K : St -> Prop} : stepA P draw (base + 4 * k) d (.call ⟨.builtin .len, #[x], #[y]⟩) K ⟨⟩ ⟨⟩ st = bindO ((lenA (tkOf P y) (evA st.t x)).map fun (n : Nat) => AV.at (.int .i64 n)) (fun r => K (st.put d r)) ⟨⟩ := by
 have e : valA P st.t st.h (.call ⟨.builtin .len, #[x], #[y]⟩) = (lenA (tkOf P y) (evA st.t x)).map fun (n : Nat) => AV.at (.int .i64 n) := by
  simp only [valA];cases lenA (tkOf P y) (evA st.t x) <;> rfl
 rw [<- e];rfl
@[simp ↓ high] theorem reg_g_len {x : Operand} {y : TypeId} : regA P draw ops base (⟨d, .call ⟨.builtin .len, #[x], #[y]⟩, ty, pos, after, some (j, b)⟩ :: os) k Q ⟨⟩ ⟨⟩ ⟨⟩ st = guard1 (wantD b ((ops[j]?).bind (·.dst)) st.t) (evA st.t x) (fun a => (lenA (tkOf P y) a).map fun (n : Nat) => AV.at (.int .i64 n)) ⟨⟩ d (regA P draw ops base os (k + 1) Q ⟨⟩ ⟨⟩ ⟨⟩) ⟨⟩ st := reg_g fun _ => step_len
@[simp ↓ high] theorem reg_len {x : Operand} {y : TypeId} : regA P draw ops base (⟨d, .call ⟨.builtin .len, #[x], #[y]⟩, ty, pos, after, none⟩ :: os) k Q ⟨⟩ ⟨⟩ ⟨⟩ st = bindO ((lenA (tkOf P y) (evA st.t x)).map fun (n : Nat) => AV.at (.int .i64 n)) (fun r => (regA P draw ops base os (k + 1) Q ⟨⟩ ⟨⟩ ⟨⟩) (st.put d r)) ⟨⟩ := by rw [regA_cons, step_len]
theorem step_min {x y : Operand} {tys : Array TypeId} {K : St -> Prop} : stepA P draw (base + 4 * k) d (.call ⟨.builtin .min, #[x, y], tys⟩) K ⟨⟩ ⟨⟩ st = bindO (minA (evA st.t x) (evA st.t y)) (fun r => K (st.put d r)) ⟨⟩ := by
 rfl
@[simp ↓ high] theorem reg_min {x y : Operand} {tys : Array TypeId} : regA P draw ops base (⟨d, .call ⟨.builtin .min, #[x, y], tys⟩, ty, pos, after, none⟩ :: os) k Q ⟨⟩ ⟨⟩ ⟨⟩ st = bindO (minA (evA st.t x) (evA st.t y)) (fun r => (regA P draw ops base os (k + 1) Q ⟨⟩ ⟨⟩ ⟨⟩) (st.put d r)) ⟨⟩ := by rw [regA_cons, step_min]
@[simp] theorem minA_at (k : IntKind) (a b : Int) : minA (.at (.int k a)) (.at (.int k b)) = some (.at (.int k (if b < a then b else a))) := by simp [minA]
@[simp ↓ high] theorem reg_g_call {g : Operand} {x : Array Operand} {y : Array TypeId} : regA P draw ops base (⟨d, .call ⟨.value g, x, y⟩, ty, pos, after, some (j, b)⟩ :: os) k Q ⟨⟩ ⟨⟩ ⟨⟩ st =
  guardS P draw (wantD b ((ops[j]?).bind (·.dst)) st.t) (base + 4 * k) (fnOf (evA st.t g)) [] (x.toList.map (evA st.t)) d (regA P draw ops base os (k + 1) Q ⟨⟩ ⟨⟩ ⟨⟩) ⟨⟩ st := by
 rw [regA_guard, want_guard];rfl
end
def unr (P : Program) (c : Code) (Q : Exit -> St -> Prop) (_ : Tg c) (_ : Tg Q) : Nat -> St -> Prop
 | 0, _ => False
 | n + 1, st => wpA P c (thenA (unr P c Q ⟨⟩ ⟨⟩ n) Q ⟨⟩ ⟨⟩) ⟨⟩ ⟨⟩ st
theorem unr_succ {P : Program} {c : Code} {Q : Exit -> St -> Prop} {i : Tg c} {j : Tg Q} {n : Nat} {st : St} : unr P c Q i j (n + 1) st = wpA P c (thenA (unr P c Q ⟨⟩ ⟨⟩ n) Q ⟨⟩ ⟨⟩) ⟨⟩ ⟨⟩ st := rfl
attribute [simp] unr_succ
open Classical in
noncomputable def leastU (P : Program) (c : Code) (Q : Exit -> St -> Prop) (st : St) : Nat :=
 if h : ∃ k, unr P c Q ⟨⟩ ⟨⟩ k st then Classical.choose (exists_least h) else 0
theorem loop_unroll {P : Program} {c : Code} {Q : Exit -> St -> Prop} {st : St} (n : Nat) (h : unr P c Q ⟨⟩ ⟨⟩ n st) : wpA P (.loop c) Q ⟨⟩ ⟨⟩ st := by
 refine wpA_loop (fun s => ∃ k, unr P c Q ⟨⟩ ⟨⟩ k s) (leastU P c Q) ⟨n, h⟩ fun s hs => ?_
 have e : leastU P c Q s = Classical.choose (exists_least hs) := by unfold leastU; rw [dif_pos hs]
 obtain ⟨h1, h2⟩ := Classical.choose_spec (exists_least hs);generalize hm : Classical.choose (exists_least hs) = m at *;cases m with
 | zero => exact h1.elim
 | succ m =>
  refine wp_same c (W := writes c) (t0 := s.t) (fun k hk => hk) ?_ (Same.refl _ _) h1;intro ex s' hq _;cases ex with
  | normal =>
   have hex : ∃ k, unr P c Q ⟨⟩ ⟨⟩ k s' := ⟨m, hq⟩;refine ⟨hex, ?_⟩;have e' : leastU P c Q s' = Classical.choose (exists_least hex) := by unfold leastU; rw [dif_pos hex]
   have := (Classical.choose_spec (exists_least hex)).2 m hq;omega
  | exit k => exact hq
  | goto k => exact hq
  | ret => exact hq
  | panic k => exact hq
  | outgrown => exact hq
theorem wrap_lit {x : Int} (h : -9223372036854775808 <= x /\ x <= 9223372036854775807) : IntKind.i64.wrap x = x := by rw [IntKind.wrap_i64]; omega
@[simp] theorem wrap_n0 : IntKind.i64.wrap 0 = 0 := wrap_lit (by omega)
@[simp] theorem wrap_n1 : IntKind.i64.wrap 1 = 1 := wrap_lit (by omega)
@[simp] theorem wrap_n2 : IntKind.i64.wrap 2 = 2 := wrap_lit (by omega)
@[simp] theorem wrap_n3 : IntKind.i64.wrap 3 = 3 := wrap_lit (by omega)
@[simp] theorem wrap_n4 : IntKind.i64.wrap 4 = 4 := wrap_lit (by omega)
@[simp] theorem wrap_n5 : IntKind.i64.wrap 5 = 5 := wrap_lit (by omega)
@[simp] theorem wrap_n6 : IntKind.i64.wrap 6 = 6 := wrap_lit (by omega)
@[simp] theorem wrap_n7 : IntKind.i64.wrap 7 = 7 := wrap_lit (by omega)
@[simp] theorem wrap_n8 : IntKind.i64.wrap 8 = 8 := wrap_lit (by omega)
@[simp] theorem wrap_n9 : IntKind.i64.wrap 9 = 9 := wrap_lit (by omega)
@[simp] theorem wrap_n10 : IntKind.i64.wrap 10 = 10 := wrap_lit (by omega)
@[simp] theorem wrap_n11 : IntKind.i64.wrap 11 = 11 := wrap_lit (by omega)
@[simp] theorem wrap_n12 : IntKind.i64.wrap 12 = 12 := wrap_lit (by omega)
@[simp] theorem wrap_m1 : IntKind.i64.wrap (-1) = -1 := wrap_lit (by omega)
end Go.Proofs.YtadmfokicjjglaaGreatDoor.E
