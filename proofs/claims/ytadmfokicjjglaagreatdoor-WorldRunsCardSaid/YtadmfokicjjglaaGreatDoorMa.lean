
/- Ma: the region of ref.OnBook that makes two maps and looks into them, in whatever order. -/
import Derived.Test.YtadmfokicjjglaaGreatDoorX4
import Derived.Test.YtadmfokicjjglaaGreatDoorA1
import Derived.Maps.Own
namespace Go.Proofs.YtadmfokicjjglaaGreatDoor.E
open Go.RowKit Go.Proofs
set_option maxRecDepth 100000
set_option maxHeartbeats 1000000
set_option linter.unusedSimpArgs false
set_option linter.unusedVariables false
section
variable {P : Program} {ops : Array Oper}
def ordOk (ops : Array Oper) : Bool := (List.range ops.size).all fun x => match ops[x]? with
 | none => false
 | some ox => ox.after.toList.all fun e => !Region.binds .any e || decide (e.on < x)
theorem ready_none {listed : Array Bool} (hd : ordOk ops = true) (hsz : listed.size = ops.size) (hr : Region.ready .any ops listed = []) : ∀ k, k < ops.size -> listed.getD k true = true := by
 intro k
 induction k using Nat.strongRecOn with
 | _ k ih =>
  intro hk;cases hl : listed.getD k true with
  | true => rfl
  | false =>
   exfalso;obtain ⟨ox, hox⟩ : ∃ o, ops[k]? = some o := ⟨ops[k]'hk, by simp⟩
   have hmem : k ∈ Region.ready .any ops listed := by
    rw [mem_ready];refine ⟨hl, ox, hox, fun e he hb => ?_⟩;have h0 := List.all_eq_true.1 hd k (by simpa using hk);simp only [hox] at h0;have h1 := List.all_eq_true.1 h0 e (by simpa using he);simp only [hb, Bool.not_true, Bool.false_or, decide_eq_true_eq] at h1;have h2 := ih e.on h1 (by omega);have : e.on < listed.size := by omega
    simp [this] at h2 ⊢;exact h2
   rw [hr] at hmem; cases hmem
theorem wpAny_inv (I : (Nat -> Bool) -> Act -> World -> Prop) {Q : Exit -> Act -> World -> Prop} (hd : ordOk ops = true)
  (hstep : ∀ (L : Nat -> Bool) (i : Nat) (o : Oper) (a : Act) (w : World), ops[i]? = some o -> L i = false -> (∀ e, e ∈ o.after -> Region.binds .any e = true -> L e.on = true) -> I L a w -> wpOp P ops Q i (I (upd L i true)) a w)
  (hend : ∀ (L : Nat -> Bool) (a : Act) (w : World), (∀ k, k < ops.size -> L k = true) -> I L a w -> Q .normal a w) :
  ∀ (fuel : Nat) (listed : Array Bool) (a : Act) (w : World), listed.size = ops.size -> (left ops.size listed).length <= fuel -> I (fun k => listed.getD k true) a w -> wpAny P .any ops Q fuel listed a w := by
 intro fuel
 induction fuel with
 | zero =>
  intro listed a w hsz hf hI;have hl0 : left ops.size listed = [] := List.eq_nil_of_length_eq_zero (by omega);refine ⟨?_, hend _ a w (fun k hk => ?_) hI⟩
  ·cases hre : Region.ready .any ops listed with
   | nil => rfl
   | cons i rest =>
    exfalso;have hi : i ∈ Region.ready .any ops listed := by rw [hre]; simp
    obtain ⟨h1, oi, h2, _⟩ := mem_ready.1 hi
    have : i ∈ left ops.size listed := by
     simp only [left, List.mem_filter, List.mem_range, Bool.not_eq_true'];exact ⟨(Array.getElem?_eq_some_iff.1 h2).1, h1⟩
    rw [hl0] at this; cases this
  ·cases hl : listed.getD k true with
   | true => rfl
   | false =>
    exfalso
    have : k ∈ left ops.size listed := by
     simp only [left, List.mem_filter, List.mem_range, Bool.not_eq_true'];exact ⟨hk, hl⟩
    rw [hl0] at this; cases this
 | succ fuel ih =>
  intro listed a w hsz hf hI;refine ⟨fun hre => hend _ a w (ready_none hd hsz hre) hI, fun i hi => ?_⟩;obtain ⟨hli, oi, hoi, hre⟩ := mem_ready.1 hi;have hlt : i < ops.size := (Array.getElem?_eq_some_iff.1 hoi).1;obtain ⟨pre, post, hl1, hl2, -⟩ := left_split hlt hli
  have h := hstep (fun k => listed.getD k true) i oi a w hoi hli (fun e he hb => by
   have h1 := hre e he hb
   have : e.on < listed.size := by
    cases hq : listed[e.on]? with
    | none => simp [hq] at h1
    | some b => exact (Array.getElem?_eq_some_iff.1 hq).1
   simp [this] at h1 ⊢
   exact h1) hI
  refine wpOp_mono (fun a' w' h' => ih (listed.setIfInBounds i true) a' w' (by simpa using hsz) ?_ ?_) h
  ·rw [hl2];rw [hl1] at hf;simp at hf ⊢;omega
  ·have e : (fun k => (listed.setIfInBounds i true).getD k true) = upd (fun k => listed.getD k true) i true := by
    funext k
    have hil : i < listed.size := by omega
    unfold upd;by_cases hk : k = i
    ·subst hk; simp [hil]
    ·simp [hk, Array.getElem?_setIfInBounds, Ne.symm hk]
   rw [e];exact h'
theorem wpOp_op {Q : Exit -> Act -> World -> Prop} {i : Nat} {K : Act -> World -> Prop} {a : Act} {w : World} {d : Option Tmp} {op : Op} {ty : TypeId} {pos : String} {after : Array Edge} (hi : ops[i]? = some ⟨d, op, ty, pos, after, none⟩)
  (h : (⟨d, op, ty, pos, after, none⟩ : Oper).upon P a K Q ((execOp a.eval ⟨d, op, ty, pos, after, none⟩).run P w)) : wpOp P ops Q i K a w := by
 unfold wpOp;rw [hi];simp only [Region.wanted, if_true];exact Or.inl h
theorem getD_put {a : Act} {d : Nat} {v : Value} (h : d < a.tmps.size) (k : Nat) : (a.put (some d) v).tmps.getD k undef = if k = d then v else a.tmps.getD k undef := by
 show (a.tmps.setIfInBounds d v).getD k undef = _;by_cases hk : k = d
 ·subst hk; simp [h]
 ·simp [hk, Array.getElem?_setIfInBounds, Ne.symm hk]
theorem Rl.grow {B : Nat} {W0 : World} {nt : Nat} {ρ : Nat -> Option Place} {ok : Nat -> Prop} {st : St} {a : Act} {w w' : World} (R : Rl B W0 ρ ok nt st a w) (hb : Below w.heap.size w w') : Rl B W0 ρ ok nt st a w' /\ ∀ U, Ext U ρ ρ ok ok w w' := by
 have hF : ∀ b, ok b -> ok b /\ w'.heap[b]? = w.heap[b]? := fun b h => ⟨h, hb.block b (R.heap.okb b h)⟩
 have hB : B <= w.heap.size := Nat.le_trans R.heap.base.le R.heap.below.size;refine ⟨⟨⟨R.heap.below.trans (hb.mono hB), R.heap.base, fun b h => Nat.lt_of_lt_of_le (R.heap.okb b h) hb.size, R.heap.fresh, fun i e he => ?_, R.heap.inj⟩, fun k => (R.tmps k).mono (fun _ _ => rfl) hF, R.size, R.defers⟩, fun U => ⟨fun _ _ => rfl, fun _ _ => rfl, hF, fun b h => Or.inl h, hb.size⟩⟩;refine R.heap.row_mono (fun _ _ => rfl) hF he fun b cap s hp => ?_
 rcases R.heap.row i e he with ⟨h1, -⟩ | ⟨b', cap', cur, h1, h2, h3, h4, -⟩
 ·rw [hp] at h1; cases h1
 ·rw [hp] at h1;simp only [Option.some.injEq, Prod.mk.injEq] at h1;obtain ⟨rfl, -, -⟩ := h1;exact ⟨hb.block b (Array.getElem?_eq_some_iff.1 h4).1, h3⟩
end
abbrev K64 (n : Int) : Lit := .int .i64 n
abbrev V64 (n : Int) : DataW Unit := .lit (.int .i64 n)
def D1 (l1 l2 : Bool) : DataW Unit := .map ((if l1 then [(K64 9, V64 1)] else []) ++ (if l2 then [(K64 11, V64 1)] else []))
def D2 (l7 l8 l9 : Bool) : DataW Unit := .map ((if l8 then [(K64 8, V64 9)] else []) ++ (if l7 then [(K64 9, V64 4)] else []) ++ (if l9 then [(K64 11, V64 9)] else []))
theorem D1_1 (l2 : Bool) : (D1 false l2).put (K64 9) (V64 1) = D1 true l2 := by cases l2 <;> rfl
theorem D1_2 (l1 : Bool) : (D1 l1 false).put (K64 11) (V64 1) = D1 l1 true := by cases l1 <;> rfl
theorem D2_7 (l8 l9 : Bool) : (D2 false l8 l9).put (K64 9) (V64 4) = D2 true l8 l9 := by cases l8 <;> cases l9 <;> rfl
theorem D2_8 (l7 l9 : Bool) : (D2 l7 false l9).put (K64 8) (V64 9) = D2 l7 true l9 := by cases l7 <;> cases l9 <;> rfl
theorem D2_9 (l7 l8 : Bool) : (D2 l7 l8 false).put (K64 11) (V64 9) = D2 l7 l8 true := by cases l7 <;> cases l8 <;> rfl
def leastK (kd : Int) : Int := if kd = 9 \/ kd = 11 then 1 else 0
def mostK (kd : Int) : Int := if kd = 9 then 4 else if kd = 8 \/ kd = 11 then 9 else 0
theorem D1_at {kd c : Int} (hk : 8 <= kd /\ kd <= 12) (h : (D1 true true).atKey (K64 kd) (V64 0) = V64 c) : c = leastK kd := by
 have : kd = 8 \/ kd = 9 \/ kd = 10 \/ kd = 11 \/ kd = 12 := by omega
 rcases this with rfl | rfl | rfl | rfl | rfl <;> (simp [D1, DataW.atKey, Lit.sameKey] at h; subst h; rfl)
theorem D2_at {kd c : Int} (hk : 8 <= kd /\ kd <= 12) (h : (D2 true true true).atKey (K64 kd) (V64 0) = V64 c) : c = mostK kd := by
 have : kd = 8 \/ kd = 9 \/ kd = 10 \/ kd = 11 \/ kd = 12 := by omega
 rcases this with rfl | rfl | rfl | rfl | rfl <;> (simp [D2, DataW.atKey, Lit.sameKey] at h; subst h; rfl)
def cnt (b : Bool) : Nat := if b then 1 else 0
theorem kInt : Go.Maps.Keyed Tryz.prog 3 := Go.Maps.int_keyed (q := .i64) Tryz.underlying3
theorem rpInt {n : Int} (h : (Lit.int .i64 n).wf = true) : plainElem (H := Unit) Tryz.prog 3 (.int .i64 n) = some (V64 n, []) := plainElem_int Tryz.underlying3 h
theorem keyInt {n : Int} (h : (Lit.int .i64 n).wf = true) : keyOf Tryz.prog 3 (.int .i64 n) = some (K64 n) := Go.Maps.keyOf_int_mk Tryz.underlying3 h
theorem zInt (w : World) : (zeroValue 3).run Tryz.prog w = .ok (.int .i64 0) w := by first | rfl | kernel_rfl
def dsts7 : List Nat := [33, 34, 35, 36, 37, 38, 39, 40, 12, 13]
structure RI (a0 : Act) (w0 : World) (kd : Int) (L : Nat -> Bool) (a : Act) (w : World) : Prop where
 bel : Below w0.heap.size w0 w
 sz : a.tmps.size = a0.tmps.size
 df : a.defers = a0.defers
 rest : ∀ k, k ∉ dsts7 -> a.tmps.getD k undef = a0.tmps.getD k undef
 m0 : L 0 = true -> ∃ b, a.tmps.getD 33 undef = .map (some b) /\ w0.heap.size <= b /\ w.ownsMap Tryz.prog 3 (plainElem (H := Unit) Tryz.prog 3) b (cnt (L 1) + cnt (L 2)) (D1 (L 1) (L 2))
 n0 : L 0 = false -> L 1 = false /\ L 2 = false
 m3 : L 3 = true -> (∃ b, a.tmps.getD 34 undef = .map (some b) /\ a.tmps.getD 33 undef = .map (some b)) /\ L 0 = true /\ L 1 = true /\ L 2 = true
 m4 : L 4 = true -> a.tmps.getD 35 undef = .int .i64 kd
 m5 : L 5 = true -> a.tmps.getD 36 undef = .int .i64 (leastK kd)
 m6 : L 6 = true -> ∃ b, a.tmps.getD 37 undef = .map (some b) /\ w0.heap.size <= b /\ w.ownsMap Tryz.prog 3 (plainElem (H := Unit) Tryz.prog 3) b (cnt (L 7) + cnt (L 8) + cnt (L 9)) (D2 (L 7) (L 8) (L 9))
 n6 : L 6 = false -> L 7 = false /\ L 8 = false /\ L 9 = false
 ne : L 0 = true -> L 6 = true -> a.tmps.getD 33 undef ≠ a.tmps.getD 37 undef
 m10 : L 10 = true -> (∃ b, a.tmps.getD 38 undef = .map (some b) /\ a.tmps.getD 37 undef = .map (some b)) /\ L 6 = true /\ L 7 = true /\ L 8 = true /\ L 9 = true
 m11 : L 11 = true -> a.tmps.getD 39 undef = .int .i64 kd
 m12 : L 12 = true -> a.tmps.getD 40 undef = .int .i64 (mostK kd)
 m13 : L 13 = true -> a.tmps.getD 12 undef = .int .i64 (leastK kd)
 m14 : L 14 = true -> a.tmps.getD 13 undef = .int .i64 (mostK kd)
abbrev ops7 : Array Oper := #[
 ⟨some 33, .makeMap 206 none, 206, "quay.go:226", #[], none⟩,
 ⟨none, .insert 206 (.tmp 33) (.const (.int .i64 9)) (.const (.int .i64 1)), 0, "quay.go:226", #[⟨0, .data⟩], none⟩,
 ⟨none, .insert 206 (.tmp 33) (.const (.int .i64 11)) (.const (.int .i64 1)), 0, "quay.go:226", #[⟨0, .data⟩], none⟩,
 ⟨some 34, .move (.tmp 33), 206, "quay.go:226", #[⟨0, .data⟩, ⟨1, .data⟩, ⟨2, .data⟩], none⟩,
 ⟨some 35, .move (.tmp 1), 3, "quay.go:226", #[], none⟩,
 ⟨some 36, .lookup 206 (.tmp 34) (.tmp 35) false, 3, "quay.go:226", #[⟨3, .data⟩, ⟨4, .data⟩], none⟩,
 ⟨some 37, .makeMap 206 none, 206, "quay.go:226", #[], none⟩,
 ⟨none, .insert 206 (.tmp 37) (.const (.int .i64 9)) (.const (.int .i64 4)), 0, "quay.go:226", #[⟨6, .data⟩, ⟨13, .gcOnly .lateStores⟩], none⟩,
 ⟨none, .insert 206 (.tmp 37) (.const (.int .i64 8)) (.const (.int .i64 9)), 0, "quay.go:226", #[⟨6, .data⟩, ⟨13, .gcOnly .lateStores⟩], none⟩,
 ⟨none, .insert 206 (.tmp 37) (.const (.int .i64 11)) (.const (.int .i64 9)), 0, "quay.go:226", #[⟨6, .data⟩, ⟨13, .gcOnly .lateStores⟩], none⟩,
 ⟨some 38, .move (.tmp 37), 206, "quay.go:226", #[⟨6, .data⟩, ⟨7, .data⟩, ⟨8, .data⟩, ⟨9, .data⟩, ⟨13, .gcOnly .lateStores⟩], none⟩,
 ⟨some 39, .move (.tmp 1), 3, "quay.go:226", #[⟨13, .gcOnly .lateStores⟩], none⟩,
 ⟨some 40, .lookup 206 (.tmp 38) (.tmp 39) false, 3, "quay.go:226", #[⟨10, .data⟩, ⟨11, .data⟩, ⟨13, .gcOnly .lateStores⟩], none⟩,
 ⟨some 12, .assign (.tmp 36), 3, "quay.go:226", #[⟨5, .data⟩, ⟨0, .phase⟩, ⟨1, .phase⟩, ⟨2, .phase⟩, ⟨3, .phase⟩, ⟨4, .phase⟩, ⟨5, .phase⟩, ⟨6, .textOnly .lateStoresUnsure⟩, ⟨7, .textOnly .lateStores⟩, ⟨8, .textOnly .lateStores⟩, ⟨9, .textOnly .lateStores⟩, ⟨10, .textOnly .lateStores⟩, ⟨11, .textOnly .lateStores⟩, ⟨12, .textOnly .lateStores⟩], none⟩,
 ⟨some 13, .assign (.tmp 40), 3, "quay.go:226", #[⟨12, .data⟩, ⟨13, .chain⟩, ⟨0, .phase⟩, ⟨1, .phase⟩, ⟨2, .phase⟩, ⟨3, .phase⟩, ⟨4, .phase⟩, ⟨5, .phase⟩, ⟨6, .phase⟩, ⟨7, .phase⟩, ⟨8, .phase⟩, ⟨9, .phase⟩, ⟨10, .phase⟩, ⟨11, .phase⟩, ⟨12, .phase⟩, ⟨13, .phase⟩], none⟩]
theorem step7 {a0 : Act} {w0 : World} {kd : Int} (h0 : 41 <= a0.tmps.size) (hkd : a0.tmps.getD 1 undef = .int .i64 kd) (hk : 8 <= kd /\ kd <= 12) {Q : Exit -> Act -> World -> Prop} (L : Nat -> Bool) (i : Nat) (o : Oper) (a : Act) (w : World) (ho : ops7[i]? = some o) (hL : L i = false)
  (hdep : ∀ e, e ∈ o.after -> Region.binds .any e = true -> L e.on = true) (R : RI a0 w0 kd L a w) : wpOp Tryz.prog ops7 Q i (RI a0 w0 kd (upd L i true)) a w := by
 have hi : i < 15 := (Array.getElem?_eq_some_iff.1 ho).1
 have hwk : (Lit.int .i64 kd).wf = true := by
  have : kd = 8 \/ kd = 9 \/ kd = 10 \/ kd = 11 \/ kd = 12 := by omega
  rcases this with rfl | rfl | rfl | rfl | rfl <;> decide
 have h1 : a.tmps.getD 1 undef = .int .i64 kd := (R.rest 1 (by decide)).trans hkd;have hsz := R.sz;obtain rfl | rfl | rfl | rfl | rfl | rfl | rfl | rfl | rfl | rfl | rfl | rfl | rfl | rfl | rfl : i = 0 \/ i = 1 \/ i = 2 \/ i = 3 \/ i = 4 \/ i = 5 \/ i = 6 \/ i = 7 \/ i = 8 \/ i = 9 \/ i = 10 \/ i = 11 \/ i = 12 \/ i = 13 \/ i = 14 := by omega
 ·cases ho;refine wpOp_op rfl ?_;have hp := fun (v : Value) => getD_put (a := a) (d := 33) (v := v) (by omega)
  show RI a0 w0 kd (upd L 0 true) (a.put (some 33) (.map (some w.heap.size))) (w.alloc (.map #[] 0))
  exact {
   bel := R.bel.alloc R.bel.size _
   sz := by show (a.tmps.setIfInBounds _ _).size = _; rw [Array.size_setIfInBounds]; exact R.sz
   df := R.df
   rest := fun k hk => by rw [hp, if_neg (fun e => hk (by subst e; decide))]; exact R.rest k hk
   m0 := fun _ => ⟨w.heap.size, by simp [hp], R.bel.size, by have g := R.n0 hL; simp [upd, g, cnt]; exact World.ownsMap_made w _ _ _⟩
   n0 := fun h => by simp [upd] at h
   m3 := (fun h => by have g := R.m3 (by simpa [upd] using h); simp [hL] at g)
   m4 := by simpa [hp, upd] using R.m4
   m5 := by simpa [hp, upd] using R.m5
   m6 := fun h => by obtain ⟨b, q1, q2, q3⟩ := R.m6 (by simpa [upd] using h); exact ⟨b, by simp [hp, q1], q2, by simpa [upd] using q3.alloc _⟩
   n6 := by simpa [hp, upd] using R.n6
   ne := fun q r => by obtain ⟨b, q1, q2, q3⟩ := R.m6 (by simpa [upd] using r); have := q3.lt; simp [hp, q1]; omega
   m10 := by simpa [hp, upd] using R.m10
   m11 := by simpa [hp, upd] using R.m11
   m12 := by simpa [hp, upd] using R.m12
   m13 := by simpa [hp, upd] using R.m13
   m14 := by simpa [hp, upd] using R.m14 }
 ·cases ho;have d0 := hdep ⟨0, .data⟩ (by simp) rfl;refine wpOp_op rfl ?_;obtain ⟨b, q1, q2, q3⟩ := R.m0 d0;obtain ⟨w1, hrun, g1, g2⟩ := q3.update kInt Tryz.underlying206 (by simp [cnt] <;> repeat (first | split | omega | decide)) (keyInt (n := 9) (by decide)) (rpInt (n := 1) (by decide));rw [hL] at g1;have q1' := q1;simp at q1';simp [execOp, Act.eval, q1', hrun, Result.andThen, Oper.upon];show RI a0 w0 kd (upd L 1 true) a w1;rw [D1_1] at g1
  exact {
   bel := R.bel.grown g2 R.bel.size (fun k e => by cases e; exact q2)
   sz := R.sz
   df := R.df
   rest := R.rest
   m0 := fun _ => ⟨b, q1, q2, by simp [upd]; exact g1.mono (by simp [cnt] <;> omega)⟩
   n0 := fun h => by simp [upd, d0] at h
   m3 := (fun h => by have g := R.m3 (by simpa [upd] using h); simp [hL] at g)
   m4 := by simpa [upd] using R.m4
   m5 := by simpa [upd] using R.m5
   m6 := fun h => by
    have h' : L 6 = true := by simpa [upd] using h
    obtain ⟨b2, r1, r2, r3⟩ := R.m6 h';have hne := R.ne d0 h';rw [q1, r1] at hne;exact ⟨b2, r1, r2, by simpa [upd] using r3.kept g2 (fun e => hne (by cases e; rfl))⟩
   n6 := by simpa [upd] using R.n6
   ne := fun q r => R.ne (by simpa [upd] using q) (by simpa [upd] using r)
   m10 := by simpa [upd] using R.m10
   m11 := by simpa [upd] using R.m11
   m12 := by simpa [upd] using R.m12
   m13 := by simpa [upd] using R.m13
   m14 := by simpa [upd] using R.m14 }
 ·cases ho;have d0 := hdep ⟨0, .data⟩ (by simp) rfl;refine wpOp_op rfl ?_;obtain ⟨b, q1, q2, q3⟩ := R.m0 d0;obtain ⟨w1, hrun, g1, g2⟩ := q3.update kInt Tryz.underlying206 (by simp [cnt] <;> repeat (first | split | omega | decide)) (keyInt (n := 11) (by decide)) (rpInt (n := 1) (by decide));rw [hL] at g1;have q1' := q1;simp at q1';simp [execOp, Act.eval, q1', hrun, Result.andThen, Oper.upon];show RI a0 w0 kd (upd L 2 true) a w1;rw [D1_2] at g1
  exact {
   bel := R.bel.grown g2 R.bel.size (fun k e => by cases e; exact q2)
   sz := R.sz
   df := R.df
   rest := R.rest
   m0 := fun _ => ⟨b, q1, q2, by simp [upd]; exact g1.mono (by simp [cnt] <;> omega)⟩
   n0 := fun h => by simp [upd, d0] at h
   m3 := (fun h => by have g := R.m3 (by simpa [upd] using h); simp [hL] at g)
   m4 := by simpa [upd] using R.m4
   m5 := by simpa [upd] using R.m5
   m6 := fun h => by
    have h' : L 6 = true := by simpa [upd] using h
    obtain ⟨b2, r1, r2, r3⟩ := R.m6 h';have hne := R.ne d0 h';rw [q1, r1] at hne;exact ⟨b2, r1, r2, by simpa [upd] using r3.kept g2 (fun e => hne (by cases e; rfl))⟩
   n6 := by simpa [upd] using R.n6
   ne := fun q r => R.ne (by simpa [upd] using q) (by simpa [upd] using r)
   m10 := by simpa [upd] using R.m10
   m11 := by simpa [upd] using R.m11
   m12 := by simpa [upd] using R.m12
   m13 := by simpa [upd] using R.m13
   m14 := by simpa [upd] using R.m14 }
 ·cases ho;have d0 := hdep ⟨0, .data⟩ (by simp) rfl;have d1 := hdep ⟨1, .data⟩ (by simp) rfl;have d2 := hdep ⟨2, .data⟩ (by simp) rfl;refine wpOp_op rfl ?_;have hp := fun (v : Value) => getD_put (a := a) (d := 34) (v := v) (by omega)
  show RI a0 w0 kd (upd L 3 true) (a.put (some 34) (a.tmps.getD 33 undef)) w
  exact {
   bel := R.bel
   sz := by show (a.tmps.setIfInBounds _ _).size = _; rw [Array.size_setIfInBounds]; exact R.sz
   df := R.df
   rest := fun k hk => by rw [hp, if_neg (fun e => hk (by subst e; decide))]; exact R.rest k hk
   m0 := by simpa [hp, upd] using R.m0
   n0 := by simpa [hp, upd] using R.n0
   m3 := fun _ => by obtain ⟨b, q1, q2, q3⟩ := R.m0 d0; exact ⟨⟨b, by rw [hp]; simpa using q1, by rw [hp]; simpa using q1⟩, by simpa [upd] using d0, by simpa [upd] using d1, by simpa [upd] using d2⟩
   m4 := by simpa [hp, upd] using R.m4
   m5 := by simpa [hp, upd] using R.m5
   m6 := by simpa [hp, upd] using R.m6
   n6 := by simpa [hp, upd] using R.n6
   ne := by simpa [hp, upd] using R.ne
   m10 := by simpa [hp, upd] using R.m10
   m11 := by simpa [hp, upd] using R.m11
   m12 := by simpa [hp, upd] using R.m12
   m13 := by simpa [hp, upd] using R.m13
   m14 := by simpa [hp, upd] using R.m14 }
 ·cases ho;refine wpOp_op rfl ?_;have hp := fun (v : Value) => getD_put (a := a) (d := 35) (v := v) (by omega)
  show RI a0 w0 kd (upd L 4 true) (a.put (some 35) (a.tmps.getD 1 undef)) w
  exact {
   bel := R.bel
   sz := by show (a.tmps.setIfInBounds _ _).size = _; rw [Array.size_setIfInBounds]; exact R.sz
   df := R.df
   rest := fun k hk => by rw [hp, if_neg (fun e => hk (by subst e; decide))]; exact R.rest k hk
   m0 := by simpa [hp, upd] using R.m0
   n0 := by simpa [hp, upd] using R.n0
   m3 := by simpa [hp, upd] using R.m3
   m4 := fun _ => by rw [hp]; simpa using h1
   m5 := by simpa [hp, upd] using R.m5
   m6 := by simpa [hp, upd] using R.m6
   n6 := by simpa [hp, upd] using R.n6
   ne := by simpa [hp, upd] using R.ne
   m10 := by simpa [hp, upd] using R.m10
   m11 := by simpa [hp, upd] using R.m11
   m12 := by simpa [hp, upd] using R.m12
   m13 := by simpa [hp, upd] using R.m13
   m14 := by simpa [hp, upd] using R.m14 }
 ·cases ho;have d3 := hdep ⟨3, .data⟩ (by simp) rfl;have d4 := hdep ⟨4, .data⟩ (by simp) rfl;refine wpOp_op rfl ?_;have hp := fun (v : Value) => getD_put (a := a) (d := 36) (v := v) (by omega)
  obtain ⟨⟨b, q1, q1b⟩, e0, e1, e2⟩ := R.m3 d3;obtain ⟨b2, r1, r2, r3⟩ := R.m0 e0;rw [q1b] at r1;cases r1;rw [e1, e2] at r3;obtain ⟨c, hrun, hat, -⟩ := r3.lookup_int kInt Tryz.underlying206 Tryz.underlying3 (zInt w) (keyInt hwk);have hc := D1_at hk hat;subst hc;have q2 := R.m4 d4;have q1c := q1;simp at q1c q2;simp [execOp, Act.eval, q1c, q2, hrun, Result.andThen, Oper.upon];show RI a0 w0 kd (upd L 5 true) (a.put (some 36) (.int .i64 (leastK kd))) w
  exact {
   bel := R.bel
   sz := by show (a.tmps.setIfInBounds _ _).size = _; rw [Array.size_setIfInBounds]; exact R.sz
   df := R.df
   rest := fun k hk => by rw [hp, if_neg (fun e => hk (by subst e; decide))]; exact R.rest k hk
   m0 := by simpa [hp, upd] using R.m0
   n0 := by simpa [hp, upd] using R.n0
   m3 := by simpa [hp, upd] using R.m3
   m4 := by simpa [hp, upd] using R.m4
   m5 := fun _ => by rw [hp]; simp
   m6 := by simpa [hp, upd] using R.m6
   n6 := by simpa [hp, upd] using R.n6
   ne := by simpa [hp, upd] using R.ne
   m10 := by simpa [hp, upd] using R.m10
   m11 := by simpa [hp, upd] using R.m11
   m12 := by simpa [hp, upd] using R.m12
   m13 := by simpa [hp, upd] using R.m13
   m14 := by simpa [hp, upd] using R.m14 }
 ·cases ho;refine wpOp_op rfl ?_;have hp := fun (v : Value) => getD_put (a := a) (d := 37) (v := v) (by omega)
  show RI a0 w0 kd (upd L 6 true) (a.put (some 37) (.map (some w.heap.size))) (w.alloc (.map #[] 0))
  exact {
   bel := R.bel.alloc R.bel.size _
   sz := by show (a.tmps.setIfInBounds _ _).size = _; rw [Array.size_setIfInBounds]; exact R.sz
   df := R.df
   rest := fun k hk => by rw [hp, if_neg (fun e => hk (by subst e; decide))]; exact R.rest k hk
   m0 := fun h => by obtain ⟨b, q1, q2, q3⟩ := R.m0 (by simpa [upd] using h); exact ⟨b, by simp [hp, q1], q2, by simpa [upd] using q3.alloc _⟩
   n0 := by simpa [hp, upd] using R.n0
   m3 := by simpa [hp, upd] using R.m3
   m4 := by simpa [hp, upd] using R.m4
   m5 := by simpa [hp, upd] using R.m5
   m6 := fun _ => ⟨w.heap.size, by simp [hp], R.bel.size, by have g := R.n6 hL; simp [upd, g, cnt]; exact World.ownsMap_made w _ _ _⟩
   n6 := fun h => by simp [upd] at h
   ne := fun q r => by obtain ⟨b, q1, q2, q3⟩ := R.m0 (by simpa [upd] using q); have := q3.lt; simp [hp, q1]; omega
   m10 := (fun h => by have g := R.m10 (by simpa [upd] using h); simp [hL] at g)
   m11 := by simpa [hp, upd] using R.m11
   m12 := by simpa [hp, upd] using R.m12
   m13 := by simpa [hp, upd] using R.m13
   m14 := by simpa [hp, upd] using R.m14 }
 ·cases ho;have d6 := hdep ⟨6, .data⟩ (by simp) rfl;refine wpOp_op rfl ?_;obtain ⟨b, q1, q2, q3⟩ := R.m6 d6;obtain ⟨w1, hrun, g1, g2⟩ := q3.update kInt Tryz.underlying206 (by simp [cnt] <;> repeat (first | split | omega | decide)) (keyInt (n := 9) (by decide)) (rpInt (n := 4) (by decide));rw [hL] at g1;have q1' := q1;simp at q1';simp [execOp, Act.eval, q1', hrun, Result.andThen, Oper.upon];show RI a0 w0 kd (upd L 7 true) a w1;rw [D2_7] at g1
  exact {
   bel := R.bel.grown g2 R.bel.size (fun k e => by cases e; exact q2)
   sz := R.sz
   df := R.df
   rest := R.rest
   m0 := fun h => by
    have h' : L 0 = true := by simpa [upd] using h
    obtain ⟨b2, r1, r2, r3⟩ := R.m0 h';have hne := R.ne h' d6;rw [r1, q1] at hne;exact ⟨b2, r1, r2, by simpa [upd] using r3.kept g2 (fun e => hne (by cases e; rfl))⟩
   n0 := by simpa [upd] using R.n0
   m3 := by simpa [upd] using R.m3
   m4 := by simpa [upd] using R.m4
   m5 := by simpa [upd] using R.m5
   m6 := fun _ => ⟨b, q1, q2, by simp [upd]; exact g1.mono (by simp [cnt] <;> omega)⟩
   n6 := fun h => by simp [upd, d6] at h
   ne := fun q r => R.ne (by simpa [upd] using q) (by simpa [upd] using r)
   m10 := (fun h => by have g := R.m10 (by simpa [upd] using h); simp [hL] at g)
   m11 := by simpa [upd] using R.m11
   m12 := by simpa [upd] using R.m12
   m13 := by simpa [upd] using R.m13
   m14 := by simpa [upd] using R.m14 }
 ·cases ho;have d6 := hdep ⟨6, .data⟩ (by simp) rfl;refine wpOp_op rfl ?_;obtain ⟨b, q1, q2, q3⟩ := R.m6 d6;obtain ⟨w1, hrun, g1, g2⟩ := q3.update kInt Tryz.underlying206 (by simp [cnt] <;> repeat (first | split | omega | decide)) (keyInt (n := 8) (by decide)) (rpInt (n := 9) (by decide));rw [hL] at g1;have q1' := q1;simp at q1';simp [execOp, Act.eval, q1', hrun, Result.andThen, Oper.upon];show RI a0 w0 kd (upd L 8 true) a w1;rw [D2_8] at g1
  exact {
   bel := R.bel.grown g2 R.bel.size (fun k e => by cases e; exact q2)
   sz := R.sz
   df := R.df
   rest := R.rest
   m0 := fun h => by
    have h' : L 0 = true := by simpa [upd] using h
    obtain ⟨b2, r1, r2, r3⟩ := R.m0 h';have hne := R.ne h' d6;rw [r1, q1] at hne;exact ⟨b2, r1, r2, by simpa [upd] using r3.kept g2 (fun e => hne (by cases e; rfl))⟩
   n0 := by simpa [upd] using R.n0
   m3 := by simpa [upd] using R.m3
   m4 := by simpa [upd] using R.m4
   m5 := by simpa [upd] using R.m5
   m6 := fun _ => ⟨b, q1, q2, by simp [upd]; exact g1.mono (by simp [cnt] <;> omega)⟩
   n6 := fun h => by simp [upd, d6] at h
   ne := fun q r => R.ne (by simpa [upd] using q) (by simpa [upd] using r)
   m10 := (fun h => by have g := R.m10 (by simpa [upd] using h); simp [hL] at g)
   m11 := by simpa [upd] using R.m11
   m12 := by simpa [upd] using R.m12
   m13 := by simpa [upd] using R.m13
   m14 := by simpa [upd] using R.m14 }
 ·cases ho;have d6 := hdep ⟨6, .data⟩ (by simp) rfl;refine wpOp_op rfl ?_;obtain ⟨b, q1, q2, q3⟩ := R.m6 d6;obtain ⟨w1, hrun, g1, g2⟩ := q3.update kInt Tryz.underlying206 (by simp [cnt] <;> repeat (first | split | omega | decide)) (keyInt (n := 11) (by decide)) (rpInt (n := 9) (by decide));rw [hL] at g1;have q1' := q1;simp at q1';simp [execOp, Act.eval, q1', hrun, Result.andThen, Oper.upon];show RI a0 w0 kd (upd L 9 true) a w1;rw [D2_9] at g1
  exact {
   bel := R.bel.grown g2 R.bel.size (fun k e => by cases e; exact q2)
   sz := R.sz
   df := R.df
   rest := R.rest
   m0 := fun h => by
    have h' : L 0 = true := by simpa [upd] using h
    obtain ⟨b2, r1, r2, r3⟩ := R.m0 h';have hne := R.ne h' d6;rw [r1, q1] at hne;exact ⟨b2, r1, r2, by simpa [upd] using r3.kept g2 (fun e => hne (by cases e; rfl))⟩
   n0 := by simpa [upd] using R.n0
   m3 := by simpa [upd] using R.m3
   m4 := by simpa [upd] using R.m4
   m5 := by simpa [upd] using R.m5
   m6 := fun _ => ⟨b, q1, q2, by simp [upd]; exact g1.mono (by simp [cnt] <;> omega)⟩
   n6 := fun h => by simp [upd, d6] at h
   ne := fun q r => R.ne (by simpa [upd] using q) (by simpa [upd] using r)
   m10 := (fun h => by have g := R.m10 (by simpa [upd] using h); simp [hL] at g)
   m11 := by simpa [upd] using R.m11
   m12 := by simpa [upd] using R.m12
   m13 := by simpa [upd] using R.m13
   m14 := by simpa [upd] using R.m14 }
 ·cases ho;have d6 := hdep ⟨6, .data⟩ (by simp) rfl;have d7 := hdep ⟨7, .data⟩ (by simp) rfl;have d8 := hdep ⟨8, .data⟩ (by simp) rfl;have d9 := hdep ⟨9, .data⟩ (by simp) rfl;refine wpOp_op rfl ?_;have hp := fun (v : Value) => getD_put (a := a) (d := 38) (v := v) (by omega)
  show RI a0 w0 kd (upd L 10 true) (a.put (some 38) (a.tmps.getD 37 undef)) w
  exact {
   bel := R.bel
   sz := by show (a.tmps.setIfInBounds _ _).size = _; rw [Array.size_setIfInBounds]; exact R.sz
   df := R.df
   rest := fun k hk => by rw [hp, if_neg (fun e => hk (by subst e; decide))]; exact R.rest k hk
   m0 := by simpa [hp, upd] using R.m0
   n0 := by simpa [hp, upd] using R.n0
   m3 := by simpa [hp, upd] using R.m3
   m4 := by simpa [hp, upd] using R.m4
   m5 := by simpa [hp, upd] using R.m5
   m6 := by simpa [hp, upd] using R.m6
   n6 := by simpa [hp, upd] using R.n6
   ne := by simpa [hp, upd] using R.ne
   m10 := fun _ => by obtain ⟨b, q1, q2, q3⟩ := R.m6 d6; exact ⟨⟨b, by rw [hp]; simpa using q1, by rw [hp]; simpa using q1⟩, by simpa [upd] using d6, by simpa [upd] using d7, by simpa [upd] using d8, by simpa [upd] using d9⟩
   m11 := by simpa [hp, upd] using R.m11
   m12 := by simpa [hp, upd] using R.m12
   m13 := by simpa [hp, upd] using R.m13
   m14 := by simpa [hp, upd] using R.m14 }
 ·cases ho;refine wpOp_op rfl ?_;have hp := fun (v : Value) => getD_put (a := a) (d := 39) (v := v) (by omega)
  show RI a0 w0 kd (upd L 11 true) (a.put (some 39) (a.tmps.getD 1 undef)) w
  exact {
   bel := R.bel
   sz := by show (a.tmps.setIfInBounds _ _).size = _; rw [Array.size_setIfInBounds]; exact R.sz
   df := R.df
   rest := fun k hk => by rw [hp, if_neg (fun e => hk (by subst e; decide))]; exact R.rest k hk
   m0 := by simpa [hp, upd] using R.m0
   n0 := by simpa [hp, upd] using R.n0
   m3 := by simpa [hp, upd] using R.m3
   m4 := by simpa [hp, upd] using R.m4
   m5 := by simpa [hp, upd] using R.m5
   m6 := by simpa [hp, upd] using R.m6
   n6 := by simpa [hp, upd] using R.n6
   ne := by simpa [hp, upd] using R.ne
   m10 := by simpa [hp, upd] using R.m10
   m11 := fun _ => by rw [hp]; simpa using h1
   m12 := by simpa [hp, upd] using R.m12
   m13 := by simpa [hp, upd] using R.m13
   m14 := by simpa [hp, upd] using R.m14 }
 ·cases ho;have d10 := hdep ⟨10, .data⟩ (by simp) rfl;have d11 := hdep ⟨11, .data⟩ (by simp) rfl;refine wpOp_op rfl ?_;have hp := fun (v : Value) => getD_put (a := a) (d := 40) (v := v) (by omega)
  obtain ⟨⟨b, q1, q1b⟩, e6, e7, e8, e9⟩ := R.m10 d10;obtain ⟨b2, r1, r2, r3⟩ := R.m6 e6;rw [q1b] at r1;cases r1;rw [e7, e8, e9] at r3;obtain ⟨c, hrun, hat, -⟩ := r3.lookup_int kInt Tryz.underlying206 Tryz.underlying3 (zInt w) (keyInt hwk);have hc := D2_at hk hat;subst hc;have q2 := R.m11 d11;have q1c := q1;simp at q1c q2;simp [execOp, Act.eval, q1c, q2, hrun, Result.andThen, Oper.upon];show RI a0 w0 kd (upd L 12 true) (a.put (some 40) (.int .i64 (mostK kd))) w
  exact {
   bel := R.bel
   sz := by show (a.tmps.setIfInBounds _ _).size = _; rw [Array.size_setIfInBounds]; exact R.sz
   df := R.df
   rest := fun k hk => by rw [hp, if_neg (fun e => hk (by subst e; decide))]; exact R.rest k hk
   m0 := by simpa [hp, upd] using R.m0
   n0 := by simpa [hp, upd] using R.n0
   m3 := by simpa [hp, upd] using R.m3
   m4 := by simpa [hp, upd] using R.m4
   m5 := by simpa [hp, upd] using R.m5
   m6 := by simpa [hp, upd] using R.m6
   n6 := by simpa [hp, upd] using R.n6
   ne := by simpa [hp, upd] using R.ne
   m10 := by simpa [hp, upd] using R.m10
   m11 := by simpa [hp, upd] using R.m11
   m12 := fun _ => by rw [hp]; simp
   m13 := by simpa [hp, upd] using R.m13
   m14 := by simpa [hp, upd] using R.m14 }
 ·cases ho;have d5 := hdep ⟨5, .data⟩ (by simp) rfl;have d0 := hdep ⟨0, .phase⟩ (by simp) rfl;have d1 := hdep ⟨1, .phase⟩ (by simp) rfl;have d2 := hdep ⟨2, .phase⟩ (by simp) rfl;have d3 := hdep ⟨3, .phase⟩ (by simp) rfl;have d4 := hdep ⟨4, .phase⟩ (by simp) rfl;refine wpOp_op rfl ?_;have hp := fun (v : Value) => getD_put (a := a) (d := 12) (v := v) (by omega)
  show RI a0 w0 kd (upd L 13 true) (a.put (some 12) (a.tmps.getD 36 undef)) w
  exact {
   bel := R.bel
   sz := by show (a.tmps.setIfInBounds _ _).size = _; rw [Array.size_setIfInBounds]; exact R.sz
   df := R.df
   rest := fun k hk => by rw [hp, if_neg (fun e => hk (by subst e; decide))]; exact R.rest k hk
   m0 := by simpa [hp, upd] using R.m0
   n0 := by simpa [hp, upd] using R.n0
   m3 := by simpa [hp, upd] using R.m3
   m4 := by simpa [hp, upd] using R.m4
   m5 := by simpa [hp, upd] using R.m5
   m6 := by simpa [hp, upd] using R.m6
   n6 := by simpa [hp, upd] using R.n6
   ne := by simpa [hp, upd] using R.ne
   m10 := by simpa [hp, upd] using R.m10
   m11 := by simpa [hp, upd] using R.m11
   m12 := by simpa [hp, upd] using R.m12
   m13 := fun _ => by rw [hp]; simpa using R.m5 d5
   m14 := by simpa [hp, upd] using R.m14 }
 ·cases ho;have d12 := hdep ⟨12, .data⟩ (by simp) rfl;have d13 := hdep ⟨13, .chain⟩ (by simp) rfl;have d0 := hdep ⟨0, .phase⟩ (by simp) rfl;have d1 := hdep ⟨1, .phase⟩ (by simp) rfl;have d2 := hdep ⟨2, .phase⟩ (by simp) rfl;have d3 := hdep ⟨3, .phase⟩ (by simp) rfl;have d4 := hdep ⟨4, .phase⟩ (by simp) rfl;have d5 := hdep ⟨5, .phase⟩ (by simp) rfl;have d6 := hdep ⟨6, .phase⟩ (by simp) rfl;have d7 := hdep ⟨7, .phase⟩ (by simp) rfl;have d8 := hdep ⟨8, .phase⟩ (by simp) rfl;have d9 := hdep ⟨9, .phase⟩ (by simp) rfl;have d10 := hdep ⟨10, .phase⟩ (by simp) rfl;have d11 := hdep ⟨11, .phase⟩ (by simp) rfl;refine wpOp_op rfl ?_;have hp := fun (v : Value) => getD_put (a := a) (d := 13) (v := v) (by omega)
  show RI a0 w0 kd (upd L 14 true) (a.put (some 13) (a.tmps.getD 40 undef)) w
  exact {
   bel := R.bel
   sz := by show (a.tmps.setIfInBounds _ _).size = _; rw [Array.size_setIfInBounds]; exact R.sz
   df := R.df
   rest := fun k hk => by rw [hp, if_neg (fun e => hk (by subst e; decide))]; exact R.rest k hk
   m0 := by simpa [hp, upd] using R.m0
   n0 := by simpa [hp, upd] using R.n0
   m3 := by simpa [hp, upd] using R.m3
   m4 := by simpa [hp, upd] using R.m4
   m5 := by simpa [hp, upd] using R.m5
   m6 := by simpa [hp, upd] using R.m6
   n6 := by simpa [hp, upd] using R.n6
   ne := by simpa [hp, upd] using R.ne
   m10 := by simpa [hp, upd] using R.m10
   m11 := by simpa [hp, upd] using R.m11
   m12 := by simpa [hp, upd] using R.m12
   m13 := by simpa [hp, upd] using R.m13
   m14 := fun _ => by rw [hp]; simpa using R.m12 d12 }
def hook7 : Hook := fun st Q => ∃ kd : Int, st.t 1 = .at (.int .i64 kd) /\ 8 <= kd /\ kd <= 12 /\ ∀ b c : Nat,
 Q ⟨upd (upd (upd (upd (upd (upd (upd (upd (upd (upd st.t 33 (.at (.map (some b)))) 34 (.at (.map (some b)))) 35 (.at (.int .i64 kd))) 36 (.at (.int .i64 (leastK kd)))) 37 (.at (.map (some c)))) 38 (.at (.map (some c)))) 39 (.at (.int .i64 kd))) 40 (.at (.int .i64 (mostK kd)))) 12 (.at (.int .i64 (leastK kd)))) 13 (.at (.int .i64 (mostK kd))), st.h, st.n⟩
theorem hook7_ok {nt : Nat} (hnt : 41 <= nt) (hm : (Tryz.prog).follows .mixedOrders = true) : HookOk Tryz.prog nt (.region 7 ops7 true) hook7 := by
 intro B W0 ρ0 ok0 w0 n0 Q st a w S hF;obtain ⟨kd, hkd, hk1, hk2, hQ⟩ := hF;obtain ⟨ρ, ok, R, x, hn⟩ := S
 have e1 : a.tmps.getD 1 undef = .int .i64 kd := by
  have := R.tmps 1;rw [hkd] at this;exact V_at this
 refine wp_region_any hm (wpAny_inv (RI a w kd) (by decide) (step7 (by rw [R.size]; exact hnt) e1 ⟨hk1, hk2⟩) ?_ _ _ _ _ (by simp) (by decide) ?_)
 ·intro L a' w' hall RR;obtain ⟨b, q1, q2, -⟩ := RR.m0 (hall 0 (by decide));obtain ⟨c, r1, r2, -⟩ := RR.m6 (hall 6 (by decide));obtain ⟨⟨b', s1, s2⟩, -⟩ := RR.m3 (hall 3 (by decide));obtain ⟨⟨c', t1, t2⟩, -⟩ := RR.m10 (hall 10 (by decide));rw [q1] at s2; cases s2
  rw [r1] at t2; cases t2
  obtain ⟨R2, x2⟩ := R.grow RR.bel;refine ⟨rfl, _, hQ b c, ρ, ok, ⟨R2.heap, fun k => ?_, RR.sz.trans R.size, RR.df.trans R.defers⟩, x.trans (x2 _), hn⟩
  have put : ∀ {f : Nat -> AV} {d : Nat} {v : AV} {z : Value}, a'.tmps.getD d undef = z -> V B ρ ok w' v z -> (k ≠ d -> V B ρ ok w' (f k) (a'.tmps.getD k undef)) -> V B ρ ok w' (upd f d v k) (a'.tmps.getD k undef) := by
   intro f d v z h1 h2 h3;unfold upd;by_cases hk : k = d
   ·rw [if_pos hk, hk, h1]; exact h2
   ·rw [if_neg hk]; exact h3 hk
  show V B ρ ok w' (upd _ 13 _ k) _;refine put (RR.m14 (hall 14 (by decide))) (.at rfl) fun n1 => put (RR.m13 (hall 13 (by decide))) (.at rfl) fun n2 => put (RR.m12 (hall 12 (by decide))) (.at rfl) fun n3 => put (RR.m11 (hall 11 (by decide))) (.at rfl) fun n4 => put t1 (.at rfl) fun n5 => put r1 (.at rfl) fun n6 => put (RR.m5 (hall 5 (by decide))) (.at rfl) fun n7 => put (RR.m4 (hall 4 (by decide))) (.at rfl) fun n8 => put s1 (.at rfl) fun n9 => put q1 (.at rfl) fun n10 => ?_
  rw [RR.rest k (by simp [dsts7]; omega)];exact R2.tmps k
 ·refine { bel := (Below.refl _ _).drew, sz := rfl, df := rfl, rest := fun _ _ => rfl, m0 := ?_, n0 := fun _ => ⟨rfl, rfl⟩, m3 := ?_, m4 := ?_, m5 := ?_, m6 := ?_, n6 := fun _ => ⟨rfl, rfl, rfl⟩, ne := ?_, m10 := ?_, m11 := ?_, m12 := ?_, m13 := ?_, m14 := ?_ } <;> (intro h; cases h)
end Go.Proofs.YtadmfokicjjglaaGreatDoor.E
