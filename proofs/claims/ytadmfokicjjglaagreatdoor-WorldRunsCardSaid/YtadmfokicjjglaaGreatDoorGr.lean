
/- Gr: slices.Grow of nothing, slices.Concat of two, on numbers. -/
import Derived.Test.YtadmfokicjjglaaGreatDoorEa
import Derived.Test.YtadmfokicjjglaaGreatDoorBase
import Derived.Lib.AppendZerosOnto
import Derived.Test.YtadmfokicjjglaaGreatDoorX3
namespace Go.Proofs.YtadmfokicjjglaaGreatDoor.E
open Go.RowKit Go.Proofs
set_option linter.unusedVariables false
set_option linter.unusedSimpArgs false
set_option maxRecDepth 100000
set_option maxHeartbeats 1000000
theorem C_own_empty {P : Program} {f : FuncId} {args : List AV} {e : TypeId} {s : Nat} (hs : 0 < s) (hc : Callable P f)
  (h : ∀ (F : Nat -> Prop) (w : World) (vs : List Value), VL 0 noPlace F w args vs -> Calls P f vs.toArray w fun ev w' => ∃ a c, ev = .returned (.slice a 0 c) /\ (c = 0 \/ w'.ownsRow w.heap.size e s (.slice a 0 c) 0 []) /\ Below w.heap.size w w') :
  C P f args (.own 0 0 0) [⟨e, s, []⟩] := by
 refine ⟨hc, rfl, rfl, fun F w vs hF hG hv => (h F w vs hv).mono ?_⟩;rintro ev w' ⟨a, c, rfl, ho, hb⟩
 have ho : (c = 0) \/ ∃ g cap cur, Value.slice a 0 c = .slice (some ⟨g, 0, none⟩) 0 cap /\ w.heap.size <= g /\ w'.heap[g]? = some (.cells cur e (0, 0)) /\ 0 <= cap /\ cap <= maxLen /\ cur.size = cap * s /\ cur.toList.take (0 * s) = [] := by
  rcases ho with h | h
  ·exact Or.inl h
  ·rcases h.2 with ⟨hv, -⟩ | h
   ·cases hv; exact Or.inl rfl
   ·exact Or.inr h
 rcases ho with rfl | ⟨g, cap, cur, hv, h1, h2, h3, h4, h5, h6⟩
 ·refine ⟨_, fun i => if i = 0 then some none else none, F, rfl, ⟨hb, ⟨Nat.le_refl _, hG⟩, fun b hF' => Nat.lt_of_lt_of_le (hF b hF') hb.size, fun i hi => ?_, fun i e he => ?_, fun i j e e' b c s c' s' h1 h2 h3 => ?_⟩, .own0 rfl, fun b hF' => Or.inl hF'⟩
  ·simp at hi; simp; omega
  ·cases i with
   | zero => simp at he; subst he; exact Or.inl ⟨rfl, rfl⟩
   | succ i => simp at he
  ·split at h3 <;> cases h3
 ·cases hv;refine ⟨_, fun i => if i = 0 then some (some (g, c, s)) else none, F, rfl, ⟨hb, ⟨Nat.le_refl _, hG⟩, fun b hF' => Nat.lt_of_lt_of_le (hF b hF') hb.size, fun i hi => ?_, fun i e he => ?_, fun i j e e' b c s c' s' h1 h2 h3 h4 => ?_⟩, ?_, fun b hF' => Or.inl hF'⟩
  ·simp at hi; simp; omega
  ·cases i with
   | zero =>
    simp at he; subst he
    refine Or.inr ⟨g, c, cur, rfl, h1, fun hg => ?_, h2, h5, Nat.zero_le _, h4, hs, by simp, by simp, by simp, by simp⟩;have := hF g hg; omega
   | succ i => simp at he
  ·cases i with
   | zero =>
    cases j with
    | zero => rfl
    | succ j => simp at h2
   | succ i => simp at h1
  ·have : V w.heap.size (fun i => if i = 0 then some (some (g, c, s)) else none) F w' (.own 0 0 0) (.slice (some ⟨g, 0 * s, none⟩) 0 (c - 0)) := .own (i := 0) (o := 0) (n := 0) rfl (Nat.zero_le _) h4;simpa using this
theorem zeroCells_size (z : Array Value) (n : Nat) : (Builtin.zeroCells z n).size = n * z.size := by simp [Builtin.zeroCells]
theorem info_int : (Tryz.prog.info? 3).map (fun i => (i.zero, i.size, i.bytes)) = some (some (.int .i64 0), 1, 8) := by kernel_rfl
theorem run_first0 {P : Program} (w : World) (s : Nat) (o : Option Addr) : (Builtin.firstCells s 0 (.slice o 0 0)).run P w = .ok #[] w := by
 cases o <;> simp [Builtin.firstCells, loadCells, loadCellsFrom]
theorem grow_int (o : Option Addr) (n : Nat) (w : World) (hn : n <= 1000000) :
  Calls Tryz.prog 159 #[.slice o 0 0, .int .i64 n] w fun e w' => ∃ a c, e = .returned (.slice a 0 c) /\ (c = 0 \/ w'.ownsRow w.heap.size 3 1 (.slice a 0 c) 0 []) /\ Below w.heap.size w w' := by
 obtain ⟨i0, hi0, hz0, hz1, hz2⟩ := info_parts info_int;by_cases c0 : n = 0
 ·subst c0;go_enter Tryz.func159, Tryz.ntmps159
  go_wp2_with fail
  go_ret
  exact ⟨o, 0, rfl, Or.inl rfl, Below.refl _ _⟩
 ·have c1 : 0 < n := by omega
  have hrz := fun ty => Lib.run_append_grow_zeros (P := Tryz.prog) w 23 3 ty 3 i0 (.int .i64 0) .i64 .i64 Tryz.underlying23 Tryz.underlying3 hi0 hz0 o 0 0 [] (run_first0 w.drew i0.size o) n c1 (by omega) (by omega) (by omega)
   (by rw [hz2]; omega) (growslice_fits (by omega) (by rw [hz2]; omega))
  simp only [Nat.zero_add] at hrz;have hG1 := grownCap_ge w n 0 3;have hG2 := grownCap_le_maxLen w n 0 3 (by unfold maxLen; omega);generalize grownCap w n 0 3 = G at *;generalize hcs : (#[] ++ Builtin.zeroCells (Value.cells (.int .i64 0)) n ++ Builtin.zeroCells (Value.cells (.int .i64 0)) (G - n)) = cs at *;have hsz : cs.size = G * 1 := by rw [<- hcs]; simp [zeroCells_size, Value.cells]; omega
  have hsz := hid hsz;clear hcs c0 hi0 hz0 hz1 hz2;have hG2 := hid hG2;go_enter Tryz.func159, Tryz.ntmps159
  go_wp2_with (at_builtin; refine Lib.wpList_append_run _ rfl _ _ _ _ rfl _ _ rfl rfl _ _ (hrz _) ?_)
  all_goals
   go_ret
   refine ⟨_, _, rfl, Or.inr (World.ownsRow_made w.drew cs G (Nat.le_refl _) hG2.out hsz.out), ?_⟩;exact ((Below.refl _ w).drew).alloc (Nat.le_refl _) _
theorem slices_Grow (n : Nat) (hn : n <= 1000000) : C Tryz.prog 159 [.nl, .at (.int .i64 n)] (.own 0 0 0) [⟨3, 1, []⟩] := by
 refine C_own_empty (by omega) (fun _ _ => by kernel_rfl) fun F w vs h => ?_
 obtain ⟨hl, hv⟩ := h
 match vs, hl with
 | [x, y], _ =>
  have h0 := hv 0 _ _ rfl rfl;have h1 := hv 1 _ _ rfl rfl;cases h0; cases h1
  exact grow_int _ n w hn
@[simp] theorem I_app (xs ys : List Int) : I xs ++ I ys = I (xs ++ ys) := by simp [I]
@[simp] theorem I_take (xs : List Int) (n : Nat) : (I xs).take n = I (xs.take n) := by simp [I]
@[simp] theorem I_drop (xs : List Int) (n : Nat) : (I xs).drop n = I (xs.drop n) := by simp [I]
@[simp] theorem I_set (xs : List Int) (n : Nat) (x : Int) : (I xs).set n [.at (.int .i64 x)] = I (xs.set n x) := by simp [I]
theorem I_shown (h : Heap) (av : List Nat) (d : Nat) (xs : List Int) : (I xs).mapM (fun (r : List AV) => r.mapM (leafP h av d)) = some (I xs) := by
 unfold I;refine mapM_map (fun x => ?_) xs;cases d <;> rfl
@[simp] theorem I_fresh (xs : List Int) : ((I xs).all fun r => r.all freshCell) = true := by simp [I, freshCell]
attribute [simp] I_shown
theorem own_out {h : Heap} {i n : Nat} {ty : TypeId} {ks : List Int} (hi : h i = some ⟨ty, 1, I ks⟩) (hn : n = ks.length) : outLeaf h [] (.own i 0 n) = some (.lst true 1 (I ks)) := by
 subst hn
 have e2 : leafP h [] 3 (.own i 0 ks.length) = some (.lst false 1 (I ks)) := by
  show (match h i with | some e => if 0 + ks.length <= e.rows.length then (((e.rows.drop 0).take ks.length).mapM fun (r : List AV) => r.mapM (leafP h [] 2)).map (AV.lst false e.s ·) else none | none => none) = _;rw [hi];simp only [List.drop_zero];rw [if_pos (by simp), List.take_of_length_le (by simp), I_shown];rfl
 show (match h i, leafP h [] 3 (.own i 0 ks.length) with | some e, some (.lst _ s rows) => some (AV.lst (e.rows.all fun r => r.all freshCell) s rows) | _, _ => none) = _;rw [hi, e2];simp only [I_fresh]
theorem slices_Concat (xs ys : List Int) (hx : xs.length <= 100000) (hy : ys.length <= 100000) : C Tryz.prog 126 [.lst false 1 [[.lst false 1 (I xs)], [.lst false 1 (I ys)]]] (.lst true 1 (I (xs ++ ys))) [] := by
 have w1 : IntKind.i64.wrap (xs.length : Int) = xs.length := wrap_ok (by omega);have w2 : IntKind.i64.wrap ((xs.length : Int) + ys.length) = (xs.length : Int) + ys.length := wrap_ok (by omega);have d1 : decide ((xs.length : Int) < 0) = false := by simp
 have d2 : decide ((xs.length : Int) + ys.length < 0) = false := by simp; omega
 have d3 : decide (100000000 < xs.length) = false := by simp; omega
 have d4 : decide (100000000 < ys.length) = false := by simp; omega
 have d5 : xs.length <= 100000000 := by omega
 have hg := slices_Grow (xs.length + ys.length) (by omega);simp only [Int.natCast_add] at hg;replace hg := hid hg;replace hx := hid hx;replace hy := hid hy;refine CI Tryz.func126 ?_;refine rN ?_;refine loop_unroll 3 ?_;refine rD (aN w1 (aN w2 (aN d1 d2))) hg.out ?_;refine rN ?_;refine loop_unroll 3 ?_;refine rS (aN d3 (aN d4 d5)) ?_;exact ⟨⟨_, own_out (ks := xs ++ ys) (by rfl) (by simp), Sub.refl _⟩, rfl⟩
end Go.Proofs.YtadmfokicjjglaaGreatDoor.E
