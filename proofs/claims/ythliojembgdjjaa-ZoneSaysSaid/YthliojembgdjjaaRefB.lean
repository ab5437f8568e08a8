/- RefB: slices.Grow of nil, slices.Concat of two, on numbers. -/
import Derived.Test.YthliojembgdjjaaRefA
import Derived.Test.YthliojembgdjjaaBase2
import Derived.Lib.AppendZerosOnto
namespace Go.Proofs.Ythliojembgdjjaa
open Go.RowKit Go.Proofs
set_option linter.unusedVariables false
set_option maxRecDepth 100000

theorem zeroCells_size (z : Array Value) (n : Nat) : (Builtin.zeroCells z n).size = n * z.size := by simp [Builtin.zeroCells]

theorem grow_int (n : Nat) (w : World) (hn : n ≤ 1000000) :
    Calls Try.prog 140 #[.slice none 0 0, .int .i64 n] w fun e w' => ∃ a c, e = .returned (.slice a 0 c) ∧ w'.ownsRow w.heap.size 3 1 (.slice a 0 c) 0 [] ∧ Below w.heap.size w w' := by
  obtain ⟨i0, hi0, hz0, hz1, hz2⟩ := info_parts info_int
  by_cases c0 : n = 0
  · subst c0
    go_enter Try.func140, Try.ntmps140
    go_wp2_with fail
    go_ret
    exact ⟨none, 0, rfl, World.ownsRow_nil _ _ _ _, Below.refl _ _⟩
  · have c1 : 0 < n := by omega
    have hrz := fun ty => Lib.run_append_grow_zeros (P := Try.prog) w 22 3 ty 3 i0 (.int .i64 0) .i64 .i64 Try.underlying22 Try.underlying3 hi0 hz0 none 0 0 [] (run_firstCells_none w.drew i0.size 0 0 0) n c1 (by omega) (by omega) (by omega)
      (by rw [hz2]; omega) (growslice_fits (by omega) (by rw [hz2]; omega))
    simp only [Nat.zero_add] at hrz
    have hG1 := grownCap_ge w n 0 3
    have hG2 := grownCap_le_maxLen w n 0 3 (by unfold maxLen; omega)
    generalize grownCap w n 0 3 = G at *
    generalize hcs : (#[] ++ Builtin.zeroCells (Value.cells (.int .i64 0)) n ++ Builtin.zeroCells (Value.cells (.int .i64 0)) (G - n)) = cs at *
    have hsz : cs.size = G * 1 := by rw [← hcs]; simp [zeroCells_size, Value.cells]; omega
    have hsz := hid hsz
    clear hcs c0 hi0 hz0 hz1 hz2
    have hG2 := hid hG2
    go_enter Try.func140, Try.ntmps140
    go_wp2_with (at_builtin; refine Lib.wpList_append_run _ rfl _ _ _ _ rfl _ _ rfl rfl _ _ (hrz _) ?_)
    all_goals
      go_ret
      refine ⟨_, _, rfl, World.ownsRow_made w.drew cs G (Nat.le_refl _) hG2.out hsz.out, ?_⟩
      exact ((Below.refl _ w).drew).alloc (Nat.le_refl _) _

/-- two slices side by side, in a slice -/
def Two (w : World) (v : Value) (u1 u2 : Value) : Prop := ∃ g c, v = .slice (some ⟨g, 0, none⟩) 2 c ∧ w.cell? ⟨g, 0, none⟩ = some u1 ∧ w.cell? ⟨g, 1, none⟩ = some u2

set_option maxHeartbeats 4000000 in
theorem concat_int (F G : Nat → Prop) (w : World) (v : Value) (a b : Option Addr) (n m ca cb : Nat) (xs ys : List Int) (ht : Two w v (.slice a n ca) (.slice b m cb)) (hx : Ints F w (.slice a n ca) xs) (hy : Ints G w (.slice b m cb) ys)
    (hn : xs.length = n) (hm : ys.length = m) (h1 : n ≤ 1000) (h2 : m ≤ 1000) :
    Calls Try.prog 103 #[v] w fun e w' => ∃ a c, e = .returned (.slice a (n + m) c) ∧ w'.ownsRow w.heap.size 3 1 (.slice a (n + m) c) (n + m) (iv (xs ++ ys)) ∧ Below w.heap.size w w' := by
  obtain ⟨g, c, rfl, k0, k1⟩ := ht
  obtain ⟨i0, hi0, hz0, hz1, hz2⟩ := info_parts info_int
  replace hn := hid hn
  replace hm := hid hm
  have hg := fun w => grow_int (n + m) w (by omega)
  simp only [Int.natCast_add] at hg
  replace hg := hid hg
  go_enter Try.func103, Try.ntmps103
  go_wp2_with fail
  refine wp_loop_rounds 3 ?_
  rw [rounds_succ]
  go_wp2_with fail
  rw [rounds_succ]
  go_wp2_with fail
  rw [rounds_succ]
  go_wp2_with fail
  refine (hg.out _).mono ?_
  rintro e w1 ⟨a1, c1, rfl, ho, hb⟩
  have hgl : g < w.heap.size := World.block_lt_of_cell? (w := w) (a := ⟨g, 0, none⟩) k0
  have k2 := box_cell (b := g) (o := 0) hb k0
  have k3 := box_cell (b := g) (o := 1) hb k1
  have hx1 := hid (hx.below hb)
  have hy1 := hid hy
  replace hb := hid hb
  clear hx hy hg k0 k1
  go_wp2_with fail
  refine wp_loop_rounds 3 ?_
  rw [rounds_succ]
  have hX : Hid (Sl F w1 (.slice a n ca) n 1 (iv xs)) := hid (by
    have := hx1.out
    unfold Ints at this
    rw [hn.out] at this
    exact this)
  replace ho := hid ho
  have z1 := hb.out.size
  go_wp2_with (at_builtin; refine wpList_append_src rfl (.tmp 31) (.tmp 32) 22 rfl w.heap.size 3 i0 (.int .i64 0) 1 8 Try.underlying22 hi0 hz0 hz1 hz2 rfl (by decide) _ 0 [] rfl ho.out a n ca (iv xs) rfl F hX.out (iv_one _) ?c3 ?c4 ?c5 ?_)
  case c3 => unfold maxLen; omega
  case c4 => omega
  case c5 => omega
  intro v2 w2 ho2 hb2
  obtain ⟨a2, c2, rfl⟩ := own_shape ho2
  have k4 := box_cellB (b := g) (o := 0) hb2 hgl k2
  have k5 := box_cellB (b := g) (o := 1) hb2 hgl k3
  have hY : Hid (Sl G w2 (.slice b m cb) m 1 (iv ys)) := hid (by
    have h0 := hy1.out.below (hb.out.trans hb2)
    unfold Ints at h0
    rw [hm.out] at h0
    exact h0)
  have z2 := hb2.size
  replace hb2 := hid hb2
  replace ho2 := hid ho2
  clear k2 k3 hX ho
  go_wp2_with fail
  rw [rounds_succ]
  go_wp2_with (at_builtin; refine wpList_append_src rfl (.tmp 31) (.tmp 32) 22 rfl w.heap.size 3 i0 (.int .i64 0) 1 8 Try.underlying22 hi0 hz0 hz1 hz2 rfl (by decide) _ n (iv xs) rfl ho2.out b m cb (iv ys) rfl G hY.out (iv_one _) ?d3 ?d4 ?d5 ?_)
  case d3 => unfold maxLen; omega
  case d4 => omega
  case d5 => omega
  intro v3 w3 ho3 hb3
  obtain ⟨a3, c3, rfl⟩ := own_shape ho3
  rw [iv_append] at ho3
  replace hb3 := hid hb3
  replace ho3 := hid ho3
  clear k4 k5 hY ho2
  go_wp2_with fail
  rw [rounds_succ]
  go_wp2_with fail
  go_ret
  exact ⟨_, _, rfl, ho3.out, (by repeat (first | ((with_reducible refine Below.setCell ?_ ?_ _); rotate_left; exact (by first | omega | ((try dsimp only); ((repeat (first | rw [hs_setCell] | rw [hs_alloc] | rw [hs_drew] | rw [hs_drewN])) <;> omega)))) | ((with_reducible refine Below.alloc ?_ ?_ _); rotate_left; exact (by first | omega | ((try dsimp only); ((repeat (first | rw [hs_setCell] | rw [hs_alloc] | rw [hs_drew] | rw [hs_drewN])) <;> omega)))) | (with_reducible refine Below.drew ?_) | (with_reducible refine below_drewN ?_ _) | (with_reducible exact Below.refl _ _) | (with_reducible exact hb3.out) | (with_reducible exact hb2.out) | (with_reducible exact hb.out) | ((with_reducible refine Below.trans ?_ (Below.mono hb3.out ?_)); rotate_left; exact (by first | omega | ((try dsimp only); ((repeat (first | rw [hs_setCell] | rw [hs_alloc] | rw [hs_drew] | rw [hs_drewN])) <;> omega)))) | ((with_reducible refine Below.trans ?_ (Below.mono hb2.out ?_)); rotate_left; exact (by first | omega | ((try dsimp only); ((repeat (first | rw [hs_setCell] | rw [hs_alloc] | rw [hs_drew] | rw [hs_drewN])) <;> omega)))) | ((with_reducible refine Below.trans ?_ (Below.mono hb.out ?_)); rotate_left; exact (by first | omega | ((try dsimp only); ((repeat (first | rw [hs_setCell] | rw [hs_alloc] | rw [hs_drew] | rw [hs_drewN])) <;> omega))))))⟩

end Go.Proofs.Ythliojembgdjjaa
