/- ZoneE: filled, the closed fact on zones. -/
import Derived.Test.YthliojembgdjjaaZoneD
namespace Go.Proofs.Ythliojembgdjjaa
open Go.RowKit Go.Proofs
set_option linter.unusedVariables false
set_option maxRecDepth 100000

theorem heap_alloc_get (w : World) (o : Obj) : (w.alloc o).heap[w.heap.size]? = some o := by
  show (w.heap.push o)[w.heap.size]? = _
  simp

/-- what the drawn statement of 'filled' leaves -/
def FilledR (w : World) (b : Nat) (v1 v2 : Value) (s7 s8 : Value) (wx : World) : Prop :=
  s8 = .int .i64 0 ∧ ∃ (g : Nat) (a : Option Addr) (c : Nat), s7 = .pointer (some ⟨g, 0, none⟩) ∧ wx.cell? ⟨g, 0, none⟩ = some (.int .i64 4) ∧ wx.cell? ⟨g, 1, none⟩ = some (.slice a 8 c) ∧
    Ints T wx (.slice a 8 c) [5, 6, 0, 0, 0, 0, 0, 0] ∧ wx.cell? ⟨b, 0, none⟩ = some (.int .i64 1) ∧ wx.cell? ⟨b, 1, none⟩ = some v1 ∧ Ints T wx v1 [5, 6] ∧ Ints T wx v2 [6] ∧ Below w.heap.size w wx

set_option maxHeartbeats 4000000 in
theorem filled (w : World) : Calls Try.prog 24 #[] w fun e w' => e = .returned (.bool true) ∧ Below w.heap.size w w' := by
  go_enter Try.func24, Try.ntmps24
  go_wp2_with fail
  refine (zone_write T T _ _ _ ⟨0, []⟩ [5, 6] (ZoneV.mk (Ints.nil _ _)) ((ints_lit w [5, 6] 3 2 rfl (by decide) _ (heap_alloc_get _ _)).any)).mono ?_
  rintro e w1 ⟨s1, rfl, hs1, hb1⟩
  rw [show S.writeZone ⟨0, []⟩ [5, 6] = (⟨1, [5, 6]⟩, 0) from by decide] at hs1 ⊢
  obtain ⟨a1, c1, rfl⟩ := hs1.shape rfl
  have Hb1 := hid (Below.trans ((Below.refl w.heap.size w).alloc (Nat.le_refl _) _) (hb1.mono (by first | omega | ((try dsimp only); ((repeat (first | rw [hs_setCell] | rw [hs_alloc] | rw [hs_drew] | rw [hs_drewN])) <;> omega)))))
  have z1 := hb1.size
  simp only [hs_alloc] at z1
  clear hb1
  go_wp2_with fail
  refine (zone_read _ _ _ ⟨1, [5, 6]⟩ 1 1 (ZoneV.mk (hs1.below (by repeat (first | ((with_reducible refine Below.setCell ?_ ?_ _); rotate_left; exact (by first | omega | ((try dsimp only); ((repeat (first | rw [hs_setCell] | rw [hs_alloc] | rw [hs_drew] | rw [hs_drewN])) <;> omega)))) | ((with_reducible refine Below.alloc ?_ ?_ _); rotate_left; exact (by first | omega | ((try dsimp only); ((repeat (first | rw [hs_setCell] | rw [hs_alloc] | rw [hs_drew] | rw [hs_drewN])) <;> omega)))) | (with_reducible refine Below.drew ?_) | (with_reducible refine below_drewN ?_ _) | (with_reducible exact Below.refl _ _)))))).mono ?_
  rintro e w2 ⟨s2, rfl, hs2, hb2⟩
  rw [show S.readZone ⟨1, [5, 6]⟩ 1 1 = ([6], 0) from by decide] at hs2 ⊢
  obtain ⟨a2, c2, rfl⟩ := hs2.shape rfl
  have k1_0_0 := box_cell (b := w1.heap.size) (o := 0) (v := .int .i64 1) hb2 (by first | assumption | go_simp)
  have f1_0_0 := box_free (b := w1.heap.size) (o := 0) (v := .int .i64 1) hb2 (by go_simp) (by go_simp)
  have k1_0_1 := box_cell (b := w1.heap.size) (o := 1) (v := .slice a1 2 c1) hb2 (by first | assumption | go_simp)
  have f1_0_1 := box_free (b := w1.heap.size) (o := 1) (v := .slice a1 2 c1) hb2 (by go_simp) (by go_simp)
  have z1 := hb2.size
  try simp at z1
  have Hhb2 := hid hb2
  clear hb2 
  go_wp2_with fail
  refine (zone_read _ _ _ ⟨1, [5, 6]⟩ 1 2 (ZoneV.mk (hs1.below (by repeat (first | ((with_reducible refine Below.setCell ?_ ?_ _); rotate_left; exact (by first | omega | ((try dsimp only); ((repeat (first | rw [hs_setCell] | rw [hs_alloc] | rw [hs_drew] | rw [hs_drewN])) <;> omega)))) | ((with_reducible refine Below.alloc ?_ ?_ _); rotate_left; exact (by first | omega | ((try dsimp only); ((repeat (first | rw [hs_setCell] | rw [hs_alloc] | rw [hs_drew] | rw [hs_drewN])) <;> omega)))) | (with_reducible refine Below.drew ?_) | (with_reducible refine below_drewN ?_ _) | (with_reducible exact Below.refl _ _) | (with_reducible exact Hhb2.out) | ((with_reducible refine Below.trans ?_ (Below.mono Hhb2.out ?_)); rotate_left; exact (by first | omega | ((try dsimp only); ((repeat (first | rw [hs_setCell] | rw [hs_alloc] | rw [hs_drew] | rw [hs_drewN])) <;> omega))))))))).mono ?_
  rintro e w3 ⟨s3, rfl, hs3, hb3⟩
  rw [show S.readZone ⟨1, [5, 6]⟩ 1 2 = ([], 6) from by decide] at hs3 ⊢
  obtain ⟨a3, c3, rfl⟩ := hs3.shape rfl
  have k2_0_0 := box_cell (b := w1.heap.size) (o := 0) (v := .int .i64 1) hb3 (by first | assumption | go_simp)
  have f2_0_0 := box_free (b := w1.heap.size) (o := 0) (v := .int .i64 1) hb3 (by go_simp) (by go_simp)
  have k2_0_1 := box_cell (b := w1.heap.size) (o := 1) (v := .slice a1 2 c1) hb3 (by first | assumption | go_simp)
  have f2_0_1 := box_free (b := w1.heap.size) (o := 1) (v := .slice a1 2 c1) hb3 (by go_simp) (by go_simp)
  have z2 := hb3.size
  try simp at z2
  have Hhb3 := hid hb3
  clear hb3 k1_0_0 f1_0_0 k1_0_1 f1_0_1
  have hmk : ∀ w, (Instr.makeSlice 22 (.int .i64 6) (.int .i64 6)).run Try.prog w = .ok (.slice (some ⟨w.heap.size, 0, none⟩) 6 6) (w.alloc (.cells #[.int .i64 0, .int .i64 0, .int .i64 0, .int .i64 0, .int .i64 0, .int .i64 0] 3)) := fun _ => by kernel_rfl
  have q0 := cell_alloc k2_0_0
  have q1 := cell_alloc k2_0_1
  have q2 := cell_alloc2 k2_0_0
  have q3 := cell_alloc2 k2_0_1
  go_upto_region 4 with fail
  go_cut [7, 8] (fun s7 s8 wx => FilledR w w1.heap.size (.slice a1 2 c1) (.slice a2 1 c2) s7 s8 wx)
  case first =>
    go_region_with (
      go_at_call 23
      go_must (
      refine (zone_write T T _ _ _ ⟨1, [5, 6]⟩ [0, 0, 0, 0, 0, 0] (ZoneV.mk (hs1.any.below ?_)) (ints_at (T' := 3) rfl (by decide) ?_)).mono ?_
      · exact (by repeat (first | ((with_reducible refine Below.setCell ?_ ?_ _); rotate_left; exact (by first | omega | ((try dsimp only); ((repeat (first | rw [hs_setCell] | rw [hs_alloc] | rw [hs_drew] | rw [hs_drewN])) <;> omega)))) | ((with_reducible refine Below.alloc ?_ ?_ _); rotate_left; exact (by first | omega | ((try dsimp only); ((repeat (first | rw [hs_setCell] | rw [hs_alloc] | rw [hs_drew] | rw [hs_drewN])) <;> omega)))) | (with_reducible refine Below.drew ?_) | (with_reducible refine below_drewN ?_ _) | (with_reducible exact Below.refl _ _) | (with_reducible exact Hhb3.out) | (with_reducible exact Hhb2.out) | ((with_reducible refine Below.trans ?_ (Below.mono Hhb3.out ?_)); rotate_left; exact (by first | omega | ((try dsimp only); ((repeat (first | rw [hs_setCell] | rw [hs_alloc] | rw [hs_drew] | rw [hs_drewN])) <;> omega)))) | ((with_reducible refine Below.trans ?_ (Below.mono Hhb2.out ?_)); rotate_left; exact (by first | omega | ((try dsimp only); ((repeat (first | rw [hs_setCell] | rw [hs_alloc] | rw [hs_drew] | rw [hs_drewN])) <;> omega))))))
      · exact (by repeat (first | (with_reducible refine heap_drew ?_) | (with_reducible refine heap_drewN ?_) | (refine heap_alloc_at (by first | omega | ((try dsimp only); ((repeat (first | rw [hs_setCell] | rw [hs_alloc] | rw [hs_drew] | rw [hs_drewN])) <;> omega))) ?_; rfl) | (with_reducible refine heap_alloc_lt ?_)))
      rintro e w4 ⟨s4, rfl, hs4, hb4⟩
      rw [show S.writeZone ⟨1, [5, 6]⟩ [0, 0, 0, 0, 0, 0] = (⟨4, [5, 6, 0, 0, 0, 0, 0, 0]⟩, 0) from by decide] at hs4 ⊢
      obtain ⟨a4, c4, rfl⟩ := hs4.shape (n := 8) rfl
      obtain ⟨hc4, hf4⟩ := bcell hb4
      have hz4 := hb4.size
      simp at hz4
      have hb5 : Below w3.heap.size w3 w4 := below_from (by exact (by repeat (first | ((with_reducible refine Below.setCell ?_ ?_ _); rotate_left; exact (by first | omega | ((try dsimp only); ((repeat (first | rw [hs_setCell] | rw [hs_alloc] | rw [hs_drew] | rw [hs_drewN])) <;> omega)))) | ((with_reducible refine Below.alloc ?_ ?_ _); rotate_left; exact (by first | omega | ((try dsimp only); ((repeat (first | rw [hs_setCell] | rw [hs_alloc] | rw [hs_drew] | rw [hs_drewN])) <;> omega)))) | (with_reducible refine Below.drew ?_) | (with_reducible refine below_drewN ?_ _) | (with_reducible exact Below.refl _ _)))) hb4
      clear hb4
      have e0 := box_cellB (b := w1.heap.size) (o := 0) (v := .int .i64 1) hb5 (by first | omega | ((try dsimp only); ((repeat (first | rw [hs_setCell] | rw [hs_alloc] | rw [hs_drew] | rw [hs_drewN])) <;> omega))) (by assumption)
      have e1 := box_cellB (b := w1.heap.size) (o := 1) (v := .slice a1 2 c1) hb5 (by first | omega | ((try dsimp only); ((repeat (first | rw [hs_setCell] | rw [hs_alloc] | rw [hs_drew] | rw [hs_drewN])) <;> omega))) (by assumption)
      replace hb5 := hid hb5
      replace hs4 := hid hs4
      ))
    all_goals
      go_wp2_with fail
      go_meet
      refine ⟨rfl, _, a4, c4, rfl, ?_, ?_, (hs4.out.keep ?_).any, ?_, ?_, hs1.any.below ?_, hs2.any.below ?_, ?_⟩
      · first | (go_simp; done) | exact cell_set_other (cell_set_same (v0 := .int .i64 0) (by rw [hc4 _ _ (by first | omega | ((try dsimp only); ((repeat (first | rw [hs_setCell] | rw [hs_alloc] | rw [hs_drew] | rw [hs_drewN])) <;> omega)))]; go_simp) _) (Or.inr (by decide)) _
      · first | (go_simp; done) | exact cell_set_same (v0 := .slice none 0 0) (cell_set_other (by rw [hc4 _ _ (by first | omega | ((try dsimp only); ((repeat (first | rw [hs_setCell] | rw [hs_alloc] | rw [hs_drew] | rw [hs_drewN])) <;> omega)))]; go_simp) (Or.inr (by decide)) _) _
      · exact (by repeat (first | (with_reducible exact keeps_refl _ _) | (with_reducible refine keeps_alloc ?_ _) | (with_reducible refine keeps_drew ?_) | ((with_reducible refine keeps_setCell ?_ _ ?_); rotate_left; unfold From; exact (by first | omega | ((try dsimp only); ((repeat (first | rw [hs_setCell] | rw [hs_alloc] | rw [hs_drew] | rw [hs_drewN])) <;> omega))))))
      · exact (by repeat (first | (with_reducible exact e0) | (with_reducible refine cell_alloc ?_ _) | (with_reducible refine cell_drew ?_) | (with_reducible refine cell_drewN ?_) | ((with_reducible refine cell_set_other ?_ (Or.inl ?_) _); rotate_left; exact (by first | omega | ((try dsimp only); ((repeat (first | rw [hs_setCell] | rw [hs_alloc] | rw [hs_drew] | rw [hs_drewN])) <;> omega)))) | ((with_reducible refine cell_set_other ?_ (Or.inr ?_) _); rotate_left; exact (by first | omega | ((try dsimp only); ((repeat (first | rw [hs_setCell] | rw [hs_alloc] | rw [hs_drew] | rw [hs_drewN])) <;> omega))))))
      · exact (by repeat (first | (with_reducible exact e1) | (with_reducible refine cell_alloc ?_ _) | (with_reducible refine cell_drew ?_) | (with_reducible refine cell_drewN ?_) | ((with_reducible refine cell_set_other ?_ (Or.inl ?_) _); rotate_left; exact (by first | omega | ((try dsimp only); ((repeat (first | rw [hs_setCell] | rw [hs_alloc] | rw [hs_drew] | rw [hs_drewN])) <;> omega)))) | ((with_reducible refine cell_set_other ?_ (Or.inr ?_) _); rotate_left; exact (by first | omega | ((try dsimp only); ((repeat (first | rw [hs_setCell] | rw [hs_alloc] | rw [hs_drew] | rw [hs_drewN])) <;> omega))))))
      · exact (by repeat (first | ((with_reducible refine Below.setCell ?_ ?_ _); rotate_left; exact (by first | omega | ((try dsimp only); ((repeat (first | rw [hs_setCell] | rw [hs_alloc] | rw [hs_drew] | rw [hs_drewN])) <;> omega)))) | ((with_reducible refine Below.alloc ?_ ?_ _); rotate_left; exact (by first | omega | ((try dsimp only); ((repeat (first | rw [hs_setCell] | rw [hs_alloc] | rw [hs_drew] | rw [hs_drewN])) <;> omega)))) | (with_reducible refine Below.drew ?_) | (with_reducible refine below_drewN ?_ _) | (with_reducible exact Below.refl _ _) | (with_reducible exact hb5.out) | (with_reducible exact Hhb3.out) | (with_reducible exact Hhb2.out) | ((with_reducible refine Below.trans ?_ (Below.mono hb5.out ?_)); rotate_left; exact (by first | omega | ((try dsimp only); ((repeat (first | rw [hs_setCell] | rw [hs_alloc] | rw [hs_drew] | rw [hs_drewN])) <;> omega)))) | ((with_reducible refine Below.trans ?_ (Below.mono Hhb3.out ?_)); rotate_left; exact (by first | omega | ((try dsimp only); ((repeat (first | rw [hs_setCell] | rw [hs_alloc] | rw [hs_drew] | rw [hs_drewN])) <;> omega)))) | ((with_reducible refine Below.trans ?_ (Below.mono Hhb2.out ?_)); rotate_left; exact (by first | omega | ((try dsimp only); ((repeat (first | rw [hs_setCell] | rw [hs_alloc] | rw [hs_drew] | rw [hs_drewN])) <;> omega))))))
      · exact (by repeat (first | ((with_reducible refine Below.setCell ?_ ?_ _); rotate_left; exact (by first | omega | ((try dsimp only); ((repeat (first | rw [hs_setCell] | rw [hs_alloc] | rw [hs_drew] | rw [hs_drewN])) <;> omega)))) | ((with_reducible refine Below.alloc ?_ ?_ _); rotate_left; exact (by first | omega | ((try dsimp only); ((repeat (first | rw [hs_setCell] | rw [hs_alloc] | rw [hs_drew] | rw [hs_drewN])) <;> omega)))) | (with_reducible refine Below.drew ?_) | (with_reducible refine below_drewN ?_ _) | (with_reducible exact Below.refl _ _) | (with_reducible exact hb5.out) | (with_reducible exact Hhb3.out) | ((with_reducible refine Below.trans ?_ (Below.mono hb5.out ?_)); rotate_left; exact (by first | omega | ((try dsimp only); ((repeat (first | rw [hs_setCell] | rw [hs_alloc] | rw [hs_drew] | rw [hs_drewN])) <;> omega)))) | ((with_reducible refine Below.trans ?_ (Below.mono Hhb3.out ?_)); rotate_left; exact (by first | omega | ((try dsimp only); ((repeat (first | rw [hs_setCell] | rw [hs_alloc] | rw [hs_drew] | rw [hs_drewN])) <;> omega))))))
      · exact (by repeat (first | ((with_reducible refine Below.setCell ?_ ?_ _); rotate_left; exact (by first | omega | ((try dsimp only); ((repeat (first | rw [hs_setCell] | rw [hs_alloc] | rw [hs_drew] | rw [hs_drewN])) <;> omega)))) | ((with_reducible refine Below.alloc ?_ ?_ _); rotate_left; exact (by first | omega | ((try dsimp only); ((repeat (first | rw [hs_setCell] | rw [hs_alloc] | rw [hs_drew] | rw [hs_drewN])) <;> omega)))) | (with_reducible refine Below.drew ?_) | (with_reducible refine below_drewN ?_ _) | (with_reducible exact Below.refl _ _) | (with_reducible exact hb5.out) | (with_reducible exact Hhb3.out) | (with_reducible exact Hhb2.out) | (with_reducible exact Hb1.out) | ((with_reducible refine Below.trans ?_ (Below.mono hb5.out ?_)); rotate_left; exact (by first | omega | ((try dsimp only); ((repeat (first | rw [hs_setCell] | rw [hs_alloc] | rw [hs_drew] | rw [hs_drewN])) <;> omega)))) | ((with_reducible refine Below.trans ?_ (Below.mono Hhb3.out ?_)); rotate_left; exact (by first | omega | ((try dsimp only); ((repeat (first | rw [hs_setCell] | rw [hs_alloc] | rw [hs_drew] | rw [hs_drewN])) <;> omega)))) | ((with_reducible refine Below.trans ?_ (Below.mono Hhb2.out ?_)); rotate_left; exact (by first | omega | ((try dsimp only); ((repeat (first | rw [hs_setCell] | rw [hs_alloc] | rw [hs_drew] | rw [hs_drewN])) <;> omega)))) | ((with_reducible refine Below.trans ?_ (Below.mono Hb1.out ?_)); rotate_left; exact (by first | omega | ((try dsimp only); ((repeat (first | rw [hs_setCell] | rw [hs_alloc] | rw [hs_drew] | rw [hs_drewN])) <;> omega))))))
  case rest =>
    obtain ⟨rfl, g, a4, c4, rfl, k1, k2, hf, k3, k4, hz, h6, hB⟩ := hcut
    have zB := hB.size
    replace hB := hid hB
    clear Hhb3 Hhb2 Hb1 q0 q1 q2 q3 hmk hs1 hs2 hs3
    go_wp2_with fail
    refine (zone_write T T _ _ _ ⟨4, [5, 6, 0, 0, 0, 0, 0, 0]⟩ [1] (ZoneV.mk (hf.below (by repeat (first | ((with_reducible refine Below.setCell ?_ ?_ _); rotate_left; exact (by first | omega | ((try dsimp only); ((repeat (first | rw [hs_setCell] | rw [hs_alloc] | rw [hs_drew] | rw [hs_drewN])) <;> omega)))) | ((with_reducible refine Below.alloc ?_ ?_ _); rotate_left; exact (by first | omega | ((try dsimp only); ((repeat (first | rw [hs_setCell] | rw [hs_alloc] | rw [hs_drew] | rw [hs_drewN])) <;> omega)))) | (with_reducible refine Below.drew ?_) | (with_reducible refine below_drewN ?_ _) | (with_reducible exact Below.refl _ _))))) (ints_at (T' := 3) rfl (by decide) (by repeat (first | (with_reducible refine heap_drew ?_) | (with_reducible refine heap_drewN ?_) | (refine heap_alloc_at (by first | omega | ((try dsimp only); ((repeat (first | rw [hs_setCell] | rw [hs_alloc] | rw [hs_drew] | rw [hs_drewN])) <;> omega))) ?_; rfl) | (with_reducible refine heap_alloc_lt ?_))))).mono ?_
    rintro e w5 ⟨s5, rfl, hs5, hb5⟩
    rw [show S.writeZone ⟨4, [5, 6, 0, 0, 0, 0, 0, 0]⟩ [1] = (⟨0, []⟩, 7) from by decide] at hs5 ⊢
    obtain ⟨a5, c5, rfl⟩ := hs5.shape (n := 0) rfl
    have hc5 : Below wc.heap.size wc w5 := below_from (by repeat (first | ((with_reducible refine Below.setCell ?_ ?_ _); rotate_left; exact (by first | omega | ((try dsimp only); ((repeat (first | rw [hs_setCell] | rw [hs_alloc] | rw [hs_drew] | rw [hs_drewN])) <;> omega)))) | ((with_reducible refine Below.alloc ?_ ?_ _); rotate_left; exact (by first | omega | ((try dsimp only); ((repeat (first | rw [hs_setCell] | rw [hs_alloc] | rw [hs_drew] | rw [hs_drewN])) <;> omega)))) | (with_reducible refine Below.drew ?_) | (with_reducible refine below_drewN ?_ _) | (with_reducible exact Below.refl _ _))) hb5
    clear hb5
    have k3_0_0 := box_cell (b := g) (o := 0) (v := .int .i64 4) hc5 (by first | assumption | go_simp)
    have q3_0_0 := cell_alloc k3_0_0
    have r3_0_0 := cell_alloc2 k3_0_0
    have k3_0_1 := box_cell (b := g) (o := 1) (v := .slice a4 8 c4) hc5 (by first | assumption | go_simp)
    have q3_0_1 := cell_alloc k3_0_1
    have r3_0_1 := cell_alloc2 k3_0_1
    have k3_1_0 := box_cell (b := w1.heap.size) (o := 0) (v := .int .i64 1) hc5 (by first | assumption | go_simp)
    have q3_1_0 := cell_alloc k3_1_0
    have r3_1_0 := cell_alloc2 k3_1_0
    have k3_1_1 := box_cell (b := w1.heap.size) (o := 1) (v := .slice a1 2 c1) hc5 (by first | assumption | go_simp)
    have q3_1_1 := cell_alloc k3_1_1
    have r3_1_1 := cell_alloc2 k3_1_1
    have z3 := hc5.size
    try simp at z3
    have Hhc5 := hid hc5
    clear hc5 k2_0_0 f2_0_0 k2_0_1 f2_0_1
    go_wp2_with fail
    refine (equal_int T T _ _ _ [6] [6] (h6.below (by repeat (first | ((with_reducible refine Below.setCell ?_ ?_ _); rotate_left; exact (by first | omega | ((try dsimp only); ((repeat (first | rw [hs_setCell] | rw [hs_alloc] | rw [hs_drew] | rw [hs_drewN])) <;> omega)))) | ((with_reducible refine Below.alloc ?_ ?_ _); rotate_left; exact (by first | omega | ((try dsimp only); ((repeat (first | rw [hs_setCell] | rw [hs_alloc] | rw [hs_drew] | rw [hs_drewN])) <;> omega)))) | (with_reducible refine Below.drew ?_) | (with_reducible refine below_drewN ?_ _) | (with_reducible exact Below.refl _ _) | (with_reducible exact Hhc5.out) | ((with_reducible refine Below.trans ?_ (Below.mono Hhc5.out ?_)); rotate_left; exact (by first | omega | ((try dsimp only); ((repeat (first | rw [hs_setCell] | rw [hs_alloc] | rw [hs_drew] | rw [hs_drewN])) <;> omega))))))) (ints_at (T' := 3) rfl (by decide) (by repeat (first | (with_reducible refine heap_drew ?_) | (with_reducible refine heap_drewN ?_) | (refine heap_alloc_at (by first | omega | ((try dsimp only); ((repeat (first | rw [hs_setCell] | rw [hs_alloc] | rw [hs_drew] | rw [hs_drewN])) <;> omega))) ?_; rfl) | (with_reducible refine heap_alloc_lt ?_))))).mono ?_
    rintro e w6 ⟨rfl, hb6⟩
    rw [show decide (([6] : List Int) = [6]) = true from by decide]
    have hc6 : Below w5.heap.size w5 w6 := below_from (by repeat (first | ((with_reducible refine Below.setCell ?_ ?_ _); rotate_left; exact (by first | omega | ((try dsimp only); ((repeat (first | rw [hs_setCell] | rw [hs_alloc] | rw [hs_drew] | rw [hs_drewN])) <;> omega)))) | ((with_reducible refine Below.alloc ?_ ?_ _); rotate_left; exact (by first | omega | ((try dsimp only); ((repeat (first | rw [hs_setCell] | rw [hs_alloc] | rw [hs_drew] | rw [hs_drewN])) <;> omega)))) | (with_reducible refine Below.drew ?_) | (with_reducible refine below_drewN ?_ _) | (with_reducible exact Below.refl _ _))) hb6
    clear hb6
    have k4_0_0 := box_cell (b := g) (o := 0) (v := .int .i64 4) hc6 (by first | assumption | go_simp)
    have q4_0_0 := cell_alloc k4_0_0
    have r4_0_0 := cell_alloc2 k4_0_0
    have k4_0_1 := box_cell (b := g) (o := 1) (v := .slice a4 8 c4) hc6 (by first | assumption | go_simp)
    have q4_0_1 := cell_alloc k4_0_1
    have r4_0_1 := cell_alloc2 k4_0_1
    have k4_1_0 := box_cell (b := w1.heap.size) (o := 0) (v := .int .i64 1) hc6 (by first | assumption | go_simp)
    have q4_1_0 := cell_alloc k4_1_0
    have r4_1_0 := cell_alloc2 k4_1_0
    have k4_1_1 := box_cell (b := w1.heap.size) (o := 1) (v := .slice a1 2 c1) hc6 (by first | assumption | go_simp)
    have q4_1_1 := cell_alloc k4_1_1
    have r4_1_1 := cell_alloc2 k4_1_1
    have z4 := hc6.size
    try simp at z4
    have Hhc6 := hid hc6
    clear hc6 q3_0_0 r3_0_0 k3_0_0 q3_0_1 r3_0_1 k3_0_1 q3_1_0 r3_1_0 k3_1_0 q3_1_1 r3_1_1 k3_1_1
    go_wp2_with fail
    refine (zone_check T _ _ ⟨3, []⟩ (ZoneV.mk (Ints.nil _ _))).mono ?_
    rintro e w7 ⟨rfl, hb7⟩
    rw [show S.checkZone ⟨3, []⟩ = 4 from by decide]
    have k5_0_0 := box_cell (b := g) (o := 0) (v := .int .i64 4) hb7 (by first | assumption | go_simp)
    have q5_0_0 := cell_alloc k5_0_0
    have r5_0_0 := cell_alloc2 k5_0_0
    have k5_0_1 := box_cell (b := g) (o := 1) (v := .slice a4 8 c4) hb7 (by first | assumption | go_simp)
    have q5_0_1 := cell_alloc k5_0_1
    have r5_0_1 := cell_alloc2 k5_0_1
    have k5_1_0 := box_cell (b := w1.heap.size) (o := 0) (v := .int .i64 1) hb7 (by first | assumption | go_simp)
    have q5_1_0 := cell_alloc k5_1_0
    have r5_1_0 := cell_alloc2 k5_1_0
    have k5_1_1 := box_cell (b := w1.heap.size) (o := 1) (v := .slice a1 2 c1) hb7 (by first | assumption | go_simp)
    have q5_1_1 := cell_alloc k5_1_1
    have r5_1_1 := cell_alloc2 k5_1_1
    have z5 := hb7.size
    try simp at z5
    have Hhb7 := hid hb7
    clear hb7 q4_0_0 r4_0_0 k4_0_0 q4_0_1 r4_0_1 k4_0_1 q4_1_0 r4_1_0 k4_1_0 q4_1_1 r4_1_1 k4_1_1
    go_wp2_with fail
    refine (zone_same T T _ _ _ ⟨1, [5, 6]⟩ ⟨1, [5, 6]⟩ (ZoneV.mk (hz.below (by repeat (first | ((with_reducible refine Below.setCell ?_ ?_ _); rotate_left; exact (by first | omega | ((try dsimp only); ((repeat (first | rw [hs_setCell] | rw [hs_alloc] | rw [hs_drew] | rw [hs_drewN])) <;> omega)))) | ((with_reducible refine Below.alloc ?_ ?_ _); rotate_left; exact (by first | omega | ((try dsimp only); ((repeat (first | rw [hs_setCell] | rw [hs_alloc] | rw [hs_drew] | rw [hs_drewN])) <;> omega)))) | (with_reducible refine Below.drew ?_) | (with_reducible refine below_drewN ?_ _) | (with_reducible exact Below.refl _ _) | (with_reducible exact Hhb7.out) | (with_reducible exact Hhc6.out) | (with_reducible exact Hhc5.out) | ((with_reducible refine Below.trans ?_ (Below.mono Hhb7.out ?_)); rotate_left; exact (by first | omega | ((try dsimp only); ((repeat (first | rw [hs_setCell] | rw [hs_alloc] | rw [hs_drew] | rw [hs_drewN])) <;> omega)))) | ((with_reducible refine Below.trans ?_ (Below.mono Hhc6.out ?_)); rotate_left; exact (by first | omega | ((try dsimp only); ((repeat (first | rw [hs_setCell] | rw [hs_alloc] | rw [hs_drew] | rw [hs_drewN])) <;> omega)))) | ((with_reducible refine Below.trans ?_ (Below.mono Hhc5.out ?_)); rotate_left; exact (by first | omega | ((try dsimp only); ((repeat (first | rw [hs_setCell] | rw [hs_alloc] | rw [hs_drew] | rw [hs_drewN])) <;> omega)))))))) (ZoneV.mk (hz.below (by repeat (first | ((with_reducible refine Below.setCell ?_ ?_ _); rotate_left; exact (by first | omega | ((try dsimp only); ((repeat (first | rw [hs_setCell] | rw [hs_alloc] | rw [hs_drew] | rw [hs_drewN])) <;> omega)))) | ((with_reducible refine Below.alloc ?_ ?_ _); rotate_left; exact (by first | omega | ((try dsimp only); ((repeat (first | rw [hs_setCell] | rw [hs_alloc] | rw [hs_drew] | rw [hs_drewN])) <;> omega)))) | (with_reducible refine Below.drew ?_) | (with_reducible refine below_drewN ?_ _) | (with_reducible exact Below.refl _ _) | (with_reducible exact Hhb7.out) | (with_reducible exact Hhc6.out) | (with_reducible exact Hhc5.out) | ((with_reducible refine Below.trans ?_ (Below.mono Hhb7.out ?_)); rotate_left; exact (by first | omega | ((try dsimp only); ((repeat (first | rw [hs_setCell] | rw [hs_alloc] | rw [hs_drew] | rw [hs_drewN])) <;> omega)))) | ((with_reducible refine Below.trans ?_ (Below.mono Hhc6.out ?_)); rotate_left; exact (by first | omega | ((try dsimp only); ((repeat (first | rw [hs_setCell] | rw [hs_alloc] | rw [hs_drew] | rw [hs_drewN])) <;> omega)))) | ((with_reducible refine Below.trans ?_ (Below.mono Hhc5.out ?_)); rotate_left; exact (by first | omega | ((try dsimp only); ((repeat (first | rw [hs_setCell] | rw [hs_alloc] | rw [hs_drew] | rw [hs_drewN])) <;> omega))))))))).mono ?_
    rintro e w8 ⟨rfl, hb8⟩
    rw [show decide ((⟨1, [5, 6]⟩ : S.Zone) = ⟨1, [5, 6]⟩) = true from by decide]
    replace hb8 := hid hb8
    go_wp2_with fail
    go_ret
    exact ⟨rfl, (by repeat (first | ((with_reducible refine Below.setCell ?_ ?_ _); rotate_left; exact (by first | omega | ((try dsimp only); ((repeat (first | rw [hs_setCell] | rw [hs_alloc] | rw [hs_drew] | rw [hs_drewN])) <;> omega)))) | ((with_reducible refine Below.alloc ?_ ?_ _); rotate_left; exact (by first | omega | ((try dsimp only); ((repeat (first | rw [hs_setCell] | rw [hs_alloc] | rw [hs_drew] | rw [hs_drewN])) <;> omega)))) | (with_reducible refine Below.drew ?_) | (with_reducible refine below_drewN ?_ _) | (with_reducible exact Below.refl _ _) | (with_reducible exact hb8.out) | (with_reducible exact Hhb7.out) | (with_reducible exact Hhc6.out) | (with_reducible exact Hhc5.out) | (with_reducible exact hB.out) | ((with_reducible refine Below.trans ?_ (Below.mono hb8.out ?_)); rotate_left; exact (by first | omega | ((try dsimp only); ((repeat (first | rw [hs_setCell] | rw [hs_alloc] | rw [hs_drew] | rw [hs_drewN])) <;> omega)))) | ((with_reducible refine Below.trans ?_ (Below.mono Hhb7.out ?_)); rotate_left; exact (by first | omega | ((try dsimp only); ((repeat (first | rw [hs_setCell] | rw [hs_alloc] | rw [hs_drew] | rw [hs_drewN])) <;> omega)))) | ((with_reducible refine Below.trans ?_ (Below.mono Hhc6.out ?_)); rotate_left; exact (by first | omega | ((try dsimp only); ((repeat (first | rw [hs_setCell] | rw [hs_alloc] | rw [hs_drew] | rw [hs_drewN])) <;> omega)))) | ((with_reducible refine Below.trans ?_ (Below.mono Hhc5.out ?_)); rotate_left; exact (by first | omega | ((try dsimp only); ((repeat (first | rw [hs_setCell] | rw [hs_alloc] | rw [hs_drew] | rw [hs_drewN])) <;> omega)))) | ((with_reducible refine Below.trans ?_ (Below.mono hB.out ?_)); rotate_left; exact (by first | omega | ((try dsimp only); ((repeat (first | rw [hs_setCell] | rw [hs_alloc] | rw [hs_drew] | rw [hs_drewN])) <;> omega))))))⟩

end Go.Proofs.Ythliojembgdjjaa
