/- ZoneK: the walk of the law ZoneKeeps. -/
import Derived.Test.YthliojembgdjjaaZoneE
import Derived.Test.YthliojembgdjjaaPlainZone
namespace Go.Proofs.Ythliojembgdjjaa
open Go.RowKit Go.Proofs
set_option linter.unusedVariables false
set_option maxRecDepth 100000

set_option maxHeartbeats 4000000 in
theorem law_zoneKeeps (F G : Nat → Prop) (w : World) (v u : Value) (z : S.Zone) (l : List Int) (k n : Int) (hz : ZoneV F w v z) (hl : Ints G w u l) :
    Calls Try.prog 3 #[v, u, .int .i64 k, .int .i64 n] w fun e w' => e = .returned (.bool true) ∧ Below w.heap.size w w' := by
  obtain ⟨s, rfl, hi⟩ := hz
  obtain ⟨st, xs⟩ := z
  simp only at hi
  generalize hr : S.writeZone ⟨st, xs⟩ l = r
  obtain ⟨⟨rst, rd⟩, re⟩ := r
  obtain ⟨m, a, cap, rfl, hm, -, -, -, -⟩ := hi.open
  obtain ⟨m2, b, cap2, rfl, hm2, -, -, -, -⟩ := hl.open
  by_cases c : re = 0
  · subst c
    have hp := S.write_parts (z := ⟨st, xs⟩) (l := l) (by rw [hr])
    have hw := S.write_read (z := ⟨st, xs⟩) (l := l) (by rw [hr])
    have hn := fun k n => S.read_new (z := ⟨st, xs⟩) (l := l) (k := k) (n := n) (by rw [hr])
    rw [hr] at hp hw hn
    simp only [hm.out, hm2.out] at hp hw hn
    obtain ⟨hc, g1, g2, -, -, g5, -, hk⟩ := hp
    have ho := fun k n => S.read_old (z := ⟨st, xs⟩) (k := k) (n := n) hc
    simp only [hm.out] at ho
    have ha1 := S.at_range k (m + 1) (by omega)
    generalize hkk : S.at_ k (m + 1) = kk at *
    have ha2 := S.at_range n (m - kk + 1) (by omega)
    generalize hnn : S.at_ n (m - kk + 1) = nn at *
    have hw1 := ho kk nn (by omega) (by omega) (by omega)
    have hw2 := hn kk nn (by omega) (by omega) (by omega)
    generalize (xs.drop kk.toNat).take nn.toNat = ds at hw1 hw2
    obtain ⟨ln, hln⟩ : ∃ ln, ds.length = ln := ⟨_, rfl⟩
    replace hln := hid hln
    replace hw1 := hid hw1
    replace hw2 := hid hw2
    obtain ⟨a1, a2⟩ := ha1
    obtain ⟨a3, a4⟩ := ha2
    replace hr := hid hr
    replace hw := hid hw
    replace hkk := hid hkk
    replace hnn := hid hnn
    replace hk := hid hk
    clear hn ho hc
    go_enter Try.func3, Try.ntmps3
    go_wp2_with fail
    refine (zone_write F G _ _ _ ⟨_, xs⟩ l (ZoneV.mk (hi.below (by repeat (first | ((with_reducible refine Below.setCell ?_ ?_ _); rotate_left; exact (by first | omega | ((try dsimp only); ((repeat (first | rw [hs_setCell] | rw [hs_alloc] | rw [hs_drew] | rw [hs_drewN])) <;> omega)))) | ((with_reducible refine Below.alloc ?_ ?_ _); rotate_left; exact (by first | omega | ((try dsimp only); ((repeat (first | rw [hs_setCell] | rw [hs_alloc] | rw [hs_drew] | rw [hs_drewN])) <;> omega)))) | (with_reducible refine Below.drew ?_) | (with_reducible refine below_drewN ?_ _) | (with_reducible exact Below.refl _ _))))) (hl.below (by repeat (first | ((with_reducible refine Below.setCell ?_ ?_ _); rotate_left; exact (by first | omega | ((try dsimp only); ((repeat (first | rw [hs_setCell] | rw [hs_alloc] | rw [hs_drew] | rw [hs_drewN])) <;> omega)))) | ((with_reducible refine Below.alloc ?_ ?_ _); rotate_left; exact (by first | omega | ((try dsimp only); ((repeat (first | rw [hs_setCell] | rw [hs_alloc] | rw [hs_drew] | rw [hs_drewN])) <;> omega)))) | (with_reducible refine Below.drew ?_) | (with_reducible refine below_drewN ?_ _) | (with_reducible exact Below.refl _ _))))).mono ?_
    rintro e w1 ⟨s1, rfl, hs1, hb1⟩
    rw [hr.out] at hs1 ⊢
    simp only at hs1 ⊢
    obtain ⟨lr, hlr⟩ : ∃ lr, rd.length = lr := ⟨_, rfl⟩
    obtain ⟨x1, y1, rfl⟩ := hs1.shape hlr
    replace hlr := hid hlr
    have k1_0_0 := box_cell (b := w.heap.size) (o := 0) (v := .int .i64 st) hb1 (by first | assumption | go_simp)
    have q1_0_0 := cell_alloc k1_0_0
    have r1_0_0 := cell_alloc2 k1_0_0
    have k1_0_1 := box_cell (b := w.heap.size) (o := 1) (v := .slice a m cap) hb1 (by first | assumption | go_simp)
    have q1_0_1 := cell_alloc k1_0_1
    have r1_0_1 := cell_alloc2 k1_0_1
    have z1 := hb1.size
    try simp at z1
    have Hhb1 := hid hb1
    clear hb1 
    go_wp2_with fail
    refine (filled _).mono ?_
    rintro e w2 ⟨rfl, hb2⟩
    have k2_0_0 := box_cell (b := w.heap.size) (o := 0) (v := .int .i64 st) hb2 (by first | assumption | go_simp)
    have q2_0_0 := cell_alloc k2_0_0
    have r2_0_0 := cell_alloc2 k2_0_0
    have k2_0_1 := box_cell (b := w.heap.size) (o := 1) (v := .slice a m cap) hb2 (by first | assumption | go_simp)
    have q2_0_1 := cell_alloc k2_0_1
    have r2_0_1 := cell_alloc2 k2_0_1
    have k2_1_0 := box_cell (b := w1.heap.size) (o := 0) (v := .int .i64 rst) hb2 (by first | assumption | go_simp)
    have q2_1_0 := cell_alloc k2_1_0
    have r2_1_0 := cell_alloc2 k2_1_0
    have k2_1_1 := box_cell (b := w1.heap.size) (o := 1) (v := .slice x1 lr y1) hb2 (by first | assumption | go_simp)
    have q2_1_1 := cell_alloc k2_1_1
    have r2_1_1 := cell_alloc2 k2_1_1
    have z2 := hb2.size
    try simp at z2
    have Hhb2 := hid hb2
    clear hb2 q1_0_0 r1_0_0 k1_0_0 q1_0_1 r1_0_1 k1_0_1
    go_wp2_with fail
    refine (zone_read _ _ _ ⟨rst, rd⟩ m m2 (ZoneV.mk (hs1.below (by repeat (first | ((with_reducible refine Below.setCell ?_ ?_ _); rotate_left; exact (by first | omega | ((try dsimp only); ((repeat (first | rw [hs_setCell] | rw [hs_alloc] | rw [hs_drew] | rw [hs_drewN])) <;> omega)))) | ((with_reducible refine Below.alloc ?_ ?_ _); rotate_left; exact (by first | omega | ((try dsimp only); ((repeat (first | rw [hs_setCell] | rw [hs_alloc] | rw [hs_drew] | rw [hs_drewN])) <;> omega)))) | (with_reducible refine Below.drew ?_) | (with_reducible refine below_drewN ?_ _) | (with_reducible exact Below.refl _ _) | (with_reducible exact Hhb2.out) | ((with_reducible refine Below.trans ?_ (Below.mono Hhb2.out ?_)); rotate_left; exact (by first | omega | ((try dsimp only); ((repeat (first | rw [hs_setCell] | rw [hs_alloc] | rw [hs_drew] | rw [hs_drewN])) <;> omega))))))))).mono ?_
    rintro e w3 ⟨s3, rfl, hs3, hb3⟩
    rw [hw.out] at hs3 ⊢
    simp only at hs3 ⊢
    obtain ⟨x3, y3, rfl⟩ := hs3.shape hm2.out
    have k3_0_0 := box_cell (b := w.heap.size) (o := 0) (v := .int .i64 st) hb3 (by first | assumption | go_simp)
    have q3_0_0 := cell_alloc k3_0_0
    have r3_0_0 := cell_alloc2 k3_0_0
    have k3_0_1 := box_cell (b := w.heap.size) (o := 1) (v := .slice a m cap) hb3 (by first | assumption | go_simp)
    have q3_0_1 := cell_alloc k3_0_1
    have r3_0_1 := cell_alloc2 k3_0_1
    have k3_1_0 := box_cell (b := w1.heap.size) (o := 0) (v := .int .i64 rst) hb3 (by first | assumption | go_simp)
    have q3_1_0 := cell_alloc k3_1_0
    have r3_1_0 := cell_alloc2 k3_1_0
    have k3_1_1 := box_cell (b := w1.heap.size) (o := 1) (v := .slice x1 lr y1) hb3 (by first | assumption | go_simp)
    have q3_1_1 := cell_alloc k3_1_1
    have r3_1_1 := cell_alloc2 k3_1_1
    have z3 := hb3.size
    try simp at z3
    have Hhb3 := hid hb3
    clear hb3 q2_0_0 r2_0_0 k2_0_0 q2_0_1 r2_0_1 k2_0_1 q2_1_0 r2_1_0 k2_1_0 q2_1_1 r2_1_1 k2_1_1
    go_wp2_with fail
    refine (equal_int _ G _ _ _ l l hs3 (hl.below (by repeat (first | ((with_reducible refine Below.setCell ?_ ?_ _); rotate_left; exact (by first | omega | ((try dsimp only); ((repeat (first | rw [hs_setCell] | rw [hs_alloc] | rw [hs_drew] | rw [hs_drewN])) <;> omega)))) | ((with_reducible refine Below.alloc ?_ ?_ _); rotate_left; exact (by first | omega | ((try dsimp only); ((repeat (first | rw [hs_setCell] | rw [hs_alloc] | rw [hs_drew] | rw [hs_drewN])) <;> omega)))) | (with_reducible refine Below.drew ?_) | (with_reducible refine below_drewN ?_ _) | (with_reducible exact Below.refl _ _) | (with_reducible exact Hhb3.out) | (with_reducible exact Hhb2.out) | (with_reducible exact Hhb1.out) | ((with_reducible refine Below.trans ?_ (Below.mono Hhb3.out ?_)); rotate_left; exact (by first | omega | ((try dsimp only); ((repeat (first | rw [hs_setCell] | rw [hs_alloc] | rw [hs_drew] | rw [hs_drewN])) <;> omega)))) | ((with_reducible refine Below.trans ?_ (Below.mono Hhb2.out ?_)); rotate_left; exact (by first | omega | ((try dsimp only); ((repeat (first | rw [hs_setCell] | rw [hs_alloc] | rw [hs_drew] | rw [hs_drewN])) <;> omega)))) | ((with_reducible refine Below.trans ?_ (Below.mono Hhb1.out ?_)); rotate_left; exact (by first | omega | ((try dsimp only); ((repeat (first | rw [hs_setCell] | rw [hs_alloc] | rw [hs_drew] | rw [hs_drewN])) <;> omega)))))))).mono ?_
    rintro e w4 ⟨rfl, hb4⟩
    rw [decide_eq_true (rfl : l = l)]
    have k4_0_0 := box_cell (b := w.heap.size) (o := 0) (v := .int .i64 st) hb4 (by first | assumption | go_simp)
    have q4_0_0 := cell_alloc k4_0_0
    have r4_0_0 := cell_alloc2 k4_0_0
    have k4_0_1 := box_cell (b := w.heap.size) (o := 1) (v := .slice a m cap) hb4 (by first | assumption | go_simp)
    have q4_0_1 := cell_alloc k4_0_1
    have r4_0_1 := cell_alloc2 k4_0_1
    have k4_1_0 := box_cell (b := w1.heap.size) (o := 0) (v := .int .i64 rst) hb4 (by first | assumption | go_simp)
    have q4_1_0 := cell_alloc k4_1_0
    have r4_1_0 := cell_alloc2 k4_1_0
    have k4_1_1 := box_cell (b := w1.heap.size) (o := 1) (v := .slice x1 lr y1) hb4 (by first | assumption | go_simp)
    have q4_1_1 := cell_alloc k4_1_1
    have r4_1_1 := cell_alloc2 k4_1_1
    have z4 := hb4.size
    try simp at z4
    have Hhb4 := hid hb4
    clear hb4 q3_0_0 r3_0_0 k3_0_0 q3_0_1 r3_0_1 k3_0_1 q3_1_0 r3_1_0 k3_1_0 q3_1_1 r3_1_1 k3_1_1
    go_wp2_with fail
    refine (zone_check _ _ _ ⟨rst, rd⟩ (ZoneV.mk (hs1.below (by repeat (first | ((with_reducible refine Below.setCell ?_ ?_ _); rotate_left; exact (by first | omega | ((try dsimp only); ((repeat (first | rw [hs_setCell] | rw [hs_alloc] | rw [hs_drew] | rw [hs_drewN])) <;> omega)))) | ((with_reducible refine Below.alloc ?_ ?_ _); rotate_left; exact (by first | omega | ((try dsimp only); ((repeat (first | rw [hs_setCell] | rw [hs_alloc] | rw [hs_drew] | rw [hs_drewN])) <;> omega)))) | (with_reducible refine Below.drew ?_) | (with_reducible refine below_drewN ?_ _) | (with_reducible exact Below.refl _ _) | (with_reducible exact Hhb4.out) | (with_reducible exact Hhb3.out) | (with_reducible exact Hhb2.out) | ((with_reducible refine Below.trans ?_ (Below.mono Hhb4.out ?_)); rotate_left; exact (by first | omega | ((try dsimp only); ((repeat (first | rw [hs_setCell] | rw [hs_alloc] | rw [hs_drew] | rw [hs_drewN])) <;> omega)))) | ((with_reducible refine Below.trans ?_ (Below.mono Hhb3.out ?_)); rotate_left; exact (by first | omega | ((try dsimp only); ((repeat (first | rw [hs_setCell] | rw [hs_alloc] | rw [hs_drew] | rw [hs_drewN])) <;> omega)))) | ((with_reducible refine Below.trans ?_ (Below.mono Hhb2.out ?_)); rotate_left; exact (by first | omega | ((try dsimp only); ((repeat (first | rw [hs_setCell] | rw [hs_alloc] | rw [hs_drew] | rw [hs_drewN])) <;> omega))))))))).mono ?_
    rintro e w5 ⟨rfl, hb5⟩
    rw [hk.out]
    have k5_0_0 := box_cell (b := w.heap.size) (o := 0) (v := .int .i64 st) hb5 (by first | assumption | go_simp)
    have q5_0_0 := cell_alloc k5_0_0
    have r5_0_0 := cell_alloc2 k5_0_0
    have k5_0_1 := box_cell (b := w.heap.size) (o := 1) (v := .slice a m cap) hb5 (by first | assumption | go_simp)
    have q5_0_1 := cell_alloc k5_0_1
    have r5_0_1 := cell_alloc2 k5_0_1
    have k5_1_0 := box_cell (b := w1.heap.size) (o := 0) (v := .int .i64 rst) hb5 (by first | assumption | go_simp)
    have q5_1_0 := cell_alloc k5_1_0
    have r5_1_0 := cell_alloc2 k5_1_0
    have k5_1_1 := box_cell (b := w1.heap.size) (o := 1) (v := .slice x1 lr y1) hb5 (by first | assumption | go_simp)
    have q5_1_1 := cell_alloc k5_1_1
    have r5_1_1 := cell_alloc2 k5_1_1
    have z5 := hb5.size
    try simp at z5
    have Hhb5 := hid hb5
    clear hb5 q4_0_0 r4_0_0 k4_0_0 q4_0_1 r4_0_1 k4_0_1 q4_1_0 r4_1_0 k4_1_0 q4_1_1 r4_1_1 k4_1_1
    go_wp2_with fail
    refine (law_at k (m + 1) _ (by omega) (by omega)).mono ?_
    rintro e w6 ⟨rfl, rfl⟩
    rw [hkk.out]
    go_wp2_with fail
    refine (law_at n (m - kk + 1) _ (by omega) (by omega)).mono ?_
    rintro e w6 ⟨rfl, rfl⟩
    rw [hnn.out]
    go_wp2_with fail
    refine (zone_read _ _ _ ⟨st, xs⟩ kk nn (ZoneV.mk (hi.below (by repeat (first | ((with_reducible refine Below.setCell ?_ ?_ _); rotate_left; exact (by first | omega | ((try dsimp only); ((repeat (first | rw [hs_setCell] | rw [hs_alloc] | rw [hs_drew] | rw [hs_drewN])) <;> omega)))) | ((with_reducible refine Below.alloc ?_ ?_ _); rotate_left; exact (by first | omega | ((try dsimp only); ((repeat (first | rw [hs_setCell] | rw [hs_alloc] | rw [hs_drew] | rw [hs_drewN])) <;> omega)))) | (with_reducible refine Below.drew ?_) | (with_reducible refine below_drewN ?_ _) | (with_reducible exact Below.refl _ _) | (with_reducible exact Hhb5.out) | (with_reducible exact Hhb4.out) | (with_reducible exact Hhb3.out) | (with_reducible exact Hhb2.out) | (with_reducible exact Hhb1.out) | ((with_reducible refine Below.trans ?_ (Below.mono Hhb5.out ?_)); rotate_left; exact (by first | omega | ((try dsimp only); ((repeat (first | rw [hs_setCell] | rw [hs_alloc] | rw [hs_drew] | rw [hs_drewN])) <;> omega)))) | ((with_reducible refine Below.trans ?_ (Below.mono Hhb4.out ?_)); rotate_left; exact (by first | omega | ((try dsimp only); ((repeat (first | rw [hs_setCell] | rw [hs_alloc] | rw [hs_drew] | rw [hs_drewN])) <;> omega)))) | ((with_reducible refine Below.trans ?_ (Below.mono Hhb3.out ?_)); rotate_left; exact (by first | omega | ((try dsimp only); ((repeat (first | rw [hs_setCell] | rw [hs_alloc] | rw [hs_drew] | rw [hs_drewN])) <;> omega)))) | ((with_reducible refine Below.trans ?_ (Below.mono Hhb2.out ?_)); rotate_left; exact (by first | omega | ((try dsimp only); ((repeat (first | rw [hs_setCell] | rw [hs_alloc] | rw [hs_drew] | rw [hs_drewN])) <;> omega)))) | ((with_reducible refine Below.trans ?_ (Below.mono Hhb1.out ?_)); rotate_left; exact (by first | omega | ((try dsimp only); ((repeat (first | rw [hs_setCell] | rw [hs_alloc] | rw [hs_drew] | rw [hs_drewN])) <;> omega))))))))).mono ?_
    rintro e w6 ⟨s6, rfl, hs6, hb6⟩
    rw [hw1.out] at hs6 ⊢
    simp only at hs6 ⊢
    obtain ⟨x6, y6, rfl⟩ := hs6.shape hln.out
    have k6_0_0 := box_cell (b := w.heap.size) (o := 0) (v := .int .i64 st) hb6 (by first | assumption | go_simp)
    have q6_0_0 := cell_alloc k6_0_0
    have r6_0_0 := cell_alloc2 k6_0_0
    have k6_0_1 := box_cell (b := w.heap.size) (o := 1) (v := .slice a m cap) hb6 (by first | assumption | go_simp)
    have q6_0_1 := cell_alloc k6_0_1
    have r6_0_1 := cell_alloc2 k6_0_1
    have k6_1_0 := box_cell (b := w1.heap.size) (o := 0) (v := .int .i64 rst) hb6 (by first | assumption | go_simp)
    have q6_1_0 := cell_alloc k6_1_0
    have r6_1_0 := cell_alloc2 k6_1_0
    have k6_1_1 := box_cell (b := w1.heap.size) (o := 1) (v := .slice x1 lr y1) hb6 (by first | assumption | go_simp)
    have q6_1_1 := cell_alloc k6_1_1
    have r6_1_1 := cell_alloc2 k6_1_1
    have z6 := hb6.size
    try simp at z6
    have Hhb6 := hid hb6
    clear hb6 q5_0_0 r5_0_0 k5_0_0 q5_0_1 r5_0_1 k5_0_1 q5_1_0 r5_1_0 k5_1_0 q5_1_1 r5_1_1 k5_1_1
    go_wp2_with fail
    refine (zone_read _ _ _ ⟨rst, rd⟩ kk nn (ZoneV.mk (hs1.below (by repeat (first | ((with_reducible refine Below.setCell ?_ ?_ _); rotate_left; exact (by first | omega | ((try dsimp only); ((repeat (first | rw [hs_setCell] | rw [hs_alloc] | rw [hs_drew] | rw [hs_drewN])) <;> omega)))) | ((with_reducible refine Below.alloc ?_ ?_ _); rotate_left; exact (by first | omega | ((try dsimp only); ((repeat (first | rw [hs_setCell] | rw [hs_alloc] | rw [hs_drew] | rw [hs_drewN])) <;> omega)))) | (with_reducible refine Below.drew ?_) | (with_reducible refine below_drewN ?_ _) | (with_reducible exact Below.refl _ _) | (with_reducible exact Hhb6.out) | (with_reducible exact Hhb5.out) | (with_reducible exact Hhb4.out) | (with_reducible exact Hhb3.out) | (with_reducible exact Hhb2.out) | ((with_reducible refine Below.trans ?_ (Below.mono Hhb6.out ?_)); rotate_left; exact (by first | omega | ((try dsimp only); ((repeat (first | rw [hs_setCell] | rw [hs_alloc] | rw [hs_drew] | rw [hs_drewN])) <;> omega)))) | ((with_reducible refine Below.trans ?_ (Below.mono Hhb5.out ?_)); rotate_left; exact (by first | omega | ((try dsimp only); ((repeat (first | rw [hs_setCell] | rw [hs_alloc] | rw [hs_drew] | rw [hs_drewN])) <;> omega)))) | ((with_reducible refine Below.trans ?_ (Below.mono Hhb4.out ?_)); rotate_left; exact (by first | omega | ((try dsimp only); ((repeat (first | rw [hs_setCell] | rw [hs_alloc] | rw [hs_drew] | rw [hs_drewN])) <;> omega)))) | ((with_reducible refine Below.trans ?_ (Below.mono Hhb3.out ?_)); rotate_left; exact (by first | omega | ((try dsimp only); ((repeat (first | rw [hs_setCell] | rw [hs_alloc] | rw [hs_drew] | rw [hs_drewN])) <;> omega)))) | ((with_reducible refine Below.trans ?_ (Below.mono Hhb2.out ?_)); rotate_left; exact (by first | omega | ((try dsimp only); ((repeat (first | rw [hs_setCell] | rw [hs_alloc] | rw [hs_drew] | rw [hs_drewN])) <;> omega))))))))).mono ?_
    rintro e w7 ⟨s7, rfl, hs7, hb7⟩
    rw [hw2.out] at hs7 ⊢
    simp only at hs7 ⊢
    obtain ⟨x7, y7, rfl⟩ := hs7.shape hln.out
    have k7_0_0 := box_cell (b := w.heap.size) (o := 0) (v := .int .i64 st) hb7 (by first | assumption | go_simp)
    have q7_0_0 := cell_alloc k7_0_0
    have r7_0_0 := cell_alloc2 k7_0_0
    have k7_0_1 := box_cell (b := w.heap.size) (o := 1) (v := .slice a m cap) hb7 (by first | assumption | go_simp)
    have q7_0_1 := cell_alloc k7_0_1
    have r7_0_1 := cell_alloc2 k7_0_1
    have z7 := hb7.size
    try simp at z7
    have Hhb7 := hid hb7
    clear hb7 q6_0_0 r6_0_0 k6_0_0 q6_0_1 r6_0_1 k6_0_1 q6_1_0 r6_1_0 k6_1_0 q6_1_1 r6_1_1 k6_1_1
    go_wp2_with fail
    refine (equal_int _ _ _ _ _ _ _ (hs6.below (by repeat (first | ((with_reducible refine Below.setCell ?_ ?_ _); rotate_left; exact (by first | omega | ((try dsimp only); ((repeat (first | rw [hs_setCell] | rw [hs_alloc] | rw [hs_drew] | rw [hs_drewN])) <;> omega)))) | ((with_reducible refine Below.alloc ?_ ?_ _); rotate_left; exact (by first | omega | ((try dsimp only); ((repeat (first | rw [hs_setCell] | rw [hs_alloc] | rw [hs_drew] | rw [hs_drewN])) <;> omega)))) | (with_reducible refine Below.drew ?_) | (with_reducible refine below_drewN ?_ _) | (with_reducible exact Below.refl _ _) | (with_reducible exact Hhb7.out) | ((with_reducible refine Below.trans ?_ (Below.mono Hhb7.out ?_)); rotate_left; exact (by first | omega | ((try dsimp only); ((repeat (first | rw [hs_setCell] | rw [hs_alloc] | rw [hs_drew] | rw [hs_drewN])) <;> omega))))))) hs7).mono ?_
    rintro e w8 ⟨rfl, hb8⟩
    rw [decide_eq_true rfl]
    replace hb8 := hid hb8
    go_wp2_with fail
    go_ret
    exact ⟨rfl, (by repeat (first | ((with_reducible refine Below.setCell ?_ ?_ _); rotate_left; exact (by first | omega | ((try dsimp only); ((repeat (first | rw [hs_setCell] | rw [hs_alloc] | rw [hs_drew] | rw [hs_drewN])) <;> omega)))) | ((with_reducible refine Below.alloc ?_ ?_ _); rotate_left; exact (by first | omega | ((try dsimp only); ((repeat (first | rw [hs_setCell] | rw [hs_alloc] | rw [hs_drew] | rw [hs_drewN])) <;> omega)))) | (with_reducible refine Below.drew ?_) | (with_reducible refine below_drewN ?_ _) | (with_reducible exact Below.refl _ _) | (with_reducible exact hb8.out) | (with_reducible exact Hhb7.out) | (with_reducible exact Hhb6.out) | (with_reducible exact Hhb5.out) | (with_reducible exact Hhb4.out) | (with_reducible exact Hhb3.out) | (with_reducible exact Hhb2.out) | (with_reducible exact Hhb1.out) | ((with_reducible refine Below.trans ?_ (Below.mono hb8.out ?_)); rotate_left; exact (by first | omega | ((try dsimp only); ((repeat (first | rw [hs_setCell] | rw [hs_alloc] | rw [hs_drew] | rw [hs_drewN])) <;> omega)))) | ((with_reducible refine Below.trans ?_ (Below.mono Hhb7.out ?_)); rotate_left; exact (by first | omega | ((try dsimp only); ((repeat (first | rw [hs_setCell] | rw [hs_alloc] | rw [hs_drew] | rw [hs_drewN])) <;> omega)))) | ((with_reducible refine Below.trans ?_ (Below.mono Hhb6.out ?_)); rotate_left; exact (by first | omega | ((try dsimp only); ((repeat (first | rw [hs_setCell] | rw [hs_alloc] | rw [hs_drew] | rw [hs_drewN])) <;> omega)))) | ((with_reducible refine Below.trans ?_ (Below.mono Hhb5.out ?_)); rotate_left; exact (by first | omega | ((try dsimp only); ((repeat (first | rw [hs_setCell] | rw [hs_alloc] | rw [hs_drew] | rw [hs_drewN])) <;> omega)))) | ((with_reducible refine Below.trans ?_ (Below.mono Hhb4.out ?_)); rotate_left; exact (by first | omega | ((try dsimp only); ((repeat (first | rw [hs_setCell] | rw [hs_alloc] | rw [hs_drew] | rw [hs_drewN])) <;> omega)))) | ((with_reducible refine Below.trans ?_ (Below.mono Hhb3.out ?_)); rotate_left; exact (by first | omega | ((try dsimp only); ((repeat (first | rw [hs_setCell] | rw [hs_alloc] | rw [hs_drew] | rw [hs_drewN])) <;> omega)))) | ((with_reducible refine Below.trans ?_ (Below.mono Hhb2.out ?_)); rotate_left; exact (by first | omega | ((try dsimp only); ((repeat (first | rw [hs_setCell] | rw [hs_alloc] | rw [hs_drew] | rw [hs_drewN])) <;> omega)))) | ((with_reducible refine Below.trans ?_ (Below.mono Hhb1.out ?_)); rotate_left; exact (by first | omega | ((try dsimp only); ((repeat (first | rw [hs_setCell] | rw [hs_alloc] | rw [hs_drew] | rw [hs_drewN])) <;> omega))))))⟩
  · replace hr := hid hr
    go_enter Try.func3, Try.ntmps3
    go_wp2_with fail
    refine (zone_write F G _ _ _ ⟨_, xs⟩ l (ZoneV.mk (hi.below (by repeat (first | ((with_reducible refine Below.setCell ?_ ?_ _); rotate_left; exact (by first | omega | ((try dsimp only); ((repeat (first | rw [hs_setCell] | rw [hs_alloc] | rw [hs_drew] | rw [hs_drewN])) <;> omega)))) | ((with_reducible refine Below.alloc ?_ ?_ _); rotate_left; exact (by first | omega | ((try dsimp only); ((repeat (first | rw [hs_setCell] | rw [hs_alloc] | rw [hs_drew] | rw [hs_drewN])) <;> omega)))) | (with_reducible refine Below.drew ?_) | (with_reducible refine below_drewN ?_ _) | (with_reducible exact Below.refl _ _))))) (hl.below (by repeat (first | ((with_reducible refine Below.setCell ?_ ?_ _); rotate_left; exact (by first | omega | ((try dsimp only); ((repeat (first | rw [hs_setCell] | rw [hs_alloc] | rw [hs_drew] | rw [hs_drewN])) <;> omega)))) | ((with_reducible refine Below.alloc ?_ ?_ _); rotate_left; exact (by first | omega | ((try dsimp only); ((repeat (first | rw [hs_setCell] | rw [hs_alloc] | rw [hs_drew] | rw [hs_drewN])) <;> omega)))) | (with_reducible refine Below.drew ?_) | (with_reducible refine below_drewN ?_ _) | (with_reducible exact Below.refl _ _))))).mono ?_
    rintro e w1 ⟨s1, rfl, hs1, hb1⟩
    rw [hr.out] at hs1 ⊢
    simp only at hs1 ⊢
    obtain ⟨x1, y1, rfl⟩ := hs1.shape (n := rd.length) rfl
    have k8_0_0 := box_cell (b := w.heap.size) (o := 0) (v := .int .i64 st) hb1 (by first | assumption | go_simp)
    have q8_0_0 := cell_alloc k8_0_0
    have r8_0_0 := cell_alloc2 k8_0_0
    have k8_0_1 := box_cell (b := w.heap.size) (o := 1) (v := .slice a m cap) hb1 (by first | assumption | go_simp)
    have q8_0_1 := cell_alloc k8_0_1
    have r8_0_1 := cell_alloc2 k8_0_1
    have z8 := hb1.size
    try simp at z8
    have Hhb1 := hid hb1
    clear hb1 
    go_wp2_with fail
    refine (filled _).mono ?_
    rintro e w2 ⟨rfl, hb2⟩
    have k9_0_0 := box_cell (b := w.heap.size) (o := 0) (v := .int .i64 st) hb2 (by first | assumption | go_simp)
    have q9_0_0 := cell_alloc k9_0_0
    have r9_0_0 := cell_alloc2 k9_0_0
    have k9_0_1 := box_cell (b := w.heap.size) (o := 1) (v := .slice a m cap) hb2 (by first | assumption | go_simp)
    have q9_0_1 := cell_alloc k9_0_1
    have r9_0_1 := cell_alloc2 k9_0_1
    have z9 := hb2.size
    try simp at z9
    have Hhb2 := hid hb2
    clear hb2 q8_0_0 r8_0_0 k8_0_0 q8_0_1 r8_0_1 k8_0_1
    go_wp2_with fail
    refine (filled _).mono ?_
    rintro e w3 ⟨rfl, hb3⟩
    replace hb3 := hid hb3
    go_wp2_with fail
    go_ret
    exact ⟨rfl, (by repeat (first | ((with_reducible refine Below.setCell ?_ ?_ _); rotate_left; exact (by first | omega | ((try dsimp only); ((repeat (first | rw [hs_setCell] | rw [hs_alloc] | rw [hs_drew] | rw [hs_drewN])) <;> omega)))) | ((with_reducible refine Below.alloc ?_ ?_ _); rotate_left; exact (by first | omega | ((try dsimp only); ((repeat (first | rw [hs_setCell] | rw [hs_alloc] | rw [hs_drew] | rw [hs_drewN])) <;> omega)))) | (with_reducible refine Below.drew ?_) | (with_reducible refine below_drewN ?_ _) | (with_reducible exact Below.refl _ _) | (with_reducible exact hb3.out) | (with_reducible exact Hhb2.out) | (with_reducible exact Hhb1.out) | ((with_reducible refine Below.trans ?_ (Below.mono hb3.out ?_)); rotate_left; exact (by first | omega | ((try dsimp only); ((repeat (first | rw [hs_setCell] | rw [hs_alloc] | rw [hs_drew] | rw [hs_drewN])) <;> omega)))) | ((with_reducible refine Below.trans ?_ (Below.mono Hhb2.out ?_)); rotate_left; exact (by first | omega | ((try dsimp only); ((repeat (first | rw [hs_setCell] | rw [hs_alloc] | rw [hs_drew] | rw [hs_drewN])) <;> omega)))) | ((with_reducible refine Below.trans ?_ (Below.mono Hhb1.out ?_)); rotate_left; exact (by first | omega | ((try dsimp only); ((repeat (first | rw [hs_setCell] | rw [hs_alloc] | rw [hs_drew] | rw [hs_drewN])) <;> omega))))))⟩

end Go.Proofs.Ythliojembgdjjaa
