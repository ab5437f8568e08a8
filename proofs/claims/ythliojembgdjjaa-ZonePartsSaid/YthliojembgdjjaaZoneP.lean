/- ZoneP: the walk of the law ZoneParts. -/
import Derived.Test.YthliojembgdjjaaZoneK
import Derived.Test.YthliojembgdjjaaBase2
namespace Go.Proofs.Ythliojembgdjjaa
open Go.RowKit Go.Proofs
set_option linter.unusedVariables false
set_option maxRecDepth 100000

/-- a variable that holds a zone -/
def ZoneBox (wx : World) (s : Value) (z : S.Zone) (ln : Nat) : Prop :=
  ∃ (g : Nat) (a : Option Addr) (c : Nat), s = .pointer (some ⟨g, 0, none⟩) ∧ wx.cell? ⟨g, 0, none⟩ = some (.int .i64 z.st) ∧ wx.cell? ⟨g, 1, none⟩ = some (.slice a ln c) ∧ Ints T wx (.slice a ln c) z.d

/-- what 'x, e := zone.Write(..)' leaves in whatever order -/
def WroteR (w0 : World) (z : S.Zone) (ln : Nat) (s8 s9 : Value) (wx : World) : Prop :=
  s8 = .int .i64 0 ∧ Below w0.heap.size w0 wx ∧ ZoneBox wx s9 z ln

set_option maxHeartbeats 8000000 in
theorem law_zoneParts (F G : Nat → Prop) (w : World) (v u : Value) (z : S.Zone) (l : List Int) (k : Int) (hz : ZoneV F w v z) (hl : Ints G w u l) :
    Calls Try.prog 4 #[v, u, .int .i64 k] w fun e w' => e = .returned (.bool true) ∧ Below w.heap.size w w' := by
  obtain ⟨s, rfl, hi⟩ := hz
  obtain ⟨st, xs⟩ := z
  simp only at hi
  generalize hr : S.writeZone ⟨st, xs⟩ l = r
  obtain ⟨⟨rst, rd⟩, re⟩ := r
  obtain ⟨m, a, cap, rfl, hm, -, -, -, -⟩ := hi.open
  obtain ⟨m2, b, cap2, rfl, hm2, q1, q2, -, -⟩ := hl.open
  obtain ⟨lr, hlr⟩ : ∃ lr, rd.length = lr := ⟨_, rfl⟩
  replace hlr := hid hlr
  by_cases c : re = 0
  · subst c
    by_cases c2 : m2 < 2
    · replace hr := hid hr
      go_enter Try.func4, Try.ntmps4
      go_wp2_with fail
      refine (zone_write F G _ _ _ ⟨_, xs⟩ l (ZoneV.mk (hi.below (by repeat (first | ((with_reducible refine Below.setCell ?_ ?_ _); rotate_left; exact (by first | omega | ((try dsimp only); ((repeat (first | rw [hs_setCell] | rw [hs_alloc] | rw [hs_drew] | rw [hs_drewN])) <;> omega)))) | ((with_reducible refine Below.alloc ?_ ?_ _); rotate_left; exact (by first | omega | ((try dsimp only); ((repeat (first | rw [hs_setCell] | rw [hs_alloc] | rw [hs_drew] | rw [hs_drewN])) <;> omega)))) | (with_reducible refine Below.drew ?_) | (with_reducible refine below_drewN ?_ _) | (with_reducible exact Below.refl _ _))))) (hl.below (by repeat (first | ((with_reducible refine Below.setCell ?_ ?_ _); rotate_left; exact (by first | omega | ((try dsimp only); ((repeat (first | rw [hs_setCell] | rw [hs_alloc] | rw [hs_drew] | rw [hs_drewN])) <;> omega)))) | ((with_reducible refine Below.alloc ?_ ?_ _); rotate_left; exact (by first | omega | ((try dsimp only); ((repeat (first | rw [hs_setCell] | rw [hs_alloc] | rw [hs_drew] | rw [hs_drewN])) <;> omega)))) | (with_reducible refine Below.drew ?_) | (with_reducible refine below_drewN ?_ _) | (with_reducible exact Below.refl _ _))))).mono ?_
      rintro e w1 ⟨s1, rfl, hs1, hb1⟩
      rw [hr.out] at hs1 ⊢
      simp only at hs1 ⊢
      obtain ⟨x1, y1, rfl⟩ := hs1.shape hlr.out
      have k1_0_0 := box_cell (b := w.heap.size) (o := 0) (v := .int .i64 st) hb1 (by first | assumption | go_simp)
      have q1_0_0 := cell_alloc k1_0_0
      have r1_0_0 := cell_alloc2 k1_0_0
      have k1_0_1 := box_cell (b := w.heap.size) (o := 1) (v := .slice a m cap) hb1 (by first | assumption | go_simp)
      have q1_0_1 := cell_alloc k1_0_1
      have r1_0_1 := cell_alloc2 k1_0_1
      have z1 := hb1.size
      try simp at z1
      have Hhb1 := hid hb1
      clear hb1 
      go_wp2_with fail
      refine (filled _).mono ?_
      rintro e w2 ⟨rfl, hb2⟩
      have k2_0_0 := box_cell (b := w.heap.size) (o := 0) (v := .int .i64 st) hb2 (by first | assumption | go_simp)
      have q2_0_0 := cell_alloc k2_0_0
      have r2_0_0 := cell_alloc2 k2_0_0
      have k2_0_1 := box_cell (b := w.heap.size) (o := 1) (v := .slice a m cap) hb2 (by first | assumption | go_simp)
      have q2_0_1 := cell_alloc k2_0_1
      have r2_0_1 := cell_alloc2 k2_0_1
      have z2 := hb2.size
      try simp at z2
      have Hhb2 := hid hb2
      clear hb2 q1_0_0 r1_0_0 k1_0_0 q1_0_1 r1_0_1 k1_0_1
      go_wp2_with fail
      refine (filled _).mono ?_
      rintro e w3 ⟨rfl, hb3⟩
      replace hb3 := hid hb3
      go_wp2_with fail
      go_ret
      exact ⟨rfl, (by repeat (first | ((with_reducible refine Below.setCell ?_ ?_ _); rotate_left; exact (by first | omega | ((try dsimp only); ((repeat (first | rw [hs_setCell] | rw [hs_alloc] | rw [hs_drew] | rw [hs_drewN])) <;> omega)))) | ((with_reducible refine Below.alloc ?_ ?_ _); rotate_left; exact (by first | omega | ((try dsimp only); ((repeat (first | rw [hs_setCell] | rw [hs_alloc] | rw [hs_drew] | rw [hs_drewN])) <;> omega)))) | (with_reducible refine Below.drew ?_) | (with_reducible refine below_drewN ?_ _) | (with_reducible exact Below.refl _ _) | (with_reducible exact hb3.out) | (with_reducible exact Hhb2.out) | (with_reducible exact Hhb1.out) | ((with_reducible refine Below.trans ?_ (Below.mono hb3.out ?_)); rotate_left; exact (by first | omega | ((try dsimp only); ((repeat (first | rw [hs_setCell] | rw [hs_alloc] | rw [hs_drew] | rw [hs_drewN])) <;> omega)))) | ((with_reducible refine Below.trans ?_ (Below.mono Hhb2.out ?_)); rotate_left; exact (by first | omega | ((try dsimp only); ((repeat (first | rw [hs_setCell] | rw [hs_alloc] | rw [hs_drew] | rw [hs_drewN])) <;> omega)))) | ((with_reducible refine Below.trans ?_ (Below.mono Hhb1.out ?_)); rotate_left; exact (by first | omega | ((try dsimp only); ((repeat (first | rw [hs_setCell] | rw [hs_alloc] | rw [hs_drew] | rw [hs_drewN])) <;> omega))))))⟩
    have hp := S.write_parts (z := ⟨st, xs⟩) (l := l) (by rw [hr])
    simp only [hm.out, hm2.out] at hp
    have hm9 : m2 ≤ 8 := hp.2.2.1
    have ha1 := S.at_range k (m2 - 1) (by omega)
    generalize hkk : S.at_ k (m2 - 1) = kk at *
    obtain ⟨a1, a2⟩ := ha1
    obtain ⟨kn, rfl⟩ := Int.eq_ofNat_of_zero_le a1
    have ht := S.write_two (z := ⟨st, xs⟩) (l := l) (by rw [hr]) (k := 1 + kn) (by omega) (by rw [hm2.out]; omega)
    rw [hr] at ht
    generalize hr1 : S.writeZone ⟨st, xs⟩ (l.take (1 + kn)) = r1 at ht
    obtain ⟨⟨st1, d1⟩, re1⟩ := r1
    obtain ⟨ht1, ht2⟩ := ht
    simp only at ht1 ht2
    subst ht1
    obtain ⟨l1, hl1⟩ : ∃ l1, d1.length = l1 := ⟨_, rfl⟩
    replace hl1 := hid hl1
    replace hr := hid hr
    replace hr1 := hid hr1
    replace ht2 := hid ht2
    replace hkk := hid hkk
    obtain ⟨bb, off, rfl, -, -, -⟩ := hl.some (by omega)
    clear hp
    go_enter Try.func4, Try.ntmps4
    go_wp2_with fail
    refine (zone_write F G _ _ _ ⟨_, xs⟩ l (ZoneV.mk (hi.below (by repeat (first | ((with_reducible refine Below.setCell ?_ ?_ _); rotate_left; exact (by first | omega | ((try dsimp only); ((repeat (first | rw [hs_setCell] | rw [hs_alloc] | rw [hs_drew] | rw [hs_drewN])) <;> omega)))) | ((with_reducible refine Below.alloc ?_ ?_ _); rotate_left; exact (by first | omega | ((try dsimp only); ((repeat (first | rw [hs_setCell] | rw [hs_alloc] | rw [hs_drew] | rw [hs_drewN])) <;> omega)))) | (with_reducible refine Below.drew ?_) | (with_reducible refine below_drewN ?_ _) | (with_reducible exact Below.refl _ _))))) (hl.below (by repeat (first | ((with_reducible refine Below.setCell ?_ ?_ _); rotate_left; exact (by first | omega | ((try dsimp only); ((repeat (first | rw [hs_setCell] | rw [hs_alloc] | rw [hs_drew] | rw [hs_drewN])) <;> omega)))) | ((with_reducible refine Below.alloc ?_ ?_ _); rotate_left; exact (by first | omega | ((try dsimp only); ((repeat (first | rw [hs_setCell] | rw [hs_alloc] | rw [hs_drew] | rw [hs_drewN])) <;> omega)))) | (with_reducible refine Below.drew ?_) | (with_reducible refine below_drewN ?_ _) | (with_reducible exact Below.refl _ _))))).mono ?_
    rintro e w1 ⟨s1, rfl, hs1, hb1⟩
    rw [hr.out] at hs1 ⊢
    simp only at hs1 ⊢
    obtain ⟨x1, y1, rfl⟩ := hs1.shape hlr.out
    have k3_0_0 := box_cell (b := w.heap.size) (o := 0) (v := .int .i64 st) hb1 (by first | assumption | go_simp)
    have q3_0_0 := cell_alloc k3_0_0
    have r3_0_0 := cell_alloc2 k3_0_0
    have k3_0_1 := box_cell (b := w.heap.size) (o := 1) (v := .slice a m cap) hb1 (by first | assumption | go_simp)
    have q3_0_1 := cell_alloc k3_0_1
    have r3_0_1 := cell_alloc2 k3_0_1
    have z3 := hb1.size
    try simp at z3
    have Hhb1 := hid hb1
    clear hb1 
    go_wp2_with fail
    refine (filled _).mono ?_
    rintro e w2 ⟨rfl, hb2⟩
    have k4_0_0 := box_cell (b := w.heap.size) (o := 0) (v := .int .i64 st) hb2 (by first | assumption | go_simp)
    have q4_0_0 := cell_alloc k4_0_0
    have r4_0_0 := cell_alloc2 k4_0_0
    have k4_0_1 := box_cell (b := w.heap.size) (o := 1) (v := .slice a m cap) hb2 (by first | assumption | go_simp)
    have q4_0_1 := cell_alloc k4_0_1
    have r4_0_1 := cell_alloc2 k4_0_1
    have k4_1_0 := box_cell (b := w1.heap.size) (o := 0) (v := .int .i64 rst) hb2 (by first | assumption | go_simp)
    have q4_1_0 := cell_alloc k4_1_0
    have r4_1_0 := cell_alloc2 k4_1_0
    have k4_1_1 := box_cell (b := w1.heap.size) (o := 1) (v := .slice x1 lr y1) hb2 (by first | assumption | go_simp)
    have q4_1_1 := cell_alloc k4_1_1
    have r4_1_1 := cell_alloc2 k4_1_1
    have z4 := hb2.size
    try simp at z4
    have Hhb2 := hid hb2
    clear hb2 q3_0_0 r3_0_0 k3_0_0 q3_0_1 r3_0_1 k3_0_1
    go_wp2_with fail
    refine (law_at k (m2 - 1) _ (by omega) (by omega)).mono ?_
    rintro e w9 ⟨rfl, rfl⟩
    rw [hkk.out]
    have hs2 := hid (hs1.any.below (w' := w2) (by repeat (first | ((with_reducible refine Below.setCell ?_ ?_ _); rotate_left; exact (by first | omega | ((try dsimp only); ((repeat (first | rw [hs_setCell] | rw [hs_alloc] | rw [hs_drew] | rw [hs_drewN])) <;> omega)))) | ((with_reducible refine Below.alloc ?_ ?_ _); rotate_left; exact (by first | omega | ((try dsimp only); ((repeat (first | rw [hs_setCell] | rw [hs_alloc] | rw [hs_drew] | rw [hs_drewN])) <;> omega)))) | (with_reducible refine Below.drew ?_) | (with_reducible refine below_drewN ?_ _) | (with_reducible exact Below.refl _ _) | (with_reducible exact Hhb2.out) | ((with_reducible refine Below.trans ?_ (Below.mono Hhb2.out ?_)); rotate_left; exact (by first | omega | ((try dsimp only); ((repeat (first | rw [hs_setCell] | rw [hs_alloc] | rw [hs_drew] | rw [hs_drewN])) <;> omega)))))))
    have hi2 := hid (hi.below (w' := w2) (by repeat (first | ((with_reducible refine Below.setCell ?_ ?_ _); rotate_left; exact (by first | omega | ((try dsimp only); ((repeat (first | rw [hs_setCell] | rw [hs_alloc] | rw [hs_drew] | rw [hs_drewN])) <;> omega)))) | ((with_reducible refine Below.alloc ?_ ?_ _); rotate_left; exact (by first | omega | ((try dsimp only); ((repeat (first | rw [hs_setCell] | rw [hs_alloc] | rw [hs_drew] | rw [hs_drewN])) <;> omega)))) | (with_reducible refine Below.drew ?_) | (with_reducible refine below_drewN ?_ _) | (with_reducible exact Below.refl _ _) | (with_reducible exact Hhb2.out) | (with_reducible exact Hhb1.out) | ((with_reducible refine Below.trans ?_ (Below.mono Hhb2.out ?_)); rotate_left; exact (by first | omega | ((try dsimp only); ((repeat (first | rw [hs_setCell] | rw [hs_alloc] | rw [hs_drew] | rw [hs_drewN])) <;> omega)))) | ((with_reducible refine Below.trans ?_ (Below.mono Hhb1.out ?_)); rotate_left; exact (by first | omega | ((try dsimp only); ((repeat (first | rw [hs_setCell] | rw [hs_alloc] | rw [hs_drew] | rw [hs_drewN])) <;> omega)))))))
    have hl2 := hid (hl.below (w' := w2) (by repeat (first | ((with_reducible refine Below.setCell ?_ ?_ _); rotate_left; exact (by first | omega | ((try dsimp only); ((repeat (first | rw [hs_setCell] | rw [hs_alloc] | rw [hs_drew] | rw [hs_drewN])) <;> omega)))) | ((with_reducible refine Below.alloc ?_ ?_ _); rotate_left; exact (by first | omega | ((try dsimp only); ((repeat (first | rw [hs_setCell] | rw [hs_alloc] | rw [hs_drew] | rw [hs_drewN])) <;> omega)))) | (with_reducible refine Below.drew ?_) | (with_reducible refine below_drewN ?_ _) | (with_reducible exact Below.refl _ _) | (with_reducible exact Hhb2.out) | (with_reducible exact Hhb1.out) | ((with_reducible refine Below.trans ?_ (Below.mono Hhb2.out ?_)); rotate_left; exact (by first | omega | ((try dsimp only); ((repeat (first | rw [hs_setCell] | rw [hs_alloc] | rw [hs_drew] | rw [hs_drewN])) <;> omega)))) | ((with_reducible refine Below.trans ?_ (Below.mono Hhb1.out ?_)); rotate_left; exact (by first | omega | ((try dsimp only); ((repeat (first | rw [hs_setCell] | rw [hs_alloc] | rw [hs_drew] | rw [hs_drewN])) <;> omega)))))))
    have HB2 : Hid (Below w.heap.size w w2) := hid (by repeat (first | ((with_reducible refine Below.setCell ?_ ?_ _); rotate_left; exact (by first | omega | ((try dsimp only); ((repeat (first | rw [hs_setCell] | rw [hs_alloc] | rw [hs_drew] | rw [hs_drewN])) <;> omega)))) | ((with_reducible refine Below.alloc ?_ ?_ _); rotate_left; exact (by first | omega | ((try dsimp only); ((repeat (first | rw [hs_setCell] | rw [hs_alloc] | rw [hs_drew] | rw [hs_drewN])) <;> omega)))) | (with_reducible refine Below.drew ?_) | (with_reducible refine below_drewN ?_ _) | (with_reducible exact Below.refl _ _) | (with_reducible exact Hhb2.out) | (with_reducible exact Hhb1.out) | ((with_reducible refine Below.trans ?_ (Below.mono Hhb2.out ?_)); rotate_left; exact (by first | omega | ((try dsimp only); ((repeat (first | rw [hs_setCell] | rw [hs_alloc] | rw [hs_drew] | rw [hs_drewN])) <;> omega)))) | ((with_reducible refine Below.trans ?_ (Below.mono Hhb1.out ?_)); rotate_left; exact (by first | omega | ((try dsimp only); ((repeat (first | rw [hs_setCell] | rw [hs_alloc] | rw [hs_drew] | rw [hs_drewN])) <;> omega))))))
    clear hs1
    go_upto_region 5 with fail
    go_cut [8, 9] (fun s8 s9 wx => WroteR w2 ⟨st1, d1⟩ l1 s8 s9 wx)
    case first =>
      go_region_with (
        go_at_call 23
        go_must (
        refine (zone_write F G _ _ _ ⟨st, xs⟩ (l.take (1 + kn)) (ZoneV.mk (hi2.out.below ?_)) ((hl2.out.take hm2.out (by omega)).below ?_)).mono ?_
        · exact (by repeat (first | ((with_reducible refine Below.setCell ?_ ?_ _); rotate_left; exact (by first | omega | ((try dsimp only); ((repeat (first | rw [hs_setCell] | rw [hs_alloc] | rw [hs_drew] | rw [hs_drewN])) <;> omega)))) | ((with_reducible refine Below.alloc ?_ ?_ _); rotate_left; exact (by first | omega | ((try dsimp only); ((repeat (first | rw [hs_setCell] | rw [hs_alloc] | rw [hs_drew] | rw [hs_drewN])) <;> omega)))) | (with_reducible refine Below.drew ?_) | (with_reducible refine below_drewN ?_ _) | (with_reducible exact Below.refl _ _)))
        · exact (by repeat (first | ((with_reducible refine Below.setCell ?_ ?_ _); rotate_left; exact (by first | omega | ((try dsimp only); ((repeat (first | rw [hs_setCell] | rw [hs_alloc] | rw [hs_drew] | rw [hs_drewN])) <;> omega)))) | ((with_reducible refine Below.alloc ?_ ?_ _); rotate_left; exact (by first | omega | ((try dsimp only); ((repeat (first | rw [hs_setCell] | rw [hs_alloc] | rw [hs_drew] | rw [hs_drewN])) <;> omega)))) | (with_reducible refine Below.drew ?_) | (with_reducible refine below_drewN ?_ _) | (with_reducible exact Below.refl _ _)))
        rintro e w4 ⟨s4, rfl, hs4, hb4⟩
        rw [hr1.out] at hs4 ⊢
        simp only at hs4 ⊢
        obtain ⟨a4, c4, rfl⟩ := hs4.shape hl1.out
        obtain ⟨hc4, hf4⟩ := bcell hb4
        have hz4 := hb4.size
        simp at hz4
        have hb5 : Below w2.heap.size w2 w4 := below_from (by exact (by repeat (first | ((with_reducible refine Below.setCell ?_ ?_ _); rotate_left; exact (by first | omega | ((try dsimp only); ((repeat (first | rw [hs_setCell] | rw [hs_alloc] | rw [hs_drew] | rw [hs_drewN])) <;> omega)))) | ((with_reducible refine Below.alloc ?_ ?_ _); rotate_left; exact (by first | omega | ((try dsimp only); ((repeat (first | rw [hs_setCell] | rw [hs_alloc] | rw [hs_drew] | rw [hs_drewN])) <;> omega)))) | (with_reducible refine Below.drew ?_) | (with_reducible refine below_drewN ?_ _) | (with_reducible exact Below.refl _ _)))) hb4
        clear hb4
        replace hb5 := hid hb5
        replace hs4 := hid hs4
        ))
      all_goals
        go_wp2_with fail
        go_meet
        refine ⟨rfl, ?_, _, a4, c4, rfl, ?_, ?_, (hs4.out.keep ?_).any⟩
        · exact (by repeat (first | ((with_reducible refine Below.setCell ?_ ?_ _); rotate_left; exact (by first | omega | ((try dsimp only); ((repeat (first | rw [hs_setCell] | rw [hs_alloc] | rw [hs_drew] | rw [hs_drewN])) <;> omega)))) | ((with_reducible refine Below.alloc ?_ ?_ _); rotate_left; exact (by first | omega | ((try dsimp only); ((repeat (first | rw [hs_setCell] | rw [hs_alloc] | rw [hs_drew] | rw [hs_drewN])) <;> omega)))) | (with_reducible refine Below.drew ?_) | (with_reducible refine below_drewN ?_ _) | (with_reducible exact Below.refl _ _) | (with_reducible exact hb5.out) | ((with_reducible refine Below.trans ?_ (Below.mono hb5.out ?_)); rotate_left; exact (by first | omega | ((try dsimp only); ((repeat (first | rw [hs_setCell] | rw [hs_alloc] | rw [hs_drew] | rw [hs_drewN])) <;> omega))))))
        · first | (go_simp; done) | exact cell_set_other (cell_set_same (v0 := .int .i64 0) (by rw [hc4 _ _ (by first | omega | ((try dsimp only); ((repeat (first | rw [hs_setCell] | rw [hs_alloc] | rw [hs_drew] | rw [hs_drewN])) <;> omega)))]; go_simp) _) (Or.inr (by decide)) _
        · first | (go_simp; done) | exact cell_set_same (v0 := .slice none 0 0) (cell_set_other (by rw [hc4 _ _ (by first | omega | ((try dsimp only); ((repeat (first | rw [hs_setCell] | rw [hs_alloc] | rw [hs_drew] | rw [hs_drewN])) <;> omega)))]; go_simp) (Or.inr (by decide)) _) _
        · exact (by repeat (first | (with_reducible exact keeps_refl _ _) | (with_reducible refine keeps_alloc ?_ _) | (with_reducible refine keeps_drew ?_) | ((with_reducible refine keeps_setCell ?_ _ ?_); rotate_left; unfold From; exact (by first | omega | ((try dsimp only); ((repeat (first | rw [hs_setCell] | rw [hs_alloc] | rw [hs_drew] | rw [hs_drewN])) <;> omega))))))
    case rest =>
      obtain ⟨rfl, hB5, g, a5, c5, rfl, j1, j2, hf⟩ := hcut
      simp only at j1 hf
      have k5_0_0 := box_cell (b := w.heap.size) (o := 0) (v := .int .i64 st) hB5 (by first | assumption | go_simp)
      have q5_0_0 := cell_alloc k5_0_0
      have r5_0_0 := cell_alloc2 k5_0_0
      have k5_0_1 := box_cell (b := w.heap.size) (o := 1) (v := .slice a m cap) hB5 (by first | assumption | go_simp)
      have q5_0_1 := cell_alloc k5_0_1
      have r5_0_1 := cell_alloc2 k5_0_1
      have k5_1_0 := box_cell (b := w1.heap.size) (o := 0) (v := .int .i64 rst) hB5 (by first | assumption | go_simp)
      have q5_1_0 := cell_alloc k5_1_0
      have r5_1_0 := cell_alloc2 k5_1_0
      have k5_1_1 := box_cell (b := w1.heap.size) (o := 1) (v := .slice x1 lr y1) hB5 (by first | assumption | go_simp)
      have q5_1_1 := cell_alloc k5_1_1
      have r5_1_1 := cell_alloc2 k5_1_1
      have z5 := hB5.size
      try simp at z5
      have HhB5 := hid hB5
      clear hB5 q4_0_0 r4_0_0 k4_0_0 q4_0_1 r4_0_1 k4_0_1 q4_1_0 r4_1_0 k4_1_0 q4_1_1 r4_1_1 k4_1_1
      have o1 := cell_alloc j1
      have o2 := cell_alloc j2
      have n1 : ¬ cap2 = 1 + kn := by omega
      go_upto_region 8 with fail
      go_cut [8, 10] (fun s8 s10 wx => WroteR wc ⟨rst, rd⟩ lr s8 s10 wx)
      case first =>
        go_region_with (
          go_at_call 23
          go_must (
          refine (zone_write T G _ _ _ ⟨st1, d1⟩ (l.drop (1 + kn)) (ZoneV.mk (hf.below ?_)) ((hl2.out.tail hm2.out (by omega) n1).below ?_)).mono ?_
          · exact (by repeat (first | ((with_reducible refine Below.setCell ?_ ?_ _); rotate_left; exact (by first | omega | ((try dsimp only); ((repeat (first | rw [hs_setCell] | rw [hs_alloc] | rw [hs_drew] | rw [hs_drewN])) <;> omega)))) | ((with_reducible refine Below.alloc ?_ ?_ _); rotate_left; exact (by first | omega | ((try dsimp only); ((repeat (first | rw [hs_setCell] | rw [hs_alloc] | rw [hs_drew] | rw [hs_drewN])) <;> omega)))) | (with_reducible refine Below.drew ?_) | (with_reducible refine below_drewN ?_ _) | (with_reducible exact Below.refl _ _)))
          · exact (by repeat (first | ((with_reducible refine Below.setCell ?_ ?_ _); rotate_left; exact (by first | omega | ((try dsimp only); ((repeat (first | rw [hs_setCell] | rw [hs_alloc] | rw [hs_drew] | rw [hs_drewN])) <;> omega)))) | ((with_reducible refine Below.alloc ?_ ?_ _); rotate_left; exact (by first | omega | ((try dsimp only); ((repeat (first | rw [hs_setCell] | rw [hs_alloc] | rw [hs_drew] | rw [hs_drewN])) <;> omega)))) | (with_reducible refine Below.drew ?_) | (with_reducible refine below_drewN ?_ _) | (with_reducible exact Below.refl _ _) | (with_reducible exact HhB5.out) | ((with_reducible refine Below.trans ?_ (Below.mono HhB5.out ?_)); rotate_left; exact (by first | omega | ((try dsimp only); ((repeat (first | rw [hs_setCell] | rw [hs_alloc] | rw [hs_drew] | rw [hs_drewN])) <;> omega))))))
          rintro e w4 ⟨s4, rfl, hs4, hb4⟩
          rw [ht2.out] at hs4 ⊢
          simp only at hs4 ⊢
          obtain ⟨a4, c4, rfl⟩ := hs4.shape hlr.out
          obtain ⟨hc4, hf4⟩ := bcell hb4
          have hz4 := hb4.size
          simp at hz4
          have hb5 : Below wc.heap.size wc w4 := below_from (by exact (by repeat (first | ((with_reducible refine Below.setCell ?_ ?_ _); rotate_left; exact (by first | omega | ((try dsimp only); ((repeat (first | rw [hs_setCell] | rw [hs_alloc] | rw [hs_drew] | rw [hs_drewN])) <;> omega)))) | ((with_reducible refine Below.alloc ?_ ?_ _); rotate_left; exact (by first | omega | ((try dsimp only); ((repeat (first | rw [hs_setCell] | rw [hs_alloc] | rw [hs_drew] | rw [hs_drewN])) <;> omega)))) | (with_reducible refine Below.drew ?_) | (with_reducible refine below_drewN ?_ _) | (with_reducible exact Below.refl _ _)))) hb4
          clear hb4
          replace hb5 := hid hb5
          replace hs4 := hid hs4
          ))
        all_goals
          go_wp2_with fail
          go_meet
          refine ⟨rfl, ?_, _, a4, c4, rfl, ?_, ?_, (hs4.out.keep ?_).any⟩
          · exact (by repeat (first | ((with_reducible refine Below.setCell ?_ ?_ _); rotate_left; exact (by first | omega | ((try dsimp only); ((repeat (first | rw [hs_setCell] | rw [hs_alloc] | rw [hs_drew] | rw [hs_drewN])) <;> omega)))) | ((with_reducible refine Below.alloc ?_ ?_ _); rotate_left; exact (by first | omega | ((try dsimp only); ((repeat (first | rw [hs_setCell] | rw [hs_alloc] | rw [hs_drew] | rw [hs_drewN])) <;> omega)))) | (with_reducible refine Below.drew ?_) | (with_reducible refine below_drewN ?_ _) | (with_reducible exact Below.refl _ _) | (with_reducible exact hb5.out) | ((with_reducible refine Below.trans ?_ (Below.mono hb5.out ?_)); rotate_left; exact (by first | omega | ((try dsimp only); ((repeat (first | rw [hs_setCell] | rw [hs_alloc] | rw [hs_drew] | rw [hs_drewN])) <;> omega))))))
          · first | (go_simp; done) | exact cell_set_other (cell_set_same (v0 := .int .i64 0) (by rw [hc4 _ _ (by first | omega | ((try dsimp only); ((repeat (first | rw [hs_setCell] | rw [hs_alloc] | rw [hs_drew] | rw [hs_drewN])) <;> omega)))]; go_simp) _) (Or.inr (by decide)) _
          · first | (go_simp; done) | exact cell_set_same (v0 := .slice none 0 0) (cell_set_other (by rw [hc4 _ _ (by first | omega | ((try dsimp only); ((repeat (first | rw [hs_setCell] | rw [hs_alloc] | rw [hs_drew] | rw [hs_drewN])) <;> omega)))]; go_simp) (Or.inr (by decide)) _) _
          · exact (by repeat (first | (with_reducible exact keeps_refl _ _) | (with_reducible refine keeps_alloc ?_ _) | (with_reducible refine keeps_drew ?_) | ((with_reducible refine keeps_setCell ?_ _ ?_); rotate_left; unfold From; exact (by first | omega | ((try dsimp only); ((repeat (first | rw [hs_setCell] | rw [hs_alloc] | rw [hs_drew] | rw [hs_drewN])) <;> omega))))))
      case rest =>
        rename_i wd _ _ _
        obtain ⟨rfl, hB6, g2, a6, c6, rfl, j3, j4, hf2⟩ := hcut
        simp only at j3 hf2
        have k6_0_0 := box_cell (b := w1.heap.size) (o := 0) (v := .int .i64 rst) hB6 (by first | assumption | go_simp)
        have q6_0_0 := cell_alloc k6_0_0
        have r6_0_0 := cell_alloc2 k6_0_0
        have k6_0_1 := box_cell (b := w1.heap.size) (o := 1) (v := .slice x1 lr y1) hB6 (by first | assumption | go_simp)
        have q6_0_1 := cell_alloc k6_0_1
        have r6_0_1 := cell_alloc2 k6_0_1
        have z6 := hB6.size
        try simp at z6
        have HhB6 := hid hB6
        clear hB6 q5_0_0 r5_0_0 k5_0_0 q5_0_1 r5_0_1 k5_0_1 q5_1_0 r5_1_0 k5_1_0 q5_1_1 r5_1_1 k5_1_1
        go_wp2_with fail
        refine (zone_same T T _ _ _ ⟨rst, rd⟩ ⟨rst, rd⟩ (ZoneV.mk hf2) (ZoneV.mk (hs2.out.below (by repeat (first | ((with_reducible refine Below.setCell ?_ ?_ _); rotate_left; exact (by first | omega | ((try dsimp only); ((repeat (first | rw [hs_setCell] | rw [hs_alloc] | rw [hs_drew] | rw [hs_drewN])) <;> omega)))) | ((with_reducible refine Below.alloc ?_ ?_ _); rotate_left; exact (by first | omega | ((try dsimp only); ((repeat (first | rw [hs_setCell] | rw [hs_alloc] | rw [hs_drew] | rw [hs_drewN])) <;> omega)))) | (with_reducible refine Below.drew ?_) | (with_reducible refine below_drewN ?_ _) | (with_reducible exact Below.refl _ _) | (with_reducible exact HhB6.out) | (with_reducible exact HhB5.out) | ((with_reducible refine Below.trans ?_ (Below.mono HhB6.out ?_)); rotate_left; exact (by first | omega | ((try dsimp only); ((repeat (first | rw [hs_setCell] | rw [hs_alloc] | rw [hs_drew] | rw [hs_drewN])) <;> omega)))) | ((with_reducible refine Below.trans ?_ (Below.mono HhB5.out ?_)); rotate_left; exact (by first | omega | ((try dsimp only); ((repeat (first | rw [hs_setCell] | rw [hs_alloc] | rw [hs_drew] | rw [hs_drewN])) <;> omega))))))))).mono ?_
        rintro e w8 ⟨rfl, hb8⟩
        rw [decide_eq_true rfl]
        replace hb8 := hid hb8
        go_wp2_with fail
        go_ret
        exact ⟨rfl, (by repeat (first | ((with_reducible refine Below.setCell ?_ ?_ _); rotate_left; exact (by first | omega | ((try dsimp only); ((repeat (first | rw [hs_setCell] | rw [hs_alloc] | rw [hs_drew] | rw [hs_drewN])) <;> omega)))) | ((with_reducible refine Below.alloc ?_ ?_ _); rotate_left; exact (by first | omega | ((try dsimp only); ((repeat (first | rw [hs_setCell] | rw [hs_alloc] | rw [hs_drew] | rw [hs_drewN])) <;> omega)))) | (with_reducible refine Below.drew ?_) | (with_reducible refine below_drewN ?_ _) | (with_reducible exact Below.refl _ _) | (with_reducible exact hb8.out) | (with_reducible exact HhB6.out) | (with_reducible exact HhB5.out) | (with_reducible exact HB2.out) | ((with_reducible refine Below.trans ?_ (Below.mono hb8.out ?_)); rotate_left; exact (by first | omega | ((try dsimp only); ((repeat (first | rw [hs_setCell] | rw [hs_alloc] | rw [hs_drew] | rw [hs_drewN])) <;> omega)))) | ((with_reducible refine Below.trans ?_ (Below.mono HhB6.out ?_)); rotate_left; exact (by first | omega | ((try dsimp only); ((repeat (first | rw [hs_setCell] | rw [hs_alloc] | rw [hs_drew] | rw [hs_drewN])) <;> omega)))) | ((with_reducible refine Below.trans ?_ (Below.mono HhB5.out ?_)); rotate_left; exact (by first | omega | ((try dsimp only); ((repeat (first | rw [hs_setCell] | rw [hs_alloc] | rw [hs_drew] | rw [hs_drewN])) <;> omega)))) | ((with_reducible refine Below.trans ?_ (Below.mono HB2.out ?_)); rotate_left; exact (by first | omega | ((try dsimp only); ((repeat (first | rw [hs_setCell] | rw [hs_alloc] | rw [hs_drew] | rw [hs_drewN])) <;> omega))))))⟩
  · replace hr := hid hr
    go_enter Try.func4, Try.ntmps4
    go_wp2_with fail
    refine (zone_write F G _ _ _ ⟨_, xs⟩ l (ZoneV.mk (hi.below (by repeat (first | ((with_reducible refine Below.setCell ?_ ?_ _); rotate_left; exact (by first | omega | ((try dsimp only); ((repeat (first | rw [hs_setCell] | rw [hs_alloc] | rw [hs_drew] | rw [hs_drewN])) <;> omega)))) | ((with_reducible refine Below.alloc ?_ ?_ _); rotate_left; exact (by first | omega | ((try dsimp only); ((repeat (first | rw [hs_setCell] | rw [hs_alloc] | rw [hs_drew] | rw [hs_drewN])) <;> omega)))) | (with_reducible refine Below.drew ?_) | (with_reducible refine below_drewN ?_ _) | (with_reducible exact Below.refl _ _))))) (hl.below (by repeat (first | ((with_reducible refine Below.setCell ?_ ?_ _); rotate_left; exact (by first | omega | ((try dsimp only); ((repeat (first | rw [hs_setCell] | rw [hs_alloc] | rw [hs_drew] | rw [hs_drewN])) <;> omega)))) | ((with_reducible refine Below.alloc ?_ ?_ _); rotate_left; exact (by first | omega | ((try dsimp only); ((repeat (first | rw [hs_setCell] | rw [hs_alloc] | rw [hs_drew] | rw [hs_drewN])) <;> omega)))) | (with_reducible refine Below.drew ?_) | (with_reducible refine below_drewN ?_ _) | (with_reducible exact Below.refl _ _))))).mono ?_
    rintro e w1 ⟨s1, rfl, hs1, hb1⟩
    rw [hr.out] at hs1 ⊢
    simp only at hs1 ⊢
    obtain ⟨x1, y1, rfl⟩ := hs1.shape hlr.out
    have k7_0_0 := box_cell (b := w.heap.size) (o := 0) (v := .int .i64 st) hb1 (by first | assumption | go_simp)
    have q7_0_0 := cell_alloc k7_0_0
    have r7_0_0 := cell_alloc2 k7_0_0
    have k7_0_1 := box_cell (b := w.heap.size) (o := 1) (v := .slice a m cap) hb1 (by first | assumption | go_simp)
    have q7_0_1 := cell_alloc k7_0_1
    have r7_0_1 := cell_alloc2 k7_0_1
    have z7 := hb1.size
    try simp at z7
    have Hhb1 := hid hb1
    clear hb1 
    go_wp2_with fail
    refine (filled _).mono ?_
    rintro e w2 ⟨rfl, hb2⟩
    have k8_0_0 := box_cell (b := w.heap.size) (o := 0) (v := .int .i64 st) hb2 (by first | assumption | go_simp)
    have q8_0_0 := cell_alloc k8_0_0
    have r8_0_0 := cell_alloc2 k8_0_0
    have k8_0_1 := box_cell (b := w.heap.size) (o := 1) (v := .slice a m cap) hb2 (by first | assumption | go_simp)
    have q8_0_1 := cell_alloc k8_0_1
    have r8_0_1 := cell_alloc2 k8_0_1
    have z8 := hb2.size
    try simp at z8
    have Hhb2 := hid hb2
    clear hb2 q7_0_0 r7_0_0 k7_0_0 q7_0_1 r7_0_1 k7_0_1
    go_wp2_with fail
    refine (filled _).mono ?_
    rintro e w3 ⟨rfl, hb3⟩
    replace hb3 := hid hb3
    go_wp2_with fail
    go_ret
    exact ⟨rfl, (by repeat (first | ((with_reducible refine Below.setCell ?_ ?_ _); rotate_left; exact (by first | omega | ((try dsimp only); ((repeat (first | rw [hs_setCell] | rw [hs_alloc] | rw [hs_drew] | rw [hs_drewN])) <;> omega)))) | ((with_reducible refine Below.alloc ?_ ?_ _); rotate_left; exact (by first | omega | ((try dsimp only); ((repeat (first | rw [hs_setCell] | rw [hs_alloc] | rw [hs_drew] | rw [hs_drewN])) <;> omega)))) | (with_reducible refine Below.drew ?_) | (with_reducible refine below_drewN ?_ _) | (with_reducible exact Below.refl _ _) | (with_reducible exact hb3.out) | (with_reducible exact Hhb2.out) | (with_reducible exact Hhb1.out) | ((with_reducible refine Below.trans ?_ (Below.mono hb3.out ?_)); rotate_left; exact (by first | omega | ((try dsimp only); ((repeat (first | rw [hs_setCell] | rw [hs_alloc] | rw [hs_drew] | rw [hs_drewN])) <;> omega)))) | ((with_reducible refine Below.trans ?_ (Below.mono Hhb2.out ?_)); rotate_left; exact (by first | omega | ((try dsimp only); ((repeat (first | rw [hs_setCell] | rw [hs_alloc] | rw [hs_drew] | rw [hs_drewN])) <;> omega)))) | ((with_reducible refine Below.trans ?_ (Below.mono Hhb1.out ?_)); rotate_left; exact (by first | omega | ((try dsimp only); ((repeat (first | rw [hs_setCell] | rw [hs_alloc] | rw [hs_drew] | rw [hs_drewN])) <;> omega))))))⟩

end Go.Proofs.Ythliojembgdjjaa
