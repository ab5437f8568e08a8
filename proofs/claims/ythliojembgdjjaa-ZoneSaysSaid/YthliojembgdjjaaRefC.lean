/- RefC: the reference's WriteZone. -/
import Derived.Test.YthliojembgdjjaaRefB
namespace Go.Proofs.Ythliojembgdjjaa
open Go.RowKit Go.Proofs
set_option linter.unusedVariables false
set_option maxRecDepth 100000

set_option maxHeartbeats 8000000 in
theorem ref_writeZone (F G : Nat → Prop) (w : World) (v u : Value) (z : S.Zone) (l : List Int) (hz : ZoneV F w v z) (hl : Ints G w u l) :
    Calls Try.prog 30 #[v, u] w fun e w' => ∃ s, e = .returned (.tuple #[.agg #[.int .i64 (S.writeZone z l).1.st, s], .int .i64 (S.writeZone z l).2]) ∧
      Ints (From w.heap.size) w' s (S.writeZone z l).1.d ∧ Below w.heap.size w w' := by
  obtain ⟨s, rfl, hi⟩ := hz
  obtain ⟨st, xs⟩ := z
  simp only at hi ⊢
  generalize hr : S.writeZone ⟨st, xs⟩ l = r
  generalize hck : S.checkZone ⟨st, xs⟩ = ck
  obtain ⟨n, a, cap, rfl, hn, -, -, -, -⟩ := hi.open
  obtain ⟨m, b, cap2, rfl, hm, -, g2, -, -⟩ := hl.open
  have hb0 : Below w.heap.size w ((w.alloc (.cells #[.int .i64 st, .slice a n cap] 24)).alloc (.cells #[.int .i64 0, .slice none 0 0] 24)) := ((Below.refl _ _).alloc (Nat.le_refl _) _).alloc (by simp) _
  have hbad : S.out 0 999 = S.bad := rfl
  by_cases c1 : ck = 0
  · subst c1
    obtain ⟨q1, q2, q3⟩ := small_of_check hck
    simp only at q1 q2 q3
    rw [hn.out] at q3
    have y1 : Hid (m = 0 ∨ 8 < m → r = (⟨0, []⟩, 2)) := by intro c; rw [← hr]; simp [S.writeZone, hck, S.Zone.zero, hm.out, c]
    have y2 : Hid (¬ (m = 0 ∨ 8 < m) → l.any S.bad = true → r = (⟨0, []⟩, 3)) := by intro c d; rw [← hr]; simp only [S.writeZone, hck, S.Zone.zero, hm.out]; rw [if_neg (by simp), if_neg c, if_pos d]
    have y3 : Hid (¬ (m = 0 ∨ 8 < m) → l.any S.bad = false → st = 4 ∨ 8 < n + m → r = (⟨0, []⟩, 7)) := by intro c d g; rw [← hr]; simp only [S.writeZone, hck, S.Zone.zero, hm.out, hn.out]; rw [if_neg (by simp), if_neg c, if_neg (by simp [d]), if_pos g]
    have y4 : Hid (¬ (m = 0 ∨ 8 < m) → l.any S.bad = false → ¬ (st = 4 ∨ 8 < n + m) → r = (⟨if n + m = 8 then 4 else if st = 2 then 2 else 1, xs ++ l⟩, 0)) := by intro c d g; rw [← hr]; simp only [S.writeZone, hck, hm.out, hn.out]; rw [if_neg (by simp), if_neg c, if_neg (by simp [d]), if_neg g]
    replace hck := hid hck
    clear hr
    by_cases c2 : m = 0 ∨ 8 < m
    · rw [y1.out c2]
      have i1 : Hid ((!S.out 1 8 (m : Int)) = false) := hid (by simp [S.out]; omega)
      clear y1 y2 y3 y4 c2
      go_enter Try.func30, Try.ntmps30
      go_wp2_with fail
      refine (ref_checkZone F _ _ ⟨_, xs⟩ (ZoneV.mk (hi.below hb0))).mono ?_
      rintro e w1 ⟨rfl, hb⟩
      rw [hck.out]
      have k1_0_0 := box_cell (b := w.heap.size) (o := 0) (v := .int .i64 st) hb (by first | assumption | go_simp)
      have f1_0_0 := box_free (b := w.heap.size) (o := 0) (v := .int .i64 st) hb (by go_simp) (by go_simp)
      have k1_0_1 := box_cell (b := w.heap.size) (o := 1) (v := .slice a n cap) hb (by first | assumption | go_simp)
      have f1_0_1 := box_free (b := w.heap.size) (o := 1) (v := .slice a n cap) hb (by go_simp) (by go_simp)
      have k1_1_0 := box_cell (b := w.heap.size + 1) (o := 0) (v := .int .i64 0) hb (by first | assumption | go_simp)
      have f1_1_0 := box_free (b := w.heap.size + 1) (o := 0) (v := .int .i64 0) hb (by go_simp) (by go_simp)
      have k1_1_1 := box_cell (b := w.heap.size + 1) (o := 1) (v := .slice none 0 0) hb (by first | assumption | go_simp)
      have f1_1_1 := box_free (b := w.heap.size + 1) (o := 1) (v := .slice none 0 0) hb (by go_simp) (by go_simp)
      have z1 := hb.size
      try simp at z1
      have Hhb := hid hb
      clear hb 
      go_wp2_with fail
      refine (ref_in _ _ _ _).mono ?_
      rintro e w2 ⟨rfl, rfl⟩
      rw [i1.out]
      go_wp2_with fail
      refine bodyPost_ret (v := .tuple #[.agg #[.int .i64 0, .slice none 0 0], .int .i64 2]) (by simp [results, Try.results30, go_sem, *]) rfl ⟨_, rfl, Ints.nil _ _, (by repeat (first | ((with_reducible refine Below.setCell ?_ ?_ _); rotate_left; exact (by first | omega | ((try dsimp only); ((repeat (first | rw [hs_setCell] | rw [hs_alloc] | rw [hs_drew] | rw [hs_drewN])) <;> omega)))) | ((with_reducible refine Below.alloc ?_ ?_ _); rotate_left; exact (by first | omega | ((try dsimp only); ((repeat (first | rw [hs_setCell] | rw [hs_alloc] | rw [hs_drew] | rw [hs_drewN])) <;> omega)))) | (with_reducible refine Below.drew ?_) | (with_reducible refine below_drewN ?_ _) | (with_reducible exact Below.refl _ _) | (with_reducible exact Hhb.out) | ((with_reducible refine Below.trans ?_ (Below.mono Hhb.out ?_)); rotate_left; exact (by first | omega | ((try dsimp only); ((repeat (first | rw [hs_setCell] | rw [hs_alloc] | rw [hs_drew] | rw [hs_drewN])) <;> omega))))))⟩
    have i1 : Hid ((!S.out 1 8 (m : Int)) = true) := hid (by simp [S.out]; omega)
    have y2 := hid (y2.out c2)
    have y3 := hid (y3.out c2)
    have y4 := hid (y4.out c2)
    have e1 : m ≤ 8 := by omega
    have e2 : 1 ≤ m := by omega
    clear y1 c2
    cases d : l.any S.bad
    · replace y3 := hid (y3.out d)
      replace y4 := hid (y4.out d)
      have i2 : Hid ((!l.any (S.out 0 999)) = true) := hid (by rw [hbad, d]; rfl)
      clear y2 d
      by_cases c4 : st = 4 ∨ 8 < n + m
      · rw [y3.out c4]
        have e3 : st = 4 ∨ (st == 4) = false := by by_cases h : st = 4 <;> simp [h]
        clear y3 y4
        rcases e3 with e3 | e3
        · subst e3
          clear c4
          go_enter Try.func30, Try.ntmps30
          go_wp2_with fail
          refine (ref_checkZone F _ _ ⟨_, xs⟩ (ZoneV.mk (hi.below hb0))).mono ?_
          rintro e w1 ⟨rfl, hb⟩
          rw [hck.out]
          have k2_0_0 := box_cell (b := w.heap.size) (o := 0) (v := .int .i64 4) hb (by first | assumption | go_simp)
          have f2_0_0 := box_free (b := w.heap.size) (o := 0) (v := .int .i64 4) hb (by go_simp) (by go_simp)
          have k2_0_1 := box_cell (b := w.heap.size) (o := 1) (v := .slice a n cap) hb (by first | assumption | go_simp)
          have f2_0_1 := box_free (b := w.heap.size) (o := 1) (v := .slice a n cap) hb (by go_simp) (by go_simp)
          have k2_1_0 := box_cell (b := w.heap.size + 1) (o := 0) (v := .int .i64 0) hb (by first | assumption | go_simp)
          have f2_1_0 := box_free (b := w.heap.size + 1) (o := 0) (v := .int .i64 0) hb (by go_simp) (by go_simp)
          have k2_1_1 := box_cell (b := w.heap.size + 1) (o := 1) (v := .slice none 0 0) hb (by first | assumption | go_simp)
          have f2_1_1 := box_free (b := w.heap.size + 1) (o := 1) (v := .slice none 0 0) hb (by go_simp) (by go_simp)
          have z2 := hb.size
          try simp at z2
          have Hhb := hid hb
          clear hb 
          go_wp2_with fail
          refine (ref_in _ _ _ _).mono ?_
          rintro e w2 ⟨rfl, rfl⟩
          rw [i1.out]
          go_wp2_with fail
          refine (ref_all G _ _ l 0 999 (hl.below (by repeat (first | ((with_reducible refine Below.setCell ?_ ?_ _); rotate_left; exact (by first | omega | ((try dsimp only); ((repeat (first | rw [hs_setCell] | rw [hs_alloc] | rw [hs_drew] | rw [hs_drewN])) <;> omega)))) | ((with_reducible refine Below.alloc ?_ ?_ _); rotate_left; exact (by first | omega | ((try dsimp only); ((repeat (first | rw [hs_setCell] | rw [hs_alloc] | rw [hs_drew] | rw [hs_drewN])) <;> omega)))) | (with_reducible refine Below.drew ?_) | (with_reducible refine below_drewN ?_ _) | (with_reducible exact Below.refl _ _) | (with_reducible exact Hhb.out) | ((with_reducible refine Below.trans ?_ (Below.mono Hhb.out ?_)); rotate_left; exact (by first | omega | ((try dsimp only); ((repeat (first | rw [hs_setCell] | rw [hs_alloc] | rw [hs_drew] | rw [hs_drewN])) <;> omega)))))))).mono ?_
          rintro e w2 ⟨rfl, rfl⟩
          rw [i2.out]
          go_wp2_with fail
          refine bodyPost_ret (v := .tuple #[.agg #[.int .i64 0, .slice none 0 0], .int .i64 7]) (by simp [results, Try.results30, go_sem, *]) rfl ⟨_, rfl, Ints.nil _ _, (by repeat (first | ((with_reducible refine Below.setCell ?_ ?_ _); rotate_left; exact (by first | omega | ((try dsimp only); ((repeat (first | rw [hs_setCell] | rw [hs_alloc] | rw [hs_drew] | rw [hs_drewN])) <;> omega)))) | ((with_reducible refine Below.alloc ?_ ?_ _); rotate_left; exact (by first | omega | ((try dsimp only); ((repeat (first | rw [hs_setCell] | rw [hs_alloc] | rw [hs_drew] | rw [hs_drewN])) <;> omega)))) | (with_reducible refine Below.drew ?_) | (with_reducible refine below_drewN ?_ _) | (with_reducible exact Below.refl _ _) | (with_reducible exact Hhb.out) | ((with_reducible refine Below.trans ?_ (Below.mono Hhb.out ?_)); rotate_left; exact (by first | omega | ((try dsimp only); ((repeat (first | rw [hs_setCell] | rw [hs_alloc] | rw [hs_drew] | rw [hs_drewN])) <;> omega))))))⟩
        · have e4 : 8 < n + m := by
            rcases c4 with c4 | c4
            · simp [c4] at e3
            · exact c4
          have e5 : decide ((8 : Int) < n + m) = true := by simp; omega
          clear c4
          go_enter Try.func30, Try.ntmps30
          go_wp2_with fail
          refine (ref_checkZone F _ _ ⟨_, xs⟩ (ZoneV.mk (hi.below hb0))).mono ?_
          rintro e w1 ⟨rfl, hb⟩
          rw [hck.out]
          have k3_0_0 := box_cell (b := w.heap.size) (o := 0) (v := .int .i64 st) hb (by first | assumption | go_simp)
          have f3_0_0 := box_free (b := w.heap.size) (o := 0) (v := .int .i64 st) hb (by go_simp) (by go_simp)
          have k3_0_1 := box_cell (b := w.heap.size) (o := 1) (v := .slice a n cap) hb (by first | assumption | go_simp)
          have f3_0_1 := box_free (b := w.heap.size) (o := 1) (v := .slice a n cap) hb (by go_simp) (by go_simp)
          have k3_1_0 := box_cell (b := w.heap.size + 1) (o := 0) (v := .int .i64 0) hb (by first | assumption | go_simp)
          have f3_1_0 := box_free (b := w.heap.size + 1) (o := 0) (v := .int .i64 0) hb (by go_simp) (by go_simp)
          have k3_1_1 := box_cell (b := w.heap.size + 1) (o := 1) (v := .slice none 0 0) hb (by first | assumption | go_simp)
          have f3_1_1 := box_free (b := w.heap.size + 1) (o := 1) (v := .slice none 0 0) hb (by go_simp) (by go_simp)
          have z3 := hb.size
          try simp at z3
          have Hhb := hid hb
          clear hb 
          go_wp2_with fail
          refine (ref_in _ _ _ _).mono ?_
          rintro e w2 ⟨rfl, rfl⟩
          rw [i1.out]
          go_wp2_with fail
          refine (ref_all G _ _ l 0 999 (hl.below (by repeat (first | ((with_reducible refine Below.setCell ?_ ?_ _); rotate_left; exact (by first | omega | ((try dsimp only); ((repeat (first | rw [hs_setCell] | rw [hs_alloc] | rw [hs_drew] | rw [hs_drewN])) <;> omega)))) | ((with_reducible refine Below.alloc ?_ ?_ _); rotate_left; exact (by first | omega | ((try dsimp only); ((repeat (first | rw [hs_setCell] | rw [hs_alloc] | rw [hs_drew] | rw [hs_drewN])) <;> omega)))) | (with_reducible refine Below.drew ?_) | (with_reducible refine below_drewN ?_ _) | (with_reducible exact Below.refl _ _) | (with_reducible exact Hhb.out) | ((with_reducible refine Below.trans ?_ (Below.mono Hhb.out ?_)); rotate_left; exact (by first | omega | ((try dsimp only); ((repeat (first | rw [hs_setCell] | rw [hs_alloc] | rw [hs_drew] | rw [hs_drewN])) <;> omega)))))))).mono ?_
          rintro e w2 ⟨rfl, rfl⟩
          rw [i2.out]
          go_wp2_with fail
          refine bodyPost_ret (v := .tuple #[.agg #[.int .i64 0, .slice none 0 0], .int .i64 7]) (by simp [results, Try.results30, go_sem, *]) rfl ⟨_, rfl, Ints.nil _ _, (by repeat (first | ((with_reducible refine Below.setCell ?_ ?_ _); rotate_left; exact (by first | omega | ((try dsimp only); ((repeat (first | rw [hs_setCell] | rw [hs_alloc] | rw [hs_drew] | rw [hs_drewN])) <;> omega)))) | ((with_reducible refine Below.alloc ?_ ?_ _); rotate_left; exact (by first | omega | ((try dsimp only); ((repeat (first | rw [hs_setCell] | rw [hs_alloc] | rw [hs_drew] | rw [hs_drewN])) <;> omega)))) | (with_reducible refine Below.drew ?_) | (with_reducible refine below_drewN ?_ _) | (with_reducible exact Below.refl _ _) | (with_reducible exact Hhb.out) | ((with_reducible refine Below.trans ?_ (Below.mono Hhb.out ?_)); rotate_left; exact (by first | omega | ((try dsimp only); ((repeat (first | rw [hs_setCell] | rw [hs_alloc] | rw [hs_drew] | rw [hs_drewN])) <;> omega))))))⟩
      · replace y4 := hid (y4.out c4)
        have e3 : (st == 4) = false := by simp; omega
        have e5 : decide ((8 : Int) < n + m) = false := by simp; omega
        have e4 : n + m ≤ 8 := by omega
        rw [y4.out]
        generalize hq : (if n + m = 8 then (4 : Int) else if st = 2 then 2 else 1) = q
        replace hq := hid hq
        have hn8 : n ≤ 1000 := by omega
        clear y3 c4 y4
        go_enter Try.func30, Try.ntmps30
        go_wp2_with fail
        refine (ref_checkZone F _ _ ⟨_, xs⟩ (ZoneV.mk (hi.below hb0))).mono ?_
        rintro e w1 ⟨rfl, hb⟩
        rw [hck.out]
        have k4_0_0 := box_cell (b := w.heap.size) (o := 0) (v := .int .i64 st) hb (by first | assumption | go_simp)
        have f4_0_0 := box_free (b := w.heap.size) (o := 0) (v := .int .i64 st) hb (by go_simp) (by go_simp)
        have k4_0_1 := box_cell (b := w.heap.size) (o := 1) (v := .slice a n cap) hb (by first | assumption | go_simp)
        have f4_0_1 := box_free (b := w.heap.size) (o := 1) (v := .slice a n cap) hb (by go_simp) (by go_simp)
        have k4_1_0 := box_cell (b := w.heap.size + 1) (o := 0) (v := .int .i64 0) hb (by first | assumption | go_simp)
        have f4_1_0 := box_free (b := w.heap.size + 1) (o := 0) (v := .int .i64 0) hb (by go_simp) (by go_simp)
        have k4_1_1 := box_cell (b := w.heap.size + 1) (o := 1) (v := .slice none 0 0) hb (by first | assumption | go_simp)
        have f4_1_1 := box_free (b := w.heap.size + 1) (o := 1) (v := .slice none 0 0) hb (by go_simp) (by go_simp)
        have z4 := hb.size
        try simp at z4
        have Hhb := hid hb
        clear hb 
        go_wp2_with fail
        refine (ref_in _ _ _ _).mono ?_
        rintro e w2 ⟨rfl, rfl⟩
        rw [i1.out]
        go_wp2_with fail
        refine (ref_all G _ _ l 0 999 (hl.below (by repeat (first | ((with_reducible refine Below.setCell ?_ ?_ _); rotate_left; exact (by first | omega | ((try dsimp only); ((repeat (first | rw [hs_setCell] | rw [hs_alloc] | rw [hs_drew] | rw [hs_drewN])) <;> omega)))) | ((with_reducible refine Below.alloc ?_ ?_ _); rotate_left; exact (by first | omega | ((try dsimp only); ((repeat (first | rw [hs_setCell] | rw [hs_alloc] | rw [hs_drew] | rw [hs_drewN])) <;> omega)))) | (with_reducible refine Below.drew ?_) | (with_reducible refine below_drewN ?_ _) | (with_reducible exact Below.refl _ _) | (with_reducible exact Hhb.out) | ((with_reducible refine Below.trans ?_ (Below.mono Hhb.out ?_)); rotate_left; exact (by first | omega | ((try dsimp only); ((repeat (first | rw [hs_setCell] | rw [hs_alloc] | rw [hs_drew] | rw [hs_drewN])) <;> omega)))))))).mono ?_
        rintro e w2 ⟨rfl, rfl⟩
        rw [i2.out]
        go_wp2_with fail
        refine (concat_int F G _ _ a b n m cap cap2 xs l ⟨w1.heap.size, 2, rfl, by go_simp, by go_simp⟩ (hi.below (by repeat (first | ((with_reducible refine Below.setCell ?_ ?_ _); rotate_left; exact (by first | omega | ((try dsimp only); ((repeat (first | rw [hs_setCell] | rw [hs_alloc] | rw [hs_drew] | rw [hs_drewN])) <;> omega)))) | ((with_reducible refine Below.alloc ?_ ?_ _); rotate_left; exact (by first | omega | ((try dsimp only); ((repeat (first | rw [hs_setCell] | rw [hs_alloc] | rw [hs_drew] | rw [hs_drewN])) <;> omega)))) | (with_reducible refine Below.drew ?_) | (with_reducible refine below_drewN ?_ _) | (with_reducible exact Below.refl _ _) | (with_reducible exact Hhb.out) | ((with_reducible refine Below.trans ?_ (Below.mono Hhb.out ?_)); rotate_left; exact (by first | omega | ((try dsimp only); ((repeat (first | rw [hs_setCell] | rw [hs_alloc] | rw [hs_drew] | rw [hs_drewN])) <;> omega))))))) (hl.below (by repeat (first | ((with_reducible refine Below.setCell ?_ ?_ _); rotate_left; exact (by first | omega | ((try dsimp only); ((repeat (first | rw [hs_setCell] | rw [hs_alloc] | rw [hs_drew] | rw [hs_drewN])) <;> omega)))) | ((with_reducible refine Below.alloc ?_ ?_ _); rotate_left; exact (by first | omega | ((try dsimp only); ((repeat (first | rw [hs_setCell] | rw [hs_alloc] | rw [hs_drew] | rw [hs_drewN])) <;> omega)))) | (with_reducible refine Below.drew ?_) | (with_reducible refine below_drewN ?_ _) | (with_reducible exact Below.refl _ _) | (with_reducible exact Hhb.out) | ((with_reducible refine Below.trans ?_ (Below.mono Hhb.out ?_)); rotate_left; exact (by first | omega | ((try dsimp only); ((repeat (first | rw [hs_setCell] | rw [hs_alloc] | rw [hs_drew] | rw [hs_drewN])) <;> omega))))))) hn.out hm.out hn8 (by omega)).mono ?_
        rintro e w3 ⟨a3, c3, rfl, ho, hb3⟩
        simp only [hs_alloc] at ho
        have hc3 : Below w1.heap.size w1 w3 := below_from (by repeat (first | ((with_reducible refine Below.setCell ?_ ?_ _); rotate_left; exact (by first | omega | ((try dsimp only); ((repeat (first | rw [hs_setCell] | rw [hs_alloc] | rw [hs_drew] | rw [hs_drewN])) <;> omega)))) | ((with_reducible refine Below.alloc ?_ ?_ _); rotate_left; exact (by first | omega | ((try dsimp only); ((repeat (first | rw [hs_setCell] | rw [hs_alloc] | rw [hs_drew] | rw [hs_drewN])) <;> omega)))) | (with_reducible refine Below.drew ?_) | (with_reducible refine below_drewN ?_ _) | (with_reducible exact Below.refl _ _))) hb3
        have z3 := hb3.size
        simp only [hs_alloc] at z3
        clear hb3
        have k5_0_0 := box_cell (b := w.heap.size) (o := 0) (v := .int .i64 st) hc3 (by first | assumption | go_simp)
        have f5_0_0 := box_free (b := w.heap.size) (o := 0) (v := .int .i64 st) hc3 (by go_simp) (by go_simp)
        have q5_0_0 := cell_alloc k5_0_0
        have r5_0_0 := cell_alloc2 k5_0_0
        have k5_0_1 := box_cell (b := w.heap.size) (o := 1) (v := .slice a n cap) hc3 (by first | assumption | go_simp)
        have f5_0_1 := box_free (b := w.heap.size) (o := 1) (v := .slice a n cap) hc3 (by go_simp) (by go_simp)
        have q5_0_1 := cell_alloc k5_0_1
        have r5_0_1 := cell_alloc2 k5_0_1
        have k5_1_0 := box_cell (b := w.heap.size + 1) (o := 0) (v := .int .i64 0) hc3 (by first | assumption | go_simp)
        have f5_1_0 := box_free (b := w.heap.size + 1) (o := 0) (v := .int .i64 0) hc3 (by go_simp) (by go_simp)
        have q5_1_0 := cell_alloc k5_1_0
        have r5_1_0 := cell_alloc2 k5_1_0
        have k5_1_1 := box_cell (b := w.heap.size + 1) (o := 1) (v := .slice none 0 0) hc3 (by first | assumption | go_simp)
        have f5_1_1 := box_free (b := w.heap.size + 1) (o := 1) (v := .slice none 0 0) hc3 (by go_simp) (by go_simp)
        have q5_1_1 := cell_alloc k5_1_1
        have r5_1_1 := cell_alloc2 k5_1_1
        have s5_0_0 := free_alloc k5_0_0 f5_0_0
        have s5_0_1 := free_alloc k5_0_1 f5_0_1
        have s5_1_0 := free_alloc k5_1_0 f5_1_0
        have s5_1_1 := free_alloc k5_1_1 f5_1_1
        have z5 := hc3.size
        try simp at z5
        have Hhc3 := hid hc3
        clear hc3 k4_0_0 f4_0_0 k4_0_1 f4_0_1 k4_1_0 f4_1_0 k4_1_1 f4_1_1
        have ss := setCell_same
        by_cases e6 : st = 2
        · subst e6
          by_cases e8 : n + m = 8
          · have e9 : ((n : Int) + m == 8) = true := by simp; omega
            replace e8 := hid e8
            go_wp2_with fail
            refine bodyPost_ret (v := .tuple #[.agg #[.int .i64 4, .slice a3 (n + m) c3], .int .i64 0]) (by simp [results, Try.results30, go_sem, *]) rfl ⟨.slice a3 (n + m) c3, by rw [← hq.out]; simp [e8.out], Ints.own (B := w1.heap.size + 1) (e := 3) (by first | omega | ((try dsimp only); ((repeat (first | rw [hs_setCell] | rw [hs_alloc] | rw [hs_drew] | rw [hs_drewN])) <;> omega))) (by rw [List.length_append, hn.out, hm.out]) (by repeat (first | ((with_reducible refine own_setCell ?_ ?_ _); rotate_left; exact (by first | omega | ((try dsimp only); ((repeat (first | rw [hs_setCell] | rw [hs_alloc] | rw [hs_drew] | rw [hs_drewN])) <;> omega)))) | (with_reducible refine own_alloc ?_ _) | (with_reducible refine own_drew ?_) | (with_reducible exact ho))), (by repeat (first | ((with_reducible refine Below.setCell ?_ ?_ _); rotate_left; exact (by first | omega | ((try dsimp only); ((repeat (first | rw [hs_setCell] | rw [hs_alloc] | rw [hs_drew] | rw [hs_drewN])) <;> omega)))) | ((with_reducible refine Below.alloc ?_ ?_ _); rotate_left; exact (by first | omega | ((try dsimp only); ((repeat (first | rw [hs_setCell] | rw [hs_alloc] | rw [hs_drew] | rw [hs_drewN])) <;> omega)))) | (with_reducible refine Below.drew ?_) | (with_reducible refine below_drewN ?_ _) | (with_reducible exact Below.refl _ _) | (with_reducible exact Hhc3.out) | (with_reducible exact Hhb.out) | ((with_reducible refine Below.trans ?_ (Below.mono Hhc3.out ?_)); rotate_left; exact (by first | omega | ((try dsimp only); ((repeat (first | rw [hs_setCell] | rw [hs_alloc] | rw [hs_drew] | rw [hs_drewN])) <;> omega)))) | ((with_reducible refine Below.trans ?_ (Below.mono Hhb.out ?_)); rotate_left; exact (by first | omega | ((try dsimp only); ((repeat (first | rw [hs_setCell] | rw [hs_alloc] | rw [hs_drew] | rw [hs_drewN])) <;> omega))))))⟩
          · have e9 : ((n : Int) + m == 8) = false := by simp; omega
            replace e8 := hid e8
            go_wp2_with fail
            refine bodyPost_ret (v := .tuple #[.agg #[.int .i64 2, .slice a3 (n + m) c3], .int .i64 0]) (by simp [results, Try.results30, go_sem, *]) rfl ⟨.slice a3 (n + m) c3, by rw [← hq.out]; simp [e8.out], Ints.own (B := w1.heap.size + 1) (e := 3) (by first | omega | ((try dsimp only); ((repeat (first | rw [hs_setCell] | rw [hs_alloc] | rw [hs_drew] | rw [hs_drewN])) <;> omega))) (by rw [List.length_append, hn.out, hm.out]) (by repeat (first | ((with_reducible refine own_setCell ?_ ?_ _); rotate_left; exact (by first | omega | ((try dsimp only); ((repeat (first | rw [hs_setCell] | rw [hs_alloc] | rw [hs_drew] | rw [hs_drewN])) <;> omega)))) | (with_reducible refine own_alloc ?_ _) | (with_reducible refine own_drew ?_) | (with_reducible exact ho))), (by repeat (first | ((with_reducible refine Below.setCell ?_ ?_ _); rotate_left; exact (by first | omega | ((try dsimp only); ((repeat (first | rw [hs_setCell] | rw [hs_alloc] | rw [hs_drew] | rw [hs_drewN])) <;> omega)))) | ((with_reducible refine Below.alloc ?_ ?_ _); rotate_left; exact (by first | omega | ((try dsimp only); ((repeat (first | rw [hs_setCell] | rw [hs_alloc] | rw [hs_drew] | rw [hs_drewN])) <;> omega)))) | (with_reducible refine Below.drew ?_) | (with_reducible refine below_drewN ?_ _) | (with_reducible exact Below.refl _ _) | (with_reducible exact Hhc3.out) | (with_reducible exact Hhb.out) | ((with_reducible refine Below.trans ?_ (Below.mono Hhc3.out ?_)); rotate_left; exact (by first | omega | ((try dsimp only); ((repeat (first | rw [hs_setCell] | rw [hs_alloc] | rw [hs_drew] | rw [hs_drewN])) <;> omega)))) | ((with_reducible refine Below.trans ?_ (Below.mono Hhb.out ?_)); rotate_left; exact (by first | omega | ((try dsimp only); ((repeat (first | rw [hs_setCell] | rw [hs_alloc] | rw [hs_drew] | rw [hs_drewN])) <;> omega))))))⟩
        · have e7 : (st == 2) = false := by simp [e6]
          replace e6 := hid e6
          by_cases e8 : n + m = 8
          · have e9 : ((n : Int) + m == 8) = true := by simp; omega
            replace e8 := hid e8
            go_wp2_with fail
            refine bodyPost_ret (v := .tuple #[.agg #[.int .i64 4, .slice a3 (n + m) c3], .int .i64 0]) (by simp [results, Try.results30, go_sem, *]) rfl ⟨.slice a3 (n + m) c3, by rw [← hq.out]; simp [e8.out], Ints.own (B := w1.heap.size + 1) (e := 3) (by first | omega | ((try dsimp only); ((repeat (first | rw [hs_setCell] | rw [hs_alloc] | rw [hs_drew] | rw [hs_drewN])) <;> omega))) (by rw [List.length_append, hn.out, hm.out]) (by repeat (first | ((with_reducible refine own_setCell ?_ ?_ _); rotate_left; exact (by first | omega | ((try dsimp only); ((repeat (first | rw [hs_setCell] | rw [hs_alloc] | rw [hs_drew] | rw [hs_drewN])) <;> omega)))) | (with_reducible refine own_alloc ?_ _) | (with_reducible refine own_drew ?_) | (with_reducible exact ho))), (by repeat (first | ((with_reducible refine Below.setCell ?_ ?_ _); rotate_left; exact (by first | omega | ((try dsimp only); ((repeat (first | rw [hs_setCell] | rw [hs_alloc] | rw [hs_drew] | rw [hs_drewN])) <;> omega)))) | ((with_reducible refine Below.alloc ?_ ?_ _); rotate_left; exact (by first | omega | ((try dsimp only); ((repeat (first | rw [hs_setCell] | rw [hs_alloc] | rw [hs_drew] | rw [hs_drewN])) <;> omega)))) | (with_reducible refine Below.drew ?_) | (with_reducible refine below_drewN ?_ _) | (with_reducible exact Below.refl _ _) | (with_reducible exact Hhc3.out) | (with_reducible exact Hhb.out) | ((with_reducible refine Below.trans ?_ (Below.mono Hhc3.out ?_)); rotate_left; exact (by first | omega | ((try dsimp only); ((repeat (first | rw [hs_setCell] | rw [hs_alloc] | rw [hs_drew] | rw [hs_drewN])) <;> omega)))) | ((with_reducible refine Below.trans ?_ (Below.mono Hhb.out ?_)); rotate_left; exact (by first | omega | ((try dsimp only); ((repeat (first | rw [hs_setCell] | rw [hs_alloc] | rw [hs_drew] | rw [hs_drewN])) <;> omega))))))⟩
          · have e9 : ((n : Int) + m == 8) = false := by simp; omega
            replace e8 := hid e8
            go_wp2_with fail
            refine bodyPost_ret (v := .tuple #[.agg #[.int .i64 1, .slice a3 (n + m) c3], .int .i64 0]) (by simp [results, Try.results30, go_sem, *]) rfl ⟨.slice a3 (n + m) c3, by rw [← hq.out]; simp [e8.out, e6.out], Ints.own (B := w1.heap.size + 1) (e := 3) (by first | omega | ((try dsimp only); ((repeat (first | rw [hs_setCell] | rw [hs_alloc] | rw [hs_drew] | rw [hs_drewN])) <;> omega))) (by rw [List.length_append, hn.out, hm.out]) (by repeat (first | ((with_reducible refine own_setCell ?_ ?_ _); rotate_left; exact (by first | omega | ((try dsimp only); ((repeat (first | rw [hs_setCell] | rw [hs_alloc] | rw [hs_drew] | rw [hs_drewN])) <;> omega)))) | (with_reducible refine own_alloc ?_ _) | (with_reducible refine own_drew ?_) | (with_reducible exact ho))), (by repeat (first | ((with_reducible refine Below.setCell ?_ ?_ _); rotate_left; exact (by first | omega | ((try dsimp only); ((repeat (first | rw [hs_setCell] | rw [hs_alloc] | rw [hs_drew] | rw [hs_drewN])) <;> omega)))) | ((with_reducible refine Below.alloc ?_ ?_ _); rotate_left; exact (by first | omega | ((try dsimp only); ((repeat (first | rw [hs_setCell] | rw [hs_alloc] | rw [hs_drew] | rw [hs_drewN])) <;> omega)))) | (with_reducible refine Below.drew ?_) | (with_reducible refine below_drewN ?_ _) | (with_reducible exact Below.refl _ _) | (with_reducible exact Hhc3.out) | (with_reducible exact Hhb.out) | ((with_reducible refine Below.trans ?_ (Below.mono Hhc3.out ?_)); rotate_left; exact (by first | omega | ((try dsimp only); ((repeat (first | rw [hs_setCell] | rw [hs_alloc] | rw [hs_drew] | rw [hs_drewN])) <;> omega)))) | ((with_reducible refine Below.trans ?_ (Below.mono Hhb.out ?_)); rotate_left; exact (by first | omega | ((try dsimp only); ((repeat (first | rw [hs_setCell] | rw [hs_alloc] | rw [hs_drew] | rw [hs_drewN])) <;> omega))))))⟩
    · rw [y2.out d]
      have i2 : Hid ((!l.any (S.out 0 999)) = false) := hid (by rw [hbad, d]; rfl)
      clear y2 y3 y4 d
      go_enter Try.func30, Try.ntmps30
      go_wp2_with fail
      refine (ref_checkZone F _ _ ⟨_, xs⟩ (ZoneV.mk (hi.below hb0))).mono ?_
      rintro e w1 ⟨rfl, hb⟩
      rw [hck.out]
      have k6_0_0 := box_cell (b := w.heap.size) (o := 0) (v := .int .i64 st) hb (by first | assumption | go_simp)
      have f6_0_0 := box_free (b := w.heap.size) (o := 0) (v := .int .i64 st) hb (by go_simp) (by go_simp)
      have k6_0_1 := box_cell (b := w.heap.size) (o := 1) (v := .slice a n cap) hb (by first | assumption | go_simp)
      have f6_0_1 := box_free (b := w.heap.size) (o := 1) (v := .slice a n cap) hb (by go_simp) (by go_simp)
      have k6_1_0 := box_cell (b := w.heap.size + 1) (o := 0) (v := .int .i64 0) hb (by first | assumption | go_simp)
      have f6_1_0 := box_free (b := w.heap.size + 1) (o := 0) (v := .int .i64 0) hb (by go_simp) (by go_simp)
      have k6_1_1 := box_cell (b := w.heap.size + 1) (o := 1) (v := .slice none 0 0) hb (by first | assumption | go_simp)
      have f6_1_1 := box_free (b := w.heap.size + 1) (o := 1) (v := .slice none 0 0) hb (by go_simp) (by go_simp)
      have z6 := hb.size
      try simp at z6
      have Hhb := hid hb
      clear hb 
      go_wp2_with fail
      refine (ref_in _ _ _ _).mono ?_
      rintro e w2 ⟨rfl, rfl⟩
      rw [i1.out]
      go_wp2_with fail
      refine (ref_all G _ _ l 0 999 (hl.below (by repeat (first | ((with_reducible refine Below.setCell ?_ ?_ _); rotate_left; exact (by first | omega | ((try dsimp only); ((repeat (first | rw [hs_setCell] | rw [hs_alloc] | rw [hs_drew] | rw [hs_drewN])) <;> omega)))) | ((with_reducible refine Below.alloc ?_ ?_ _); rotate_left; exact (by first | omega | ((try dsimp only); ((repeat (first | rw [hs_setCell] | rw [hs_alloc] | rw [hs_drew] | rw [hs_drewN])) <;> omega)))) | (with_reducible refine Below.drew ?_) | (with_reducible refine below_drewN ?_ _) | (with_reducible exact Below.refl _ _) | (with_reducible exact Hhb.out) | ((with_reducible refine Below.trans ?_ (Below.mono Hhb.out ?_)); rotate_left; exact (by first | omega | ((try dsimp only); ((repeat (first | rw [hs_setCell] | rw [hs_alloc] | rw [hs_drew] | rw [hs_drewN])) <;> omega)))))))).mono ?_
      rintro e w2 ⟨rfl, rfl⟩
      rw [i2.out]
      go_wp2_with fail
      refine bodyPost_ret (v := .tuple #[.agg #[.int .i64 0, .slice none 0 0], .int .i64 3]) (by simp [results, Try.results30, go_sem, *]) rfl ⟨_, rfl, Ints.nil _ _, (by repeat (first | ((with_reducible refine Below.setCell ?_ ?_ _); rotate_left; exact (by first | omega | ((try dsimp only); ((repeat (first | rw [hs_setCell] | rw [hs_alloc] | rw [hs_drew] | rw [hs_drewN])) <;> omega)))) | ((with_reducible refine Below.alloc ?_ ?_ _); rotate_left; exact (by first | omega | ((try dsimp only); ((repeat (first | rw [hs_setCell] | rw [hs_alloc] | rw [hs_drew] | rw [hs_drewN])) <;> omega)))) | (with_reducible refine Below.drew ?_) | (with_reducible refine below_drewN ?_ _) | (with_reducible exact Below.refl _ _) | (with_reducible exact Hhb.out) | ((with_reducible refine Below.trans ?_ (Below.mono Hhb.out ?_)); rotate_left; exact (by first | omega | ((try dsimp only); ((repeat (first | rw [hs_setCell] | rw [hs_alloc] | rw [hs_drew] | rw [hs_drewN])) <;> omega))))))⟩
  · have hrr : Hid (r = (⟨0, []⟩, ck)) := hid (by rw [← hr]; simp [S.writeZone, hck, c1, S.Zone.zero])
    have hck := hid hck
    clear hr
    go_enter Try.func30, Try.ntmps30
    go_wp2_with fail
    refine (ref_checkZone F _ _ ⟨_, xs⟩ (ZoneV.mk (hi.below hb0))).mono ?_
    rintro e w1 ⟨rfl, hb⟩
    rw [hck.out]
    have k7_0_0 := box_cell (b := w.heap.size) (o := 0) (v := .int .i64 st) hb (by first | assumption | go_simp)
    have f7_0_0 := box_free (b := w.heap.size) (o := 0) (v := .int .i64 st) hb (by go_simp) (by go_simp)
    have k7_0_1 := box_cell (b := w.heap.size) (o := 1) (v := .slice a n cap) hb (by first | assumption | go_simp)
    have f7_0_1 := box_free (b := w.heap.size) (o := 1) (v := .slice a n cap) hb (by go_simp) (by go_simp)
    have k7_1_0 := box_cell (b := w.heap.size + 1) (o := 0) (v := .int .i64 0) hb (by first | assumption | go_simp)
    have f7_1_0 := box_free (b := w.heap.size + 1) (o := 0) (v := .int .i64 0) hb (by go_simp) (by go_simp)
    have k7_1_1 := box_cell (b := w.heap.size + 1) (o := 1) (v := .slice none 0 0) hb (by first | assumption | go_simp)
    have f7_1_1 := box_free (b := w.heap.size + 1) (o := 1) (v := .slice none 0 0) hb (by go_simp) (by go_simp)
    have z7 := hb.size
    try simp at z7
    have Hhb := hid hb
    clear hb 
    go_wp2_with fail
    rw [hrr.out]
    refine bodyPost_ret (v := .tuple #[.agg #[.int .i64 0, .slice none 0 0], .int .i64 ck]) (by simp [results, Try.results30, go_sem, *]) rfl ⟨_, rfl, Ints.nil _ _, (by repeat (first | ((with_reducible refine Below.setCell ?_ ?_ _); rotate_left; exact (by first | omega | ((try dsimp only); ((repeat (first | rw [hs_setCell] | rw [hs_alloc] | rw [hs_drew] | rw [hs_drewN])) <;> omega)))) | ((with_reducible refine Below.alloc ?_ ?_ _); rotate_left; exact (by first | omega | ((try dsimp only); ((repeat (first | rw [hs_setCell] | rw [hs_alloc] | rw [hs_drew] | rw [hs_drewN])) <;> omega)))) | (with_reducible refine Below.drew ?_) | (with_reducible refine below_drewN ?_ _) | (with_reducible exact Below.refl _ _) | (with_reducible exact Hhb.out) | ((with_reducible refine Below.trans ?_ (Below.mono Hhb.out ?_)); rotate_left; exact (by first | omega | ((try dsimp only); ((repeat (first | rw [hs_setCell] | rw [hs_alloc] | rw [hs_drew] | rw [hs_drewN])) <;> omega))))))⟩

end Go.Proofs.Ythliojembgdjjaa
