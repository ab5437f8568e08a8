/- ZoneD: slices.Equal on numbers, zone.Same, zone.Read, at; the reference's in, all, CheckZone, SameZone. -/
import Derived.Test.YthliojembgdjjaaZoneC
namespace Go.Proofs.Ythliojembgdjjaa
open Go.RowKit Go.Proofs
set_option linter.unusedVariables false
set_option maxRecDepth 100000

theorem eq_of_nth {xs ys : List Int} (hl : xs.length = ys.length) (h : ∀ j, j < xs.length → nth xs j = nth ys j) : xs = ys := by
  apply List.ext_getElem hl
  intro i h1 h2
  have := h i h1
  rwa [nth_eq h1, nth_eq h2] at this

theorem equal_int (F G : Nat → Prop) (w : World) (v u : Value) (xs ys : List Int) (hx : Ints F w v xs) (hy : Ints G w u ys) :
    Calls Try.prog 26 #[v, u] w fun e w' => e = .returned (.bool (decide (xs = ys))) ∧ Below w.heap.size w w' := by
  obtain ⟨n, a, cap, rfl, hn, h1, h2, h4, h3⟩ := hx.open
  obtain ⟨m, b, cap2, rfl, hm, g1, g2, g4, g3⟩ := hy.open
  have x1 : Hid (n ≠ m → decide (xs = ys) = false) := hid (by intro h; simp only [decide_eq_false_iff_not]; intro e; subst e; exact h (hn.out.symm.trans hm.out))
  have x2 : Hid (∀ k, k < n → nth xs k ≠ nth ys k → decide (xs = ys) = false) := hid (by intro k hk h; simp only [decide_eq_false_iff_not]; intro e; subst e; exact h rfl)
  have x3 : Hid (n = m → (∀ j, j < n → nth xs j = nth ys j) → decide (xs = ys) = true) := hid (by intro e h; simp only [decide_eq_true_eq]; exact eq_of_nth (by rw [hn.out, hm.out, e]) (by rw [hn.out]; exact h))
  generalize decide (xs = ys) = r at *
  clear hn hm hx hy h4 g4
  by_cases c : n = m
  · subst c
    replace x3 := hid (x3.out rfl)
    clear x1
    go_enter Try.func26, Try.ntmps26
    go_wp2_with fail
    go_loopw [13] (fun i wr => Below w.heap.size w wr ∧ ∃ k : Nat, k ≤ n ∧ i = .int .i64 k ∧ ∀ j, j < k → nth xs j = nth ys j) (fun i _ => n - (intOf i).toNat)
    case atStart => exact ⟨Below.refl _ _, 0, Nat.zero_le _, rfl, by intro j hj; omega⟩
    case round =>
      obtain ⟨hB, k, hk, rfl, hb⟩ := hrel
      replace hb := hid hb
      by_cases hlt : k < n
      · obtain ⟨b1, off1, rfl, l1, c1⟩ := h3 k hlt
        obtain ⟨b2, off2, rfl, l2, c2⟩ := g3 k hlt
        have d1 : wr.cell? ⟨b1, off1 + k, none⟩ = some (.int .i64 (nth xs k)) := by rw [hB.cell (p := ⟨b1, off1 + k, none⟩) l1]; exact c1
        have d2 : wr.cell? ⟨b2, off2 + k, none⟩ = some (.int .i64 (nth ys k)) := by rw [hB.cell (p := ⟨b2, off2 + k, none⟩) l2]; exact c2
        clear h3 g3 c1 c2
        by_cases e : nth xs k = nth ys k
        · have H := hid (all_below_succ hb.out e)
          replace hB := hid hB
          have e' : (nth xs k != nth ys k) = false := by simp [e]
          clear e hb
          go_wp2_with fail
          go_quiet (fail)
          go_wp2_with fail
          go_roundw
          case rel => exact ⟨(by repeat (first | ((with_reducible refine Below.setCell ?_ ?_ _); rotate_left; exact (by first | omega | ((try dsimp only); ((repeat (first | rw [hs_setCell] | rw [hs_alloc] | rw [hs_drew] | rw [hs_drewN])) <;> omega)))) | ((with_reducible refine Below.alloc ?_ ?_ _); rotate_left; exact (by first | omega | ((try dsimp only); ((repeat (first | rw [hs_setCell] | rw [hs_alloc] | rw [hs_drew] | rw [hs_drewN])) <;> omega)))) | (with_reducible refine Below.drew ?_) | (with_reducible refine below_drewN ?_ _) | (with_reducible exact Below.refl _ _) | (with_reducible exact hB.out) | ((with_reducible refine Below.trans ?_ (Below.mono hB.out ?_)); rotate_left; exact (by first | omega | ((try dsimp only); ((repeat (first | rw [hs_setCell] | rw [hs_alloc] | rw [hs_drew] | rw [hs_drewN])) <;> omega)))))), k + 1, by omega, by go_num, H.out⟩
          case measure => simp [intOf]; omega
        · have H := hid (x2.out k hlt e)
          have e' : (nth xs k != nth ys k) = true := by simp [e]
          replace hB := hid hB
          clear e hb
          go_wp2_with fail
          go_quiet (fail)
          go_wp2_with fail
          go_ret
          exact ⟨ret_bool (by rw [H.out]), (by repeat (first | ((with_reducible refine Below.setCell ?_ ?_ _); rotate_left; exact (by first | omega | ((try dsimp only); ((repeat (first | rw [hs_setCell] | rw [hs_alloc] | rw [hs_drew] | rw [hs_drewN])) <;> omega)))) | ((with_reducible refine Below.alloc ?_ ?_ _); rotate_left; exact (by first | omega | ((try dsimp only); ((repeat (first | rw [hs_setCell] | rw [hs_alloc] | rw [hs_drew] | rw [hs_drewN])) <;> omega)))) | (with_reducible refine Below.drew ?_) | (with_reducible refine below_drewN ?_ _) | (with_reducible exact Below.refl _ _) | (with_reducible exact hB.out) | ((with_reducible refine Below.trans ?_ (Below.mono hB.out ?_)); rotate_left; exact (by first | omega | ((try dsimp only); ((repeat (first | rw [hs_setCell] | rw [hs_alloc] | rw [hs_drew] | rw [hs_drewN])) <;> omega))))))⟩
      · have hke : k = n := by omega
        subst hke
        have H := hid (x3.out hb.out)
        replace hB := hid hB
        clear h3 g3 hb
        go_wp2_with fail
        go_ret
        exact ⟨ret_bool (by rw [H.out]), hB.out⟩
  · have H := hid (x1.out c)
    go_enter Try.func26, Try.ntmps26
    go_wp2_with fail
    go_ret
    exact ⟨ret_bool (by rw [H.out]), Below.refl _ _⟩

theorem zone_same (F G : Nat → Prop) (w : World) (v u : Value) (y z : S.Zone) (hy : ZoneV F w v y) (hz : ZoneV G w u z) :
    Calls Try.prog 29 #[v, u] w fun e w' => e = .returned (.bool (decide (y = z))) ∧ Below w.heap.size w w' := by
  obtain ⟨s, rfl, hi⟩ := hy
  obtain ⟨t, rfl, hj⟩ := hz
  obtain ⟨st, xs⟩ := y
  obtain ⟨su, ys⟩ := z
  simp only at hi hj ⊢
  have hr : Hid (decide ((⟨st, xs⟩ : S.Zone) = ⟨su, ys⟩) = (st == su && decide (xs = ys))) := hid (by
    simp only [S.Zone.mk.injEq]; by_cases h : st = su <;> by_cases h' : xs = ys <;> simp [h, h'])
  rw [hr.out]
  have hb0 : Below w.heap.size w ((w.alloc (.cells #[.int .i64 st, s] 24)).alloc (.cells #[.int .i64 su, t] 24)) := (by repeat (first | ((with_reducible refine Below.setCell ?_ ?_ _); rotate_left; exact (by first | omega | ((try dsimp only); ((repeat (first | rw [hs_setCell] | rw [hs_alloc] | rw [hs_drew] | rw [hs_drewN])) <;> omega)))) | ((with_reducible refine Below.alloc ?_ ?_ _); rotate_left; exact (by first | omega | ((try dsimp only); ((repeat (first | rw [hs_setCell] | rw [hs_alloc] | rw [hs_drew] | rw [hs_drewN])) <;> omega)))) | (with_reducible refine Below.drew ?_) | (with_reducible refine below_drewN ?_ _) | (with_reducible exact Below.refl _ _)))
  by_cases c : st = su
  · subst c
    go_enter Try.func29, Try.ntmps29
    go_wp2_with fail
    refine (equal_int F G _ _ _ _ _ (hi.below hb0) (hj.below hb0)).mono ?_
    rintro e w1 ⟨rfl, hb⟩
    have H := hid (hb0.trans (hb.mono (by first | omega | ((try dsimp only); ((repeat (first | rw [hs_setCell] | rw [hs_alloc] | rw [hs_drew] | rw [hs_drewN])) <;> omega)))))
    clear hb hb0
    go_wp2_with fail
    go_ret
    exact ⟨ret_bool (by simp), H.out⟩
  · have e1 : (st == su) = false := by simpa using c
    have H := hid hb0
    clear hb0 c
    go_enter Try.func29, Try.ntmps29
    go_wp2_with fail
    go_ret
    exact ⟨ret_bool (by rw [e1]; rfl), H.out⟩

theorem law_at (k n : Int) (w : World) (hn : 0 < n) (hm : n ≤ 1000000) :
    Calls Try.prog 28 #[.int .i64 k, .int .i64 n] w fun e w' => e = .returned (.int .i64 (S.at_ k n)) ∧ w = w' := by
  have h1 := Int.tmod_lt_of_pos k hn
  have h2 : -n < k.tmod n := by
    rcases Int.le_total 0 k with h | h
    · have := Int.tmod_nonneg n h; omega
    · have e := Int.neg_tmod (-k) n
      have := Int.tmod_lt_of_pos (-k) hn
      rw [Int.neg_neg] at e
      omega
  by_cases c : k.tmod n < 0
  · have H := hid (show S.at_ k n = k.tmod n + n by simp [S.at_, c])
    go_enter Try.func28, Try.ntmps28
    go_wp2_with fail
    go_ret
    exact ⟨ret_int (by rw [H.out]), rfl⟩
  · have H := hid (show S.at_ k n = k.tmod n by simp [S.at_, c])
    go_enter Try.func28, Try.ntmps28
    go_wp2_with fail
    go_ret
    exact ⟨ret_int (by rw [H.out]), rfl⟩

set_option maxHeartbeats 4000000 in
theorem zone_read (F : Nat → Prop) (w : World) (v : Value) (z : S.Zone) (k n : Int) (hz : ZoneV F w v z) :
    Calls Try.prog 25 #[v, .int .i64 k, .int .i64 n] w fun e w' => ∃ s, e = .returned (.tuple #[s, .int .i64 (S.readZone z k n).2]) ∧
      Ints (From w.heap.size) w' s (S.readZone z k n).1 ∧ Below w.heap.size w w' := by
  obtain ⟨s, rfl, hi⟩ := hz
  obtain ⟨st, xs⟩ := z
  simp only at hi ⊢
  generalize hr : S.readZone ⟨st, xs⟩ k n = r
  generalize hck : S.checkZone ⟨st, xs⟩ = ck
  obtain ⟨m, a, cap, rfl, hm, h1, h2, h4, h3⟩ := hi.open
  have hb0 : Below w.heap.size w (w.alloc (.cells #[.int .i64 st, .slice a m cap] 24)) := (Below.refl _ _).alloc (Nat.le_refl _) _
  by_cases c1 : ck = 0
  · subst c1
    obtain ⟨q1, q2, q3⟩ := small_of_check hck
    simp only at q1 q2 q3
    rw [hm.out] at q3
    have y1 : Hid (k < 0 ∨ 8 < k ∨ n < 0 ∨ 8 - k < n → r = ([], 3)) := hid (by intro c; rw [← hr]; simp only [S.readZone, hck]; rw [if_neg (by simp), if_pos c])
    have y2 : Hid (¬ (k < 0 ∨ 8 < k ∨ n < 0 ∨ 8 - k < n) → (m : Int) < k + n → r = ([], 6)) := hid (by intro c d; rw [← hr]; simp only [S.readZone, hck, hm.out]; rw [if_neg (by simp), if_neg c, if_pos d])
    have y3 : Hid (¬ (k < 0 ∨ 8 < k ∨ n < 0 ∨ 8 - k < n) → ¬ (m : Int) < k + n → r = ((xs.drop k.toNat).take n.toNat, 0)) := hid (by intro c d; rw [← hr]; simp only [S.readZone, hck, hm.out]; rw [if_neg (by simp), if_neg c, if_neg d])
    replace hck := hid hck
    clear hr h3
    by_cases c2 : k < 0 ∨ 8 < k ∨ n < 0 ∨ 8 - k < n
    · rw [y1.out c2]
      clear y1 y2 y3
      go_enter Try.func25, Try.ntmps25
      go_wp2_with fail
      refine (zone_check F _ _ ⟨_, xs⟩ (ZoneV.mk (hi.below hb0))).mono ?_
      rintro e w1 ⟨rfl, hb⟩
      rw [hck.out]
      have k1_0_0 := box_cell (b := w.heap.size) (o := 0) (v := .int .i64 st) hb (by first | assumption | go_simp)
      have f1_0_0 := box_free (b := w.heap.size) (o := 0) (v := .int .i64 st) hb (by go_simp) (by go_simp)
      have k1_0_1 := box_cell (b := w.heap.size) (o := 1) (v := .slice a m cap) hb (by first | assumption | go_simp)
      have f1_0_1 := box_free (b := w.heap.size) (o := 1) (v := .slice a m cap) hb (by go_simp) (by go_simp)
      have z1 := hb.size
      try simp at z1
      have Hhb := hid hb
      clear hb 
      by_cases d1 : k < 0
      · go_wp2_with fail
        go_ret2
        exact ⟨_, rfl, Ints.nil _ _, (by repeat (first | ((with_reducible refine Below.setCell ?_ ?_ _); rotate_left; exact (by first | omega | ((try dsimp only); ((repeat (first | rw [hs_setCell] | rw [hs_alloc] | rw [hs_drew] | rw [hs_drewN])) <;> omega)))) | ((with_reducible refine Below.alloc ?_ ?_ _); rotate_left; exact (by first | omega | ((try dsimp only); ((repeat (first | rw [hs_setCell] | rw [hs_alloc] | rw [hs_drew] | rw [hs_drewN])) <;> omega)))) | (with_reducible refine Below.drew ?_) | (with_reducible refine below_drewN ?_ _) | (with_reducible exact Below.refl _ _) | (with_reducible exact Hhb.out) | ((with_reducible refine Below.trans ?_ (Below.mono Hhb.out ?_)); rotate_left; exact (by first | omega | ((try dsimp only); ((repeat (first | rw [hs_setCell] | rw [hs_alloc] | rw [hs_drew] | rw [hs_drewN])) <;> omega))))))⟩
      by_cases d2 : 8 < k
      · go_wp2_with fail
        go_ret2
        exact ⟨_, rfl, Ints.nil _ _, (by repeat (first | ((with_reducible refine Below.setCell ?_ ?_ _); rotate_left; exact (by first | omega | ((try dsimp only); ((repeat (first | rw [hs_setCell] | rw [hs_alloc] | rw [hs_drew] | rw [hs_drewN])) <;> omega)))) | ((with_reducible refine Below.alloc ?_ ?_ _); rotate_left; exact (by first | omega | ((try dsimp only); ((repeat (first | rw [hs_setCell] | rw [hs_alloc] | rw [hs_drew] | rw [hs_drewN])) <;> omega)))) | (with_reducible refine Below.drew ?_) | (with_reducible refine below_drewN ?_ _) | (with_reducible exact Below.refl _ _) | (with_reducible exact Hhb.out) | ((with_reducible refine Below.trans ?_ (Below.mono Hhb.out ?_)); rotate_left; exact (by first | omega | ((try dsimp only); ((repeat (first | rw [hs_setCell] | rw [hs_alloc] | rw [hs_drew] | rw [hs_drewN])) <;> omega))))))⟩
      by_cases d3 : n < 0
      · go_wp2_with fail
        go_ret2
        exact ⟨_, rfl, Ints.nil _ _, (by repeat (first | ((with_reducible refine Below.setCell ?_ ?_ _); rotate_left; exact (by first | omega | ((try dsimp only); ((repeat (first | rw [hs_setCell] | rw [hs_alloc] | rw [hs_drew] | rw [hs_drewN])) <;> omega)))) | ((with_reducible refine Below.alloc ?_ ?_ _); rotate_left; exact (by first | omega | ((try dsimp only); ((repeat (first | rw [hs_setCell] | rw [hs_alloc] | rw [hs_drew] | rw [hs_drewN])) <;> omega)))) | (with_reducible refine Below.drew ?_) | (with_reducible refine below_drewN ?_ _) | (with_reducible exact Below.refl _ _) | (with_reducible exact Hhb.out) | ((with_reducible refine Below.trans ?_ (Below.mono Hhb.out ?_)); rotate_left; exact (by first | omega | ((try dsimp only); ((repeat (first | rw [hs_setCell] | rw [hs_alloc] | rw [hs_drew] | rw [hs_drewN])) <;> omega))))))⟩
      have d4 : decide (8 - k < n) = true := by simp; omega
      go_wp2_with fail
      go_ret2
      exact ⟨_, rfl, Ints.nil _ _, (by repeat (first | ((with_reducible refine Below.setCell ?_ ?_ _); rotate_left; exact (by first | omega | ((try dsimp only); ((repeat (first | rw [hs_setCell] | rw [hs_alloc] | rw [hs_drew] | rw [hs_drewN])) <;> omega)))) | ((with_reducible refine Below.alloc ?_ ?_ _); rotate_left; exact (by first | omega | ((try dsimp only); ((repeat (first | rw [hs_setCell] | rw [hs_alloc] | rw [hs_drew] | rw [hs_drewN])) <;> omega)))) | (with_reducible refine Below.drew ?_) | (with_reducible refine below_drewN ?_ _) | (with_reducible exact Below.refl _ _) | (with_reducible exact Hhb.out) | ((with_reducible refine Below.trans ?_ (Below.mono Hhb.out ?_)); rotate_left; exact (by first | omega | ((try dsimp only); ((repeat (first | rw [hs_setCell] | rw [hs_alloc] | rw [hs_drew] | rw [hs_drewN])) <;> omega))))))⟩
    · replace y2 := hid (y2.out c2)
      replace y3 := hid (y3.out c2)
      have d1 : 0 ≤ k := by omega
      have d2 : k ≤ 8 := by omega
      have d3 : 0 ≤ n := by omega
      have d4 : decide (8 - k < n) = false := by simp; omega
      have d5 : n ≤ 8 - k := by omega
      clear y1 c2
      by_cases c3 : (m : Int) < k + n
      · rw [y2.out c3]
        clear y2 y3
        have c3' : decide ((m : Int) < k + n) = true := by simpa using c3
        go_enter Try.func25, Try.ntmps25
        go_wp2_with fail
        refine (zone_check F _ _ ⟨_, xs⟩ (ZoneV.mk (hi.below hb0))).mono ?_
        rintro e w1 ⟨rfl, hb⟩
        rw [hck.out]
        have k2_0_0 := box_cell (b := w.heap.size) (o := 0) (v := .int .i64 st) hb (by first | assumption | go_simp)
        have f2_0_0 := box_free (b := w.heap.size) (o := 0) (v := .int .i64 st) hb (by go_simp) (by go_simp)
        have k2_0_1 := box_cell (b := w.heap.size) (o := 1) (v := .slice a m cap) hb (by first | assumption | go_simp)
        have f2_0_1 := box_free (b := w.heap.size) (o := 1) (v := .slice a m cap) hb (by go_simp) (by go_simp)
        have z2 := hb.size
        try simp at z2
        have Hhb := hid hb
        clear hb 
        go_wp2_with fail
        go_ret2
        exact ⟨_, rfl, Ints.nil _ _, (by repeat (first | ((with_reducible refine Below.setCell ?_ ?_ _); rotate_left; exact (by first | omega | ((try dsimp only); ((repeat (first | rw [hs_setCell] | rw [hs_alloc] | rw [hs_drew] | rw [hs_drewN])) <;> omega)))) | ((with_reducible refine Below.alloc ?_ ?_ _); rotate_left; exact (by first | omega | ((try dsimp only); ((repeat (first | rw [hs_setCell] | rw [hs_alloc] | rw [hs_drew] | rw [hs_drewN])) <;> omega)))) | (with_reducible refine Below.drew ?_) | (with_reducible refine below_drewN ?_ _) | (with_reducible exact Below.refl _ _) | (with_reducible exact Hhb.out) | ((with_reducible refine Below.trans ?_ (Below.mono Hhb.out ?_)); rotate_left; exact (by first | omega | ((try dsimp only); ((repeat (first | rw [hs_setCell] | rw [hs_alloc] | rw [hs_drew] | rw [hs_drewN])) <;> omega))))))⟩
      · rw [y3.out c3]
        clear y2 y3
        obtain ⟨kn, rfl⟩ := Int.eq_ofNat_of_zero_le d1
        obtain ⟨nn, rfl⟩ := Int.eq_ofNat_of_zero_le d3
        have c4 : kn + nn ≤ m := by omega
        rw [show (xs.drop (kn : Int).toNat).take (nn : Int).toNat = (xs.drop kn).take nn from rfl]
        go_enter Try.func25, Try.ntmps25
        go_wp2_with fail
        refine (zone_check F _ _ ⟨_, xs⟩ (ZoneV.mk (hi.below hb0))).mono ?_
        rintro e w1 ⟨rfl, hb⟩
        rw [hck.out]
        have k3_0_0 := box_cell (b := w.heap.size) (o := 0) (v := .int .i64 st) hb (by first | assumption | go_simp)
        have f3_0_0 := box_free (b := w.heap.size) (o := 0) (v := .int .i64 st) hb (by go_simp) (by go_simp)
        have k3_0_1 := box_cell (b := w.heap.size) (o := 1) (v := .slice a m cap) hb (by first | assumption | go_simp)
        have f3_0_1 := box_free (b := w.heap.size) (o := 1) (v := .slice a m cap) hb (by go_simp) (by go_simp)
        have z3 := hb.size
        try simp at z3
        have Hhb := hid hb
        clear hb 
        have hi1 : Sl F w1 (.slice a m cap) m 1 (iv xs) := by
          have hx : Ints F w1 (.slice a m cap) xs := hi.below (by repeat (first | ((with_reducible refine Below.setCell ?_ ?_ _); rotate_left; exact (by first | omega | ((try dsimp only); ((repeat (first | rw [hs_setCell] | rw [hs_alloc] | rw [hs_drew] | rw [hs_drewN])) <;> omega)))) | ((with_reducible refine Below.alloc ?_ ?_ _); rotate_left; exact (by first | omega | ((try dsimp only); ((repeat (first | rw [hs_setCell] | rw [hs_alloc] | rw [hs_drew] | rw [hs_drewN])) <;> omega)))) | (with_reducible refine Below.drew ?_) | (with_reducible refine below_drewN ?_ _) | (with_reducible exact Below.refl _ _) | (with_reducible exact Hhb.out) | ((with_reducible refine Below.trans ?_ (Below.mono Hhb.out ?_)); rotate_left; exact (by first | omega | ((try dsimp only); ((repeat (first | rw [hs_setCell] | rw [hs_alloc] | rw [hs_drew] | rw [hs_drewN])) <;> omega))))))
          unfold Ints at hx
          rw [hm.out] at hx
          exact hx
        replace hi1 := hid hi1
        have hlen : ((xs.drop kn).take nn).length = nn := by have := hm.out; simp; omega
        replace hlen := hid hlen
        go_wp2_with fail
        · have e0 : nn = 0 := by omega
          subst e0
          refine (clone_int F _ _ 0 (iv ((xs.drop kn).take 0)) ?_ (iv_one _) (by omega)).mono ?_
          · refine Sl.cut_nil hi1.out ?_ (by omega)
            intro e
            have := h4.out e
            omega
          rintro e w2 ⟨a2, c2, rfl, ho, hb2⟩
          replace hb2 := hid hb2
          go_wp2_with fail
          go_ret2
          exact ⟨.slice a2 0 c2, rfl, Ints.own (B := w1.heap.size) (e := 3) (by first | omega | ((try dsimp only); ((repeat (first | rw [hs_setCell] | rw [hs_alloc] | rw [hs_drew] | rw [hs_drewN])) <;> omega))) hlen.out (by repeat (first | ((with_reducible refine own_setCell ?_ ?_ _); rotate_left; exact (by first | omega | ((try dsimp only); ((repeat (first | rw [hs_setCell] | rw [hs_alloc] | rw [hs_drew] | rw [hs_drewN])) <;> omega)))) | (with_reducible refine own_alloc ?_ _) | (with_reducible refine own_drew ?_) | (with_reducible exact ho))), (by repeat (first | ((with_reducible refine Below.setCell ?_ ?_ _); rotate_left; exact (by first | omega | ((try dsimp only); ((repeat (first | rw [hs_setCell] | rw [hs_alloc] | rw [hs_drew] | rw [hs_drewN])) <;> omega)))) | ((with_reducible refine Below.alloc ?_ ?_ _); rotate_left; exact (by first | omega | ((try dsimp only); ((repeat (first | rw [hs_setCell] | rw [hs_alloc] | rw [hs_drew] | rw [hs_drewN])) <;> omega)))) | (with_reducible refine Below.drew ?_) | (with_reducible refine below_drewN ?_ _) | (with_reducible exact Below.refl _ _) | (with_reducible exact hb2.out) | (with_reducible exact Hhb.out) | ((with_reducible refine Below.trans ?_ (Below.mono hb2.out ?_)); rotate_left; exact (by first | omega | ((try dsimp only); ((repeat (first | rw [hs_setCell] | rw [hs_alloc] | rw [hs_drew] | rw [hs_drewN])) <;> omega)))) | ((with_reducible refine Below.trans ?_ (Below.mono Hhb.out ?_)); rotate_left; exact (by first | omega | ((try dsimp only); ((repeat (first | rw [hs_setCell] | rw [hs_alloc] | rw [hs_drew] | rw [hs_drewN])) <;> omega))))))⟩
        · refine (clone_int F _ _ nn (iv ((xs.drop kn).take nn)) ?_ (iv_one _) (by omega)).mono ?_
          · rw [iv_cut]
            exact Sl.cut hi1.out c4 (by omega)
          rintro e w2 ⟨a2, c2, rfl, ho, hb2⟩
          replace hb2 := hid hb2
          go_wp2_with fail
          go_ret2
          exact ⟨.slice a2 nn c2, rfl, Ints.own (B := w1.heap.size) (e := 3) (by first | omega | ((try dsimp only); ((repeat (first | rw [hs_setCell] | rw [hs_alloc] | rw [hs_drew] | rw [hs_drewN])) <;> omega))) hlen.out (by repeat (first | ((with_reducible refine own_setCell ?_ ?_ _); rotate_left; exact (by first | omega | ((try dsimp only); ((repeat (first | rw [hs_setCell] | rw [hs_alloc] | rw [hs_drew] | rw [hs_drewN])) <;> omega)))) | (with_reducible refine own_alloc ?_ _) | (with_reducible refine own_drew ?_) | (with_reducible exact ho))), (by repeat (first | ((with_reducible refine Below.setCell ?_ ?_ _); rotate_left; exact (by first | omega | ((try dsimp only); ((repeat (first | rw [hs_setCell] | rw [hs_alloc] | rw [hs_drew] | rw [hs_drewN])) <;> omega)))) | ((with_reducible refine Below.alloc ?_ ?_ _); rotate_left; exact (by first | omega | ((try dsimp only); ((repeat (first | rw [hs_setCell] | rw [hs_alloc] | rw [hs_drew] | rw [hs_drewN])) <;> omega)))) | (with_reducible refine Below.drew ?_) | (with_reducible refine below_drewN ?_ _) | (with_reducible exact Below.refl _ _) | (with_reducible exact hb2.out) | (with_reducible exact Hhb.out) | ((with_reducible refine Below.trans ?_ (Below.mono hb2.out ?_)); rotate_left; exact (by first | omega | ((try dsimp only); ((repeat (first | rw [hs_setCell] | rw [hs_alloc] | rw [hs_drew] | rw [hs_drewN])) <;> omega)))) | ((with_reducible refine Below.trans ?_ (Below.mono Hhb.out ?_)); rotate_left; exact (by first | omega | ((try dsimp only); ((repeat (first | rw [hs_setCell] | rw [hs_alloc] | rw [hs_drew] | rw [hs_drewN])) <;> omega))))))⟩
  · have hrr : Hid (r = ([], ck)) := hid (by rw [← hr]; simp [S.readZone, hck, c1])
    have hck := hid hck
    clear hr h3 h4
    go_enter Try.func25, Try.ntmps25
    go_wp2_with fail
    refine (zone_check F _ _ ⟨_, xs⟩ (ZoneV.mk (hi.below hb0))).mono ?_
    rintro e w1 ⟨rfl, hb⟩
    rw [hck.out]
    have k4_0_0 := box_cell (b := w.heap.size) (o := 0) (v := .int .i64 st) hb (by first | assumption | go_simp)
    have f4_0_0 := box_free (b := w.heap.size) (o := 0) (v := .int .i64 st) hb (by go_simp) (by go_simp)
    have k4_0_1 := box_cell (b := w.heap.size) (o := 1) (v := .slice a m cap) hb (by first | assumption | go_simp)
    have f4_0_1 := box_free (b := w.heap.size) (o := 1) (v := .slice a m cap) hb (by go_simp) (by go_simp)
    have z4 := hb.size
    try simp at z4
    have Hhb := hid hb
    clear hb 
    go_wp2_with fail
    rw [hrr.out]
    go_ret2
    exact ⟨_, rfl, Ints.nil _ _, (by repeat (first | ((with_reducible refine Below.setCell ?_ ?_ _); rotate_left; exact (by first | omega | ((try dsimp only); ((repeat (first | rw [hs_setCell] | rw [hs_alloc] | rw [hs_drew] | rw [hs_drewN])) <;> omega)))) | ((with_reducible refine Below.alloc ?_ ?_ _); rotate_left; exact (by first | omega | ((try dsimp only); ((repeat (first | rw [hs_setCell] | rw [hs_alloc] | rw [hs_drew] | rw [hs_drewN])) <;> omega)))) | (with_reducible refine Below.drew ?_) | (with_reducible refine below_drewN ?_ _) | (with_reducible exact Below.refl _ _) | (with_reducible exact Hhb.out) | ((with_reducible refine Below.trans ?_ (Below.mono Hhb.out ?_)); rotate_left; exact (by first | omega | ((try dsimp only); ((repeat (first | rw [hs_setCell] | rw [hs_alloc] | rw [hs_drew] | rw [hs_drewN])) <;> omega))))))⟩

end Go.Proofs.Ythliojembgdjjaa
