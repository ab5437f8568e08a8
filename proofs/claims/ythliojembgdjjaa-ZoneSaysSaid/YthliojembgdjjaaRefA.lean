/- RefA: the reference's in, all, CheckZone, SameZone. -/
import Derived.Test.YthliojembgdjjaaZoneD
namespace Go.Proofs.Ythliojembgdjjaa
open Go.RowKit Go.Proofs
set_option linter.unusedVariables false
set_option maxRecDepth 100000

/-- not from one number to another one -/
def S.out (f t n : Int) : Bool := decide (n < f) || decide (t < n)

theorem ref_in (n f t : Int) (w : World) : Calls Try.prog 101 #[.int .i64 n, .int .i64 f, .int .i64 t] w fun e w' => e = .returned (.bool (!S.out f t n)) ∧ w = w' := by
  by_cases c1 : f ≤ n
  · by_cases c2 : n ≤ t
    · have H := hid (show (!S.out f t n) = true by simp [S.out]; omega)
      have b1 : decide (n ≤ t) = true := by simpa using c2
      go_enter Try.func101, Try.ntmps101
      go_wp2_with fail
      go_ret
      exact ⟨ret_bool (by rw [H.out]), rfl⟩
    · have H := hid (show (!S.out f t n) = false by simp [S.out]; omega)
      have b1 : decide (n ≤ t) = false := by simpa using c2
      go_enter Try.func101, Try.ntmps101
      go_wp2_with fail
      go_ret
      exact ⟨ret_bool (by rw [H.out]), rfl⟩
  · have H := hid (show (!S.out f t n) = false by simp [S.out]; omega)
    have b1 : decide (f ≤ n) = false := by simpa using c1
    go_enter Try.func101, Try.ntmps101
    go_wp2_with fail
    go_ret
    exact ⟨ret_bool (by rw [H.out]), rfl⟩

set_option maxHeartbeats 1000000 in
theorem ref_all (F : Nat → Prop) (w : World) (v : Value) (xs : List Int) (f t : Int) (hx : Ints F w v xs) :
    Calls Try.prog 102 #[v, .int .i64 f, .int .i64 t] w fun e w' => e = .returned (.bool (!xs.any (S.out f t))) ∧ w = w' := by
  obtain ⟨n, a, cap, rfl, hn, h1, h2, h4, h3⟩ := hx.open
  have x1 : Hid (∀ k, k < n → S.out f t (nth xs k) = true → (!xs.any (S.out f t)) = false) := hid (by
    intro k hk hp; rw [any_true (by rw [hn.out]; exact hk) hp]; rfl)
  have x2 : Hid ((∀ j, j < n → S.out f t (nth xs j) = false) → (!xs.any (S.out f t)) = true) := hid (by
    intro h; rw [any_false (p := S.out f t) (by rw [hn.out]; exact h)]; rfl)
  generalize (!xs.any (S.out f t)) = r at *
  clear hn h4 hx
  go_enter Try.func102, Try.ntmps102
  go_wp2_with fail
  go_loop [8, 11] (fun x i => ∃ k : Nat, k ≤ n ∧ i = .int .i64 k ∧ ∀ j, j < k → S.out f t (nth xs j) = false) (fun _ i => n - (intOf i).toNat)
  case atStart => exact ⟨0, Nat.zero_le _, rfl, by intro j hj; omega⟩
  case round =>
    obtain ⟨k, hk, rfl, hb⟩ := hrel
    replace hb := hid hb
    by_cases hlt : k < n
    · obtain ⟨b, off, rfl, -, hc⟩ := h3 k hlt
      clear h3
      go_wp2_with fail
      refine (ref_in _ _ _ _).mono ?_
      rintro e w' ⟨rfl, rfl⟩
      cases hp : S.out f t (nth xs k)
      · have H := hid (all_below_succ hb.out hp)
        clear hp hb
        go_wp2_with fail
        go_round
        case rel => exact ⟨k + 1, by omega, by go_num, H.out⟩
        case measure => simp [intOf]; omega
      · have H := hid (x1.out k hlt hp)
        clear hp hb
        go_wp2_with fail
        go_ret
        exact ⟨ret_bool (by rw [H.out]), rfl⟩
    · have hke : k = n := by omega
      subst hke
      have H := hid (x2.out hb.out)
      clear h3 hb
      go_wp2_with fail
      go_ret
      exact ⟨ret_bool (by rw [H.out]), rfl⟩

theorem ref_sameZone (F G : Nat → Prop) (w : World) (v u : Value) (y z : S.Zone) (hy : ZoneV F w v y) (hz : ZoneV G w u z) :
    Calls Try.prog 33 #[v, u] w fun e w' => e = .returned (.bool (decide (y = z))) ∧ Below w.heap.size w w' := by
  obtain ⟨s, rfl, hi⟩ := hy
  obtain ⟨t, rfl, hj⟩ := hz
  obtain ⟨st, xs⟩ := y
  obtain ⟨su, ys⟩ := z
  simp only at hi hj ⊢
  have hr : Hid (decide ((⟨st, xs⟩ : S.Zone) = ⟨su, ys⟩) = (st == su && decide (xs = ys))) := hid (by
    simp only [S.Zone.mk.injEq]; by_cases h : st = su <;> by_cases h' : xs = ys <;> simp [h, h'])
  rw [hr.out]
  have hb0 : Below w.heap.size w ((w.alloc (.cells #[.int .i64 st, s] 24)).alloc (.cells #[.int .i64 su, t] 24)) := (by repeat (first | ((with_reducible refine Below.setCell ?_ ?_ _); rotate_left; exact (by first | omega | ((try dsimp only); ((repeat (first | rw [hs_setCell] | rw [hs_alloc] | rw [hs_drew] | rw [hs_drewN])) <;> omega)))) | ((with_reducible refine Below.alloc ?_ ?_ _); rotate_left; exact (by first | omega | ((try dsimp only); ((repeat (first | rw [hs_setCell] | rw [hs_alloc] | rw [hs_drew] | rw [hs_drewN])) <;> omega)))) | (with_reducible refine Below.drew ?_) | (with_reducible refine below_drewN ?_ _) | (with_reducible exact Below.refl _ _)))
  by_cases c : st = su
  · subst c
    go_enter Try.func33, Try.ntmps33
    go_wp2_with fail
    refine (equal_int F G _ _ _ _ _ (hi.below hb0) (hj.below hb0)).mono ?_
    rintro e w1 ⟨rfl, hb⟩
    have H := hid (hb0.trans (hb.mono (by first | omega | ((try dsimp only); ((repeat (first | rw [hs_setCell] | rw [hs_alloc] | rw [hs_drew] | rw [hs_drewN])) <;> omega)))))
    clear hb hb0
    go_wp2_with fail
    go_ret
    exact ⟨ret_bool (by simp), H.out⟩
  · have e1 : (st == su) = false := by simpa using c
    have H := hid hb0
    clear hb0 c
    go_enter Try.func33, Try.ntmps33
    go_wp2_with fail
    go_ret
    exact ⟨ret_bool (by rw [e1]; rfl), H.out⟩

set_option maxHeartbeats 2000000 in
theorem ref_checkZone (F : Nat → Prop) (w : World) (v : Value) (z : S.Zone) (hz : ZoneV F w v z) :
    Calls Try.prog 32 #[v] w fun e w' => e = .returned (.int .i64 (S.checkZone z)) ∧ Below w.heap.size w w' := by
  obtain ⟨s, rfl, hi⟩ := hz
  obtain ⟨st, xs⟩ := z
  simp only at hi ⊢
  have hB : Below w.heap.size w (w.alloc (.cells #[.int .i64 st, s] 24)) := (Below.refl _ _).alloc (Nat.le_refl _) _
  replace hi := hi.below hB
  obtain ⟨n, a, cap, rfl, hn, -, h2, -, -⟩ := hi.open
  generalize hr : S.checkZone ⟨st, xs⟩ = r
  have hbad : S.out 0 999 = S.bad := rfl
  by_cases c1 : 0 ≤ st ∧ st ≤ 4
  · have i1 : Hid ((!S.out 0 4 st) = true) := hid (by simp [S.out]; omega)
    by_cases c2 : 8 < n
    · have H := hid (show 2 = r by rw [← hr]; simp only [S.checkZone, hn.out]; rw [if_neg (by omega), if_pos c2])
      clear hr
      go_enter Try.func32, Try.ntmps32
      go_wp2_with fail
      refine (ref_in _ _ _ _).mono ?_
      rintro e w' ⟨rfl, rfl⟩
      rw [i1.out]
      go_wp2_with fail
      go_ret
      exact ⟨ret_int H.out, hB⟩
    cases c3 : xs.any S.bad
    · have H : Hid (r = if (st = 0 ∧ 0 < n) ∨ (n = 8 ∧ st ≠ 4) ∨ (st = 3 ∧ n = 0) then 4 else 0) := hid (by
        rw [← hr]; simp only [S.checkZone, hn.out]; rw [if_neg (by omega), if_neg c2, if_neg (by simp [c3])])
      have i2 : Hid ((!xs.any (S.out 0 999)) = true) := hid (by rw [hbad, c3]; rfl)
      clear hr c3
      go_enter Try.func32, Try.ntmps32
      go_wp2_with fail
      refine (ref_in _ _ _ _).mono ?_
      rintro e w' ⟨rfl, rfl⟩
      rw [i1.out]
      go_wp2_with fail
      refine (ref_all F _ _ xs 0 999 hi).mono ?_
      rintro e w' ⟨rfl, rfl⟩
      rw [i2.out]
      go_wp2_with fail
      all_goals
        go_ret
        refine ⟨ret_int ?_, (Below.refl _ _).alloc (Nat.le_refl _) _⟩
        rw [H.out]
        go_light
        try simp only [beq_iff_eq] at *
        try simp only [beq_eq_false_iff_ne] at *
        try simp only [bne_iff_ne] at *
        try simp only [bne_eq_false_iff_eq] at *
        try simp only [ne_eq] at *
        first | rw [if_pos (by omega)] | rw [if_neg (by omega)]
    · have H := hid (show 3 = r by rw [← hr]; simp only [S.checkZone, hn.out]; rw [if_neg (by omega), if_neg c2, if_pos c3])
      have i2 : Hid ((!xs.any (S.out 0 999)) = false) := hid (by rw [hbad, c3]; rfl)
      clear hr c3
      go_enter Try.func32, Try.ntmps32
      go_wp2_with fail
      refine (ref_in _ _ _ _).mono ?_
      rintro e w' ⟨rfl, rfl⟩
      rw [i1.out]
      go_wp2_with fail
      refine (ref_all F _ _ xs 0 999 hi).mono ?_
      rintro e w' ⟨rfl, rfl⟩
      rw [i2.out]
      go_wp2_with fail
      go_ret
      exact ⟨ret_int H.out, hB⟩
  · have i1 : Hid ((!S.out 0 4 st) = false) := hid (by simp [S.out]; omega)
    have H := hid (show 4 = r by rw [← hr]; simp only [S.checkZone]; rw [if_pos (by omega)])
    clear hr
    go_enter Try.func32, Try.ntmps32
    go_wp2_with fail
    refine (ref_in _ _ _ _).mono ?_
    rintro e w' ⟨rfl, rfl⟩
    rw [i1.out]
    go_wp2_with fail
    go_ret
    exact ⟨ret_int H.out, hB⟩

end Go.Proofs.Ythliojembgdjjaa
