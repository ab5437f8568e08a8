/- ZoneA: the walks of package zone's functions: check, copy, write, read. -/
import Derived.Test.YthliojembgdjjaaProg
import Derived.Test.YthliojembgdjjaaBase
import Derived.Test.YthliojembgdjjaaSpec
namespace Go.Proofs.Ythliojembgdjjaa
open Go.RowKit Go.Proofs
set_option linter.unusedVariables false
set_option maxRecDepth 100000

/-- a zone in a value -/
def ZoneV (F : Nat → Prop) (w : World) (v : Value) (z : S.Zone) : Prop := ∃ s, v = .agg #[.int .i64 z.st, s] ∧ Ints F w s z.d
theorem ZoneV.keep {F : Nat → Prop} {w w' : World} (hk : Keeps F w w') {v z} (h : ZoneV F w v z) : ZoneV F w' v z := by
  obtain ⟨s, rfl, h⟩ := h; exact ⟨s, rfl, h.keep hk⟩
theorem ZoneV.below {F : Nat → Prop} {w w' : World} (hb : Below w.heap.size w w') {v z} (h : ZoneV F w v z) : ZoneV F w' v z := h.keep (Keeps.below hb)

theorem zone_check (F : Nat → Prop) (w : World) (v : Value) (z : S.Zone) (hz : ZoneV F w v z) :
    Calls Try.prog 27 #[v] w fun e w' => e = .returned (.int .i64 (S.checkZone z)) ∧ Below w.heap.size w w' := by
  obtain ⟨s, rfl, hi⟩ := hz
  obtain ⟨st, xs⟩ := z
  simp only at hi ⊢
  have hB : Below w.heap.size w (w.alloc (.cells #[.int .i64 st, s] 24)) := (Below.refl _ _).alloc (Nat.le_refl _) _
  obtain ⟨n, a, cap, rfl, hn, h1, h2, h4, h3⟩ := (hi.below hB).open
  generalize hr : S.checkZone ⟨st, xs⟩ = r
  have x1 : Hid (st < 0 → 4 = r) := by intro c; subst hr; simp [S.checkZone, c]
  have x2 : Hid (4 < st → 4 = r) := by intro c; subst hr; simp [S.checkZone, c]
  have x3 : Hid (0 ≤ st → st ≤ 4 → 8 < n → 2 = r) := by intro c1 c2 c3; subst hr; simp [S.checkZone, hn.out, c3, show ¬ st < 0 by omega, show ¬ 4 < st by omega]
  have x4 : Hid (0 ≤ st → st ≤ 4 → n ≤ 8 → ∀ k, k < n → S.bad (nth xs k) = true → 3 = r) := by
    intro c1 c2 c3 k hk hb; subst hr; simp [S.checkZone, hn.out, show ¬ 8 < n by omega, show ¬ st < 0 by omega, show ¬ 4 < st by omega, any_true (hn.out ▸ hk) hb]
  have x5 : Hid (0 ≤ st → st ≤ 4 → n ≤ 8 → (∀ j, j < n → S.bad (nth xs j) = false) → r = if (st = 0 ∧ 0 < n) ∨ (n = 8 ∧ st ≠ 4) ∨ (st = 3 ∧ n = 0) then 4 else 0) := by
    intro c1 c2 c3 hg; subst hr; simp [S.checkZone, hn.out, show ¬ 8 < n by omega, show ¬ st < 0 by omega, show ¬ 4 < st by omega, any_false (p := S.bad) (hn.out ▸ hg)]
  clear hr hn h4 hi
  by_cases c1 : st < 0
  · go_enter Try.func27, Try.ntmps27
    go_wp2_with fail
    go_ret
    exact ⟨ret_int (x1.out c1), hB⟩
  by_cases c2 : 4 < st
  · go_enter Try.func27, Try.ntmps27
    go_wp2_with fail
    go_ret
    exact ⟨ret_int (x2.out c2), hB⟩
  replace x3 := hid (x3.out (by omega) (by omega))
  replace x4 := hid (x4.out (by omega) (by omega))
  replace x5 := hid (x5.out (by omega) (by omega))
  by_cases c3 : 8 < n
  · go_enter Try.func27, Try.ntmps27
    go_wp2_with fail
    go_ret
    exact ⟨ret_int (x3.out c3), hB⟩
  replace x4 := hid (x4.out (by omega))
  replace x5 := hid (x5.out (by omega))
  go_enter Try.func27, Try.ntmps27
  go_wp2_with fail
  go_loop [4, 21] (fun x i => ∃ k : Nat, k ≤ n ∧ i = .int .i64 k ∧ ∀ j, j < k → S.bad (nth xs j) = false) (fun _ i => n - (intOf i).toNat)
  case atStart => exact ⟨0, Nat.zero_le _, rfl, by intro j hj; omega⟩
  case round =>
    obtain ⟨k, hk, rfl, hg⟩ := hrel
    by_cases hlt : k < n
    · obtain ⟨b, off, rfl, -, hc⟩ := h3 k hlt
      by_cases c4 : S.bad (nth xs k) = true
      · have hz := hid (x4.out k hlt c4)
        clear hg h3 x3 x4 x5
        simp [S.bad] at c4
        rcases c4 with c4 | c4
        · go_wp2_with fail
          go_ret
          exact ⟨ret_int hz.out, hB⟩
        · have : ¬ nth xs k < 0 := by omega
          go_wp2_with fail
          go_ret
          exact ⟨ret_int hz.out, hB⟩
      · have H := hid (all_below_succ hg (by simpa using c4))
        simp [S.bad] at c4
        obtain ⟨d1, d2⟩ := c4
        have hd1 : ¬ nth xs k < 0 := by omega
        have hd2 : ¬ 999 < nth xs k := by omega
        clear d1 d2 hg h3
        go_wp2_with fail
        go_round
        case rel => exact ⟨k + 1, by omega, by go_num, H.out⟩
        case measure => simp [intOf]; omega
    · have hke : k = n := by omega
      subst hke
      have H := hid (x5.out hg)
      clear hg h3
      go_wp2_with fail
      all_goals
        go_ret
        refine ⟨ret_int ?_, (Below.refl _ _).alloc (Nat.le_refl _) _⟩
        rw [H.out]
        go_light
        try simp only [beq_iff_eq] at *
        try simp only [beq_eq_false_iff_ne] at *
        try simp only [ne_eq] at *
        first | rw [if_pos (by omega)] | rw [if_neg (by omega)]

end Go.Proofs.Ythliojembgdjjaa
