/- Lm: law.BookHolds, by the engine. -/
import Derived.Test.YtdjdjnmccphbjaaLl
import Derived.Test.YtdjdjnmccphbjaaEa
namespace Go.Proofs.Ytdjdjnmccphbjaa.E
open Go.RowKit Go.Proofs
set_option maxRecDepth 100000
set_option maxHeartbeats 1000000
set_option linter.unusedSimpArgs false

theorem might_more (c : S.Book) (k : Int) : (S.might c k true = true → S.might c k false = true) ∧ (k = c.h ∨ c.h < 0 → S.might c k true = true) := by
  unfold S.might
  constructor
  · intro h
    grind
  · intro h
    grind

theorem law_BookHolds (b : S.Book) (who n kind : Int) : C Try.prog 5 [Bk b, Int' who, Int' n, Int' kind] (Bool' true) [] := by
  obtain ⟨w, hwe⟩ : ∃ w, w = who % 3 := ⟨_, rfl⟩
  obtain ⟨q, hqe⟩ : ∃ q, q = kind % 5 := ⟨_, rfl⟩
  have hw : w = 0 ∨ w = 1 ∨ w = 2 := by omega
  have hq : q = 0 ∨ q = 1 ∨ q = 2 ∨ q = 3 ∨ q = 4 := by omega
  by_cases hb : S.checkBook b = 0
  · obtain ⟨xs, bh, bt⟩ := b
    obtain ⟨r, hr⟩ : ∃ r, S.move q ⟨xs, bh, bt⟩ w n = r := ⟨_, rfl⟩
    have hg : r.2 = 0 → S.checkBook r.1 = 0 ∧ (q < 3 → 0 ≤ q → 0 ≤ bh → bh ≠ w → r.1.h = bh ∧ r.1.t = bt) := by
      intro h0; rw [← hr]; exact move_good hb hw (by rw [hr]; exact h0)
    have c0 := hid (mv0 ⟨xs, bh, bt⟩ w n)
    have c1 := hid (mv1 ⟨xs, bh, bt⟩ w n)
    have c2 := hid (mv2 ⟨xs, bh, bt⟩ w n)
    have c3 := hid (mv3 ⟨xs, bh, bt⟩ w n)
    have c4 := hid (mv4 ⟨xs, bh, bt⟩ w n)
    replace hr := hid hr
    replace hg := hid hg
    refine C_inline [] Try.func5 (fun _ _ => by kernel_rfl) rfl (by kernel_rfl) (by rfl) (by decide) (by rfl) (by rfl) (by rfl) ?_
    simp -dsimp -implicitDefEqProofs [-getElem?_pos, -List.map_append, List.getElem?_cons_zero, List.getElem?_cons_succ]
    refine call_C (law_booked) (by first | rfl | (simp -dsimp -implicitDefEqProofs; done)) (by first | exact Or.inr (by rfl) | exact Or.inl ⟨by rfl, by first | rfl | simp [newNews, newLeaf, I]⟩) (Nat.le_of_ble_eq_true rfl) ?_
    simp -dsimp -implicitDefEqProofs [-getElem?_pos, -List.map_append, List.getElem?_cons_zero, List.getElem?_cons_succ]
    refine call_C (book_Check ⟨xs, bh, bt⟩) (by first | rfl | (simp -dsimp -implicitDefEqProofs; done)) (by first | exact Or.inr (by rfl) | exact Or.inl ⟨by rfl, by first | rfl | simp [newNews, newLeaf, I]⟩) (Nat.le_of_ble_eq_true rfl) ?_
    simp -dsimp -implicitDefEqProofs [-getElem?_pos, -List.map_append, List.getElem?_cons_zero, List.getElem?_cons_succ, hb]
    refine call_C (at_law who 3 (by omega)) (by first | rfl | (simp -dsimp -implicitDefEqProofs; done)) (by first | exact Or.inr (by rfl) | exact Or.inl ⟨by rfl, by first | rfl | simp [newNews, newLeaf, I]⟩) (Nat.le_of_ble_eq_true rfl) ?_
    rw [← hwe]
    simp -dsimp -implicitDefEqProofs [-getElem?_pos, -List.map_append, List.getElem?_cons_zero, List.getElem?_cons_succ]
    refine call_C (at_law kind 5 (by omega)) (by first | rfl | (simp -dsimp -implicitDefEqProofs; done)) (by first | exact Or.inr (by rfl) | exact Or.inl ⟨by rfl, by first | rfl | simp [newNews, newLeaf, I]⟩) (Nat.le_of_ble_eq_true rfl) ?_
    rw [← hqe]
    clear hwe hqe
    replace hw := hid hw
    rcases hq with rfl | rfl | rfl | rfl | rfl
    all_goals
      simp -dsimp -implicitDefEqProofs [-getElem?_pos, -List.map_append, List.getElem?_cons_zero, List.getElem?_cons_succ]
      first | refine call_C (c0.out) (by first | rfl | (simp -dsimp -implicitDefEqProofs; done)) (by first | exact Or.inr (by rfl) | exact Or.inl ⟨by rfl, by first | rfl | simp [newNews, newLeaf, I]⟩) (Nat.le_of_ble_eq_true rfl) ?_ | refine call_C (c1.out) (by first | rfl | (simp -dsimp -implicitDefEqProofs; done)) (by first | exact Or.inr (by rfl) | exact Or.inl ⟨by rfl, by first | rfl | simp [newNews, newLeaf, I]⟩) (Nat.le_of_ble_eq_true rfl) ?_ | refine call_C (c2.out) (by first | rfl | (simp -dsimp -implicitDefEqProofs; done)) (by first | exact Or.inr (by rfl) | exact Or.inl ⟨by rfl, by first | rfl | simp [newNews, newLeaf, I]⟩) (Nat.le_of_ble_eq_true rfl) ?_ | refine call_C (c3.out) (by first | rfl | (simp -dsimp -implicitDefEqProofs; done)) (by first | exact Or.inr (by rfl) | exact Or.inl ⟨by rfl, by first | rfl | simp [newNews, newLeaf, I]⟩) (Nat.le_of_ble_eq_true rfl) ?_ | refine call_C (c4.out) (by first | rfl | (simp -dsimp -implicitDefEqProofs; done)) (by first | exact Or.inr (by rfl) | exact Or.inl ⟨by rfl, by first | rfl | simp [newNews, newLeaf, I]⟩) (Nat.le_of_ble_eq_true rfl) ?_
      rw [hr.out]
      simp -dsimp -implicitDefEqProofs [-getElem?_pos, -List.map_append, List.getElem?_cons_zero, List.getElem?_cons_succ]
      by_cases h2 : r.2 = 0
      rotate_left
      · simp -dsimp -implicitDefEqProofs [-getElem?_pos, -List.map_append, List.getElem?_cons_zero, List.getElem?_cons_succ, h2]
        exact ends_bool rfl
      · obtain ⟨g1, g2⟩ := hg.out h2
        obtain ⟨x0, x1, x2, hs⟩ := check_shape g1
        obtain ⟨⟨k, h, t⟩, c⟩ := r
        simp only at h2 hs g2
        simp only [S.Book.mk.injEq, and_true] at hs
        subst hs h2
        have g3 := hid ((check_iff x0 x1 x2 h t).1 g1)
        replace g2 := hid g2
        have m0 := hid (book_May ⟨[x0, x1, x2], h, t⟩ 0 true)
        have m1 := hid (book_May ⟨[x0, x1, x2], h, t⟩ 1 true)
        have m2 := hid (book_May ⟨[x0, x1, x2], h, t⟩ 2 true)
        have n0 := hid (book_May ⟨[x0, x1, x2], h, t⟩ 0 false)
        have n1 := hid (book_May ⟨[x0, x1, x2], h, t⟩ 1 false)
        have n2 := hid (book_May ⟨[x0, x1, x2], h, t⟩ 2 false)
        simp only [S.may, good_ready g1 (w := 0) (by simp), good_ready g1 (w := 1) (by simp), good_ready g1 (w := 2) (by simp), ne_eq, not_true_eq_false, if_false] at m0 m1 m2 n0 n1 n2
        have f0 := hid (might_more ⟨[x0, x1, x2], h, t⟩ 0)
        have f1 := hid (might_more ⟨[x0, x1, x2], h, t⟩ 1)
        have f2 := hid (might_more ⟨[x0, x1, x2], h, t⟩ 2)
        generalize S.might ⟨[x0, x1, x2], h, t⟩ 0 true = a0 at *
        generalize S.might ⟨[x0, x1, x2], h, t⟩ 1 true = a1 at *
        generalize S.might ⟨[x0, x1, x2], h, t⟩ 2 true = a2 at *
        generalize S.might ⟨[x0, x1, x2], h, t⟩ 0 false = b0 at *
        generalize S.might ⟨[x0, x1, x2], h, t⟩ 1 false = b1 at *
        generalize S.might ⟨[x0, x1, x2], h, t⟩ 2 false = b2 at *
        simp only at f0 f1 f2
        clear hr c0 c1 c2 c3 c4 hg
        have g4 := hid g1
        clear g1
        simp -dsimp -implicitDefEqProofs [-getElem?_pos, -List.map_append, List.getElem?_cons_zero, List.getElem?_cons_succ]
        refine call_C (book_Check ⟨[x0, x1, x2], h, t⟩) (by first | rfl | (simp -dsimp -implicitDefEqProofs; done)) (by first | exact Or.inr (by rfl) | exact Or.inl ⟨by rfl, by first | rfl | simp [newNews, newLeaf, I]⟩) (Nat.le_of_ble_eq_true rfl) ?_
        simp -dsimp -implicitDefEqProofs [-getElem?_pos, -List.map_append, List.getElem?_cons_zero, List.getElem?_cons_succ, g4.out]
        try (refine brA_split (fun h1 => ?_) (fun h1 => ?_); · (exfalso; have := g2.out; simp at h1 this; grind))
        try (simp -dsimp -implicitDefEqProofs [-getElem?_pos, -List.map_append, List.getElem?_cons_zero, List.getElem?_cons_succ])
        refine loop_unroll 4 ?_
        simp -dsimp -implicitDefEqProofs [-getElem?_pos, -List.map_append, List.getElem?_cons_zero, List.getElem?_cons_succ]
        refine call_C (m0.out) (by first | rfl | (simp -dsimp -implicitDefEqProofs; done)) (by first | exact Or.inr (by rfl) | exact Or.inl ⟨by rfl, by first | rfl | simp [newNews, newLeaf, I]⟩) (Nat.le_of_ble_eq_true rfl) ?_
        simp -dsimp -implicitDefEqProofs [-getElem?_pos, -List.map_append, List.getElem?_cons_zero, List.getElem?_cons_succ]
        refine call_C (n0.out) (by first | rfl | (simp -dsimp -implicitDefEqProofs; done)) (by first | exact Or.inr (by rfl) | exact Or.inl ⟨by rfl, by first | rfl | simp [newNews, newLeaf, I]⟩) (Nat.le_of_ble_eq_true rfl) ?_
        simp -dsimp -implicitDefEqProofs [-getElem?_pos, -List.map_append, List.getElem?_cons_zero, List.getElem?_cons_succ]
        refine brA_split (fun h1 => ?_) (fun h1 => ?_)
        · exfalso; have := f0.out; simp at h1; grind
        clear h1
        simp -dsimp -implicitDefEqProofs [-getElem?_pos, -List.map_append, List.getElem?_cons_zero, List.getElem?_cons_succ]
        refine call_C (m1.out) (by first | rfl | (simp -dsimp -implicitDefEqProofs; done)) (by first | exact Or.inr (by rfl) | exact Or.inl ⟨by rfl, by first | rfl | simp [newNews, newLeaf, I]⟩) (Nat.le_of_ble_eq_true rfl) ?_
        simp -dsimp -implicitDefEqProofs [-getElem?_pos, -List.map_append, List.getElem?_cons_zero, List.getElem?_cons_succ]
        refine call_C (n1.out) (by first | rfl | (simp -dsimp -implicitDefEqProofs; done)) (by first | exact Or.inr (by rfl) | exact Or.inl ⟨by rfl, by first | rfl | simp [newNews, newLeaf, I]⟩) (Nat.le_of_ble_eq_true rfl) ?_
        simp -dsimp -implicitDefEqProofs [-getElem?_pos, -List.map_append, List.getElem?_cons_zero, List.getElem?_cons_succ]
        refine brA_split (fun h1 => ?_) (fun h1 => ?_)
        · exfalso; have := f1.out; simp at h1; grind
        clear h1
        simp -dsimp -implicitDefEqProofs [-getElem?_pos, -List.map_append, List.getElem?_cons_zero, List.getElem?_cons_succ]
        refine call_C (m2.out) (by first | rfl | (simp -dsimp -implicitDefEqProofs; done)) (by first | exact Or.inr (by rfl) | exact Or.inl ⟨by rfl, by first | rfl | simp [newNews, newLeaf, I]⟩) (Nat.le_of_ble_eq_true rfl) ?_
        simp -dsimp -implicitDefEqProofs [-getElem?_pos, -List.map_append, List.getElem?_cons_zero, List.getElem?_cons_succ]
        refine call_C (n2.out) (by first | rfl | (simp -dsimp -implicitDefEqProofs; done)) (by first | exact Or.inr (by rfl) | exact Or.inl ⟨by rfl, by first | rfl | simp [newNews, newLeaf, I]⟩) (Nat.le_of_ble_eq_true rfl) ?_
        simp -dsimp -implicitDefEqProofs [-getElem?_pos, -List.map_append, List.getElem?_cons_zero, List.getElem?_cons_succ]
        refine brA_split (fun h1 => ?_) (fun h1 => ?_)
        · exfalso; have := f2.out; simp at h1; grind
        clear h1
        have hh : h = -1 ∨ h = 0 ∨ h = 1 ∨ h = 2 := by have := g3.out; omega
        rcases hh with rfl | rfl | rfl | rfl
        all_goals
          simp -dsimp -implicitDefEqProofs [-getElem?_pos, -List.map_append, List.getElem?_cons_zero, List.getElem?_cons_succ]
          exact ends_bool (by have := g3.out; simp at this; simp; try omega)
  · refine C_inline [] Try.func5 (fun _ _ => by kernel_rfl) rfl (by kernel_rfl) (by rfl) (by decide) (by rfl) (by rfl) (by rfl) ?_
    simp -dsimp -implicitDefEqProofs [-getElem?_pos, -List.map_append, List.getElem?_cons_zero, List.getElem?_cons_succ]
    refine call_C (law_booked) (by first | rfl | (simp -dsimp -implicitDefEqProofs; done)) (by first | exact Or.inr (by rfl) | exact Or.inl ⟨by rfl, by first | rfl | simp [newNews, newLeaf, I]⟩) (Nat.le_of_ble_eq_true rfl) ?_
    simp -dsimp -implicitDefEqProofs [-getElem?_pos, -List.map_append, List.getElem?_cons_zero, List.getElem?_cons_succ]
    refine call_C (book_Check b) (by first | rfl | (simp -dsimp -implicitDefEqProofs; done)) (by first | exact Or.inr (by rfl) | exact Or.inl ⟨by rfl, by first | rfl | simp [newNews, newLeaf, I]⟩) (Nat.le_of_ble_eq_true rfl) ?_
    simp -dsimp -implicitDefEqProofs [-getElem?_pos, -List.map_append, List.getElem?_cons_zero, List.getElem?_cons_succ, hb]
    refine call_C (law_booked) (by first | rfl | (simp -dsimp -implicitDefEqProofs; done)) (by first | exact Or.inr (by rfl) | exact Or.inl ⟨by rfl, by first | rfl | simp [newNews, newLeaf, I]⟩) (Nat.le_of_ble_eq_true rfl) ?_
    simp -dsimp -implicitDefEqProofs [-getElem?_pos, -List.map_append, List.getElem?_cons_zero, List.getElem?_cons_succ]
    exact ends_bool rfl

end Go.Proofs.Ytdjdjnmccphbjaa.E
