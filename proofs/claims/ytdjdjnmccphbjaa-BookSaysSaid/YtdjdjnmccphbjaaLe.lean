/- Le: more of the book, by the engine. -/
import Derived.Test.YtdjdjnmccphbjaaLd
namespace Go.Proofs.Ytdjdjnmccphbjaa.E
open Go.RowKit Go.Proofs
set_option maxRecDepth 100000
set_option maxHeartbeats 1000000
set_option linter.unusedSimpArgs false

theorem book_New : C Try.prog 34 [] (BkN S.Book.new) [] := by
  refine C_inline [] Try.func34 (fun _ _ => by kernel_rfl) rfl (by kernel_rfl) (by rfl) (by decide) (by rfl) (by rfl) (by rfl) ?_
  simp -dsimp -implicitDefEqProofs [initT]
  exact ⟨⟨_, rfl, .one (.agg (.cons (.lst (fun h => h) (SubR.refl _)) (.cons (.refl _) (.cons (.refl _) (.nil _)))))⟩, rfl⟩
theorem ref_FreshBook : C Try.prog 35 [] (BkN S.Book.new) [] := by
  refine C_inline [] Try.func35 (fun _ _ => by kernel_rfl) rfl (by kernel_rfl) (by rfl) (by decide) (by rfl) (by rfl) (by rfl) ?_
  simp -dsimp -implicitDefEqProofs [initT]
  exact ⟨⟨_, rfl, .one (.agg (.cons (.lst (fun h => h) (SubR.refl _)) (.cons (.refl _) (.cons (.refl _) (.nil _)))))⟩, rfl⟩

theorem book_Release (b : S.Book) (who : Int) : C Try.prog 24 [Bk b, Int' who] (.tup [BkN (S.release b who).1, Int' (S.release b who).2]) [] := by
  by_cases h : S.ready b who = 0
  · obtain ⟨⟨x0, x1, x2, hk⟩, hw, hc⟩ := ready_shape h
    obtain ⟨xs, bh, bt⟩ := b
    simp only at hk
    subst hk
    have hr : S.release ⟨[x0, x1, x2], bh, bt⟩ who = if S.Book.key ⟨[x0, x1, x2], bh, bt⟩ who = 0 then (S.Book.zero, 8) else if bh = who then (⟨[x0, x1, x2], -1, 0⟩, 0) else (⟨[x0, x1, x2], bh, bt⟩, 0) := by
      unfold S.release
      rw [if_neg (by simp [h])]
    generalize S.release ⟨[x0, x1, x2], bh, bt⟩ who = r at hr ⊢
    replace hr := hid hr
    have hready := hid (book_ready_ok ⟨[x0, x1, x2], bh, bt⟩ who h)
    clear h hc
    obtain ⟨w0, hw0⟩ : ∃ w, w = who := ⟨_, rfl⟩
    rcases hw with rfl | rfl | rfl
    all_goals
      refine C_inline [] Try.func24 (fun _ _ => by kernel_rfl) rfl (by kernel_rfl) (by rfl) (by decide) (by rfl) (by rfl) (by rfl) ?_
      simp -dsimp -implicitDefEqProofs [initT]
      refine call_C (hready.out) (by first | rfl | (simp -dsimp -implicitDefEqProofs; done)) (by first | exact Or.inr (by rfl) | exact Or.inl ⟨by rfl, by first | rfl | simp [newNews, newLeaf, I]⟩) (Nat.le_of_ble_eq_true rfl) ?_
      simp -dsimp -implicitDefEqProofs
      refine brA_split (fun h1 => ?_) (fun h1 => ?_) <;> simp -dsimp -implicitDefEqProofs [*]
      · exact ends_book0 (hr.out.trans (by simp at h1; simp [S.Book.key, h1]))
      simp at h1
      by_cases c2 : bh = w0
      · subst hw0 c2
        simp -dsimp -implicitDefEqProofs
        refine call_CS (CS_inline (typesOk _) Try.func89 (fun _ _ => by kernel_rfl) rfl (by kernel_rfl) (Nat.le_of_ble_eq_true rfl) ?_)
        simp -dsimp -implicitDefEqProofs [initT]
        exact ends_book2 [_, _, _] rfl (hr.out.trans (by simp [S.Book.key, h1]))
      · subst hw0
        simp -dsimp -implicitDefEqProofs [c2]
        exact ends_book2 [_, _, _] rfl (hr.out.trans (by simp [S.Book.key, h1, c2]))
  · refine C_inline [] Try.func24 (fun _ _ => by kernel_rfl) rfl (by kernel_rfl) (by rfl) (by decide) (by rfl) (by rfl) (by rfl) ?_
    simp -dsimp -implicitDefEqProofs [initT]
    refine call_C ((book_ready_bad b who h)) (by first | rfl | (simp -dsimp -implicitDefEqProofs; done)) (by first | exact Or.inr (by rfl) | exact Or.inl ⟨by rfl, by first | rfl | simp [newNews, newLeaf, I]⟩) (Nat.le_of_ble_eq_true rfl) ?_
    simp -dsimp -implicitDefEqProofs [h]
    exact ends_book0 (by unfold S.release; rw [if_pos h])

theorem book_Clear (b : S.Book) (who : Int) : C Try.prog 26 [Bk b, Int' who] (.tup [BkN (S.clear b who).1, Int' (S.clear b who).2]) [] := by
  by_cases h : S.ready b who = 0
  · obtain ⟨⟨x0, x1, x2, hk⟩, hw, hc⟩ := ready_shape h
    obtain ⟨xs, bh, bt⟩ := b
    simp only at hk
    subst hk
    have hr : S.clear ⟨[x0, x1, x2], bh, bt⟩ who = if S.Book.key ⟨[x0, x1, x2], bh, bt⟩ who = 0 then (S.Book.zero, 8) else (S.Book.new, 0) := by
      unfold S.clear
      rw [if_neg (by simp [h])]
    generalize S.clear ⟨[x0, x1, x2], bh, bt⟩ who = r at hr ⊢
    replace hr := hid hr
    have hready := hid (book_ready_ok ⟨[x0, x1, x2], bh, bt⟩ who h)
    clear h hc
    rcases hw with rfl | rfl | rfl
    all_goals
      refine C_inline [] Try.func26 (fun _ _ => by kernel_rfl) rfl (by kernel_rfl) (by rfl) (by decide) (by rfl) (by rfl) (by rfl) ?_
      simp -dsimp -implicitDefEqProofs [initT]
      refine call_C (hready.out) (by first | rfl | (simp -dsimp -implicitDefEqProofs; done)) (by first | exact Or.inr (by rfl) | exact Or.inl ⟨by rfl, by first | rfl | simp [newNews, newLeaf, I]⟩) (Nat.le_of_ble_eq_true rfl) ?_
      simp -dsimp -implicitDefEqProofs
      refine brA_split (fun h1 => ?_) (fun h1 => ?_) <;> simp -dsimp -implicitDefEqProofs [*]
      · exact ends_book0 (hr.out.trans (by simp at h1; simp [S.Book.key, h1]))
      simp at h1
      refine call_C book_New rfl (Or.inr (by rfl)) (Nat.le_of_ble_eq_true rfl) ?_
      simp -dsimp -implicitDefEqProofs
      exact ends_book2 [_, _, _] rfl (hr.out.trans (by simp [S.Book.key, h1]; rfl))
  · refine C_inline [] Try.func26 (fun _ _ => by kernel_rfl) rfl (by kernel_rfl) (by rfl) (by decide) (by rfl) (by rfl) (by rfl) ?_
    simp -dsimp -implicitDefEqProofs [initT]
    refine call_C ((book_ready_bad b who h)) (by first | rfl | (simp -dsimp -implicitDefEqProofs; done)) (by first | exact Or.inr (by rfl) | exact Or.inl ⟨by rfl, by first | rfl | simp [newNews, newLeaf, I]⟩) (Nat.le_of_ble_eq_true rfl) ?_
    simp -dsimp -implicitDefEqProofs [h]
    exact ends_book0 (by unfold S.clear; rw [if_pos h])

theorem book_Reserve (b : S.Book) (who kind : Int) : C Try.prog 23 [Bk b, Int' who, Int' kind] (.tup [BkN (S.reserve b who kind).1, Int' (S.reserve b who kind).2]) [] := by
  by_cases h : S.ready b who = 0
  · obtain ⟨⟨x0, x1, x2, hk⟩, hw, hc⟩ := ready_shape h
    obtain ⟨xs, bh, bt⟩ := b
    simp only at hk
    subst hk
    have hr : S.reserve ⟨[x0, x1, x2], bh, bt⟩ who kind = if kind < 1 ∨ 4 < kind then (S.Book.zero, 3) else if S.Book.key ⟨[x0, x1, x2], bh, bt⟩ who = 0 ∨ (0 ≤ bh ∧ (bh ≠ who ∨ bt ≠ kind)) then (S.Book.zero, 8) else (⟨[x0, x1, x2], who, kind⟩, 0) := by
      unfold S.reserve
      rw [if_neg (by simp [h])]
    generalize S.reserve ⟨[x0, x1, x2], bh, bt⟩ who kind = r at hr ⊢
    replace hr := hid hr
    have hready := hid (book_ready_ok ⟨[x0, x1, x2], bh, bt⟩ who h)
    clear h hc
    rcases hw with rfl | rfl | rfl
    all_goals
      refine C_inline [] Try.func23 (fun _ _ => by kernel_rfl) rfl (by kernel_rfl) (by rfl) (by decide) (by rfl) (by rfl) (by rfl) ?_
      simp -dsimp -implicitDefEqProofs [initT]
      refine call_C (hready.out) (by first | rfl | (simp -dsimp -implicitDefEqProofs; done)) (by first | exact Or.inr (by rfl) | exact Or.inl ⟨by rfl, by first | rfl | simp [newNews, newLeaf, I]⟩) (Nat.le_of_ble_eq_true rfl) ?_
      simp -dsimp -implicitDefEqProofs
      repeat' (refine brA_split (fun g => ?_) (fun g => ?_) <;> simp -dsimp -implicitDefEqProofs [*])
      all_goals
        simp at *
        first
          | exact ends_book0 (hr.out.trans (by simp [S.Book.key]; grind))
          | exact ends_book2 [_, _, _] rfl (hr.out.trans (by simp [S.Book.key]; grind))
  · refine C_inline [] Try.func23 (fun _ _ => by kernel_rfl) rfl (by kernel_rfl) (by rfl) (by decide) (by rfl) (by rfl) (by rfl) ?_
    simp -dsimp -implicitDefEqProofs [initT]
    refine call_C ((book_ready_bad b who h)) (by first | rfl | (simp -dsimp -implicitDefEqProofs; done)) (by first | exact Or.inr (by rfl) | exact Or.inl ⟨by rfl, by first | rfl | simp [newNews, newLeaf, I]⟩) (Nat.le_of_ble_eq_true rfl) ?_
    simp -dsimp -implicitDefEqProofs [h]
    exact ends_book0 (by unfold S.reserve; rw [if_pos h])

end Go.Proofs.Ytdjdjnmccphbjaa.E
