
/- Lj: ref.CheckBook, by the engine. -/
import Derived.Test.YtallmebpmoaopaaGreatLi
namespace Go.Proofs.YtallmebpmoaopaaGreat.E
open Go.RowKit Go.Proofs
set_option maxRecDepth 100000
set_option maxHeartbeats 1000000
set_option linter.unusedSimpArgs false

theorem ref_CheckBook (b : S.Book) : C Tryz.prog 53 [Bk b] (Int' (S.checkBook b)) [] := by
  obtain ⟨xs, bh, bt⟩ := b
  by_cases hl : xs.length = 3
  · obtain ⟨x0, x1, x2, rfl⟩ : ∃ x0 x1 x2, xs = [x0, x1, x2] := by
      match xs, hl with
      | [x0, x1, x2], _ => exact ⟨x0, x1, x2, rfl⟩
    have key : S.checkBook ⟨[x0, x1, x2], bh, bt⟩ = if ([x0, x1, x2].all (within 0 9)) = false then 3 else if bh < -1 ∨ 3 ≤ bh ∨ bt < 0 ∨ 4 < bt then 3 else if (bh < 0 ∧ bt ≠ 0) ∨ (0 ≤ bh ∧ (bt = 0 ∨ [x0, x1, x2].getD bh.toNat 0 = 0)) then 4 else 0 := by
      unfold S.checkBook
      rw [if_neg (by simp)]
      by_cases g : [x0, x1, x2].any S.badKey = true
      · rw [if_pos g, if_pos (by simp [S.badKey] at g ⊢; omega)]
      · rw [if_neg g]
        symm
        rw [if_neg (by simp [S.badKey] at g ⊢; omega)]
        rfl
    obtain ⟨r, hr⟩ : ∃ r, r = S.checkBook ⟨[x0, x1, x2], bh, bt⟩ := ⟨_, rfl⟩
    rw [← hr]
    replace hr := hid (hr.trans key)
    clear key
    refine C_inline [] Tryz.func53 (fun _ _ => by kernel_rfl) rfl (by kernel_rfl) (by rfl) (by decide) (by rfl) (by rfl) (by rfl) ?_
    simp -dsimp -implicitDefEqProofs [initT]
    refine call_C (ref_all [x0, x1, x2] 0 9 (by simp)) rfl (Or.inr (by rfl)) (Nat.le_of_ble_eq_true rfl) ?_
    obtain ⟨al, hal⟩ : ∃ al, al = [x0, x1, x2].all (within 0 9) := ⟨_, rfl⟩
    rw [← hal]
    rw [← hal] at hr
    clear hal
    cases al
    · simp -dsimp -implicitDefEqProofs
      exact ends_int (by rw [hr.out]; rfl)
    simp -dsimp -implicitDefEqProofs
    refine call_CC ((ref_in bh (-1) 2)) ?_
    by_cases g1 : within (-1) 2 bh = true
    rotate_left
    · have g1' : within (-1) 2 bh = false := by simpa using g1
      simp -dsimp -implicitDefEqProofs [g1']
      exact ends_int (by rw [hr.out]; simp at g1'; simp; omega)
    have g1' := g1
    simp only [within] at g1'
    obtain ⟨b0, hb0⟩ : ∃ b0, b0 = bh := ⟨_, rfl⟩
    have c1 : bh = -1 ∨ bh = 0 ∨ bh = 1 ∨ bh = 2 := by simp at g1'; omega
    clear g1 g1'
    rcases c1 with rfl | rfl | rfl | rfl
    all_goals
      simp -dsimp -implicitDefEqProofs
      refine call_CC ((ref_in bt 0 4)) ?_
      simp -dsimp -implicitDefEqProofs
      repeat' (refine brA_split (fun g => ?_) (fun g => ?_) <;> simp -dsimp -implicitDefEqProofs [*])
      all_goals
        refine ends_int ?_
        rw [hr.out]
        clear hr
        simp at *
        try grind
  · refine C_inline [] Tryz.func53 (fun _ _ => by kernel_rfl) rfl (by kernel_rfl) (by rfl) (by decide) (by rfl) (by rfl) (by rfl) ?_
    simp -dsimp -implicitDefEqProofs [initT]
    have hd : decide ((xs.length : Int) = 3) = false := decide_eq_false (by omega)
    simp -dsimp -implicitDefEqProofs [hd]
    exact ends_int (by unfold S.checkBook; rw [if_pos hl])

end Go.Proofs.YtallmebpmoaopaaGreat.E
