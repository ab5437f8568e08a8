
/- He: closed facts of hands; law.HandWaits, law.HandTurns. -/
import Derived.Test.YtallmebpmoaopaaGreatDoorHd
namespace Go.Proofs.YtallmebpmoaopaaGreatDoor.E
open Go.RowKit Go.Proofs
set_option maxRecDepth 100000
set_option maxHeartbeats 1000000
set_option linter.unusedSimpArgs false

abbrev putC (n : Int) : S.Cmd := ⟨5, 1, 0, 0, [n]⟩
theorem law_puts (n : Int) : C Tryz.prog 36 [Int' n] (.agg (cmdC true (putC n))) [] := by
  refine C_inline [] Tryz.func36 (fun _ _ => by kernel_rfl) rfl (by kernel_rfl) (by rfl) (by decide) (by rfl) (by rfl) (by rfl) ?_
  simp -dsimp -implicitDefEqProofs [-getElem?_pos, -List.map_append, -List.map_set, List.getElem?_cons_zero, List.getElem?_cons_succ]
  exact ⟨⟨_, rfl, Sub.refl _⟩, rfl⟩

abbrev hand0 : AV := .agg [Int' 0, Bool' false, Int' 0, Int' 0, Int' 0, Int' 0, .nl, .nl]
theorem sub_hand0 : SubA hand0 (.agg (handC false S.Hand.zero)) := .agg (.cons (.refl _) (.cons (.refl _) (.cons (.refl _) (.cons (.refl _) (.cons (.refl _) (.cons (.refl _) (.cons .nl (.cons .nl (.nil _)))))))))

abbrev H1 : S.Hand := ⟨1, true, putC 5, []⟩
abbrev H2 : S.Hand := ⟨1, false, S.Cmd.zero, [⟨0, 3, []⟩]⟩
theorem hear_ok {h : S.Hand} {q : Int} {a : S.Answer} (e : (S.hear h q a).2 = 0) : S.checkHand h = 0 ∧ S.checkAnswer a = 0 ∧ S.hear h q a = if h.waits = true ∧ q = h.seq then (⟨h.seq, false, S.Cmd.zero, h.got ++ [a]⟩, 0) else (h, 0) := by
  unfold S.hear at e ⊢
  by_cases h1 : S.checkHand h = 0
  · by_cases h2 : S.checkAnswer a = 0
    · simp [h1, h2]
    · rw [if_neg (by simp [h1]), if_pos h2] at e; exact absurd e h2
  · rw [if_pos h1] at e; exact absurd e h1

end Go.Proofs.YtallmebpmoaopaaGreatDoor.E
