/- He: closed facts of hands; law.HandWaits, law.HandTurns. -/
import Derived.Test.YtdjdjnmccphbjaaHd
namespace Go.Proofs.Ytdjdjnmccphbjaa.E
open Go.RowKit Go.Proofs
set_option maxRecDepth 100000
set_option maxHeartbeats 1000000
set_option linter.unusedSimpArgs false

abbrev putC (n : Int) : S.Cmd := ⟨5, 1, 0, 0, [n]⟩
theorem law_puts (n : Int) : C Try.prog 94 [Int' n] (.agg (cmdC true (putC n))) [] := by
  refine C_inline [] Try.func94 (fun _ _ => by kernel_rfl) rfl (by kernel_rfl) (by rfl) (by decide) (by rfl) (by rfl) (by rfl) ?_
  simp -dsimp -implicitDefEqProofs [-getElem?_pos, -List.map_append, -List.map_set, List.getElem?_cons_zero, List.getElem?_cons_succ]
  exact ⟨⟨_, rfl, Sub.refl _⟩, rfl⟩

abbrev hand0 : AV := .agg [Int' 0, Bool' false, Int' 0, Int' 0, Int' 0, Int' 0, .nl, .nl]
theorem sub_hand0 : SubA hand0 (.agg (handC false S.Hand.zero)) := .agg (.cons (.refl _) (.cons (.refl _) (.cons (.refl _) (.cons (.refl _) (.cons (.refl _) (.cons (.refl _) (.cons .nl (.cons .nl (.nil _)))))))))

/-- results that are known -/
theorem ask_eq {h : S.Hand} {c : S.Cmd} {r : S.Hand × Int} (e : S.ask h c = r) : C Try.prog 42 [.agg (handC false h), .agg (cmdC false c)] (.tup [.agg (handC true r.1), Int' r.2]) [] := e ▸ hand_Ask h c
theorem hear_eq {h : S.Hand} {q : Int} {a : S.Answer} {r : S.Hand × Int} (e : S.hear h q a = r) : C Try.prog 41 [.agg (handC false h), Int' q, .agg (ansC false a)] (.tup [.agg (handC true r.1), Int' r.2]) [] := e ▸ hand_Hear h q a

abbrev H1 : S.Hand := ⟨1, true, putC 5, []⟩
abbrev H2 : S.Hand := ⟨1, false, S.Cmd.zero, [⟨0, 3, []⟩]⟩
theorem law_answered : C Try.prog 38 [] (Bool' true) [] := by
  have c1 := hid ((ask_eq (h := S.Hand.zero) (c := putC 5) (r := (H1, 0)) (by decide)).args (.cons sub_hand0 (.cons (.refl _) (.nil _))))
  have c2 := hid (ask_eq (h := H1) (c := putC 6) (r := (S.Hand.zero, 6)) (by decide))
  have c3 := hid ((hear_eq (h := H1) (q := 2) (a := S.Answer.zero) (r := (H1, 0)) (by decide)).args (.cons (.refl _) (.cons (.refl _) (.cons sub_ans0 (.nil _)))))
  have c4 := hid ((hear_eq (h := H1) (q := 1) (a := ⟨0, 3, []⟩) (r := (H2, 0)) (by decide)).args (args2 := [.agg (handC false H1), Int' 1, .agg [Int' 0, Int' 3, .nl]]) (.cons (.refl _) (.cons (.refl _) (.cons (.agg (.cons (.refl _) (.cons (.refl _) (.cons .nl (.nil _))))) (.nil _)))))
  refine C_inline [] Try.func38 (fun _ _ => by kernel_rfl) rfl (by kernel_rfl) (by rfl) (by decide) (by rfl) (by rfl) (by rfl) ?_
  simp -dsimp -implicitDefEqProofs [-getElem?_pos, -List.map_append, -List.map_set, List.getElem?_cons_zero, List.getElem?_cons_succ]
  refine call_CC (law_puts 5) ?_
  simp -dsimp -implicitDefEqProofs [-getElem?_pos, -List.map_append, -List.map_set, List.getElem?_cons_zero, List.getElem?_cons_succ]
  refine call_CC (c1.out) ?_
  simp -dsimp -implicitDefEqProofs [-getElem?_pos, -List.map_append, -List.map_set, List.getElem?_cons_zero, List.getElem?_cons_succ]
  refine call_CC (law_puts 6) ?_
  simp -dsimp -implicitDefEqProofs [-getElem?_pos, -List.map_append, -List.map_set, List.getElem?_cons_zero, List.getElem?_cons_succ]
  refine call_CC (c2.out) ?_
  simp -dsimp -implicitDefEqProofs [-getElem?_pos, -List.map_append, -List.map_set, List.getElem?_cons_zero, List.getElem?_cons_succ]
  refine call_CC (c3.out) ?_
  simp -dsimp -implicitDefEqProofs [-getElem?_pos, -List.map_append, -List.map_set, List.getElem?_cons_zero, List.getElem?_cons_succ]
  refine call_CC (c4.out) ?_
  simp -dsimp -implicitDefEqProofs [-getElem?_pos, -List.map_append, -List.map_set, List.getElem?_cons_zero, List.getElem?_cons_succ]
  refine call_CC (hand_Same H1 H1) ?_
  simp -dsimp -implicitDefEqProofs [-getElem?_pos, -List.map_append, -List.map_set, List.getElem?_cons_zero, List.getElem?_cons_succ]
  refine call_CC (hand_Check H2) ?_
  simp -dsimp -implicitDefEqProofs [-getElem?_pos, -List.map_append, -List.map_set, List.getElem?_cons_zero, List.getElem?_cons_succ]
  exact ends_bool (by decide)

theorem hear_ok {h : S.Hand} {q : Int} {a : S.Answer} (e : (S.hear h q a).2 = 0) : S.checkHand h = 0 ∧ S.checkAnswer a = 0 ∧ S.hear h q a = if h.waits = true ∧ q = h.seq then (⟨h.seq, false, S.Cmd.zero, h.got ++ [a]⟩, 0) else (h, 0) := by
  unfold S.hear at e ⊢
  by_cases h1 : S.checkHand h = 0
  · by_cases h2 : S.checkAnswer a = 0
    · simp [h1, h2]
    · rw [if_neg (by simp [h1]), if_pos h2] at e; exact absurd e h2
  · rw [if_pos h1] at e; exact absurd e h1

theorem law_HandWaits (h : S.Hand) (q : Int) (a : S.Answer) : C Try.prog 8 [.agg (handC false h), Int' q, .agg (ansC false a)] (Bool' true) [] := by
  by_cases e : (S.hear h q a).2 = 0
  · obtain ⟨h1, h2, h3⟩ := hear_ok e
    have hp := hid (checkHand_parts h1)
    have hlen : (h.got.length : Int) ≤ 40 := by have := hp.out.2.2.1; have := hp.out.1; split at * <;> omega
    have hw1 : IntKind.i64.wrap ((h.got.length : Int) + 1) = (h.got.length : Int) + 1 := wrap_ok (by omega)
    by_cases c : h.waits = true ∧ q = h.seq
    · rw [if_pos c] at h3
      have cc := hid (hear_eq h3)
      obtain ⟨cw, rfl⟩ := c
      have hx : (h.got ++ [a])[h.got.length]? = some a := by simp
      refine C_inline [] Try.func8 (fun _ _ => by kernel_rfl) rfl (by kernel_rfl) (by rfl) (by decide) (by rfl) (by rfl) (by rfl) ?_
      simp -dsimp -implicitDefEqProofs [-getElem?_pos, -List.map_append, -List.map_set, List.getElem?_cons_zero, List.getElem?_cons_succ]
      refine call_CC (cc.out) ?_
      simp -dsimp -implicitDefEqProofs [-getElem?_pos, -List.map_append, -List.map_set, List.getElem?_cons_zero, List.getElem?_cons_succ]
      refine call_CC (law_answered) ?_
      simp -dsimp -implicitDefEqProofs [-getElem?_pos, -List.map_append, -List.map_set, List.getElem?_cons_zero, List.getElem?_cons_succ, cw, hw1, hx]
      refine call_CC (law_sameAnswer a a) ?_
      simp -dsimp -implicitDefEqProofs [-getElem?_pos, -List.map_append, -List.map_set, List.getElem?_cons_zero, List.getElem?_cons_succ]
      refine call_CC (cmd_Same0 S.Cmd.zero) ?_
      simp -dsimp -implicitDefEqProofs [-getElem?_pos, -List.map_append, -List.map_set, List.getElem?_cons_zero, List.getElem?_cons_succ]
      exact ends_bool (by simp)
    · rw [if_neg c] at h3
      have cc := hid (hear_eq h3)
      have hc : (h.waits && decide (q = h.seq)) = false := by simpa using c
      refine C_inline [] Try.func8 (fun _ _ => by kernel_rfl) rfl (by kernel_rfl) (by rfl) (by decide) (by rfl) (by rfl) (by rfl) ?_
      simp -dsimp -implicitDefEqProofs [-getElem?_pos, -List.map_append, -List.map_set, List.getElem?_cons_zero, List.getElem?_cons_succ]
      refine call_CC (cc.out) ?_
      simp -dsimp -implicitDefEqProofs [-getElem?_pos, -List.map_append, -List.map_set, List.getElem?_cons_zero, List.getElem?_cons_succ]
      refine call_CC (law_answered) ?_
      simp -dsimp -implicitDefEqProofs [-getElem?_pos, -List.map_append, -List.map_set, List.getElem?_cons_zero, List.getElem?_cons_succ, hc]
      refine call_CC (hand_Same h h) ?_
      simp -dsimp -implicitDefEqProofs [-getElem?_pos, -List.map_append, -List.map_set, List.getElem?_cons_zero, List.getElem?_cons_succ]
      exact ends_bool (by simp)
  · obtain ⟨r, hr⟩ : ∃ r, S.hear h q a = r := ⟨_, rfl⟩
    have cc := hid (hear_eq hr)
    rw [hr] at e
    refine C_inline [] Try.func8 (fun _ _ => by kernel_rfl) rfl (by kernel_rfl) (by rfl) (by decide) (by rfl) (by rfl) (by rfl) ?_
    simp -dsimp -implicitDefEqProofs [-getElem?_pos, -List.map_append, -List.map_set, List.getElem?_cons_zero, List.getElem?_cons_succ]
    refine call_CC (cc.out) ?_
    simp -dsimp -implicitDefEqProofs [-getElem?_pos, -List.map_append, -List.map_set, List.getElem?_cons_zero, List.getElem?_cons_succ]
    refine call_CC (law_answered) ?_
    simp -dsimp -implicitDefEqProofs [-getElem?_pos, -List.map_append, -List.map_set, List.getElem?_cons_zero, List.getElem?_cons_succ, e]
    refine call_CC (law_answered) ?_
    simp -dsimp -implicitDefEqProofs [-getElem?_pos, -List.map_append, -List.map_set, List.getElem?_cons_zero, List.getElem?_cons_succ]
    exact ends_bool rfl

end Go.Proofs.Ytdjdjnmccphbjaa.E
