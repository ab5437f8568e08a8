
/- Pl: laws on worlds, without the document's answer. -/
import Derived.Test.YtncdhkljejgpjaaGreatDoorP5
namespace Go.Proofs.YtncdhkljejgpjaaGreatDoor.E
open Go.RowKit Go.Proofs
set_option linter.unusedVariables false
set_option linter.unusedSimpArgs false
set_option maxRecDepth 100000
set_option maxHeartbeats 2000000
theorem do0_eq {w : S.World} {k who n : Int} {q : S.World × Int} (h : S.doWorld w ⟨k, who, n, S.Cmd.zero⟩ = q) : C Tryz.prog 15 [.agg (worldC false w), .agg [Int' k, Int' who, Int' n, Int' 0, Int' 0, Int' 0, Int' 0, .nl]] (doWR q) [] :=
  (doW_eq h).args (.cons (.refl _) (.cons (.agg (.cons (.refl _) (.cons (.refl _) (.cons (.refl _) (.cons (.refl _) (.cons (.refl _) (.cons (.refl _) (.cons (.refl _) (.cons .nl (.nil _)))))))))) (.nil _)))
theorem sameW_eq {a b : S.World} {r : Bool} (h : decide (a = b) = r) : C Tryz.prog 19 [.agg (worldC false a), .agg (worldC false b)] (Bool' r) [] := h ▸ world_Same a b
theorem law_WorldStands (w : S.World) : C Tryz.prog 8 [.agg (worldC false w)] (Bool' true) [] := by
  obtain ⟨e, he⟩ : ∃ e, S.checkWorld w = e := ⟨_, rfl⟩
  have c1 := hid (check_eq he)
  by_cases h0 : e = 0
  rotate_left
  · clear he
    refine C_inline [] Tryz.func8 (fun _ _ => by kernel_rfl) rfl (by kernel_rfl) (by rfl) (by decide) (by rfl) (by rfl) (by rfl) ?_
    simp -dsimp -implicitDefEqProofs [-getElem?_pos, -List.map_append, -List.map_set, List.getElem?_cons_zero, List.getElem?_cons_succ]
    refine call_CC (law_asked) ?_
    simp -dsimp -implicitDefEqProofs [-getElem?_pos, -List.map_append, -List.map_set, List.getElem?_cons_zero, List.getElem?_cons_succ]
    refine call_CC (c1.out) ?_
    simp -dsimp -implicitDefEqProofs [-getElem?_pos, -List.map_append, -List.map_set, List.getElem?_cons_zero, List.getElem?_cons_succ, h0]
    refine call_CC (law_asked) ?_
    simp -dsimp -implicitDefEqProofs [-getElem?_pos, -List.map_append, -List.map_set, List.getElem?_cons_zero, List.getElem?_cons_succ]
    exact ends_bool rfl
  subst h0
  obtain ⟨H, d, up, hand, mail⟩ := w
  cases up with
  | false =>
    clear he
    refine C_inline [] Tryz.func8 (fun _ _ => by kernel_rfl) rfl (by kernel_rfl) (by rfl) (by decide) (by rfl) (by rfl) (by rfl) ?_
    simp -dsimp -implicitDefEqProofs [-getElem?_pos, -List.map_append, -List.map_set, List.getElem?_cons_zero, List.getElem?_cons_succ]
    refine call_CC (law_asked) ?_
    simp -dsimp -implicitDefEqProofs [-getElem?_pos, -List.map_append, -List.map_set, List.getElem?_cons_zero, List.getElem?_cons_succ]
    refine call_CC (c1.out) ?_
    simp -dsimp -implicitDefEqProofs [-getElem?_pos, -List.map_append, -List.map_set, List.getElem?_cons_zero, List.getElem?_cons_succ]
    refine call_CC (law_asked) ?_
    simp -dsimp -implicitDefEqProofs [-getElem?_pos, -List.map_append, -List.map_set, List.getElem?_cons_zero, List.getElem?_cons_succ]
    exact ends_bool rfl
  | true =>
    obtain ⟨x, h1, h2, h3⟩ := world_stands he rfl
    obtain ⟨H2, d2, up2, hand2, mail2⟩ := x
    simp only at h2
    subst h2
    have d1 := hid (do0_eq h1)
    have d2 := hid (do0_eq h3)
    have cs := hid (sameW_eq (a := ⟨H, d, true, hand, mail⟩) (b := ⟨H, d, true, hand, mail⟩) (r := true) (by simp))
    clear he h1 h3
    refine C_inline [] Tryz.func8 (fun _ _ => by kernel_rfl) rfl (by kernel_rfl) (by rfl) (by decide) (by rfl) (by rfl) (by rfl) ?_
    simp -dsimp -implicitDefEqProofs [-getElem?_pos, -List.map_append, -List.map_set, List.getElem?_cons_zero, List.getElem?_cons_succ]
    refine call_CC (law_asked) ?_
    simp -dsimp -implicitDefEqProofs [-getElem?_pos, -List.map_append, -List.map_set, List.getElem?_cons_zero, List.getElem?_cons_succ]
    refine call_CC (c1.out) ?_
    simp -dsimp -implicitDefEqProofs [-getElem?_pos, -List.map_append, -List.map_set, List.getElem?_cons_zero, List.getElem?_cons_succ]
    refine call_CC (d1.out) ?_
    simp -dsimp -implicitDefEqProofs [-getElem?_pos, -List.map_append, -List.map_set, List.getElem?_cons_zero, List.getElem?_cons_succ]
    refine call_CC (d2.out) ?_
    simp -dsimp -implicitDefEqProofs [-getElem?_pos, -List.map_append, -List.map_set, List.getElem?_cons_zero, List.getElem?_cons_succ]
    refine call_CC (cs.out) ?_
    simp -dsimp -implicitDefEqProofs [-getElem?_pos, -List.map_append, -List.map_set, List.getElem?_cons_zero, List.getElem?_cons_succ]
    exact ends_bool rfl
end Go.Proofs.YtncdhkljejgpjaaGreatDoor.E
