
/- Qt: law.CmdSays. -/
import Derived.Test.YtadmfokicjjglaaDoorR1
import Derived.Test.YtadmfokicjjglaaDoorV2
namespace Go.Proofs.YtadmfokicjjglaaDoor.E
open Go.RowKit Go.Proofs
set_option linter.unusedVariables false
set_option linter.unusedSimpArgs false
set_option maxRecDepth 100000
set_option maxHeartbeats 4000000
theorem ref_SameCmdZ {c : S.Cmd} (h : c = S.Cmd.zero) : C Tryd.prog 12 [.agg (cmdC false c), .agg [Int' 0, Int' 0, Int' 0, Int' 0, .nl]] (Bool' true) [] := by
  have := ref_SameCmd c S.Cmd.zero
  rw [decide_eq_true h] at this
  exact this.args (.cons (.refl _) (.cons (.agg (.cons (.refl _) (.cons (.refl _) (.cons (.refl _) (.cons (.refl _) (.cons .nl (.nil _))))))) (.nil _)))
theorem law_CmdSays (c d : S.Cmd) (s : ByteArray) : C Tryd.prog 3 [.agg (cmdC false c), .agg (cmdC false d), .at (.string s)] (Bool' true) [] := by
  obtain ⟨l, rfl⟩ : ∃ l : List UInt8, s = ⟨l.toArray⟩ := ⟨s.data.toList, (Lib.mk_data s).symm⟩
  obtain ⟨⟨x, f⟩, h3⟩ : ∃ r, S.cmdParse l = r := ⟨_, rfl⟩
  have c2 := hid (parse_eq h3)
  obtain ⟨b, hb⟩ : ∃ b, decide (c = d) = b := ⟨_, rfl⟩
  have c6 := hid (sameC_eq hb)
  have c7 := ref_SameCmd c d
  rw [hb] at c7
  replace c7 := hid c7
  have cx := ref_SameCmd x x
  rw [decide_eq_true rfl] at cx
  replace cx := hid cx
  have c3 := ref_CheckCmd c
  have c5 := cmd_Check c
  clear hb
  unfold S.cmdParse at h3
  by_cases hc : S.checkCmd c = 0
  · have h1 : S.cmdPrint c = (S.cmdText c, 0) := by unfold S.cmdPrint; rw [if_neg (by simp [hc])]
    have c1 := hid (print_eq h1)
    have c4 := hid (ref_CmdText c hc)
    rw [hc] at c3 c5
    replace c3 := hid c3
    replace c5 := hid c5
    clear h1 hc
    generalize S.cmdText c = t at *
    by_cases hl : 60000 < l.length
    · rw [if_pos hl] at h3
      obtain ⟨hx, rfl⟩ := Prod.mk.inj h3
      have hl' : decide ((60000 : Int) < (l.length : Int)) = true := by simp; omega
      have hl'' : decide (60000 < l.length) = true := by simp; omega
      have c8 := hid (ref_SameCmdZ hx.symm)
      clear h3 hx hl
      refine C_inline [] Tryd.func3 (fun _ _ => by kernel_rfl) rfl (by kernel_rfl) (by rfl) (by decide) (by rfl) (by rfl) (by rfl) ?_
      simp -dsimp -implicitDefEqProofs [-getElem?_pos, -List.map_append, -List.map_set, List.getElem?_cons_zero, List.getElem?_cons_succ]
      refine call_CC (c1.out) ?_
      simp -dsimp -implicitDefEqProofs [-getElem?_pos, -List.map_append, -List.map_set, List.getElem?_cons_zero, List.getElem?_cons_succ]
      refine call_CC (c2.out) ?_
      simp -dsimp -implicitDefEqProofs [-getElem?_pos, -List.map_append, -List.map_set, List.getElem?_cons_zero, List.getElem?_cons_succ]
      refine call_CC (c3.out) ?_
      simp -dsimp -implicitDefEqProofs [-getElem?_pos, -List.map_append, -List.map_set, List.getElem?_cons_zero, List.getElem?_cons_succ]
      refine call_CC (c4.out) ?_
      simp -dsimp -implicitDefEqProofs [-getElem?_pos, -List.map_append, -List.map_set, List.getElem?_cons_zero, List.getElem?_cons_succ]
      refine call_CC (law_spoken) ?_
      simp -dsimp -implicitDefEqProofs [-getElem?_pos, -List.map_append, -List.map_set, List.getElem?_cons_zero, List.getElem?_cons_succ]
      refine call_CC (c5.out) ?_
      simp -dsimp -implicitDefEqProofs [-getElem?_pos, -List.map_append, -List.map_set, List.getElem?_cons_zero, List.getElem?_cons_succ]
      refine call_CC (c6.out) ?_
      simp -dsimp -implicitDefEqProofs [-getElem?_pos, -List.map_append, -List.map_set, List.getElem?_cons_zero, List.getElem?_cons_succ]
      refine call_CC (c7.out) ?_
      simp -dsimp -implicitDefEqProofs [-getElem?_pos, -List.map_append, -List.map_set, List.getElem?_cons_zero, List.getElem?_cons_succ, hl', hl'']
      refine call_CC (c8.out) ?_
      simp -dsimp -implicitDefEqProofs [-getElem?_pos, -List.map_append, -List.map_set, List.getElem?_cons_zero, List.getElem?_cons_succ]
      exact ends_bool rfl
    · rw [if_neg hl] at h3
      have hl' : decide ((60000 : Int) < (l.length : Int)) = false := by simp; omega
      have hl'' : decide (60000 < l.length) = false := by simp; omega
      have c8 := ref_CmdRead l (by omega)
      rw [h3] at c8
      replace c8 := hid c8
      clear h3 hl
      refine C_inline [] Tryd.func3 (fun _ _ => by kernel_rfl) rfl (by kernel_rfl) (by rfl) (by decide) (by rfl) (by rfl) (by rfl) ?_
      simp -dsimp -implicitDefEqProofs [-getElem?_pos, -List.map_append, -List.map_set, List.getElem?_cons_zero, List.getElem?_cons_succ]
      refine call_CC (c1.out) ?_
      simp -dsimp -implicitDefEqProofs [-getElem?_pos, -List.map_append, -List.map_set, List.getElem?_cons_zero, List.getElem?_cons_succ]
      refine call_CC (c2.out) ?_
      simp -dsimp -implicitDefEqProofs [-getElem?_pos, -List.map_append, -List.map_set, List.getElem?_cons_zero, List.getElem?_cons_succ]
      refine call_CC (c3.out) ?_
      simp -dsimp -implicitDefEqProofs [-getElem?_pos, -List.map_append, -List.map_set, List.getElem?_cons_zero, List.getElem?_cons_succ]
      refine call_CC (c4.out) ?_
      simp -dsimp -implicitDefEqProofs [-getElem?_pos, -List.map_append, -List.map_set, List.getElem?_cons_zero, List.getElem?_cons_succ]
      refine call_CC (law_spoken) ?_
      simp -dsimp -implicitDefEqProofs [-getElem?_pos, -List.map_append, -List.map_set, List.getElem?_cons_zero, List.getElem?_cons_succ]
      refine call_CC (c5.out) ?_
      simp -dsimp -implicitDefEqProofs [-getElem?_pos, -List.map_append, -List.map_set, List.getElem?_cons_zero, List.getElem?_cons_succ]
      refine call_CC (c6.out) ?_
      simp -dsimp -implicitDefEqProofs [-getElem?_pos, -List.map_append, -List.map_set, List.getElem?_cons_zero, List.getElem?_cons_succ]
      refine call_CC (c7.out) ?_
      simp -dsimp -implicitDefEqProofs [-getElem?_pos, -List.map_append, -List.map_set, List.getElem?_cons_zero, List.getElem?_cons_succ, hl', hl'']
      refine call_CC (c8.out) ?_
      simp -dsimp -implicitDefEqProofs [-getElem?_pos, -List.map_append, -List.map_set, List.getElem?_cons_zero, List.getElem?_cons_succ]
      refine call_CC (cx.out) ?_
      simp -dsimp -implicitDefEqProofs [-getElem?_pos, -List.map_append, -List.map_set, List.getElem?_cons_zero, List.getElem?_cons_succ]
      exact ends_bool rfl
  · have h1 : S.cmdPrint c = ([], S.checkCmd c) := by unfold S.cmdPrint; rw [if_pos hc]
    have c1 := hid (print_eq h1)
    clear h1
    replace c3 := hid c3
    replace c5 := hid c5
    generalize S.checkCmd c = e at *
    have hc' : decide (e = 0) = false := by simp [hc]
    by_cases hl : 60000 < l.length
    · rw [if_pos hl] at h3
      obtain ⟨hx, rfl⟩ := Prod.mk.inj h3
      have hl' : decide ((60000 : Int) < (l.length : Int)) = true := by simp; omega
      have hl'' : decide (60000 < l.length) = true := by simp; omega
      have c8 := hid (ref_SameCmdZ hx.symm)
      clear h3 hx hl
      refine C_inline [] Tryd.func3 (fun _ _ => by kernel_rfl) rfl (by kernel_rfl) (by rfl) (by decide) (by rfl) (by rfl) (by rfl) ?_
      simp -dsimp -implicitDefEqProofs [-getElem?_pos, -List.map_append, -List.map_set, List.getElem?_cons_zero, List.getElem?_cons_succ]
      refine call_CC (c1.out) ?_
      simp -dsimp -implicitDefEqProofs [-getElem?_pos, -List.map_append, -List.map_set, List.getElem?_cons_zero, List.getElem?_cons_succ]
      refine call_CC (c2.out) ?_
      simp -dsimp -implicitDefEqProofs [-getElem?_pos, -List.map_append, -List.map_set, List.getElem?_cons_zero, List.getElem?_cons_succ]
      refine call_CC (c3.out) ?_
      simp -dsimp -implicitDefEqProofs [-getElem?_pos, -List.map_append, -List.map_set, List.getElem?_cons_zero, List.getElem?_cons_succ, hc', hc]
      refine call_CC (law_spoken) ?_
      simp -dsimp -implicitDefEqProofs [-getElem?_pos, -List.map_append, -List.map_set, List.getElem?_cons_zero, List.getElem?_cons_succ]
      refine call_CC (c5.out) ?_
      simp -dsimp -implicitDefEqProofs [-getElem?_pos, -List.map_append, -List.map_set, List.getElem?_cons_zero, List.getElem?_cons_succ, hc', hc]
      refine call_CC (c6.out) ?_
      simp -dsimp -implicitDefEqProofs [-getElem?_pos, -List.map_append, -List.map_set, List.getElem?_cons_zero, List.getElem?_cons_succ]
      refine call_CC (c7.out) ?_
      simp -dsimp -implicitDefEqProofs [-getElem?_pos, -List.map_append, -List.map_set, List.getElem?_cons_zero, List.getElem?_cons_succ, hl', hl'']
      refine call_CC (c8.out) ?_
      simp -dsimp -implicitDefEqProofs [-getElem?_pos, -List.map_append, -List.map_set, List.getElem?_cons_zero, List.getElem?_cons_succ]
      exact ends_bool rfl
    · rw [if_neg hl] at h3
      have hl' : decide ((60000 : Int) < (l.length : Int)) = false := by simp; omega
      have hl'' : decide (60000 < l.length) = false := by simp; omega
      have c8 := ref_CmdRead l (by omega)
      rw [h3] at c8
      replace c8 := hid c8
      clear h3 hl
      refine C_inline [] Tryd.func3 (fun _ _ => by kernel_rfl) rfl (by kernel_rfl) (by rfl) (by decide) (by rfl) (by rfl) (by rfl) ?_
      simp -dsimp -implicitDefEqProofs [-getElem?_pos, -List.map_append, -List.map_set, List.getElem?_cons_zero, List.getElem?_cons_succ]
      refine call_CC (c1.out) ?_
      simp -dsimp -implicitDefEqProofs [-getElem?_pos, -List.map_append, -List.map_set, List.getElem?_cons_zero, List.getElem?_cons_succ]
      refine call_CC (c2.out) ?_
      simp -dsimp -implicitDefEqProofs [-getElem?_pos, -List.map_append, -List.map_set, List.getElem?_cons_zero, List.getElem?_cons_succ]
      refine call_CC (c3.out) ?_
      simp -dsimp -implicitDefEqProofs [-getElem?_pos, -List.map_append, -List.map_set, List.getElem?_cons_zero, List.getElem?_cons_succ, hc', hc]
      refine call_CC (law_spoken) ?_
      simp -dsimp -implicitDefEqProofs [-getElem?_pos, -List.map_append, -List.map_set, List.getElem?_cons_zero, List.getElem?_cons_succ]
      refine call_CC (c5.out) ?_
      simp -dsimp -implicitDefEqProofs [-getElem?_pos, -List.map_append, -List.map_set, List.getElem?_cons_zero, List.getElem?_cons_succ, hc', hc]
      refine call_CC (c6.out) ?_
      simp -dsimp -implicitDefEqProofs [-getElem?_pos, -List.map_append, -List.map_set, List.getElem?_cons_zero, List.getElem?_cons_succ]
      refine call_CC (c7.out) ?_
      simp -dsimp -implicitDefEqProofs [-getElem?_pos, -List.map_append, -List.map_set, List.getElem?_cons_zero, List.getElem?_cons_succ, hl', hl'']
      refine call_CC (c8.out) ?_
      simp -dsimp -implicitDefEqProofs [-getElem?_pos, -List.map_append, -List.map_set, List.getElem?_cons_zero, List.getElem?_cons_succ]
      refine call_CC (cx.out) ?_
      simp -dsimp -implicitDefEqProofs [-getElem?_pos, -List.map_append, -List.map_set, List.getElem?_cons_zero, List.getElem?_cons_succ]
      exact ends_bool rfl
end Go.Proofs.YtadmfokicjjglaaDoor.E
