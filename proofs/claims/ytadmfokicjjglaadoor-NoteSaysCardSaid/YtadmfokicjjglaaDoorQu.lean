
/- Qu: law.NoteSays. -/
import Derived.Test.YtadmfokicjjglaaDoorQr
import Derived.Test.YtadmfokicjjglaaDoorV2
namespace Go.Proofs.YtadmfokicjjglaaDoor.E
open Go.RowKit Go.Proofs
set_option linter.unusedVariables false
set_option linter.unusedSimpArgs false
set_option maxRecDepth 100000
set_option maxHeartbeats 4000000
theorem law_NoteSays (c d : S.Rec) (s : ByteArray) : C Tryd.prog 4 [.agg (recC false c), .agg (recC false d), .at (.string s)] (Bool' true) [] := by
  obtain ⟨l, rfl⟩ : ∃ l : List UInt8, s = ⟨l.toArray⟩ := ⟨s.data.toList, (Lib.mk_data s).symm⟩
  obtain ⟨⟨x, f⟩, h3⟩ : ∃ r, S.recParse l = r := ⟨_, rfl⟩
  have c2 := hid (rparse_eq h3)
  obtain ⟨b, hb⟩ : ∃ b, decide (c = d) = b := ⟨_, rfl⟩
  have c6 := hid (sameR_eq hb)
  have c7 := ref_SameRecN c d
  rw [hb] at c7
  replace c7 := hid c7
  have cx := ref_SameRecN x x
  rw [decide_eq_true rfl] at cx
  replace cx := hid cx
  have c3 := ref_RecText c
  have c5 := note_Check c
  have h1 : (S.recPrint c).2 = S.checkRec c := by
    unfold S.recPrint
    split
    · rfl
    · rename_i g; exact (Decidable.not_not.1 g).symm
  rw [← h1] at c5
  obtain ⟨⟨t, e⟩, h2⟩ : ∃ r, S.recPrint c = r := ⟨_, rfl⟩
  have c1 := hid (rprint_eq h2)
  rw [h2] at c3 c5
  replace c3 := hid c3
  replace c5 := hid c5
  clear hb h1 h2
  by_cases hl : 60000 < l.length
  · have h4 : S.recParse l = (S.Rec.zero, 2) := by unfold S.recParse; rw [if_pos hl]
    rw [h4] at h3
    obtain ⟨hx, rfl⟩ := Prod.mk.inj h3
    have hl' : decide ((60000 : Int) < (l.length : Int)) = true := by simp; omega
    have hl'' : decide (60000 < l.length) = true := by simp; omega
    have c8 := hid (ref_SameRecZ hx.symm)
    clear h3 h4 hx hl
    refine C_inline [] Tryd.func4 (fun _ _ => by kernel_rfl) rfl (by kernel_rfl) (by rfl) (by decide) (by rfl) (by rfl) (by rfl) ?_
    simp -dsimp -implicitDefEqProofs [-getElem?_pos, -List.map_append, -List.map_set, List.getElem?_cons_zero, List.getElem?_cons_succ]
    refine call_CC (c1.out) ?_
    simp -dsimp -implicitDefEqProofs [-getElem?_pos, -List.map_append, -List.map_set, List.getElem?_cons_zero, List.getElem?_cons_succ]
    refine call_CC (c2.out) ?_
    simp -dsimp -implicitDefEqProofs [-getElem?_pos, -List.map_append, -List.map_set, List.getElem?_cons_zero, List.getElem?_cons_succ]
    refine call_CC (c3.out) ?_
    simp -dsimp -implicitDefEqProofs [-getElem?_pos, -List.map_append, -List.map_set, List.getElem?_cons_zero, List.getElem?_cons_succ]
    refine call_CC (law_lined) ?_
    simp -dsimp -implicitDefEqProofs [-getElem?_pos, -List.map_append, -List.map_set, List.getElem?_cons_zero, List.getElem?_cons_succ]
    refine call_CC (c5.out) ?_
    simp -dsimp -implicitDefEqProofs [-getElem?_pos, -List.map_append, -List.map_set, List.getElem?_cons_zero, List.getElem?_cons_succ]
    refine call_CC (c6.out) ?_
    simp -dsimp -implicitDefEqProofs [-getElem?_pos, -List.map_append, -List.map_set, List.getElem?_cons_zero, List.getElem?_cons_succ]
    refine call_CC (c7.out) ?_
    simp -dsimp -implicitDefEqProofs [-getElem?_pos, -List.map_append, -List.map_set, List.getElem?_cons_zero, List.getElem?_cons_succ, hl', hl'']
    refine call_CC (c8.out) ?_
    simp -dsimp -implicitDefEqProofs [-getElem?_pos, -List.map_append, -List.map_set, List.getElem?_cons_zero, List.getElem?_cons_succ]
    exact ends_bool rfl
  · have hl' : decide ((60000 : Int) < (l.length : Int)) = false := by simp; omega
    have hl'' : decide (60000 < l.length) = false := by simp; omega
    have c8 := ref_RecRead l (by omega)
    rw [h3] at c8
    replace c8 := hid c8
    clear h3 hl
    refine C_inline [] Tryd.func4 (fun _ _ => by kernel_rfl) rfl (by kernel_rfl) (by rfl) (by decide) (by rfl) (by rfl) (by rfl) ?_
    simp -dsimp -implicitDefEqProofs [-getElem?_pos, -List.map_append, -List.map_set, List.getElem?_cons_zero, List.getElem?_cons_succ]
    refine call_CC (c1.out) ?_
    simp -dsimp -implicitDefEqProofs [-getElem?_pos, -List.map_append, -List.map_set, List.getElem?_cons_zero, List.getElem?_cons_succ]
    refine call_CC (c2.out) ?_
    simp -dsimp -implicitDefEqProofs [-getElem?_pos, -List.map_append, -List.map_set, List.getElem?_cons_zero, List.getElem?_cons_succ]
    refine call_CC (c3.out) ?_
    simp -dsimp -implicitDefEqProofs [-getElem?_pos, -List.map_append, -List.map_set, List.getElem?_cons_zero, List.getElem?_cons_succ]
    refine call_CC (law_lined) ?_
    simp -dsimp -implicitDefEqProofs [-getElem?_pos, -List.map_append, -List.map_set, List.getElem?_cons_zero, List.getElem?_cons_succ]
    refine call_CC (c5.out) ?_
    simp -dsimp -implicitDefEqProofs [-getElem?_pos, -List.map_append, -List.map_set, List.getElem?_cons_zero, List.getElem?_cons_succ]
    refine call_CC (c6.out) ?_
    simp -dsimp -implicitDefEqProofs [-getElem?_pos, -List.map_append, -List.map_set, List.getElem?_cons_zero, List.getElem?_cons_succ]
    refine call_CC (c7.out) ?_
    simp -dsimp -implicitDefEqProofs [-getElem?_pos, -List.map_append, -List.map_set, List.getElem?_cons_zero, List.getElem?_cons_succ, hl', hl'']
    refine call_CC (c8.out) ?_
    simp -dsimp -implicitDefEqProofs [-getElem?_pos, -List.map_append, -List.map_set, List.getElem?_cons_zero, List.getElem?_cons_succ]
    refine call_CC (cx.out) ?_
    simp -dsimp -implicitDefEqProofs [-getElem?_pos, -List.map_append, -List.map_set, List.getElem?_cons_zero, List.getElem?_cons_succ]
    exact ends_bool rfl
end Go.Proofs.YtadmfokicjjglaaDoor.E
