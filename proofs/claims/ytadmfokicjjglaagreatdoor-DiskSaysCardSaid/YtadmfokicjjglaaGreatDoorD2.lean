/- D2: Te: ref.FreshHall, ref.CheckRec, ref.nexted. -/
import Derived.Test.YtadmfokicjjglaaGreatDoorD3
import Derived.Test.YtadmfokicjjglaaGreatDoorK1
import Derived.Test.YtadmfokicjjglaaGreatDoorS1
namespace Go.Proofs.YtadmfokicjjglaaGreatDoor.E
open Go.RowKit Go.Proofs
set_option maxRecDepth 100000
set_option maxHeartbeats 2000000
set_option linter.unusedSimpArgs false
set_option linter.unusedVariables false
theorem ref_CheckRec (r : S.Rec) : C Tryz.prog 84 [.agg (recC false r)] (Int' (S.checkRec r)) [] := by
  obtain ⟨w, s, c⟩ := r
  obtain ⟨e, he⟩ : ∃ e, S.checkRec ⟨w, s, c⟩ = e := ⟨_, rfl⟩
  rw [he]
  unfold S.checkRec at he
  simp only at he
  by_cases h1 : w < 0 ∨ 2 < w
  · have h1' := in_no h1
    rw [if_pos (by omega)] at he
    subst he
    clear h1
    refine C_inline [] Tryz.func84 (fun _ _ => by kernel_rfl) rfl (by kernel_rfl) (by rfl) (by decide) (by rfl) (by rfl) (by rfl) ?_
    simp -dsimp -implicitDefEqProofs [-getElem?_pos, -List.map_append, -List.map_set, List.getElem?_cons_zero, List.getElem?_cons_succ]
    refine call_CC (ref_in w 0 2) ?_
    simp -dsimp -implicitDefEqProofs [-getElem?_pos, -List.map_append, -List.map_set, List.getElem?_cons_zero, List.getElem?_cons_succ, h1']
    exact ends_int rfl
  have h1' := in_yes h1
  by_cases h2 : s < 1 ∨ 40 < s
  · have h2' := in_no h2
    rw [if_pos (by omega)] at he
    subst he
    clear h1 h2
    refine C_inline [] Tryz.func84 (fun _ _ => by kernel_rfl) rfl (by kernel_rfl) (by rfl) (by decide) (by rfl) (by rfl) (by rfl) ?_
    simp -dsimp -implicitDefEqProofs [-getElem?_pos, -List.map_append, -List.map_set, List.getElem?_cons_zero, List.getElem?_cons_succ]
    refine call_CC (ref_in w 0 2) ?_
    simp -dsimp -implicitDefEqProofs [-getElem?_pos, -List.map_append, -List.map_set, List.getElem?_cons_zero, List.getElem?_cons_succ, h1']
    refine call_CC (ref_in s 1 40) ?_
    simp -dsimp -implicitDefEqProofs [-getElem?_pos, -List.map_append, -List.map_set, List.getElem?_cons_zero, List.getElem?_cons_succ, h2']
    exact ends_int rfl
  have h2' := in_yes h2
  rw [if_neg (by omega)] at he
  subst he
  clear h1 h2
  refine C_inline [] Tryz.func84 (fun _ _ => by kernel_rfl) rfl (by kernel_rfl) (by rfl) (by decide) (by rfl) (by rfl) (by rfl) ?_
  simp -dsimp -implicitDefEqProofs [-getElem?_pos, -List.map_append, -List.map_set, List.getElem?_cons_zero, List.getElem?_cons_succ]
  refine call_CC (ref_in w 0 2) ?_
  simp -dsimp -implicitDefEqProofs [-getElem?_pos, -List.map_append, -List.map_set, List.getElem?_cons_zero, List.getElem?_cons_succ, h1']
  refine call_CC (ref_in s 1 40) ?_
  simp -dsimp -implicitDefEqProofs [-getElem?_pos, -List.map_append, -List.map_set, List.getElem?_cons_zero, List.getElem?_cons_succ, h2']
  refine call_CC (ref_CheckCmd c) ?_
  simp -dsimp -implicitDefEqProofs [-getElem?_pos, -List.map_append, -List.map_set, List.getElem?_cons_zero, List.getElem?_cons_succ]
  exact ends_int rfl
end Go.Proofs.YtadmfokicjjglaaGreatDoor.E
