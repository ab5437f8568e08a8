
/- Qr: ref.SameRec, where no worlds are. -/
import Derived.Test.YtadmfokicjjglaaGreatDoorR1
namespace Go.Proofs.YtadmfokicjjglaaGreatDoor.E
open Go.RowKit Go.Proofs
set_option linter.unusedVariables false
set_option linter.unusedSimpArgs false
set_option maxRecDepth 100000
set_option maxHeartbeats 4000000
theorem ref_SameRecN (a b : S.Rec) : C Tryz.prog 28 [.agg (recC false a), .agg (recC false b)] (Bool' (decide (a = b))) [] := by
  refine C_inline [] Tryz.func28 (fun _ _ => by kernel_rfl) rfl (by kernel_rfl) (by rfl) (by decide) (by rfl) (by rfl) (by rfl) ?_
  simp -dsimp -implicitDefEqProofs [-getElem?_pos, -List.map_append, -List.map_set, List.getElem?_cons_zero, List.getElem?_cons_succ]
  refine guardC_C (ref_SameCmd a.c b.c) (by first | rfl | (simp -dsimp -implicitDefEqProofs; done)) (by first | exact Or.inr (by rfl) | exact Or.inl (by rfl)) ?_
  simp -dsimp -implicitDefEqProofs [-getElem?_pos, -List.map_append, -List.map_set, List.getElem?_cons_zero, List.getElem?_cons_succ]
  exact ends_eq (by cases a; cases b; simp [and_assoc])
end Go.Proofs.YtadmfokicjjglaaGreatDoor.E
