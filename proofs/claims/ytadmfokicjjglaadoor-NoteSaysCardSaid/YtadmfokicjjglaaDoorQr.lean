
/- Qr: ref.SameRec, where no worlds are. -/
import Derived.Test.YtadmfokicjjglaaDoorR1
namespace Go.Proofs.YtadmfokicjjglaaDoor.E
open Go.RowKit Go.Proofs
set_option linter.unusedVariables false
set_option linter.unusedSimpArgs false
set_option maxRecDepth 100000
set_option maxHeartbeats 4000000
theorem ref_SameRecN (a b : S.Rec) : C Tryd.prog 20 [.agg (recC false a), .agg (recC false b)] (Bool' (decide (a = b))) [] := by
  refine C_inline [] Tryd.func20 (fun _ _ => by kernel_rfl) rfl (by kernel_rfl) (by rfl) (by decide) (by rfl) (by rfl) (by rfl) ?_
  simp -dsimp -implicitDefEqProofs [-getElem?_pos, -List.map_append, -List.map_set, List.getElem?_cons_zero, List.getElem?_cons_succ]
  refine guardC_C (ref_SameCmd a.c b.c) (by first | rfl | (simp -dsimp -implicitDefEqProofs; done)) (by first | exact Or.inr (by rfl) | exact Or.inl (by rfl)) ?_
  simp -dsimp -implicitDefEqProofs [-getElem?_pos, -List.map_append, -List.map_set, List.getElem?_cons_zero, List.getElem?_cons_succ]
  exact ends_eq (by cases a; cases b; simp [and_assoc])
theorem ref_SameRecZ {c : S.Rec} (h : c = S.Rec.zero) : C Tryd.prog 20 [.agg (recC false c), .agg [Int' 0, Int' 0, Int' 0, Int' 0, Int' 0, Int' 0, .nl]] (Bool' true) [] := by
  have := ref_SameRecN c S.Rec.zero
  rw [decide_eq_true h] at this
  exact this.args (.cons (.refl _) (.cons (.agg (.cons (.refl _) (.cons (.refl _) (.cons (.refl _) (.cons (.refl _) (.cons (.refl _) (.cons (.refl _) (.cons .nl (.nil _))))))))) (.nil _)))
end Go.Proofs.YtadmfokicjjglaaDoor.E
