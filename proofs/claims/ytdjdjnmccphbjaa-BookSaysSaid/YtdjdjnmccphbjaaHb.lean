/- Hb: commands and answers: copies, likeness. -/
import Derived.Test.YtdjdjnmccphbjaaHa
namespace Go.Proofs.Ytdjdjnmccphbjaa.E
open Go.RowKit Go.Proofs
set_option maxRecDepth 100000
set_option maxHeartbeats 1000000
set_option linter.unusedSimpArgs false

theorem cmd_Copy (c : S.Cmd) (hl : c.d.length ≤ 100000000) : C Try.prog 97 [.agg (cmdC false c)] (.agg (cmdC true c)) [] := by
  refine C_inline [] Try.func97 (fun _ _ => by kernel_rfl) rfl (by kernel_rfl) (by rfl) (by decide) (by rfl) (by rfl) (by rfl) ?_
  simp -dsimp -implicitDefEqProofs [-getElem?_pos, -List.map_append, -List.map_set, List.getElem?_cons_zero, List.getElem?_cons_succ]
  refine call_C (clone_int c.d hl) (by first | rfl | (simp -dsimp -implicitDefEqProofs; done)) (by first | exact Or.inr (by rfl) | exact Or.inl ⟨by rfl, by first | rfl | simp [newNews, newLeaf, I]⟩) (Nat.le_of_ble_eq_true rfl) ?_
  simp -dsimp -implicitDefEqProofs [-getElem?_pos, -List.map_append, -List.map_set, List.getElem?_cons_zero, List.getElem?_cons_succ]
  exact ⟨⟨.agg (cmdC true c), by simp -dsimp -implicitDefEqProofs, Sub.refl _⟩, rfl⟩
theorem desk_CopyAnswer (a : S.Answer) (hl : a.d.length ≤ 100000000) : C Try.prog 96 [.agg (ansC false a)] (.agg (ansC true a)) [] := by
  refine C_inline [] Try.func96 (fun _ _ => by kernel_rfl) rfl (by kernel_rfl) (by rfl) (by decide) (by rfl) (by rfl) (by rfl) ?_
  simp -dsimp -implicitDefEqProofs [-getElem?_pos, -List.map_append, -List.map_set, List.getElem?_cons_zero, List.getElem?_cons_succ]
  refine call_C (clone_int a.d hl) (by first | rfl | (simp -dsimp -implicitDefEqProofs; done)) (by first | exact Or.inr (by rfl) | exact Or.inl ⟨by rfl, by first | rfl | simp [newNews, newLeaf, I]⟩) (Nat.le_of_ble_eq_true rfl) ?_
  simp -dsimp -implicitDefEqProofs [-getElem?_pos, -List.map_append, -List.map_set, List.getElem?_cons_zero, List.getElem?_cons_succ]
  exact ⟨⟨.agg (ansC true a), by simp -dsimp -implicitDefEqProofs, Sub.refl _⟩, rfl⟩

theorem ends_eq {p : Prop} [Decidable p] {b : Bool} {h : Heap} {n : Nat} (e : b = true ↔ p) : Ends [] (Bool' (decide p)) [] h n (Bool' b) := ends_bool (by
  by_cases hp : p
  · rw [decide_eq_true hp]; exact e.2 hp
  · rw [decide_eq_false hp]; exact Bool.eq_false_iff.2 fun hb => hp (e.1 hb))

theorem cmd_Same (a b : S.Cmd) : C Try.prog 46 [.agg (cmdC false a), .agg (cmdC false b)] (Bool' (decide (a = b))) [] := by
  refine C_inline [] Try.func46 (fun _ _ => by kernel_rfl) rfl (by kernel_rfl) (by rfl) (by decide) (by rfl) (by rfl) (by rfl) ?_
  simp -dsimp -implicitDefEqProofs [-getElem?_pos, -List.map_append, -List.map_set, List.getElem?_cons_zero, List.getElem?_cons_succ]
  refine guardC_C (int_equal a.d b.d) (by first | rfl | (simp -dsimp -implicitDefEqProofs; done)) (by first | exact Or.inr (by rfl) | exact Or.inl (by rfl)) ?_
  simp -dsimp -implicitDefEqProofs [-getElem?_pos, -List.map_append, -List.map_set, List.getElem?_cons_zero, List.getElem?_cons_succ]
  exact ends_eq (by cases a; cases b; simp; grind)
theorem ref_SameCmd (a b : S.Cmd) : C Try.prog 118 [.agg (cmdC false a), .agg (cmdC false b)] (Bool' (decide (a = b))) [] := by
  refine C_inline [] Try.func118 (fun _ _ => by kernel_rfl) rfl (by kernel_rfl) (by rfl) (by decide) (by rfl) (by rfl) (by rfl) ?_
  simp -dsimp -implicitDefEqProofs [-getElem?_pos, -List.map_append, -List.map_set, List.getElem?_cons_zero, List.getElem?_cons_succ]
  refine guardC_C (int_equal a.d b.d) (by first | rfl | (simp -dsimp -implicitDefEqProofs; done)) (by first | exact Or.inr (by rfl) | exact Or.inl (by rfl)) ?_
  simp -dsimp -implicitDefEqProofs [-getElem?_pos, -List.map_append, -List.map_set, List.getElem?_cons_zero, List.getElem?_cons_succ]
  exact ends_eq (by cases a; cases b; simp; grind)
theorem desk_SameAnswer (a b : S.Answer) : C Try.prog 101 [.agg (ansC false a), .agg (ansC false b)] (Bool' (decide (a = b))) [] := by
  refine C_inline [] Try.func101 (fun _ _ => by kernel_rfl) rfl (by kernel_rfl) (by rfl) (by decide) (by rfl) (by rfl) (by rfl) ?_
  simp -dsimp -implicitDefEqProofs [-getElem?_pos, -List.map_append, -List.map_set, List.getElem?_cons_zero, List.getElem?_cons_succ]
  refine guardC_C (int_equal a.d b.d) (by first | rfl | (simp -dsimp -implicitDefEqProofs; done)) (by first | exact Or.inr (by rfl) | exact Or.inl (by rfl)) ?_
  simp -dsimp -implicitDefEqProofs [-getElem?_pos, -List.map_append, -List.map_set, List.getElem?_cons_zero, List.getElem?_cons_succ]
  exact ends_eq (by cases a; cases b; simp; grind)
theorem ref_SameAnswer (a b : S.Answer) : C Try.prog 84 [.agg (ansC false a), .agg (ansC false b)] (Bool' (decide (a = b))) [] := by
  refine C_inline [] Try.func84 (fun _ _ => by kernel_rfl) rfl (by kernel_rfl) (by rfl) (by decide) (by rfl) (by rfl) (by rfl) ?_
  simp -dsimp -implicitDefEqProofs [-getElem?_pos, -List.map_append, -List.map_set, List.getElem?_cons_zero, List.getElem?_cons_succ]
  refine guardC_C (int_equal a.d b.d) (by first | rfl | (simp -dsimp -implicitDefEqProofs; done)) (by first | exact Or.inr (by rfl) | exact Or.inl (by rfl)) ?_
  simp -dsimp -implicitDefEqProofs [-getElem?_pos, -List.map_append, -List.map_set, List.getElem?_cons_zero, List.getElem?_cons_succ]
  exact ends_eq (by cases a; cases b; simp; grind)
theorem law_sameAnswer (a b : S.Answer) : C Try.prog 45 [.agg (ansC false a), .agg (ansC false b)] (Bool' (decide (a = b))) [] := by
  refine C_inline [] Try.func45 (fun _ _ => by kernel_rfl) rfl (by kernel_rfl) (by rfl) (by decide) (by rfl) (by rfl) (by rfl) ?_
  simp -dsimp -implicitDefEqProofs [-getElem?_pos, -List.map_append, -List.map_set, List.getElem?_cons_zero, List.getElem?_cons_succ]
  refine guardC_C (int_equal a.d b.d) (by first | rfl | (simp -dsimp -implicitDefEqProofs; done)) (by first | exact Or.inr (by rfl) | exact Or.inl (by rfl)) ?_
  simp -dsimp -implicitDefEqProofs [-getElem?_pos, -List.map_append, -List.map_set, List.getElem?_cons_zero, List.getElem?_cons_succ]
  exact ends_eq (by cases a; cases b; simp; grind)

/-- all alike, one by one -/
def eqAll {α : Type} (eq : α → α → Bool) : List α → List α → Bool
  | [], [] => true
  | x :: xs, y :: ys => eq x y && eqAll eq xs ys
  | _, _ => false
theorem eqAll_dec {α : Type} [DecidableEq α] (xs ys : List α) : eqAll (fun x y => decide (x = y)) xs ys = decide (xs = ys) := by
  induction xs generalizing ys with
  | nil => cases ys <;> simp [eqAll]
  | cons x xs ih => cases ys <;> simp [eqAll, ih]

end Go.Proofs.Ytdjdjnmccphbjaa.E
