/- Da: desks: checked, compared, new. -/
import Derived.Test.YtdjdjnmccphbjaaYm
import Derived.Test.YtdjdjnmccphbjaaYh
import Derived.Test.YtdjdjnmccphbjaaLj
import Derived.Test.YtdjdjnmccphbjaaSp
namespace Go.Proofs.Ytdjdjnmccphbjaa.E
open Go.RowKit Go.Proofs
set_option maxRecDepth 100000
set_option maxHeartbeats 1000000
set_option linter.unusedSimpArgs false
set_option linter.unusedVariables false

abbrev deskC (fr : Bool) (d : S.Desk) : List AV := [.lst fr 2 (d.zs.map (zoneC false)), .lst fr 1 (I d.b.k), .at (.int .i64 d.b.h), .at (.int .i64 d.b.t)]

theorem desk_Check (d : S.Desk) : C Try.prog 67 [.agg (deskC false d)] (Int' (S.checkDesk d)) [] := by
  obtain ⟨zs, b⟩ := d
  obtain ⟨r, hr⟩ : ∃ r, S.checkDesk ⟨zs, b⟩ = r := ⟨_, rfl⟩
  rw [hr]
  unfold S.checkDesk at hr
  simp only at hr
  replace hr := hid hr
  refine C_inline [] Try.func67 (fun _ _ => by kernel_rfl) rfl (by kernel_rfl) (by rfl) (by decide) (by rfl) (by rfl) (by rfl) ?_
  simp -dsimp -implicitDefEqProofs [-getElem?_pos, -List.map_append, -List.map_set, List.getElem?_cons_zero, List.getElem?_cons_succ]
  refine call_C (yard_Check zs) (by first | rfl | (simp -dsimp -implicitDefEqProofs; done)) (by first | exact Or.inr (by rfl) | exact Or.inl ⟨by rfl, by first | rfl | simp [newNews, newLeaf, I]⟩) (Nat.le_of_ble_eq_true rfl) ?_
  simp -dsimp -implicitDefEqProofs [-getElem?_pos, -List.map_append, -List.map_set, List.getElem?_cons_zero, List.getElem?_cons_succ]
  by_cases h1 : S.checkZones zs = 0
  · have hr2 := hr.out
    rw [if_neg (by simp [h1])] at hr2
    clear hr
    subst hr2
    simp -dsimp -implicitDefEqProofs [-getElem?_pos, -List.map_append, -List.map_set, List.getElem?_cons_zero, List.getElem?_cons_succ, h1]
    refine call_C (book_Check b) (by first | rfl | (simp -dsimp -implicitDefEqProofs; done)) (by first | exact Or.inr (by rfl) | exact Or.inl ⟨by rfl, by first | rfl | simp [newNews, newLeaf, I]⟩) (Nat.le_of_ble_eq_true rfl) ?_
    simp -dsimp -implicitDefEqProofs [-getElem?_pos, -List.map_append, -List.map_set, List.getElem?_cons_zero, List.getElem?_cons_succ]
    exact ends_int rfl
  · simp -dsimp -implicitDefEqProofs [-getElem?_pos, -List.map_append, -List.map_set, List.getElem?_cons_zero, List.getElem?_cons_succ, h1]
    exact ends_int (by rw [← hr.out, if_pos h1])

theorem ref_CheckDesk (d : S.Desk) : C Try.prog 78 [.agg (deskC false d)] (Int' (S.checkDesk d)) [] := by
  obtain ⟨zs, b⟩ := d
  obtain ⟨r, hr⟩ : ∃ r, S.checkDesk ⟨zs, b⟩ = r := ⟨_, rfl⟩
  rw [hr]
  unfold S.checkDesk at hr
  simp only at hr
  replace hr := hid hr
  refine C_inline [] Try.func78 (fun _ _ => by kernel_rfl) rfl (by kernel_rfl) (by rfl) (by decide) (by rfl) (by rfl) (by rfl) ?_
  simp -dsimp -implicitDefEqProofs [-getElem?_pos, -List.map_append, -List.map_set, List.getElem?_cons_zero, List.getElem?_cons_succ]
  refine call_C (ref_CheckZones zs) (by first | rfl | (simp -dsimp -implicitDefEqProofs; done)) (by first | exact Or.inr (by rfl) | exact Or.inl ⟨by rfl, by first | rfl | simp [newNews, newLeaf, I]⟩) (Nat.le_of_ble_eq_true rfl) ?_
  simp -dsimp -implicitDefEqProofs [-getElem?_pos, -List.map_append, -List.map_set, List.getElem?_cons_zero, List.getElem?_cons_succ]
  by_cases h1 : S.checkZones zs = 0
  · have hr2 := hr.out
    rw [if_neg (by simp [h1])] at hr2
    clear hr
    subst hr2
    simp -dsimp -implicitDefEqProofs [-getElem?_pos, -List.map_append, -List.map_set, List.getElem?_cons_zero, List.getElem?_cons_succ, h1]
    refine call_C (ref_CheckBook b) (by first | rfl | (simp -dsimp -implicitDefEqProofs; done)) (by first | exact Or.inr (by rfl) | exact Or.inl ⟨by rfl, by first | rfl | simp [newNews, newLeaf, I]⟩) (Nat.le_of_ble_eq_true rfl) ?_
    simp -dsimp -implicitDefEqProofs [-getElem?_pos, -List.map_append, -List.map_set, List.getElem?_cons_zero, List.getElem?_cons_succ]
    exact ends_int rfl
  · simp -dsimp -implicitDefEqProofs [-getElem?_pos, -List.map_append, -List.map_set, List.getElem?_cons_zero, List.getElem?_cons_succ, h1]
    exact ends_int (by rw [← hr.out, if_pos h1])

theorem book_SameD (a b : S.Book) : C Try.prog 33 [Bk a, Bk b] (Bool' (decide (a = b))) [] := by
  refine C_inline [] Try.func33 (fun _ _ => by kernel_rfl) rfl (by kernel_rfl) (by rfl) (by decide) (by rfl) (by rfl) (by rfl) ?_
  simp -dsimp -implicitDefEqProofs [-getElem?_pos, -List.map_append, -List.map_set, List.getElem?_cons_zero, List.getElem?_cons_succ]
  refine call_C (int_equal a.k b.k) (by first | rfl | (simp -dsimp -implicitDefEqProofs; done)) (by first | exact Or.inr (by rfl) | exact Or.inl ⟨by rfl, by first | rfl | simp [newNews, newLeaf, I]⟩) (Nat.le_of_ble_eq_true rfl) ?_
  simp -dsimp -implicitDefEqProofs [-getElem?_pos, -List.map_append, -List.map_set, List.getElem?_cons_zero, List.getElem?_cons_succ]
  exact ends_eq (by cases a; cases b; simp [and_assoc])
theorem ref_SameBookD (a b : S.Book) : C Try.prog 28 [Bk a, Bk b] (Bool' (decide (a = b))) [] := by
  refine C_inline [] Try.func28 (fun _ _ => by kernel_rfl) rfl (by kernel_rfl) (by rfl) (by decide) (by rfl) (by rfl) (by rfl) ?_
  simp -dsimp -implicitDefEqProofs [-getElem?_pos, -List.map_append, -List.map_set, List.getElem?_cons_zero, List.getElem?_cons_succ]
  refine call_C (int_equal a.k b.k) (by first | rfl | (simp -dsimp -implicitDefEqProofs; done)) (by first | exact Or.inr (by rfl) | exact Or.inl ⟨by rfl, by first | rfl | simp [newNews, newLeaf, I]⟩) (Nat.le_of_ble_eq_true rfl) ?_
  simp -dsimp -implicitDefEqProofs [-getElem?_pos, -List.map_append, -List.map_set, List.getElem?_cons_zero, List.getElem?_cons_succ]
  exact ends_eq (by cases a; cases b; simp [and_assoc])
theorem desk_Same (a b : S.Desk) : C Try.prog 68 [.agg (deskC false a), .agg (deskC false b)] (Bool' (decide (a = b))) [] := by
  refine C_inline [] Try.func68 (fun _ _ => by kernel_rfl) rfl (by kernel_rfl) (by rfl) (by decide) (by rfl) (by rfl) (by rfl) ?_
  simp -dsimp -implicitDefEqProofs [-getElem?_pos, -List.map_append, -List.map_set, List.getElem?_cons_zero, List.getElem?_cons_succ]
  refine call_C (yard_Same a.zs b.zs) (by first | rfl | (simp -dsimp -implicitDefEqProofs; done)) (by first | exact Or.inr (by rfl) | exact Or.inl ⟨by rfl, by first | rfl | simp [newNews, newLeaf, I]⟩) (Nat.le_of_ble_eq_true rfl) ?_
  simp -dsimp -implicitDefEqProofs [-getElem?_pos, -List.map_append, -List.map_set, List.getElem?_cons_zero, List.getElem?_cons_succ]
  refine guardC_C (book_SameD a.b b.b) (by first | rfl | (simp -dsimp -implicitDefEqProofs; done)) (by first | exact Or.inr (by rfl) | exact Or.inl (by rfl)) ?_
  simp -dsimp -implicitDefEqProofs [-getElem?_pos, -List.map_append, -List.map_set, List.getElem?_cons_zero, List.getElem?_cons_succ]
  exact ends_eq (by cases a; cases b; simp)
theorem ref_SameDesk (a b : S.Desk) : C Try.prog 80 [.agg (deskC false a), .agg (deskC false b)] (Bool' (decide (a = b))) [] := by
  refine C_inline [] Try.func80 (fun _ _ => by kernel_rfl) rfl (by kernel_rfl) (by rfl) (by decide) (by rfl) (by rfl) (by rfl) ?_
  simp -dsimp -implicitDefEqProofs [-getElem?_pos, -List.map_append, -List.map_set, List.getElem?_cons_zero, List.getElem?_cons_succ]
  refine call_C (ref_SameZones a.zs b.zs) (by first | rfl | (simp -dsimp -implicitDefEqProofs; done)) (by first | exact Or.inr (by rfl) | exact Or.inl ⟨by rfl, by first | rfl | simp [newNews, newLeaf, I]⟩) (Nat.le_of_ble_eq_true rfl) ?_
  simp -dsimp -implicitDefEqProofs [-getElem?_pos, -List.map_append, -List.map_set, List.getElem?_cons_zero, List.getElem?_cons_succ]
  refine guardC_C (ref_SameBookD a.b b.b) (by first | rfl | (simp -dsimp -implicitDefEqProofs; done)) (by first | exact Or.inr (by rfl) | exact Or.inl (by rfl)) ?_
  simp -dsimp -implicitDefEqProofs [-getElem?_pos, -List.map_append, -List.map_set, List.getElem?_cons_zero, List.getElem?_cons_succ]
  exact ends_eq (by cases a; cases b; simp)
theorem desk_New : C Try.prog 81 [] (.agg (deskC true S.Desk.new)) [] := by
  refine C_inline [] Try.func81 (fun _ _ => by kernel_rfl) rfl (by kernel_rfl) (by rfl) (by decide) (by rfl) (by rfl) (by rfl) ?_
  simp -dsimp -implicitDefEqProofs [-getElem?_pos, -List.map_append, -List.map_set, List.getElem?_cons_zero, List.getElem?_cons_succ]
  refine call_C (yard_New) (by first | rfl | (simp -dsimp -implicitDefEqProofs; done)) (by first | exact Or.inr (by rfl) | exact Or.inl ⟨by rfl, by first | rfl | simp [newNews, newLeaf, I]⟩) (Nat.le_of_ble_eq_true rfl) ?_
  simp -dsimp -implicitDefEqProofs [-getElem?_pos, -List.map_append, -List.map_set, List.getElem?_cons_zero, List.getElem?_cons_succ]
  refine call_C (book_New) (by first | rfl | (simp -dsimp -implicitDefEqProofs; done)) (by first | exact Or.inr (by rfl) | exact Or.inl ⟨by rfl, by first | rfl | simp [newNews, newLeaf, I]⟩) (Nat.le_of_ble_eq_true rfl) ?_
  simp -dsimp -implicitDefEqProofs [-getElem?_pos, -List.map_append, -List.map_set, List.getElem?_cons_zero, List.getElem?_cons_succ]
  exact ends_agg (by repeat (first | exact OutL.nil _ | refine OutL.at ?_ | refine OutL.nl ?_ | refine OutL.lst (by first | exact fun h => h | exact fun _ => rfl | exact fun h => by cases h) ?_ | refine OutL.ints rfl ⟨rfl, rfl⟩ rfl ?_ | refine OutL.ints rfl ⟨rfl, by simp⟩ (by simp) ?_ | refine OutL.answers rfl ⟨rfl, rfl⟩ rfl ?_ | refine OutL.answers rfl ⟨rfl, by simp⟩ (by simp) ?_ | refine OutL.zones rfl ⟨rfl, rfl⟩ rfl ?_ | refine OutL.zones rfl ⟨rfl, by simp⟩ (by simp) ?_ | refine OutL.lasts rfl ⟨rfl, rfl⟩ rfl ?_ | refine OutL.lasts rfl ⟨rfl, by simp⟩ (by simp) ?_ | refine OutL.hands rfl ⟨rfl, rfl⟩ rfl ?_ | refine OutL.hands rfl ⟨rfl, by simp⟩ (by simp) ?_ | refine OutL.mails rfl ⟨rfl, rfl⟩ rfl ?_ | refine OutL.mails rfl ⟨rfl, by simp⟩ (by simp) ?_ | refine OutL.recs rfl ⟨rfl, rfl⟩ rfl ?_ | refine OutL.recs rfl ⟨rfl, by simp⟩ (by simp) ?_ | refine OutL.bytes rfl ⟨rfl, rfl⟩ rfl ?_ | refine OutL.bytes rfl ⟨rfl, by simp⟩ (by simp) ?_ ))

end Go.Proofs.Ytdjdjnmccphbjaa.E
