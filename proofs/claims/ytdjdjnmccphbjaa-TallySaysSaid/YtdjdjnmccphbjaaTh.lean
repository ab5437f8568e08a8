/- Th: law.TallySays. -/
import Derived.Test.YtdjdjnmccphbjaaD2
import Derived.Test.YtdjdjnmccphbjaaT1
namespace Go.Proofs.Ytdjdjnmccphbjaa.E
open Go.RowKit Go.Proofs
set_option maxRecDepth 100000
set_option maxHeartbeats 2000000
set_option linter.unusedSimpArgs false
set_option linter.unusedVariables false

theorem owners_errs : ∀ (l : List S.Rec) (h : S.Hall) (k : Nat) (out : List Int), (S.ownersFrom h k out l).2 = (S.replayFrom h l).2 ∧ ((S.ownersFrom h k out l).2 ≠ 0 → (S.ownersFrom h k out l).1 = [])
  | [], h, k, out => ⟨rfl, fun g => absurd rfl g⟩
  | r :: l, h, k, out => by
    rw [S.ownersFrom, S.replayFrom]
    by_cases h0 : (S.nextHall h r).2.2 = 0
    · rw [if_neg (by simp [h0]), if_neg (by simp [h0])]
      exact owners_errs l _ k _
    · rw [if_pos h0, if_pos h0]
      exact ⟨rfl, fun _ => rfl⟩

theorem hallOf_eq {l : List S.Rec} {q : S.Hall × List S.Answer × Int} (h : hallOf l = q) : C Try.prog 86 [.lst false 7 (l.map (recC false))] (hallOfR q) [] := h ▸ ref_HallOf l

theorem law_TallySays (l : List S.Rec) (k : Int) : C Try.prog 20 [.lst false 7 (l.map (recC false)), Int' k] (Bool' true) [] := by
  obtain ⟨q, hq⟩ : ∃ q, S.owners l k = q := ⟨_, rfl⟩
  have cq := hid (owners_eq hq)
  by_cases hl : 80 < l.length
  · have hl' : decide ((80 : Int) < (l.length : Int)) = true := by simp; omega
    unfold S.owners at hq
    rw [if_pos hl] at hq
    subst hq
    refine C_inline [] Try.func20 (fun _ _ => by kernel_rfl) rfl (by kernel_rfl) (by rfl) (by decide) (by rfl) (by rfl) (by rfl) ?_
    simp -dsimp -implicitDefEqProofs [-getElem?_pos, -List.map_append, -List.map_set, List.getElem?_cons_zero, List.getElem?_cons_succ]
    refine call_CC (cq.out) ?_
    simp -dsimp -implicitDefEqProofs [-getElem?_pos, -List.map_append, -List.map_set, List.getElem?_cons_zero, List.getElem?_cons_succ, hl']
    refine call_CC (law_owned) ?_
    simp -dsimp -implicitDefEqProofs [-getElem?_pos, -List.map_append, -List.map_set, List.getElem?_cons_zero, List.getElem?_cons_succ]
    refine call_CC (law_owned) ?_
    simp -dsimp -implicitDefEqProofs [-getElem?_pos, -List.map_append, -List.map_set, List.getElem?_cons_zero, List.getElem?_cons_succ]
    exact ends_bool rfl
  have hl' : decide ((80 : Int) < (l.length : Int)) = false := by simp; omega
  by_cases hk : k < 0 ∨ 4 ≤ k
  · unfold S.owners at hq
    rw [if_neg hl, if_pos hk] at hq
    subst hq
    replace hl := hid hl
    have cs : decide (k < 0) = true ∨ (decide (k < 0) = false ∧ decide (3 < k) = true) := by simp; omega
    clear hk
    rcases cs with c1 | ⟨c1, c2⟩
    · refine C_inline [] Try.func20 (fun _ _ => by kernel_rfl) rfl (by kernel_rfl) (by rfl) (by decide) (by rfl) (by rfl) (by rfl) ?_
      simp -dsimp -implicitDefEqProofs [-getElem?_pos, -List.map_append, -List.map_set, List.getElem?_cons_zero, List.getElem?_cons_succ]
      refine call_CC (cq.out) ?_
      simp -dsimp -implicitDefEqProofs [-getElem?_pos, -List.map_append, -List.map_set, List.getElem?_cons_zero, List.getElem?_cons_succ, hl', c1]
      refine call_CC (law_owned) ?_
      simp -dsimp -implicitDefEqProofs [-getElem?_pos, -List.map_append, -List.map_set, List.getElem?_cons_zero, List.getElem?_cons_succ]
      refine call_CC (law_owned) ?_
      simp -dsimp -implicitDefEqProofs [-getElem?_pos, -List.map_append, -List.map_set, List.getElem?_cons_zero, List.getElem?_cons_succ]
      exact ends_bool rfl
    · refine C_inline [] Try.func20 (fun _ _ => by kernel_rfl) rfl (by kernel_rfl) (by rfl) (by decide) (by rfl) (by rfl) (by rfl) ?_
      simp -dsimp -implicitDefEqProofs [-getElem?_pos, -List.map_append, -List.map_set, List.getElem?_cons_zero, List.getElem?_cons_succ]
      refine call_CC (cq.out) ?_
      simp -dsimp -implicitDefEqProofs [-getElem?_pos, -List.map_append, -List.map_set, List.getElem?_cons_zero, List.getElem?_cons_succ, hl', c1, c2]
      refine call_CC (law_owned) ?_
      simp -dsimp -implicitDefEqProofs [-getElem?_pos, -List.map_append, -List.map_set, List.getElem?_cons_zero, List.getElem?_cons_succ]
      refine call_CC (law_owned) ?_
      simp -dsimp -implicitDefEqProofs [-getElem?_pos, -List.map_append, -List.map_set, List.getElem?_cons_zero, List.getElem?_cons_succ]
      exact ends_bool rfl
  obtain ⟨K, rfl⟩ : ∃ K : Nat, k = K := ⟨k.toNat, by omega⟩
  have k1 : decide ((K : Int) < 0) = false := by simp
  have k2 : decide ((3 : Int) < (K : Int)) = false := by simp; omega
  have hh : (hallOf l).2.2 = q.2 ∧ (q.2 ≠ 0 → q.1 = []) := by
    rw [← hq]
    unfold S.owners hallOf
    rw [if_neg hl, if_neg hl, if_neg hk]
    have g1 := owners_errs l S.Hall.new (K : Int).toNat []
    exact ⟨(hallOf_replay l S.Hall.new [] (by decide)).2.trans g1.1.symm, g1.2⟩
  obtain ⟨⟨H, told, e⟩, hH⟩ : ∃ w, hallOf l = w := ⟨_, rfl⟩
  have ch := hid (hallOf_eq hH)
  rw [hH] at hh
  clear hH
  obtain ⟨a, e'⟩ := q
  simp only at hh
  obtain ⟨rfl, hh2⟩ := hh
  by_cases he : e = 0
  · subst he
    have co := hid (ref_OwnersOf l K (by omega) a hq)
    clear hq hh2
    replace hl := hid hl
    replace hk := hid hk
    refine C_inline [] Try.func20 (fun _ _ => by kernel_rfl) rfl (by kernel_rfl) (by rfl) (by decide) (by rfl) (by rfl) (by rfl) ?_
    simp -dsimp -implicitDefEqProofs [-getElem?_pos, -List.map_append, -List.map_set, List.getElem?_cons_zero, List.getElem?_cons_succ]
    refine call_CC (cq.out) ?_
    simp -dsimp -implicitDefEqProofs [-getElem?_pos, -List.map_append, -List.map_set, List.getElem?_cons_zero, List.getElem?_cons_succ, hl', k1, k2]
    refine call_CC (ch.out) ?_
    simp -dsimp -implicitDefEqProofs [-getElem?_pos, -List.map_append, -List.map_set, List.getElem?_cons_zero, List.getElem?_cons_succ]
    refine call_CC (law_owned) ?_
    simp -dsimp -implicitDefEqProofs [-getElem?_pos, -List.map_append, -List.map_set, List.getElem?_cons_zero, List.getElem?_cons_succ]
    refine call_CC (co.out) ?_
    simp -dsimp -implicitDefEqProofs [-getElem?_pos, -List.map_append, -List.map_set, List.getElem?_cons_zero, List.getElem?_cons_succ]
    refine call_CC (int_equal a a) ?_
    simp -dsimp -implicitDefEqProofs [-getElem?_pos, -List.map_append, -List.map_set, List.getElem?_cons_zero, List.getElem?_cons_succ]
    exact ends_bool rfl
  · obtain rfl := hh2 he
    clear hq hh2
    replace hl := hid hl
    replace hk := hid hk
    refine C_inline [] Try.func20 (fun _ _ => by kernel_rfl) rfl (by kernel_rfl) (by rfl) (by decide) (by rfl) (by rfl) (by rfl) ?_
    simp -dsimp -implicitDefEqProofs [-getElem?_pos, -List.map_append, -List.map_set, List.getElem?_cons_zero, List.getElem?_cons_succ]
    refine call_CC (cq.out) ?_
    simp -dsimp -implicitDefEqProofs [-getElem?_pos, -List.map_append, -List.map_set, List.getElem?_cons_zero, List.getElem?_cons_succ, hl', k1, k2]
    refine call_CC (ch.out) ?_
    simp -dsimp -implicitDefEqProofs [-getElem?_pos, -List.map_append, -List.map_set, List.getElem?_cons_zero, List.getElem?_cons_succ]
    refine call_CC (law_owned) ?_
    simp -dsimp -implicitDefEqProofs [-getElem?_pos, -List.map_append, -List.map_set, List.getElem?_cons_zero, List.getElem?_cons_succ, he]
    refine call_CC (law_owned) ?_
    simp -dsimp -implicitDefEqProofs [-getElem?_pos, -List.map_append, -List.map_set, List.getElem?_cons_zero, List.getElem?_cons_succ]
    exact ends_bool rfl

end Go.Proofs.Ytdjdjnmccphbjaa.E
