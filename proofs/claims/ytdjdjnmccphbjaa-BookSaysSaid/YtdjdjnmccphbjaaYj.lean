/- Yj: law.YardFew: the walk. -/
import Derived.Test.YtdjdjnmccphbjaaYi
namespace Go.Proofs.Ytdjdjnmccphbjaa.E
open Go.RowKit Go.Proofs
set_option maxRecDepth 100000
set_option maxHeartbeats 1000000
set_option linter.unusedSimpArgs false
set_option linter.unusedVariables false

theorem mz0 (zs : List S.Zone) (n : Int) (d : List Int) : C Try.prog 49 [.lst false 2 (zs.map (zoneC false)), Int' n] (.tup [.lst true 2 ((S.moveZ 0 zs n d).1.map (zoneC false)), Int' (S.moveZ 0 zs n d).2]) [] := by simpa [S.moveZ] using yard_Hold zs n
theorem mz1 (zs : List S.Zone) (n : Int) (d : List Int) : C Try.prog 50 [.lst false 2 (zs.map (zoneC false)), Int' n] (.tup [.lst true 2 ((S.moveZ 1 zs n d).1.map (zoneC false)), Int' (S.moveZ 1 zs n d).2]) [] := by simpa [S.moveZ] using yard_Close zs n
theorem mz2 (zs : List S.Zone) (n : Int) (d : List Int) : C Try.prog 51 [.lst false 2 (zs.map (zoneC false)), Int' n] (.tup [.lst true 2 ((S.moveZ 2 zs n d).1.map (zoneC false)), Int' (S.moveZ 2 zs n d).2]) [] := by simpa [S.moveZ] using yard_Finish zs n
theorem mz3 (zs : List S.Zone) (n : Int) (d : List Int) : C Try.prog 52 [.lst false 2 (zs.map (zoneC false)), Int' n] (.tup [.lst true 2 ((S.moveZ 3 zs n d).1.map (zoneC false)), Int' (S.moveZ 3 zs n d).2]) [] := by simpa [S.moveZ] using yard_Reset zs n
theorem mz4 (zs : List S.Zone) (n : Int) (d : List Int) : ∃ a, C Try.prog 53 [.lst false 2 (zs.map (zoneC false)), Int' n, .lst false 1 (I d)] (.tup [.lst true 2 ((S.moveZ 4 zs n d).1.map (zoneC false)), Int' a, Int' (S.moveZ 4 zs n d).2]) [] := ⟨_, by simpa [S.moveZ] using yard_Write zs n d⟩

theorem law_YardFew (zs : List S.Zone) (k : Int) (data : List Int) (kind : Int) : C Try.prog 9 [.lst false 2 (zs.map (zoneC false)), Int' k, .lst false 1 (I data), Int' kind] (Bool' true) [] := by
  by_cases hc : S.checkZones zs = 0
  · obtain ⟨n, hne, hn⟩ : ∃ n : Nat, k % 4 = n ∧ n < 4 := ⟨(k % 4).toNat, by omega, by omega⟩
    have cat := at_law k 4 (by omega)
    rw [hne] at cat
    replace cat := hid cat
    clear hne
    obtain ⟨q, hqe⟩ : ∃ q, kind % 5 = q := ⟨_, rfl⟩
    have hq : q = 0 ∨ q = 1 ∨ q = 2 ∨ q = 3 ∨ q = 4 := by omega
    have cat2 := at_law kind 5 (by omega)
    rw [hqe] at cat2
    replace cat2 := hid cat2
    clear hqe
    have hl := (checkZones_parts hc).1
    have hmk := fun h => move_kept (data := data) hc hn hq h
    obtain ⟨r, hr⟩ : ∃ r, S.moveZ q zs n data = r := ⟨_, rfl⟩
    rw [hr] at hmk
    have c0 := mz0 zs n data
    have c1 := mz1 zs n data
    have c2 := mz2 zs n data
    have c3 := mz3 zs n data
    obtain ⟨a, c4⟩ := mz4 zs n data
    replace hl := hid hl
    rcases hq with rfl | rfl | rfl | rfl | rfl
    all_goals
      first | rw [hr] at c0 | rw [hr] at c1 | rw [hr] at c2 | rw [hr] at c3 | rw [hr] at c4
      clear hr
      obtain ⟨m, e⟩ := r
      simp only at hmk
      first | simp only at c0 | simp only at c1 | simp only at c2 | simp only at c3 | simp only at c4
      replace hmk := hid hmk
      replace c0 := hid c0
      replace c1 := hid c1
      replace c2 := hid c2
      replace c3 := hid c3
      replace c4 := hid c4
      refine C_inline [] Try.func9 (fun _ _ => by kernel_rfl) rfl (by kernel_rfl) (by rfl) (by decide) (by rfl) (by rfl) (by rfl) ?_
      simp -dsimp -implicitDefEqProofs [-getElem?_pos, -List.map_append, -List.map_set, List.getElem?_cons_zero, List.getElem?_cons_succ]
      refine call_C (law_crowded) (by first | rfl | (simp -dsimp -implicitDefEqProofs; done)) (by first | exact Or.inr (by rfl) | exact Or.inl ⟨by rfl, by first | rfl | simp [newNews, newLeaf, I]⟩) (Nat.le_of_ble_eq_true rfl) ?_
      simp -dsimp -implicitDefEqProofs [-getElem?_pos, -List.map_append, -List.map_set, List.getElem?_cons_zero, List.getElem?_cons_succ]
      refine call_C (yard_Check zs) (by first | rfl | (simp -dsimp -implicitDefEqProofs; done)) (by first | exact Or.inr (by rfl) | exact Or.inl ⟨by rfl, by first | rfl | simp [newNews, newLeaf, I]⟩) (Nat.le_of_ble_eq_true rfl) ?_
      simp -dsimp -implicitDefEqProofs [-getElem?_pos, -List.map_append, -List.map_set, List.getElem?_cons_zero, List.getElem?_cons_succ, hc]
      refine call_C (cat.out) (by first | rfl | (simp -dsimp -implicitDefEqProofs; done)) (by first | exact Or.inr (by rfl) | exact Or.inl ⟨by rfl, by first | rfl | simp [newNews, newLeaf, I]⟩) (Nat.le_of_ble_eq_true rfl) ?_
      simp -dsimp -implicitDefEqProofs [-getElem?_pos, -List.map_append, -List.map_set, List.getElem?_cons_zero, List.getElem?_cons_succ]
      refine call_C (cat2.out) (by first | rfl | (simp -dsimp -implicitDefEqProofs; done)) (by first | exact Or.inr (by rfl) | exact Or.inl ⟨by rfl, by first | rfl | simp [newNews, newLeaf, I]⟩) (Nat.le_of_ble_eq_true rfl) ?_
      simp -dsimp -implicitDefEqProofs [-getElem?_pos, -List.map_append, -List.map_set, List.getElem?_cons_zero, List.getElem?_cons_succ]
      first | refine call_C (c0.out) (by first | rfl | (simp -dsimp -implicitDefEqProofs; done)) (by first | exact Or.inr (by rfl) | exact Or.inl ⟨by rfl, by first | rfl | simp [newNews, newLeaf, I]⟩) (Nat.le_of_ble_eq_true rfl) ?_ | refine call_C (c1.out) (by first | rfl | (simp -dsimp -implicitDefEqProofs; done)) (by first | exact Or.inr (by rfl) | exact Or.inl ⟨by rfl, by first | rfl | simp [newNews, newLeaf, I]⟩) (Nat.le_of_ble_eq_true rfl) ?_ | refine call_C (c2.out) (by first | rfl | (simp -dsimp -implicitDefEqProofs; done)) (by first | exact Or.inr (by rfl) | exact Or.inl ⟨by rfl, by first | rfl | simp [newNews, newLeaf, I]⟩) (Nat.le_of_ble_eq_true rfl) ?_ | refine call_C (c3.out) (by first | rfl | (simp -dsimp -implicitDefEqProofs; done)) (by first | exact Or.inr (by rfl) | exact Or.inl ⟨by rfl, by first | rfl | simp [newNews, newLeaf, I]⟩) (Nat.le_of_ble_eq_true rfl) ?_ | refine call_C (c4.out) (by first | rfl | (simp -dsimp -implicitDefEqProofs; done)) (by first | exact Or.inr (by rfl) | exact Or.inl ⟨by rfl, by first | rfl | simp [newNews, newLeaf, I]⟩) (Nat.le_of_ble_eq_true rfl) ?_
      simp -dsimp -implicitDefEqProofs [-getElem?_pos, -List.map_append, -List.map_set, List.getElem?_cons_zero, List.getElem?_cons_succ]
      by_cases he : e = 0
      rotate_left
      · simp -dsimp -implicitDefEqProofs [-getElem?_pos, -List.map_append, -List.map_set, List.getElem?_cons_zero, List.getElem?_cons_succ, he]
        exact ends_bool rfl
      subst he
      obtain ⟨k1, k2, k3⟩ := hmk.out rfl
      clear hmk c0 c1 c2 c3 c4
      have kop := (checkZones_parts k1).2.2.1
      replace kop := hid kop
      replace k3 := hid k3
      simp -dsimp -implicitDefEqProofs [-getElem?_pos, -List.map_append, -List.map_set, List.getElem?_cons_zero, List.getElem?_cons_succ]
      refine call_C (yard_Check m) (by first | rfl | (simp -dsimp -implicitDefEqProofs; done)) (by first | exact Or.inr (by rfl) | exact Or.inl ⟨by rfl, by first | rfl | simp [newNews, newLeaf, I]⟩) (Nat.le_of_ble_eq_true rfl) ?_
      simp -dsimp -implicitDefEqProofs [-getElem?_pos, -List.map_append, -List.map_set, List.getElem?_cons_zero, List.getElem?_cons_succ, k1]
      refine loop_count 75 m.length (fun j _ s t => t 11 = Int' ((m.take j).countP S.isOpen) ∧ ∃ d, s = d + 8) _ rfl (by rfl) ⟨by simp, ⟨_, rfl⟩⟩ ?_ ?_
      · rintro j t h s hj hci hs ⟨h11, d, rfl⟩
        have hw : IntKind.i64.wrap ((j : Int) + 1) = (j : Int) + 1 := wrap_ok (by omega)
        obtain ⟨y, hy⟩ : ∃ y, m[j]? = some y := ⟨m[j], by simp⟩
        obtain ⟨x, hx⟩ : ∃ x, zs[j]? = some x := ⟨zs[j]'(by have := hl.out; omega), by simp⟩
        have hj' : decide (j < m.length) = true := by simp [hj]
        have hct := countP_take (p := S.isOpen) hy
        have hle : (m.take j).countP S.isOpen ≤ j := Nat.le_trans List.countP_le_length (by simp; omega)
        have hw2 : IntKind.i64.wrap (((m.take j).countP S.isOpen : Int) + 1) = ((m.take j).countP S.isOpen : Int) + 1 := wrap_ok (by omega)
        obtain ⟨p1, p2⟩ := k3.out j x y hx hy
        have e0 := hs 0 rfl
        have e1 := hs 1 rfl
        have e3 := hs 3 rfl
        have e73 := hs 73 rfl
        have e74 := hs 74 rfl
        clear hs
        simp -dsimp -implicitDefEqProofs at e0 e1 e3 e73 e74
        replace hj := hid hj
        simp -dsimp -implicitDefEqProofs [-getElem?_pos, -List.map_append, -List.map_set, List.getElem?_cons_zero, List.getElem?_cons_succ, e0, e1, e3, e73, e74, hci, hj', hx, hy, h11]
        refine brA_split (fun g1 => ?_) (fun g1 => ?_)
        all_goals
          have gi : S.isOpen y = _ := g1
          rw [gi] at hct
          simp only [if_true, if_false, Bool.false_eq_true, Nat.add_zero] at hct
          replace hct := hid hct
          simp -dsimp -implicitDefEqProofs [-getElem?_pos, -List.map_append, -List.map_set, List.getElem?_cons_zero, List.getElem?_cons_succ, e0, e1, e3, e73, e74, h11, hw2, hx]
          by_cases hjn : j = n
          · subst hjn
            first
              | (have hyd := p1 ⟨rfl, rfl⟩
                 simp -dsimp -implicitDefEqProofs [-getElem?_pos, -List.map_append, -List.map_set, List.getElem?_cons_zero, List.getElem?_cons_succ, e0, e1, e3, e73, e74, hyd, hci, hw, h11, hct.out]
                 done)
              | (obtain ⟨r1, r2, r3⟩ := p2 (fun g => absurd g.2 (by decide))
                 have r4 : ¬ y.d.length < x.d.length := by omega
                 have r5 : ¬ x.d.length < y.d.length := fun h => absurd (r3 h).2 (by decide)
                 simp -dsimp -implicitDefEqProofs [-getElem?_pos, -List.map_append, -List.map_set, List.getElem?_cons_zero, List.getElem?_cons_succ, e0, e1, e3, e73, e74, r4, r2, hx]
                 refine call_C (int_equal (y.d.take x.d.length) x.d) (by first | rfl | (simp -dsimp -implicitDefEqProofs; done)) (by first | exact Or.inr (by rfl) | exact Or.inl ⟨by rfl, by first | rfl | simp [newNews, newLeaf, I]⟩) (Nat.le_of_ble_eq_true rfl) ?_
                 simp -dsimp -implicitDefEqProofs [-getElem?_pos, -List.map_append, -List.map_set, List.getElem?_cons_zero, List.getElem?_cons_succ, e0, e1, e3, e73, e74, r1, r4, r5, r2, hx, hci, hw, h11, hct.out]
                 done)
              | (obtain ⟨r1, r2, r3⟩ := p2 (fun g => absurd g.2 (by decide))
                 have r4 : ¬ y.d.length < x.d.length := by omega
                 simp -dsimp -implicitDefEqProofs [-getElem?_pos, -List.map_append, -List.map_set, List.getElem?_cons_zero, List.getElem?_cons_succ, e0, e1, e3, e73, e74, r4, r2, hx]
                 refine call_C (int_equal (y.d.take x.d.length) x.d) (by first | rfl | (simp -dsimp -implicitDefEqProofs; done)) (by first | exact Or.inr (by rfl) | exact Or.inl ⟨by rfl, by first | rfl | simp [newNews, newLeaf, I]⟩) (Nat.le_of_ble_eq_true rfl) ?_
                 simp -dsimp -implicitDefEqProofs [-getElem?_pos, -List.map_append, -List.map_set, List.getElem?_cons_zero, List.getElem?_cons_succ, e0, e1, e3, e73, e74, r1, r4, r2, hx, hci, hw, h11, hct.out]
                 done)
          · have hjn' : ¬ (j : Int) = n := by omega
            obtain ⟨r1, r2, r3⟩ := p2 (fun g => hjn g.1)
            have r4 : ¬ y.d.length < x.d.length := by omega
            have r5 : ¬ x.d.length < y.d.length := fun h => hjn (r3 h).1
            simp -dsimp -implicitDefEqProofs [-getElem?_pos, -List.map_append, -List.map_set, List.getElem?_cons_zero, List.getElem?_cons_succ, e0, e1, e3, e73, e74, hjn', r4, r2, hx]
            refine call_C (int_equal (y.d.take x.d.length) x.d) (by first | rfl | (simp -dsimp -implicitDefEqProofs; done)) (by first | exact Or.inr (by rfl) | exact Or.inl ⟨by rfl, by first | rfl | simp [newNews, newLeaf, I]⟩) (Nat.le_of_ble_eq_true rfl) ?_
            simp -dsimp -implicitDefEqProofs [-getElem?_pos, -List.map_append, -List.map_set, List.getElem?_cons_zero, List.getElem?_cons_succ, e0, e1, e3, e73, e74, r1, r4, r5, r2, hx, hjn', hci, hw, h11, hct.out]
      · rintro t h s hci hs ⟨h11, d, rfl⟩
        have e0 := hs 0 rfl
        have e1 := hs 1 rfl
        have e3 := hs 3 rfl
        have e73 := hs 73 rfl
        have e74 := hs 74 rfl
        clear hs
        simp -dsimp -implicitDefEqProofs at e0 e1 e3 e73 e74
        simp -dsimp -implicitDefEqProofs [-getElem?_pos, -List.map_append, -List.map_set, List.getElem?_cons_zero, List.getElem?_cons_succ, e0, e1, e3, e73, e74, hci, h11]
        exact ends_bool (by have := kop.out; simp; omega)
  · refine C_inline [] Try.func9 (fun _ _ => by kernel_rfl) rfl (by kernel_rfl) (by rfl) (by decide) (by rfl) (by rfl) (by rfl) ?_
    simp -dsimp -implicitDefEqProofs [-getElem?_pos, -List.map_append, -List.map_set, List.getElem?_cons_zero, List.getElem?_cons_succ]
    refine call_C (law_crowded) (by first | rfl | (simp -dsimp -implicitDefEqProofs; done)) (by first | exact Or.inr (by rfl) | exact Or.inl ⟨by rfl, by first | rfl | simp [newNews, newLeaf, I]⟩) (Nat.le_of_ble_eq_true rfl) ?_
    simp -dsimp -implicitDefEqProofs [-getElem?_pos, -List.map_append, -List.map_set, List.getElem?_cons_zero, List.getElem?_cons_succ]
    refine call_C (yard_Check zs) (by first | rfl | (simp -dsimp -implicitDefEqProofs; done)) (by first | exact Or.inr (by rfl) | exact Or.inl ⟨by rfl, by first | rfl | simp [newNews, newLeaf, I]⟩) (Nat.le_of_ble_eq_true rfl) ?_
    simp -dsimp -implicitDefEqProofs [-getElem?_pos, -List.map_append, -List.map_set, List.getElem?_cons_zero, List.getElem?_cons_succ, hc]
    refine call_C (law_crowded) (by first | rfl | (simp -dsimp -implicitDefEqProofs; done)) (by first | exact Or.inr (by rfl) | exact Or.inl ⟨by rfl, by first | rfl | simp [newNews, newLeaf, I]⟩) (Nat.le_of_ble_eq_true rfl) ?_
    simp -dsimp -implicitDefEqProofs [-getElem?_pos, -List.map_append, -List.map_set, List.getElem?_cons_zero, List.getElem?_cons_succ]
    exact ends_bool rfl

end Go.Proofs.Ytdjdjnmccphbjaa.E
