/- Yh: law.crowded, law.YardWrites. -/
import Derived.Test.YtdjdjnmccphbjaaYg
namespace Go.Proofs.Ytdjdjnmccphbjaa.E
open Go.RowKit Go.Proofs
set_option maxRecDepth 100000
set_option maxHeartbeats 1000000
set_option linter.unusedSimpArgs false

abbrev Z4 : List S.Zone := [S.Zone.zero, S.Zone.zero, S.Zone.zero, S.Zone.zero]
theorem yard_New : C Try.prog 60 [] (.lst true 2 (Z4.map (zoneC false))) [] := by
  refine C_inline [] Try.func60 (fun _ _ => by kernel_rfl) rfl (by kernel_rfl) (by rfl) (by decide) (by rfl) (by rfl) (by rfl) ?_
  simp -dsimp -implicitDefEqProofs [-getElem?_pos, -List.map_append, -List.map_set, List.getElem?_cons_zero, List.getElem?_cons_succ]
  exact ⟨⟨_, rfl, .one (.leaf (.lst (fun h => h) (SubR.cons (.cons (.refl _) (.cons .nl (.nil _))) (SubR.cons (.cons (.refl _) (.cons .nl (.nil _))) (SubR.cons (.cons (.refl _) (.cons .nl (.nil _))) (SubR.cons (.cons (.refl _) (.cons .nl (.nil _))) .nil))))))⟩, rfl⟩

theorem writeY_eq {zs : List S.Zone} {k : Int} {d : List Int} {m : List S.Zone} {a e : Int} (h : S.writeZ zs k d = (m, a, e)) : C Try.prog 53 [.lst false 2 (zs.map (zoneC false)), Int' k, .lst false 1 (I d)] (.tup [.lst true 2 (m.map (zoneC false)), Int' a, Int' e]) [] := by
  have := yard_Write zs k d; rw [h] at this; exact this
theorem holdY_eq {zs : List S.Zone} {k : Int} {m : List S.Zone} {e : Int} (h : S.holdZ zs k = (m, e)) : C Try.prog 49 [.lst false 2 (zs.map (zoneC false)), Int' k] (.tup [.lst true 2 (m.map (zoneC false)), Int' e]) [] := by
  have := yard_Hold zs k; rw [h] at this; exact this
theorem closeY_eq {zs : List S.Zone} {k : Int} {m : List S.Zone} {e : Int} (h : S.closeZ zs k = (m, e)) : C Try.prog 50 [.lst false 2 (zs.map (zoneC false)), Int' k] (.tup [.lst true 2 (m.map (zoneC false)), Int' e]) [] := by
  have := yard_Close zs k; rw [h] at this; exact this
theorem finishY_eq {zs : List S.Zone} {k : Int} {m : List S.Zone} {e : Int} (h : S.finishZ zs k = (m, e)) : C Try.prog 51 [.lst false 2 (zs.map (zoneC false)), Int' k] (.tup [.lst true 2 (m.map (zoneC false)), Int' e]) [] := by
  have := yard_Finish zs k; rw [h] at this; exact this
theorem resetY_eq {zs : List S.Zone} {k : Int} {m : List S.Zone} {e : Int} (h : S.resetZ zs k = (m, e)) : C Try.prog 52 [.lst false 2 (zs.map (zoneC false)), Int' k] (.tup [.lst true 2 (m.map (zoneC false)), Int' e]) [] := by
  have := yard_Reset zs k; rw [h] at this; exact this

abbrev Y1 : List S.Zone := [⟨1, [7]⟩, ⟨0, []⟩, ⟨0, []⟩, ⟨0, []⟩]
abbrev Y2 : List S.Zone := [⟨1, [7]⟩, ⟨1, [8]⟩, ⟨0, []⟩, ⟨0, []⟩]
abbrev Y3 : List S.Zone := [⟨3, [7]⟩, ⟨1, [8]⟩, ⟨2, []⟩, ⟨0, []⟩]
abbrev Y4 : List S.Zone := [⟨1, [7, 9, 9]⟩, ⟨3, [8]⟩, ⟨2, []⟩, ⟨0, []⟩]
abbrev Y5 : List S.Zone := [⟨1, [7, 9, 9]⟩, ⟨3, [8]⟩, ⟨0, []⟩, ⟨0, []⟩]
abbrev Y6 : List S.Zone := [⟨0, []⟩, ⟨3, [8]⟩, ⟨0, []⟩, ⟨0, []⟩]

theorem law_crowded : C Try.prog 47 [] (Bool' true) [] := by
  have c1 := hid (writeY_eq (zs := Z4) (k := 0) (d := [7]) (m := Y1) (a := 0) (e := 0) (by decide))
  have c2 := hid (writeY_eq (zs := Y1) (k := 1) (d := [8]) (m := Y2) (a := 0) (e := 0) (by decide))
  have c3 := hid (holdY_eq (zs := Y2) (k := 2) (m := Y3) (e := 0) (by decide))
  have c4 := hid (writeY_eq (zs := Y3) (k := 0) (d := [9, 9]) (m := Y4) (a := 1) (e := 0) (by decide))
  have c5 := hid (holdY_eq (zs := Y4) (k := 3) (m := []) (e := 7) (by decide))
  have c6 := hid (closeY_eq (zs := Y4) (k := 2) (m := Y5) (e := 0) (by decide))
  have c7 := hid (finishY_eq (zs := Y5) (k := 4) (m := []) (e := 5) (by decide))
  have c8 := hid (resetY_eq (zs := Y5) (k := 0) (m := Y6) (e := 0) (by decide))
  have c9 := hid (yard_Check Y6)
  rw [show S.checkZones Y6 = 0 by decide] at c9
  have c0 := hid (yard_Same Y6 Y6)
  rw [show decide (Y6 = Y6) = true by decide] at c0
  refine C_inline [] Try.func47 (fun _ _ => by kernel_rfl) rfl (by kernel_rfl) (by rfl) (by decide) (by rfl) (by rfl) (by rfl) ?_
  simp -dsimp -implicitDefEqProofs [-getElem?_pos, -List.map_append, -List.map_set, List.getElem?_cons_zero, List.getElem?_cons_succ]
  refine call_C (yard_New) (by first | rfl | (simp -dsimp -implicitDefEqProofs; done)) (by first | exact Or.inr (by rfl) | exact Or.inl ⟨by rfl, by first | rfl | simp [newNews, newLeaf, I]⟩) (Nat.le_of_ble_eq_true rfl) ?_
  simp -dsimp -implicitDefEqProofs [-getElem?_pos, -List.map_append, -List.map_set, List.getElem?_cons_zero, List.getElem?_cons_succ]
  refine call_C (c1.out) (by first | rfl | (simp -dsimp -implicitDefEqProofs; done)) (by first | exact Or.inr (by rfl) | exact Or.inl ⟨by rfl, by first | rfl | simp [newNews, newLeaf, I]⟩) (Nat.le_of_ble_eq_true rfl) ?_
  simp -dsimp -implicitDefEqProofs [-getElem?_pos, -List.map_append, -List.map_set, List.getElem?_cons_zero, List.getElem?_cons_succ]
  refine call_C (c2.out) (by first | rfl | (simp -dsimp -implicitDefEqProofs; done)) (by first | exact Or.inr (by rfl) | exact Or.inl ⟨by rfl, by first | rfl | simp [newNews, newLeaf, I]⟩) (Nat.le_of_ble_eq_true rfl) ?_
  simp -dsimp -implicitDefEqProofs [-getElem?_pos, -List.map_append, -List.map_set, List.getElem?_cons_zero, List.getElem?_cons_succ]
  refine call_C (c3.out) (by first | rfl | (simp -dsimp -implicitDefEqProofs; done)) (by first | exact Or.inr (by rfl) | exact Or.inl ⟨by rfl, by first | rfl | simp [newNews, newLeaf, I]⟩) (Nat.le_of_ble_eq_true rfl) ?_
  simp -dsimp -implicitDefEqProofs [-getElem?_pos, -List.map_append, -List.map_set, List.getElem?_cons_zero, List.getElem?_cons_succ]
  refine call_C (c4.out) (by first | rfl | (simp -dsimp -implicitDefEqProofs; done)) (by first | exact Or.inr (by rfl) | exact Or.inl ⟨by rfl, by first | rfl | simp [newNews, newLeaf, I]⟩) (Nat.le_of_ble_eq_true rfl) ?_
  simp -dsimp -implicitDefEqProofs [-getElem?_pos, -List.map_append, -List.map_set, List.getElem?_cons_zero, List.getElem?_cons_succ]
  refine call_C (c5.out) (by first | rfl | (simp -dsimp -implicitDefEqProofs; done)) (by first | exact Or.inr (by rfl) | exact Or.inl ⟨by rfl, by first | rfl | simp [newNews, newLeaf, I]⟩) (Nat.le_of_ble_eq_true rfl) ?_
  simp -dsimp -implicitDefEqProofs [-getElem?_pos, -List.map_append, -List.map_set, List.getElem?_cons_zero, List.getElem?_cons_succ]
  refine call_C (c6.out) (by first | rfl | (simp -dsimp -implicitDefEqProofs; done)) (by first | exact Or.inr (by rfl) | exact Or.inl ⟨by rfl, by first | rfl | simp [newNews, newLeaf, I]⟩) (Nat.le_of_ble_eq_true rfl) ?_
  simp -dsimp -implicitDefEqProofs [-getElem?_pos, -List.map_append, -List.map_set, List.getElem?_cons_zero, List.getElem?_cons_succ]
  refine call_C (c7.out) (by first | rfl | (simp -dsimp -implicitDefEqProofs; done)) (by first | exact Or.inr (by rfl) | exact Or.inl ⟨by rfl, by first | rfl | simp [newNews, newLeaf, I]⟩) (Nat.le_of_ble_eq_true rfl) ?_
  simp -dsimp -implicitDefEqProofs [-getElem?_pos, -List.map_append, -List.map_set, List.getElem?_cons_zero, List.getElem?_cons_succ]
  refine call_C (c8.out) (by first | rfl | (simp -dsimp -implicitDefEqProofs; done)) (by first | exact Or.inr (by rfl) | exact Or.inl ⟨by rfl, by first | rfl | simp [newNews, newLeaf, I]⟩) (Nat.le_of_ble_eq_true rfl) ?_
  simp -dsimp -implicitDefEqProofs [-getElem?_pos, -List.map_append, -List.map_set, List.getElem?_cons_zero, List.getElem?_cons_succ]
  refine call_C (c9.out) (by first | rfl | (simp -dsimp -implicitDefEqProofs; done)) (by first | exact Or.inr (by rfl) | exact Or.inl ⟨by rfl, by first | rfl | simp [newNews, newLeaf, I]⟩) (Nat.le_of_ble_eq_true rfl) ?_
  simp -dsimp -implicitDefEqProofs [-getElem?_pos, -List.map_append, -List.map_set, List.getElem?_cons_zero, List.getElem?_cons_succ]
  refine call_C (c0.out) (by first | rfl | (simp -dsimp -implicitDefEqProofs; done)) (by first | exact Or.inr (by rfl) | exact Or.inl ⟨by rfl, by first | rfl | simp [newNews, newLeaf, I]⟩) (Nat.le_of_ble_eq_true rfl) ?_
  simp -dsimp -implicitDefEqProofs [-getElem?_pos, -List.map_append, -List.map_set, List.getElem?_cons_zero, List.getElem?_cons_succ]
  exact ends_bool (by decide)

theorem write_ok {z : S.Zone} {l : List Int} (h : (S.writeZone z l).2 = 0) : S.checkZone z = 0 ∧ S.checkZone (S.writeZone z l).1 = 0 ∧ (S.writeZone z l).1.d = z.d ++ l ∧ 1 ≤ l.length ∧ z.d.length + l.length ≤ 8 ∧ z.st ≠ 4 ∧
    (S.writeZone z l).1.st = (if z.d.length + l.length = 8 then 4 else if z.st = 2 then 2 else 1) := by
  unfold S.writeZone at h ⊢
  by_cases h1 : S.checkZone z ≠ 0
  · rw [if_pos h1] at h; exact absurd h h1
  rw [if_neg h1] at h ⊢
  by_cases h2 : l.length = 0 ∨ 8 < l.length
  · rw [if_pos h2] at h; cases h
  rw [if_neg h2] at h ⊢
  by_cases h3 : l.any S.bad = true
  · rw [if_pos h3] at h; cases h
  rw [if_neg h3] at h ⊢
  by_cases h4 : z.st = 4 ∨ 8 < z.d.length + l.length
  · rw [if_pos h4] at h; cases h
  rw [if_neg h4]
  have h1 : S.checkZone z = 0 := by simpa using h1
  refine ⟨h1, ?_, rfl, by omega, by omega, by omega, rfl⟩
  have hst : ¬ z.d.any S.bad = true := by
    unfold S.checkZone at h1
    split at h1; · cases h1
    split at h1; · cases h1
    split at h1; · cases h1
    assumption
  unfold S.checkZone
  simp only
  by_cases c8 : z.d.length + l.length = 8
  · rw [if_neg (by simp [c8]), if_neg (by simp; omega), if_neg (by simp only [List.any_append, Bool.or_eq_true]; exact fun g => g.elim hst h3), if_neg (by simp [c8])]
  · rw [if_neg c8]
    split
    · rw [if_neg (by simp), if_neg (by simp; omega), if_neg (by simp only [List.any_append, Bool.or_eq_true]; exact fun g => g.elim hst h3), if_neg (by simp; omega)]
    · rw [if_neg (by simp), if_neg (by simp; omega), if_neg (by simp only [List.any_append, Bool.or_eq_true]; exact fun g => g.elim hst h3), if_neg (by simp; omega)]

theorem read_back {w : S.Zone} {d l : List Int} (h : S.checkZone w = 0) (hd : w.d = d ++ l) : S.readZone w d.length l.length = (l, 0) := by
  have hl := checkZone_len h
  rw [hd] at hl
  simp at hl
  unfold S.readZone
  rw [if_neg (by simp [h]), if_neg (by omega), if_neg (by rw [hd]; simp), hd]
  simp

theorem writeZ_ok {zs : List S.Zone} {n : Nat} {z : S.Zone} {l : List Int} (hz : zs[n]? = some z) (h : (S.writeZ zs n l).2.2 = 0) : S.readyZ zs n = 0 ∧ (S.writeZone z l).2 = 0 ∧ (S.room zs n).2 = 0 ∧ S.writeZ zs n l = ((S.room zs n).1.set n (S.writeZone z l).1, (z.d.length : Int), 0) := by
  unfold S.writeZ at h ⊢
  by_cases h1 : S.readyZ zs n ≠ 0
  · rw [if_pos h1] at h; exact absurd h h1
  rw [if_neg h1] at h ⊢
  simp only [Int.toNat_natCast, List.getD, hz, Option.getD_some] at h ⊢
  by_cases h2 : (S.writeZone z l).2 ≠ 0
  · rw [if_pos h2] at h; exact absurd h h2
  rw [if_neg h2] at h ⊢
  by_cases h3 : (S.room zs n).2 ≠ 0
  · rw [if_pos h3] at h; exact absurd h h3
  rw [if_neg h3]
  exact ⟨by simpa using h1, by simpa using h2, by simpa using h3, rfl⟩

theorem full_ok {z : S.Zone} (h : S.checkZone z = 0) : S.checkZone ⟨4, z.d⟩ = 0 := by
  unfold S.checkZone at h ⊢
  split at h; · cases h
  split at h; · cases h
  split at h; · cases h
  rename_i h2 h3
  rw [if_neg (by simp), if_neg h2, if_neg h3, if_neg (by simp)]
theorem ready_of {zs : List S.Zone} (h : S.checkZones zs = 0) {n : Nat} (hn : n < 4) : S.readyZ zs n = 0 := by
  unfold S.readyZ
  rw [if_neg (by simp [h]), if_neg (by omega)]

theorem law_YardWrites (zs : List S.Zone) (k : Int) (data : List Int) : C Try.prog 11 [.lst false 2 (zs.map (zoneC false)), Int' k, .lst false 1 (I data)] (Bool' true) [] := by
  obtain ⟨n, hne, hn⟩ : ∃ n : Nat, k % 4 = n ∧ n < 4 := ⟨(k % 4).toNat, by omega, by omega⟩
  have cat := at_law k 4 (by omega)
  rw [hne] at cat
  replace cat := hid cat
  clear hne
  by_cases hc : S.checkZones zs = 0
  · have hl := (checkZones_parts hc).1
    obtain ⟨z, hz⟩ : ∃ z, zs[n]? = some z := ⟨zs[n]'(by omega), by simp⟩
    have hzc := (checkZones_parts hc).2.1 z (List.mem_of_getElem? hz)
    have hf : S.finishZ zs n = (zs.set n ⟨4, z.d⟩, 0) := by
      unfold S.finishZ
      rw [if_neg (by simp [ready_of hc hn])]
      simp [hz]
    have hfc : S.checkZones (zs.set n ⟨4, z.d⟩) = 0 := checkZones_set hc hz (full_ok hzc) (by simp [S.isOpen]) (by simp [S.isActive])
    have hz4 := get_set_self (y := (⟨4, z.d⟩ : S.Zone)) hz
    have hw : S.writeZ (zs.set n ⟨4, z.d⟩) n [1] = ([], 0, 7) := by
      unfold S.writeZ
      rw [if_neg (by simp [ready_of hfc hn])]
      simp only [Int.toNat_natCast, List.getD, hz4, Option.getD_some]
      have : S.writeZone ⟨4, z.d⟩ [1] = (S.Zone.zero, 7) := by
        unfold S.writeZone
        rw [if_neg (by simp [full_ok hzc]), if_neg (by simp), if_neg (by decide), if_pos (by simp)]
      rw [this, if_pos (by decide)]
    have hr : S.resetZ (zs.set n ⟨4, z.d⟩) n = (zs.set n S.Zone.zero, 0) := by
      unfold S.resetZ
      rw [if_neg (by simp [ready_of hfc hn])]
      simp
    have hz0 := get_set_self (y := S.Zone.zero) hz
    have cf := hid (finishY_eq hf)
    have cw := hid (writeY_eq hw)
    have cr := hid (resetY_eq hr)
    clear hf hw hr hz4
    by_cases hok : (S.writeZ zs n data).2.2 = 0
    · obtain ⟨k1, k2, k3, k4⟩ := writeZ_ok hz hok
      obtain ⟨-, k5, k6, -⟩ := write_ok k2
      obtain ⟨g1, g2⟩ := room_get hz
      have hrd := hid (read_back k5 k6)
      have hm := get_set_self (y := (S.writeZone z data).1) g1
      have c1 := hid (writeY_eq k4)
      generalize (S.writeZone z data).1 = w at *
      generalize (S.room zs n).1.set n w = m at *
      clear hok k1 k2 k3 k4 k5 k6 g1 g2
      have c2 := hid (zone_Read w z.d.length data.length)
      rw [hrd.out] at c2
      refine C_inline [] Try.func11 (fun _ _ => by kernel_rfl) rfl (by kernel_rfl) (by rfl) (by decide) (by rfl) (by rfl) (by rfl) ?_
      simp -dsimp -implicitDefEqProofs [-getElem?_pos, -List.map_append, -List.map_set, List.getElem?_cons_zero, List.getElem?_cons_succ]
      refine call_C (cat.out) (by first | rfl | (simp -dsimp -implicitDefEqProofs; done)) (by first | exact Or.inr (by rfl) | exact Or.inl ⟨by rfl, by first | rfl | simp [newNews, newLeaf, I]⟩) (Nat.le_of_ble_eq_true rfl) ?_
      simp -dsimp -implicitDefEqProofs [-getElem?_pos, -List.map_append, -List.map_set, List.getElem?_cons_zero, List.getElem?_cons_succ]
      refine call_C (c1.out) (by first | rfl | (simp -dsimp -implicitDefEqProofs; done)) (by first | exact Or.inr (by rfl) | exact Or.inl ⟨by rfl, by first | rfl | simp [newNews, newLeaf, I]⟩) (Nat.le_of_ble_eq_true rfl) ?_
      simp -dsimp -implicitDefEqProofs [-getElem?_pos, -List.map_append, -List.map_set, List.getElem?_cons_zero, List.getElem?_cons_succ]
      refine call_C (law_crowded) (by first | rfl | (simp -dsimp -implicitDefEqProofs; done)) (by first | exact Or.inr (by rfl) | exact Or.inl ⟨by rfl, by first | rfl | simp [newNews, newLeaf, I]⟩) (Nat.le_of_ble_eq_true rfl) ?_
      simp -dsimp -implicitDefEqProofs [-getElem?_pos, -List.map_append, -List.map_set, List.getElem?_cons_zero, List.getElem?_cons_succ, hm]
      refine call_C (c2.out) (by first | rfl | (simp -dsimp -implicitDefEqProofs; done)) (by first | exact Or.inr (by rfl) | exact Or.inl ⟨by rfl, by first | rfl | simp [newNews, newLeaf, I]⟩) (Nat.le_of_ble_eq_true rfl) ?_
      simp -dsimp -implicitDefEqProofs [-getElem?_pos, -List.map_append, -List.map_set, List.getElem?_cons_zero, List.getElem?_cons_succ]
      refine call_C (int_equal data data) (by first | rfl | (simp -dsimp -implicitDefEqProofs; done)) (by first | exact Or.inr (by rfl) | exact Or.inl ⟨by rfl, by first | rfl | simp [newNews, newLeaf, I]⟩) (Nat.le_of_ble_eq_true rfl) ?_
      simp -dsimp -implicitDefEqProofs [-getElem?_pos, -List.map_append, -List.map_set, List.getElem?_cons_zero, List.getElem?_cons_succ, hz]
      refine call_C (cf.out) (by first | rfl | (simp -dsimp -implicitDefEqProofs; done)) (by first | exact Or.inr (by rfl) | exact Or.inl ⟨by rfl, by first | rfl | simp [newNews, newLeaf, I]⟩) (Nat.le_of_ble_eq_true rfl) ?_
      simp -dsimp -implicitDefEqProofs [-getElem?_pos, -List.map_append, -List.map_set, List.getElem?_cons_zero, List.getElem?_cons_succ]
      refine call_C (cw.out) (by first | rfl | (simp -dsimp -implicitDefEqProofs; done)) (by first | exact Or.inr (by rfl) | exact Or.inl ⟨by rfl, by first | rfl | simp [newNews, newLeaf, I]⟩) (Nat.le_of_ble_eq_true rfl) ?_
      simp -dsimp -implicitDefEqProofs [-getElem?_pos, -List.map_append, -List.map_set, List.getElem?_cons_zero, List.getElem?_cons_succ]
      refine call_C (cr.out) (by first | rfl | (simp -dsimp -implicitDefEqProofs; done)) (by first | exact Or.inr (by rfl) | exact Or.inl ⟨by rfl, by first | rfl | simp [newNews, newLeaf, I]⟩) (Nat.le_of_ble_eq_true rfl) ?_
      simp -dsimp -implicitDefEqProofs [-getElem?_pos, -List.map_append, -List.map_set, List.getElem?_cons_zero, List.getElem?_cons_succ, hz0]
      exact ends_bool (by simp [S.Zone.zero])
    · obtain ⟨m, a, e, hw⟩ : ∃ m a e, S.writeZ zs n data = (m, a, e) := ⟨_, _, _, rfl⟩
      rw [hw] at hok
      simp only at hok
      have c1 := hid (writeY_eq hw)
      clear hw
      refine C_inline [] Try.func11 (fun _ _ => by kernel_rfl) rfl (by kernel_rfl) (by rfl) (by decide) (by rfl) (by rfl) (by rfl) ?_
      simp -dsimp -implicitDefEqProofs [-getElem?_pos, -List.map_append, -List.map_set, List.getElem?_cons_zero, List.getElem?_cons_succ]
      refine call_C (cat.out) (by first | rfl | (simp -dsimp -implicitDefEqProofs; done)) (by first | exact Or.inr (by rfl) | exact Or.inl ⟨by rfl, by first | rfl | simp [newNews, newLeaf, I]⟩) (Nat.le_of_ble_eq_true rfl) ?_
      simp -dsimp -implicitDefEqProofs [-getElem?_pos, -List.map_append, -List.map_set, List.getElem?_cons_zero, List.getElem?_cons_succ]
      refine call_C (c1.out) (by first | rfl | (simp -dsimp -implicitDefEqProofs; done)) (by first | exact Or.inr (by rfl) | exact Or.inl ⟨by rfl, by first | rfl | simp [newNews, newLeaf, I]⟩) (Nat.le_of_ble_eq_true rfl) ?_
      simp -dsimp -implicitDefEqProofs [-getElem?_pos, -List.map_append, -List.map_set, List.getElem?_cons_zero, List.getElem?_cons_succ]
      refine call_C (law_crowded) (by first | rfl | (simp -dsimp -implicitDefEqProofs; done)) (by first | exact Or.inr (by rfl) | exact Or.inl ⟨by rfl, by first | rfl | simp [newNews, newLeaf, I]⟩) (Nat.le_of_ble_eq_true rfl) ?_
      simp -dsimp -implicitDefEqProofs [-getElem?_pos, -List.map_append, -List.map_set, List.getElem?_cons_zero, List.getElem?_cons_succ, hok]
      refine call_C (cf.out) (by first | rfl | (simp -dsimp -implicitDefEqProofs; done)) (by first | exact Or.inr (by rfl) | exact Or.inl ⟨by rfl, by first | rfl | simp [newNews, newLeaf, I]⟩) (Nat.le_of_ble_eq_true rfl) ?_
      simp -dsimp -implicitDefEqProofs [-getElem?_pos, -List.map_append, -List.map_set, List.getElem?_cons_zero, List.getElem?_cons_succ]
      refine call_C (cw.out) (by first | rfl | (simp -dsimp -implicitDefEqProofs; done)) (by first | exact Or.inr (by rfl) | exact Or.inl ⟨by rfl, by first | rfl | simp [newNews, newLeaf, I]⟩) (Nat.le_of_ble_eq_true rfl) ?_
      simp -dsimp -implicitDefEqProofs [-getElem?_pos, -List.map_append, -List.map_set, List.getElem?_cons_zero, List.getElem?_cons_succ]
      refine call_C (cr.out) (by first | rfl | (simp -dsimp -implicitDefEqProofs; done)) (by first | exact Or.inr (by rfl) | exact Or.inl ⟨by rfl, by first | rfl | simp [newNews, newLeaf, I]⟩) (Nat.le_of_ble_eq_true rfl) ?_
      simp -dsimp -implicitDefEqProofs [-getElem?_pos, -List.map_append, -List.map_set, List.getElem?_cons_zero, List.getElem?_cons_succ, hz0]
      exact ends_bool (by simp [S.Zone.zero])
  · have hrd : S.readyZ zs n = S.checkZones zs := by unfold S.readyZ; rw [if_pos hc]
    have hw : S.writeZ zs n data = ([], 0, S.checkZones zs) := by unfold S.writeZ; rw [if_pos (by rw [hrd]; exact hc), hrd]
    have hf : S.finishZ zs n = ([], S.checkZones zs) := by unfold S.finishZ; rw [if_pos (by rw [hrd]; exact hc), hrd]
    have c1 := hid (writeY_eq hw)
    have c2 := hid (finishY_eq hf)
    clear hw hf hrd
    refine C_inline [] Try.func11 (fun _ _ => by kernel_rfl) rfl (by kernel_rfl) (by rfl) (by decide) (by rfl) (by rfl) (by rfl) ?_
    simp -dsimp -implicitDefEqProofs [-getElem?_pos, -List.map_append, -List.map_set, List.getElem?_cons_zero, List.getElem?_cons_succ]
    refine call_C (cat.out) (by first | rfl | (simp -dsimp -implicitDefEqProofs; done)) (by first | exact Or.inr (by rfl) | exact Or.inl ⟨by rfl, by first | rfl | simp [newNews, newLeaf, I]⟩) (Nat.le_of_ble_eq_true rfl) ?_
    simp -dsimp -implicitDefEqProofs [-getElem?_pos, -List.map_append, -List.map_set, List.getElem?_cons_zero, List.getElem?_cons_succ]
    refine call_C (c1.out) (by first | rfl | (simp -dsimp -implicitDefEqProofs; done)) (by first | exact Or.inr (by rfl) | exact Or.inl ⟨by rfl, by first | rfl | simp [newNews, newLeaf, I]⟩) (Nat.le_of_ble_eq_true rfl) ?_
    simp -dsimp -implicitDefEqProofs [-getElem?_pos, -List.map_append, -List.map_set, List.getElem?_cons_zero, List.getElem?_cons_succ]
    refine call_C (law_crowded) (by first | rfl | (simp -dsimp -implicitDefEqProofs; done)) (by first | exact Or.inr (by rfl) | exact Or.inl ⟨by rfl, by first | rfl | simp [newNews, newLeaf, I]⟩) (Nat.le_of_ble_eq_true rfl) ?_
    simp -dsimp -implicitDefEqProofs [-getElem?_pos, -List.map_append, -List.map_set, List.getElem?_cons_zero, List.getElem?_cons_succ, hc]
    refine call_C (c2.out) (by first | rfl | (simp -dsimp -implicitDefEqProofs; done)) (by first | exact Or.inr (by rfl) | exact Or.inl ⟨by rfl, by first | rfl | simp [newNews, newLeaf, I]⟩) (Nat.le_of_ble_eq_true rfl) ?_
    simp -dsimp -implicitDefEqProofs [-getElem?_pos, -List.map_append, -List.map_set, List.getElem?_cons_zero, List.getElem?_cons_succ, hc]
    refine call_C (yard_Check zs) (by first | rfl | (simp -dsimp -implicitDefEqProofs; done)) (by first | exact Or.inr (by rfl) | exact Or.inl ⟨by rfl, by first | rfl | simp [newNews, newLeaf, I]⟩) (Nat.le_of_ble_eq_true rfl) ?_
    simp -dsimp -implicitDefEqProofs [-getElem?_pos, -List.map_append, -List.map_set, List.getElem?_cons_zero, List.getElem?_cons_succ]
    exact ends_bool (by simp [hc])

end Go.Proofs.Ytdjdjnmccphbjaa.E
