/- Yc: zones of which few may be open: counted, checked, copied. -/
import Derived.Test.YtdjdjnmccphbjaaYb
namespace Go.Proofs.Ytdjdjnmccphbjaa.E
open Go.RowKit Go.Proofs
set_option maxRecDepth 100000
set_option maxHeartbeats 1000000
set_option linter.unusedSimpArgs false

theorem equal_zones (xs ys : List S.Zone) : C Try.prog 115 [.lst false 2 (xs.map (zoneC false)), .lst false 2 (ys.map (zoneC false)), .fn 54 []] (Bool' (decide (xs = ys))) [] := by
  rw [← eqAll_dec]
  exact equalFunc_zones (fun _ => rfl) xs ys (fun x y _ _ => zone_Same x y) (fun _ _ => ⟨rfl, rfl⟩)
theorem equal_zones_ref (xs ys : List S.Zone) : C Try.prog 115 [.lst false 2 (xs.map (zoneC false)), .lst false 2 (ys.map (zoneC false)), .fn 116 []] (Bool' (decide (xs = ys))) [] := by
  rw [← eqAll_dec]
  exact equalFunc_zones (fun _ => rfl) xs ys (fun x y _ _ => ref_SameZone x y) (fun _ _ => ⟨rfl, rfl⟩)
theorem yard_Same (xs ys : List S.Zone) : C Try.prog 58 [.lst false 2 (xs.map (zoneC false)), .lst false 2 (ys.map (zoneC false))] (Bool' (decide (xs = ys))) [] := by
  refine C_inline [] Try.func58 (fun _ _ => by kernel_rfl) rfl (by kernel_rfl) (by rfl) (by decide) (by rfl) (by rfl) (by rfl) ?_
  simp -dsimp -implicitDefEqProofs [-getElem?_pos, -List.map_append, -List.map_set, List.getElem?_cons_zero, List.getElem?_cons_succ]
  refine call_C (equal_zones xs ys) (by first | rfl | (simp -dsimp -implicitDefEqProofs; done)) (by first | exact Or.inr (by rfl) | exact Or.inl ⟨by rfl, by first | rfl | simp [newNews, newLeaf, I]⟩) (Nat.le_of_ble_eq_true rfl) ?_
  simp -dsimp -implicitDefEqProofs [-getElem?_pos, -List.map_append, -List.map_set, List.getElem?_cons_zero, List.getElem?_cons_succ]
  exact ends_bool rfl
theorem ref_SameZones (xs ys : List S.Zone) : C Try.prog 59 [.lst false 2 (xs.map (zoneC false)), .lst false 2 (ys.map (zoneC false))] (Bool' (decide (xs = ys))) [] := by
  refine C_inline [] Try.func59 (fun _ _ => by kernel_rfl) rfl (by kernel_rfl) (by rfl) (by decide) (by rfl) (by rfl) (by rfl) ?_
  simp -dsimp -implicitDefEqProofs [-getElem?_pos, -List.map_append, -List.map_set, List.getElem?_cons_zero, List.getElem?_cons_succ]
  refine call_C (equal_zones_ref xs ys) (by first | rfl | (simp -dsimp -implicitDefEqProofs; done)) (by first | exact Or.inr (by rfl) | exact Or.inl ⟨by rfl, by first | rfl | simp [newNews, newLeaf, I]⟩) (Nat.le_of_ble_eq_true rfl) ?_
  simp -dsimp -implicitDefEqProofs [-getElem?_pos, -List.map_append, -List.map_set, List.getElem?_cons_zero, List.getElem?_cons_succ]
  exact ends_bool rfl

theorem take_succ_get {α : Type} {xs : List α} {k : Nat} {x : α} (h : xs[k]? = some x) : xs.take (k + 1) = xs.take k ++ [x] := by
  rw [List.take_add_one, h]; rfl
theorem countP_take {α : Type} {p : α → Bool} {xs : List α} {k : Nat} {x : α} (h : xs[k]? = some x) : (xs.take (k + 1)).countP p = (xs.take k).countP p + (if p x = true then 1 else 0) := by
  rw [take_succ_get h, List.countP_append, List.countP_singleton]

theorem yard_count (zs : List S.Zone) (ss : List Int) : C Try.prog 103 [.lst false 2 (zs.map (zoneC false)), .lst false 1 (I ss)] (Int' (zs.countP fun z => ss.any fun s => decide (s = z.st))) [] := by
  refine C_real (fun _ _ => by kernel_rfl) rfl rfl fun hr => ?_
  have hlen := (hr.get (j := 0) rfl).len
  rw [List.length_map] at hlen
  unfold maxLen at hlen
  clear hr
  generalize hp : (fun z : S.Zone => ss.any fun s => decide (s = z.st)) = p
  have hp' : ∀ z, (ss.any fun s => decide (s = z.st)) = p z := fun z => by rw [← hp]
  replace hp := hid hp
  have hcon := fun v => slices_Contains ss v
  replace hcon := hid hcon
  refine C_inline [] Try.func103 (fun _ _ => by kernel_rfl) rfl (by kernel_rfl) (by rfl) (by decide) (by rfl) (by rfl) (by rfl) ?_
  simp -dsimp -implicitDefEqProofs [-getElem?_pos, -List.map_append, -List.map_set, List.getElem?_cons_zero, List.getElem?_cons_succ]
  refine loop_count 10 zs.length (fun k _ m t => t 5 = Int' ((zs.take k).countP p) ∧ ∃ d, m = d + 8) _ rfl (by rfl) ⟨by simp, ⟨_, rfl⟩⟩ ?_ ?_
  · rintro k t h m hk hci hs ⟨h5, d, rfl⟩
    have hw : IntKind.i64.wrap ((k : Int) + 1) = (k : Int) + 1 := wrap_ok (by omega)
    obtain ⟨x, hx⟩ : ∃ x, zs[k]? = some x := ⟨zs[k], by simp⟩
    have hk' : decide (k < zs.length) = true := by simp [hk]
    have hct := countP_take (p := p) hx
    have hle : (zs.take k).countP p ≤ k := Nat.le_trans List.countP_le_length (by simp; omega)
    have hw2 : IntKind.i64.wrap (((zs.take k).countP p : Int) + 1) = ((zs.take k).countP p : Int) + 1 := wrap_ok (by omega)
    have e1 := hs 1 rfl
    have e8 := hs 8 rfl
    have e9 := hs 9 rfl
    clear hs
    simp -dsimp -implicitDefEqProofs at e1 e8 e9
    replace hk := hid hk
    simp -dsimp -implicitDefEqProofs [-getElem?_pos, -List.map_append, -List.map_set, List.getElem?_cons_zero, List.getElem?_cons_succ, e1, e8, e9, hci, hk', hx, h5]
    refine call_C (hcon.out x.st) (by first | rfl | (simp -dsimp -implicitDefEqProofs; done)) (by first | exact Or.inr (by rfl) | exact Or.inl ⟨by rfl, by first | rfl | simp [newNews, newLeaf, I]⟩) (Nat.le_of_ble_eq_true rfl) ?_
    rw [hp' x]
    simp -dsimp -implicitDefEqProofs [-getElem?_pos, -List.map_append, -List.map_set, List.getElem?_cons_zero, List.getElem?_cons_succ]
    cases hpx : p x
    · simp -dsimp -implicitDefEqProofs [-getElem?_pos, -List.map_append, -List.map_set, List.getElem?_cons_zero, List.getElem?_cons_succ, hw, hci, h5, e1, e8, e9]
      rw [hct, hpx]; simp
    · simp -dsimp -implicitDefEqProofs [-getElem?_pos, -List.map_append, -List.map_set, List.getElem?_cons_zero, List.getElem?_cons_succ, hw, hw2, hci, h5, e1, e8, e9]
      rw [hct, hpx]; simp
  · rintro t h m hci hs ⟨h5, d, rfl⟩
    have e1 := hs 1 rfl
    have e8 := hs 8 rfl
    have e9 := hs 9 rfl
    clear hs
    simp -dsimp -implicitDefEqProofs at e1 e8 e9
    simp -dsimp -implicitDefEqProofs [-getElem?_pos, -List.map_append, -List.map_set, List.getElem?_cons_zero, List.getElem?_cons_succ, e1, e8, e9, hci, h5]
    exact ends_int (by simp)

theorem count_open (zs : List S.Zone) : C Try.prog 103 [.lst false 2 (zs.map (zoneC false)), .lst false 1 [[Int' 1], [Int' 2]]] (Int' (zs.countP S.isOpen)) [] := by
  have h := yard_count zs [1, 2]
  have e : (fun z : S.Zone => [1, 2].any fun s => decide (s = z.st)) = S.isOpen := by
    funext z; simp [S.isOpen, eq_comm]
  rw [e] at h
  exact h
theorem count_active (zs : List S.Zone) : C Try.prog 103 [.lst false 2 (zs.map (zoneC false)), .lst false 1 [[Int' 1], [Int' 2], [Int' 3]]] (Int' (zs.countP S.isActive)) [] := by
  have h := yard_count zs [1, 2, 3]
  have e : (fun z : S.Zone => [1, 2, 3].any fun s => decide (s = z.st)) = S.isActive := by
    funext z; simp [S.isActive, eq_comm]
  rw [e] at h
  exact h

theorem yard_Check (zs : List S.Zone) : C Try.prog 48 [.lst false 2 (zs.map (zoneC false))] (Int' (S.checkZones zs)) [] := by
  obtain ⟨r, hr⟩ : ∃ r, S.checkZones zs = r := ⟨_, rfl⟩
  rw [hr]
  unfold S.checkZones at hr
  replace hr := hid hr
  refine C_inline [] Try.func48 (fun _ _ => by kernel_rfl) rfl (by kernel_rfl) (by rfl) (by decide) (by rfl) (by rfl) (by rfl) ?_
  simp -dsimp -implicitDefEqProofs [-getElem?_pos, -List.map_append, -List.map_set, List.getElem?_cons_zero, List.getElem?_cons_succ]
  refine brA_split (fun h1 => ?_) (fun h1 => ?_)
  rotate_left
  · simp -dsimp -implicitDefEqProofs [-getElem?_pos, -List.map_append, -List.map_set, List.getElem?_cons_zero, List.getElem?_cons_succ]
    exact ends_int (by simp at h1; rw [← hr.out, if_pos (by omega)])
  simp at h1
  have hl : zs.length = 4 := by omega
  simp -dsimp -implicitDefEqProofs [-getElem?_pos, -List.map_append, -List.map_set, List.getElem?_cons_zero, List.getElem?_cons_succ]
  refine loop_count 11 zs.length (fun k _ m t => (∃ d, m = d + 8) ∧ Hid (∀ (j : Nat) (x : S.Zone), j < k → zs[j]? = some x → S.checkZone x = 0)) _ rfl (by rfl) ⟨⟨_, rfl⟩, by intro j x hj; omega⟩ ?_ ?_
  · rintro k t h m hk hci hs ⟨⟨d, rfl⟩, hb⟩
    have hw : IntKind.i64.wrap ((k : Int) + 1) = (k : Int) + 1 := wrap_ok (by omega)
    obtain ⟨x, hx⟩ : ∃ x, zs[k]? = some x := ⟨zs[k], by simp⟩
    have hk' : decide (k < zs.length) = true := by simp [hk]
    have e0 := hs 0 rfl
    have e9 := hs 9 rfl
    have e10 := hs 10 rfl
    clear hs
    simp -dsimp -implicitDefEqProofs at e0 e9 e10
    replace hk := hid hk
    simp -dsimp -implicitDefEqProofs [-getElem?_pos, -List.map_append, -List.map_set, List.getElem?_cons_zero, List.getElem?_cons_succ, e0, e9, e10, hci, hk', hx]
    refine call_C (zone_Check x) (by first | rfl | (simp -dsimp -implicitDefEqProofs; done)) (by first | exact Or.inr (by rfl) | exact Or.inl ⟨by rfl, by first | rfl | simp [newNews, newLeaf, I]⟩) (Nat.le_of_ble_eq_true rfl) ?_
    simp -dsimp -implicitDefEqProofs [-getElem?_pos, -List.map_append, -List.map_set, List.getElem?_cons_zero, List.getElem?_cons_succ]
    refine brA_split (fun g1 => ?_) (fun g1 => ?_)
    · simp -dsimp -implicitDefEqProofs [-getElem?_pos, -List.map_append, -List.map_set, List.getElem?_cons_zero, List.getElem?_cons_succ, hw, hci, e0, e9, e10]
      exact upto_succ hb.out hx (by simpa using g1)
    · simp -dsimp -implicitDefEqProofs [-getElem?_pos, -List.map_append, -List.map_set, List.getElem?_cons_zero, List.getElem?_cons_succ]
      exact ends_int (by rw [← hr.out, if_neg (by omega), firstBad_at hb.out hx (by simpa using g1), if_pos (by simpa using g1)])
  · rintro t h m hci hs ⟨⟨d, rfl⟩, hb⟩
    have hfb := firstBad_none (f := S.checkZone) (xs := zs) hb.out
    have e0 := hs 0 rfl
    have e9 := hs 9 rfl
    have e10 := hs 10 rfl
    clear hs
    simp -dsimp -implicitDefEqProofs at e0 e9 e10
    simp -dsimp -implicitDefEqProofs [-getElem?_pos, -List.map_append, -List.map_set, List.getElem?_cons_zero, List.getElem?_cons_succ, e0, e9, e10, hci]
    refine call_C (count_open zs) (by first | rfl | (simp -dsimp -implicitDefEqProofs; done)) (by first | exact Or.inr (by rfl) | exact Or.inl ⟨by rfl, by first | rfl | simp [newNews, newLeaf, I]⟩) (Nat.le_of_ble_eq_true rfl) ?_
    simp -dsimp -implicitDefEqProofs [-getElem?_pos, -List.map_append, -List.map_set, List.getElem?_cons_zero, List.getElem?_cons_succ, e0, e9, e10]
    by_cases c1 : 2 < zs.countP S.isOpen
    · have c1' : decide ((2 : Int) < (zs.countP S.isOpen : Int)) = true := by simp; omega
      simp -dsimp -implicitDefEqProofs [-getElem?_pos, -List.map_append, -List.map_set, List.getElem?_cons_zero, List.getElem?_cons_succ, c1', e0, e9, e10]
      exact ends_int (by rw [← hr.out, if_neg (by omega), hfb, if_neg (by simp), if_pos (Or.inl c1)])
    · have c1' : decide ((2 : Int) < (zs.countP S.isOpen : Int)) = false := by simp; omega
      simp -dsimp -implicitDefEqProofs [-getElem?_pos, -List.map_append, -List.map_set, List.getElem?_cons_zero, List.getElem?_cons_succ, c1', e0, e9, e10]
      refine call_C (count_active zs) (by first | rfl | (simp -dsimp -implicitDefEqProofs; done)) (by first | exact Or.inr (by rfl) | exact Or.inl ⟨by rfl, by first | rfl | simp [newNews, newLeaf, I]⟩) (Nat.le_of_ble_eq_true rfl) ?_
      simp -dsimp -implicitDefEqProofs [-getElem?_pos, -List.map_append, -List.map_set, List.getElem?_cons_zero, List.getElem?_cons_succ, e0, e9, e10]
      refine brA_split (fun g1 => ?_) (fun g1 => ?_)
      · simp -dsimp -implicitDefEqProofs [-getElem?_pos, -List.map_append, -List.map_set, List.getElem?_cons_zero, List.getElem?_cons_succ]
        exact ends_int (by simp at g1; rw [← hr.out, if_neg (by omega), hfb, if_neg (by simp), if_pos (Or.inr (by omega))])
      · simp -dsimp -implicitDefEqProofs [-getElem?_pos, -List.map_append, -List.map_set, List.getElem?_cons_zero, List.getElem?_cons_succ]
        exact ends_int (by simp at g1; rw [← hr.out, if_neg (by omega), hfb, if_neg (by simp), if_neg (by omega)])

theorem checkZones_parts {zs : List S.Zone} (h : S.checkZones zs = 0) : zs.length = 4 ∧ (∀ z, z ∈ zs → S.checkZone z = 0) ∧ zs.countP S.isOpen ≤ 2 ∧ zs.countP S.isActive ≤ 3 := by
  unfold S.checkZones at h
  by_cases h1 : zs.length ≠ 4
  · rw [if_pos h1] at h; cases h
  rw [if_neg h1] at h
  by_cases h2 : S.firstBad S.checkZone zs ≠ 0
  · rw [if_pos h2] at h; exact absurd h h2
  rw [if_neg h2] at h
  by_cases h3 : 2 < zs.countP S.isOpen ∨ 3 < zs.countP S.isActive
  · rw [if_pos h3] at h; cases h
  exact ⟨by omega, fun z hz => firstBad_zero (by simpa using h2) z hz, by omega, by omega⟩

theorem yard_Copy (zs : List S.Zone) (h1 : zs.length ≤ 100000) (h2 : ∀ z, z ∈ zs → z.d.length ≤ 100000) : C Try.prog 136 [.lst false 2 (zs.map (zoneC false))] (.own 0 0 zs.length) [⟨72, 2, zs.map (zoneC true)⟩] := by
  have hcl := clone_zones (zs.map (zoneC false)) (by simp; omega) (plain_map (fun _ => rfl) _)
  simp only [List.length_map] at hcl
  replace hcl := hid hcl
  replace h2 := hid h2
  refine C_inline [8] Try.func136 (fun _ _ => by kernel_rfl) rfl (by kernel_rfl) (by rfl) (by decide) (by rfl) (by rfl) (by first | rfl | exact plain_I _ | exact plain_map (fun _ => rfl) _) ?_
  simp -dsimp -implicitDefEqProofs [-getElem?_pos, -List.map_append, -List.map_set, List.getElem?_cons_zero, List.getElem?_cons_succ]
  refine call_C (hcl.out) (by first | rfl | (simp -dsimp -implicitDefEqProofs; done)) (by first | exact Or.inr (by rfl) | exact Or.inl ⟨by rfl, by first | rfl | simp [newNews, newLeaf, I]⟩) (Nat.le_of_ble_eq_true rfl) ?_
  simp -dsimp -implicitDefEqProofs [-getElem?_pos, -List.map_append, -List.map_set, List.getElem?_cons_zero, List.getElem?_cons_succ]
  refine loop_count 9 zs.length (fun k h m _ => h 8 = some ⟨72, 2, mix (zoneC true) (zoneC false) zs k⟩ ∧ ∃ d, m = d + 12) _ rfl (by rfl) ⟨by simp, ⟨_, rfl⟩⟩ ?_ ?_
  · rintro k t h m hk hci hs ⟨h8, d, rfl⟩
    have hw : IntKind.i64.wrap ((k : Int) + 1) = (k : Int) + 1 := wrap_ok (by omega)
    obtain ⟨x, hx⟩ : ∃ x, zs[k]? = some x := ⟨zs[k], by simp⟩
    have hk' : decide (k < zs.length) = true := by simp [hk]
    have hm := mix_get (f := zoneC true) (g := zoneC false) hx
    have e0 := hs 0 rfl
    have e7 := hs 7 rfl
    have e8 := hs 8 rfl
    clear hs
    simp -dsimp -implicitDefEqProofs at e0 e7 e8
    have hx3 := h2.out x (List.mem_of_getElem? hx)
    have hms := mix_set (f := zoneC true) (g := zoneC false) hx
    simp -dsimp -implicitDefEqProofs [-getElem?_pos, -List.map_append, -List.map_set, List.getElem?_cons_zero, List.getElem?_cons_succ, e0, e7, e8, hci, hk', hm, h8, hk]
    refine call_C (zone_CopyN x (by omega)) (by first | rfl | (simp -dsimp -implicitDefEqProofs; done)) (by first | exact Or.inr (by rfl) | exact Or.inl ⟨by rfl, by first | rfl | simp [newNews, newLeaf, I]⟩) (Nat.le_of_ble_eq_true rfl) ?_
    simp -dsimp -implicitDefEqProofs [-getElem?_pos, -List.map_append, -List.map_set, List.getElem?_cons_zero, List.getElem?_cons_succ, h8, hk, e0, e7, e8, hci, hw, hm, hms]
  · rintro t h m hci hs ⟨h8, d, rfl⟩
    have e0 := hs 0 rfl
    have e7 := hs 7 rfl
    have e8 := hs 8 rfl
    clear hs
    simp -dsimp -implicitDefEqProofs at e0 e7 e8
    simp -dsimp -implicitDefEqProofs [-getElem?_pos, -List.map_append, -List.map_set, List.getElem?_cons_zero, List.getElem?_cons_succ, e0, e7, e8, hci]
    exact ⟨⟨.own 0 0 zs.length, by rfl, Sub.refl _⟩, by simp [h8]⟩

end Go.Proofs.Ytdjdjnmccphbjaa.E
