/- Yf: zones that are held open, written. -/
import Derived.Test.YtdjdjnmccphbjaaYe
namespace Go.Proofs.Ytdjdjnmccphbjaa.E
open Go.RowKit Go.Proofs
set_option maxRecDepth 100000
set_option maxHeartbeats 1000000
set_option linter.unusedSimpArgs false

theorem room_cases {zs : List S.Zone} {n : Nat} {z : S.Zone} (hz : zs[n]? = some z) : S.room zs n = (zs, 7) ∨ S.room zs n = (zs, 0) ∨
    ∃ (k : Nat) (x : S.Zone), k ≠ n ∧ zs[k]? = some x ∧ x.st = 1 ∧ S.isOpen z = false ∧ z.st ≠ 4 ∧ 2 ≤ zs.countP S.isOpen ∧ S.room zs n = (zs.set k (S.shutZ x), 0) := by
  unfold S.room
  simp only [List.getD, hz, Option.getD_some]
  by_cases h1 : S.isOpen z = true
  · rw [if_pos h1]; exact Or.inr (Or.inl rfl)
  rw [if_neg h1]
  by_cases h2 : z.st = 4
  · rw [if_pos h2]; exact Or.inl rfl
  rw [if_neg h2]
  by_cases h3 : z.st = 0 ∧ zs.countP S.isActive = 3
  · rw [if_pos h3]; exact Or.inl rfl
  rw [if_neg h3]
  by_cases h4 : zs.countP S.isOpen < 2
  · rw [if_pos h4]; exact Or.inr (Or.inl rfl)
  rw [if_neg h4]
  rcases idx_spec (p := fun z : S.Zone => decide (z.st = 1)) zs with e | ⟨k, x, e, hx, hpx⟩
  · rw [e, if_pos (by decide)]; exact Or.inl rfl
  · rw [e, if_neg (by omega)]
    refine Or.inr (Or.inr ⟨k, x, ?_, hx, by simpa using hpx, by simpa using h1, h2, by omega, by simp [hx]⟩)
    rintro rfl
    rw [hz] at hx
    cases hx
    apply h1
    simp [S.isOpen]
    left; simpa using hpx
theorem room_get {zs : List S.Zone} {n : Nat} {z : S.Zone} (hz : zs[n]? = some z) : (S.room zs n).1[n]? = some z ∧ (S.room zs n).1.length = zs.length := by
  rcases room_cases hz with e | e | ⟨k, x, hk, -, -, -, -, -, e⟩
  · rw [e]; exact ⟨hz, rfl⟩
  · rw [e]; exact ⟨hz, rfl⟩
  · rw [e]
    refine ⟨?_, by simp⟩
    rw [List.getElem?_set_ne hk]
    exact hz

theorem yard_Hold (zs : List S.Zone) (k : Int) : C Try.prog 49 [.lst false 2 (zs.map (zoneC false)), Int' k] (.tup [.lst true 2 ((S.holdZ zs k).1.map (zoneC false)), Int' (S.holdZ zs k).2]) [] := by
  by_cases h : S.readyZ zs k = 0
  · have hc := hid (yard_ready_ok zs k h)
    obtain ⟨h1, n, z, rfl, hn, hz⟩ := ready_parts h
    have hl := (checkZones_parts h1).1
    have hr : S.holdZ zs n = if (S.room zs n).2 ≠ 0 then ([], (S.room zs n).2) else ((S.room zs n).1.set n ⟨2, z.d⟩, 0) := by
      unfold S.holdZ
      rw [if_neg (by simp [h])]
      have := (room_get hz).1
      simp [this]
    obtain ⟨r, hr0⟩ : ∃ r, S.holdZ zs n = r := ⟨_, rfl⟩
    rw [hr0] at hr ⊢
    clear hr0
    obtain ⟨g1, g2⟩ := room_get hz
    have hroom := room_CS zs n z hz hl
    rw [hl] at g2
    unfold RoomQ at hroom
    generalize S.room zs n = rr at *
    obtain ⟨l', e⟩ := rr
    simp only at g1 g2 hr hroom
    replace hr := hid hr
    replace hroom := hid hroom
    refine C_inline [] Try.func49 (fun _ _ => by kernel_rfl) rfl (by kernel_rfl) (by rfl) (by decide) (by rfl) (by rfl) (by rfl) ?_
    simp -dsimp -implicitDefEqProofs [-getElem?_pos, -List.map_append, -List.map_set, List.getElem?_cons_zero, List.getElem?_cons_succ]
    refine call_C (hc.out) (by first | rfl | (simp -dsimp -implicitDefEqProofs; done)) (by first | exact Or.inr (by rfl) | exact Or.inl ⟨by rfl, by first | rfl | simp [newNews, newLeaf, I]⟩) (Nat.le_of_ble_eq_true rfl) ?_
    simp -dsimp -implicitDefEqProofs [-getElem?_pos, -List.map_append, -List.map_set, List.getElem?_cons_zero, List.getElem?_cons_succ, hn, hz]
    refine call_CSm (hroom.out _ 16 _ (by simp) (by decide)) ?_
    rintro h' n' r' ⟨rfl, hi', -, hn'⟩
    simp -dsimp -implicitDefEqProofs [-getElem?_pos, -List.map_append, -List.map_set, List.getElem?_cons_zero, List.getElem?_cons_succ]
    by_cases he : e = 0
    · subst he
      obtain rfl : r = (l'.set n ⟨2, z.d⟩, 0) := by rw [hr.out, if_neg (by simp)]
      clear hr hroom
      simp -dsimp -implicitDefEqProofs [-getElem?_pos, -List.map_append, -List.map_set, List.getElem?_cons_zero, List.getElem?_cons_succ, hi', hn, g1, g2]
      exact ends_le (OutL.zones rfl ⟨rfl, rfl⟩ (by simp [g2]) (OutL.nil _)) rfl
    · obtain rfl : r = ([], e) := by rw [hr.out, if_pos (by simpa using he)]
      clear hr hroom
      simp -dsimp -implicitDefEqProofs [-getElem?_pos, -List.map_append, -List.map_set, List.getElem?_cons_zero, List.getElem?_cons_succ, he]
      exact ends_le (OutL.nl (OutL.nil _)) rfl
  · refine C_inline [] Try.func49 (fun _ _ => by kernel_rfl) rfl (by kernel_rfl) (by rfl) (by decide) (by rfl) (by rfl) (by rfl) ?_
    simp -dsimp -implicitDefEqProofs [-getElem?_pos, -List.map_append, -List.map_set, List.getElem?_cons_zero, List.getElem?_cons_succ]
    refine call_C (yard_ready_bad zs k h) (by first | rfl | (simp -dsimp -implicitDefEqProofs; done)) (by first | exact Or.inr (by rfl) | exact Or.inl ⟨by rfl, by first | rfl | simp [newNews, newLeaf, I]⟩) (Nat.le_of_ble_eq_true rfl) ?_
    simp -dsimp -implicitDefEqProofs [-getElem?_pos, -List.map_append, -List.map_set, List.getElem?_cons_zero, List.getElem?_cons_succ, h]
    have hr : S.holdZ zs k = ([], S.readyZ zs k) := by unfold S.holdZ; rw [if_pos h]
    rw [hr]
    exact ends_le (OutL.nl (OutL.nil _)) rfl

theorem outAgg_leaf {h : Heap} {c c' : AV} (hc : outLeaf h [] c = some c') : outAgg h [] c = some c' := by
  rw [← hc]
  cases c <;> first | rfl | (simp [outLeaf] at hc)
theorem ends_l3 {h : Heap} {n : Nat} {c target : AV} {a a' e e' : Int} (ho : OutL h [c] [target]) (ha : a = a') (he : e = e') : Ends [] (.tup [target, Int' a', Int' e']) [] h n (.tup [c, Int' a, Int' e]) := by
  subst ha he
  obtain ⟨cells', ho, hs⟩ := ho
  cases hc : outLeaf h [] c with
  | none => rw [List.mapM_cons, hc] at ho; cases ho
  | some c' =>
    rw [List.mapM_cons, hc] at ho
    simp at ho
    subst ho
    refine ⟨⟨.tup [c', Int' a, Int' e], ?_, .tup (.cons (.leaf (hs.2 0 _ _ rfl rfl)) (.cons (.leaf (.refl _)) (.cons (.leaf (.refl _)) (.nil _))))⟩, rfl⟩
    show (List.mapM (outAgg h []) [c, Int' a, Int' e]).map AV.tup = _
    rw [List.mapM_cons, outAgg_leaf hc]
    rfl

theorem yard_Write (zs : List S.Zone) (k : Int) (data : List Int) : C Try.prog 53 [.lst false 2 (zs.map (zoneC false)), Int' k, .lst false 1 (I data)] (.tup [.lst true 2 ((S.writeZ zs k data).1.map (zoneC false)), Int' (S.writeZ zs k data).2.1, Int' (S.writeZ zs k data).2.2]) [] := by
  by_cases h : S.readyZ zs k = 0
  · have hc := hid (yard_ready_ok zs k h)
    obtain ⟨h1, n, z, rfl, hn, hz⟩ := ready_parts h
    have hl := (checkZones_parts h1).1
    have hr : S.writeZ zs n data = if (S.writeZone z data).2 ≠ 0 then ([], 0, (S.writeZone z data).2) else if (S.room zs n).2 ≠ 0 then ([], 0, (S.room zs n).2) else ((S.room zs n).1.set n (S.writeZone z data).1, (z.d.length : Int), (0 : Int)) := by
      unfold S.writeZ
      rw [if_neg (by simp [h])]
      simp [hz]
    obtain ⟨r, hr0⟩ : ∃ r, S.writeZ zs n data = r := ⟨_, rfl⟩
    rw [hr0] at hr ⊢
    clear hr0
    obtain ⟨g1, g2⟩ := room_get hz
    have hroom := room_CS zs n z hz hl
    have hwr := zone_Write z data
    rw [hl] at g2
    unfold RoomQ at hroom
    generalize S.room zs n = rr at *
    obtain ⟨l', e⟩ := rr
    generalize S.writeZone z data = ww at *
    obtain ⟨⟨st', d'⟩, f⟩ := ww
    simp only at g1 g2 hr hroom hwr
    replace hr := hid hr
    replace hroom := hid hroom
    replace hwr := hid hwr
    refine C_inline [] Try.func53 (fun _ _ => by kernel_rfl) rfl (by kernel_rfl) (by rfl) (by decide) (by rfl) (by rfl) (by rfl) ?_
    simp -dsimp -implicitDefEqProofs [-getElem?_pos, -List.map_append, -List.map_set, List.getElem?_cons_zero, List.getElem?_cons_succ]
    refine call_C (hc.out) (by first | rfl | (simp -dsimp -implicitDefEqProofs; done)) (by first | exact Or.inr (by rfl) | exact Or.inl ⟨by rfl, by first | rfl | simp [newNews, newLeaf, I]⟩) (Nat.le_of_ble_eq_true rfl) ?_
    simp -dsimp -implicitDefEqProofs [-getElem?_pos, -List.map_append, -List.map_set, List.getElem?_cons_zero, List.getElem?_cons_succ, hn, hz, hl]
    refine call_C (hwr.out) (by first | rfl | (simp -dsimp -implicitDefEqProofs; done)) (by first | exact Or.inr (by rfl) | exact Or.inl ⟨by rfl, by first | rfl | simp [newNews, newLeaf, I]⟩) (Nat.le_of_ble_eq_true rfl) ?_
    simp -dsimp -implicitDefEqProofs [-getElem?_pos, -List.map_append, -List.map_set, List.getElem?_cons_zero, List.getElem?_cons_succ]
    by_cases hf : f = 0
    rotate_left
    · obtain rfl : r = ([], 0, f) := by rw [hr.out, if_pos (by simpa using hf)]
      clear hr hroom
      simp -dsimp -implicitDefEqProofs [-getElem?_pos, -List.map_append, -List.map_set, List.getElem?_cons_zero, List.getElem?_cons_succ, hf]
      exact ends_l3 (OutL.nl (OutL.nil _)) rfl rfl
    subst hf
    simp -dsimp -implicitDefEqProofs [-getElem?_pos, -List.map_append, -List.map_set, List.getElem?_cons_zero, List.getElem?_cons_succ]
    refine call_CSm (hroom.out _ 20 _ (by simp) (by decide)) ?_
    rintro h' n' r' ⟨rfl, hi', hoth, hn'⟩
    have h116 := hoth 116 (by decide) (by decide)
    clear hoth
    simp -dsimp -implicitDefEqProofs [-getElem?_pos, -List.map_append, -List.map_set, List.getElem?_cons_zero, List.getElem?_cons_succ] at h116
    simp -dsimp -implicitDefEqProofs [-getElem?_pos, -List.map_append, -List.map_set, List.getElem?_cons_zero, List.getElem?_cons_succ]
    by_cases he : e = 0
    · subst he
      obtain rfl : r = (l'.set n ⟨st', d'⟩, (z.d.length : Int), 0) := by rw [hr.out, if_neg (by simp), if_neg (by simp)]
      clear hr hroom
      simp -dsimp -implicitDefEqProofs [-getElem?_pos, -List.map_append, -List.map_set, List.getElem?_cons_zero, List.getElem?_cons_succ, hi', hn, g1, g2, h116]
      exact ends_l3 (OutL.zones rfl ⟨rfl, rfl⟩ (by simp [g2]) (OutL.nil _)) rfl rfl
    · obtain rfl : r = ([], 0, e) := by rw [hr.out, if_neg (by simp), if_pos (by simpa using he)]
      clear hr hroom
      simp -dsimp -implicitDefEqProofs [-getElem?_pos, -List.map_append, -List.map_set, List.getElem?_cons_zero, List.getElem?_cons_succ, he]
      exact ends_l3 (OutL.nl (OutL.nil _)) rfl rfl
  · refine C_inline [] Try.func53 (fun _ _ => by kernel_rfl) rfl (by kernel_rfl) (by rfl) (by decide) (by rfl) (by rfl) (by rfl) ?_
    simp -dsimp -implicitDefEqProofs [-getElem?_pos, -List.map_append, -List.map_set, List.getElem?_cons_zero, List.getElem?_cons_succ]
    refine call_C (yard_ready_bad zs k h) (by first | rfl | (simp -dsimp -implicitDefEqProofs; done)) (by first | exact Or.inr (by rfl) | exact Or.inl ⟨by rfl, by first | rfl | simp [newNews, newLeaf, I]⟩) (Nat.le_of_ble_eq_true rfl) ?_
    simp -dsimp -implicitDefEqProofs [-getElem?_pos, -List.map_append, -List.map_set, List.getElem?_cons_zero, List.getElem?_cons_succ, h]
    have hr : S.writeZ zs k data = ([], 0, S.readyZ zs k) := by unfold S.writeZ; rw [if_pos h]
    rw [hr]
    exact ends_l3 (OutL.nl (OutL.nil _)) rfl rfl

end Go.Proofs.Ytdjdjnmccphbjaa.E
