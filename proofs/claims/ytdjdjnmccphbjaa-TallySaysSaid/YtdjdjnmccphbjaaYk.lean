/- Yk: law.YardOthers. -/
import Derived.Test.YtdjdjnmccphbjaaY2
namespace Go.Proofs.Ytdjdjnmccphbjaa.E
open Go.RowKit Go.Proofs
set_option maxRecDepth 100000
set_option maxHeartbeats 1000000
set_option linter.unusedSimpArgs false
set_option linter.unusedVariables false

/-- what a writing or a holding of zone n leaves -/
def OthersZ (zs m : List S.Zone) (n : Nat) (b : Bool) : Prop :=
  zs.length = 4 ∧ m.length = 4 ∧ n < 4 ∧ (∃ w, m[n]? = some w ∧ (w.st = 2 ∨ (b = false ∧ (w.st = 1 ∨ w.st = 4)))) ∧
    ∃ K : Nat, ∀ (i : Nat) (x y : S.Zone), zs[i]? = some x → m[i]? = some y → i ≠ n → x ≠ y → i = K ∧ x.st = 1 ∧ y.st ≠ 1 ∧ y.st ≠ 2 ∧ x.d = y.d

theorem others_of {zs : List S.Zone} {n : Nat} {z w : S.Zone} {b : Bool} (hl : zs.length = 4) (hn : n < 4) (hz : zs[n]? = some z) (hw : w.st = 2 ∨ (b = false ∧ (w.st = 1 ∨ w.st = 4))) : OthersZ zs ((S.room zs n).1.set n w) n b := by
  obtain ⟨g1, g2⟩ := room_get hz
  refine ⟨hl, by simp [g2, hl], hn, ⟨w, by simp [g2, hl, hn], hw⟩, ?_⟩
  rcases room_cases hz with e | e | ⟨k, u, hk, hu, hu1, -, -, -, e⟩
  · exact ⟨0, fun i x y hx hy hi hne => by
      rw [e, List.getElem?_set_ne (Ne.symm hi)] at hy; simp only at hy; rw [hx] at hy; cases hy; exact absurd rfl hne⟩
  · exact ⟨0, fun i x y hx hy hi hne => by
      rw [e, List.getElem?_set_ne (Ne.symm hi)] at hy; simp only at hy; rw [hx] at hy; cases hy; exact absurd rfl hne⟩
  · refine ⟨k, fun i x y hx hy hi hne => ?_⟩
    rw [e, List.getElem?_set_ne (Ne.symm hi)] at hy
    simp only at hy
    by_cases hik : i = k
    · subst hik
      rw [get_set_self hu] at hy
      rw [hu] at hx
      cases hx; cases hy
      refine ⟨rfl, hu1, ?_, ?_, rfl⟩ <;> (unfold S.shutZ; simp only; split <;> omega)
    · rw [List.getElem?_set_ne (Ne.symm hik), hx] at hy
      cases hy; exact absurd rfl hne

theorem hold_others {zs : List S.Zone} {n : Nat} (h : (S.holdZ zs n).2 = 0) : OthersZ zs (S.holdZ zs n).1 n true := by
  unfold S.holdZ at h ⊢
  by_cases h1 : S.readyZ zs n ≠ 0
  · rw [if_pos h1] at h; exact absurd h h1
  rw [if_neg h1] at h ⊢
  obtain ⟨hc, j, z, hj, hn, hz⟩ := ready_parts (by omega : S.readyZ zs n = 0)
  have hj' : j = n := by omega
  subst hj'
  simp only [Int.toNat_natCast] at h ⊢
  by_cases h2 : (S.room zs j).2 ≠ 0
  · rw [if_pos h2] at h; exact absurd h h2
  rw [if_neg h2]
  exact others_of (checkZones_parts hc).1 hn hz (.inl rfl)

theorem write_others {zs : List S.Zone} {n : Nat} {d : List Int} (h : (S.writeZ zs n d).2.2 = 0) : OthersZ zs (S.writeZ zs n d).1 n false := by
  unfold S.writeZ at h ⊢
  by_cases h1 : S.readyZ zs n ≠ 0
  · rw [if_pos h1] at h; exact absurd h h1
  rw [if_neg h1] at h ⊢
  obtain ⟨hc, j, z, hj, hn, hz⟩ := ready_parts (by omega : S.readyZ zs n = 0)
  have hj' : j = n := by omega
  subst hj'
  simp only [Int.toNat_natCast] at h ⊢
  by_cases h3 : (S.writeZone (zs.getD j S.Zone.zero) d).2 ≠ 0
  · rw [if_pos h3] at h; exact absurd h h3
  rw [if_neg h3] at h ⊢
  generalize zs.getD j S.Zone.zero = q at *
  by_cases h2 : (S.room zs j).2 ≠ 0
  · rw [if_pos h2] at h; exact absurd h h2
  rw [if_neg h2]
  refine others_of (checkZones_parts hc).1 hn hz ?_
  unfold S.writeZone at h3 ⊢
  split at h3
  · simp_all
  split at h3
  · simp_all
  split at h3
  · simp_all
  split at h3
  · simp_all
  rename_i a1 a2 a3 a4
  rw [if_neg a1, if_neg a2, if_neg a3, if_neg a4]
  by_cases b1 : q.d.length + d.length = 8
  · simp [b1]
  by_cases b2 : q.st = 2
  · simp [b1, b2]
  · simp [b1, b2]

theorem law_YardOthers (zs : List S.Zone) (k : Int) (data : List Int) (b : Bool) : C Try.prog 10 [.lst false 2 (zs.map (zoneC false)), Int' k, .lst false 1 (I data), Bool' b] (Bool' true) [] := by
  obtain ⟨n, hne, hn⟩ : ∃ n : Nat, k % 4 = n ∧ n < 4 := ⟨(k % 4).toNat, by omega, by omega⟩
  have cat := at_law k 4 (by omega)
  rw [hne] at cat
  replace cat := hid cat
  clear hne
  obtain ⟨wm, wa, we, hw⟩ : ∃ m a e, S.writeZ zs n data = (m, a, e) := ⟨_, _, _, rfl⟩
  obtain ⟨hm, he, hh⟩ : ∃ m e, S.holdZ zs n = (m, e) := ⟨_, _, rfl⟩
  have cw := hid (writeY_eq hw)
  have ch := hid (holdY_eq hh)
  have ow : we = 0 → OthersZ zs wm n false := by have := write_others (zs := zs) (n := n) (d := data); rw [hw] at this; exact this
  have oh : he = 0 → OthersZ zs hm n true := by have := hold_others (zs := zs) (n := n); rw [hh] at this; exact this
  clear hw hh
  refine C_inline [] Try.func10 (fun _ _ => by kernel_rfl) rfl (by kernel_rfl) (by rfl) (by decide) (by rfl) (by rfl) (by rfl) ?_
  simp -dsimp -implicitDefEqProofs [-getElem?_pos, -List.map_append, -List.map_set, List.getElem?_cons_zero, List.getElem?_cons_succ]
  refine call_CC (cat.out) ?_
  simp -dsimp -implicitDefEqProofs [-getElem?_pos, -List.map_append, -List.map_set, List.getElem?_cons_zero, List.getElem?_cons_succ]
  refine call_CC (cw.out) ?_
  simp -dsimp -implicitDefEqProofs [-getElem?_pos, -List.map_append, -List.map_set, List.getElem?_cons_zero, List.getElem?_cons_succ]
  cases b
  all_goals simp -dsimp -implicitDefEqProofs [-getElem?_pos, -List.map_append, -List.map_set, List.getElem?_cons_zero, List.getElem?_cons_succ]
  rotate_left
  · refine call_CC (ch.out) ?_
    simp -dsimp -implicitDefEqProofs [-getElem?_pos, -List.map_append, -List.map_set, List.getElem?_cons_zero, List.getElem?_cons_succ]
    refine call_CC (law_crowded) ?_
    simp -dsimp -implicitDefEqProofs [-getElem?_pos, -List.map_append, -List.map_set, List.getElem?_cons_zero, List.getElem?_cons_succ]
    by_cases h0 : he = 0
    rotate_left
    · simp -dsimp -implicitDefEqProofs [-getElem?_pos, -List.map_append, -List.map_set, List.getElem?_cons_zero, List.getElem?_cons_succ, h0]
      refine call_CC (law_crowded) ?_
      simp -dsimp -implicitDefEqProofs [-getElem?_pos, -List.map_append, -List.map_set, List.getElem?_cons_zero, List.getElem?_cons_succ]
      exact ends_bool rfl
    subst h0
    obtain ⟨l1, l2, -, ⟨w, hw, hws⟩, K, hK⟩ := oh rfl
    clear cw ch ow oh cat
    replace l1 := hid l1
    replace hws := hid hws
    replace hK := hid hK
    simp -dsimp -implicitDefEqProofs [-getElem?_pos, -List.map_append, -List.map_set, List.getElem?_cons_zero, List.getElem?_cons_succ]
    refine loop_count 40 hm.length (fun j _ s t => (∃ c : Nat, t 12 = Int' c ∧ c ≤ if K < j then 1 else 0) ∧ ∃ d, s = d + 8) _ rfl (by rfl) ⟨⟨0, rfl, by omega⟩, ⟨_, rfl⟩⟩ ?_ ?_
    · rintro j t h s hj hci hs ⟨⟨c, h12, hcl⟩, d, rfl⟩
      have hw' : IntKind.i64.wrap ((j : Int) + 1) = (j : Int) + 1 := wrap_ok (by omega)
      obtain ⟨y, hy⟩ : ∃ y, hm[j]? = some y := ⟨hm[j], by simp⟩
      obtain ⟨x, hx⟩ : ∃ x, zs[j]? = some x := ⟨zs[j]'(by have := l1.out; omega), by simp⟩
      have hj' : decide (j < hm.length) = true := by simp [hj]
      have hK' := hK.out j x y hx hy
      replace hK' := hid hK'
      replace hcl := hid hcl
      have e0 := hs 0 rfl
      have e1 := hs 1 rfl
      have e3 := hs 3 rfl
      have e9 := hs 9 rfl
      have e38 := hs 38 rfl
      have e39 := hs 39 rfl
      clear hs
      simp -dsimp -implicitDefEqProofs at e0 e1 e3 e9 e38 e39
      by_cases hjn : j = n
      · subst hjn
        simp -dsimp -implicitDefEqProofs [-getElem?_pos, -List.map_append, -List.map_set, List.getElem?_cons_zero, List.getElem?_cons_succ, e0, e1, e3, e9, e38, e39, hci, hj', hx, hy, h12, hw']
        exact ⟨c, rfl, Nat.le_trans hcl.out (by split <;> split <;> omega)⟩
      · have hjn' : ¬ (j : Int) = n := by omega
        simp -dsimp -implicitDefEqProofs [-getElem?_pos, -List.map_append, -List.map_set, List.getElem?_cons_zero, List.getElem?_cons_succ, e0, e1, e3, e9, e38, e39, hci, hj', hjn', hx, hy, h12]
        refine call_CC (zone_Same x y) ?_
        simp -dsimp -implicitDefEqProofs [-getElem?_pos, -List.map_append, -List.map_set, List.getElem?_cons_zero, List.getElem?_cons_succ, e0, e1, e3, e9, e38, e39, hci, hj', hjn', hx, hy, h12, hw']
        by_cases hxy : x = y
        · simp -dsimp -implicitDefEqProofs [-getElem?_pos, -List.map_append, -List.map_set, List.getElem?_cons_zero, List.getElem?_cons_succ, e0, e1, e3, e9, e38, e39, hxy, hci, hw', h12]
          exact ⟨c, rfl, Nat.le_trans hcl.out (by split <;> split <;> omega)⟩
        · obtain ⟨s0, s1, s2, s3, s4⟩ := hK'.out hjn hxy
          obtain rfl : c = 0 := by have := hcl.out; rw [if_neg (by omega)] at this; omega
          simp -dsimp -implicitDefEqProofs [-getElem?_pos, -List.map_append, -List.map_set, List.getElem?_cons_zero, List.getElem?_cons_succ, e0, e1, e3, e9, e38, e39, hxy, hx, hy, s1, s2, s3, s4, h12]
          refine call_CC (int_equal y.d y.d) ?_
          simp -dsimp -implicitDefEqProofs [-getElem?_pos, -List.map_append, -List.map_set, List.getElem?_cons_zero, List.getElem?_cons_succ, e0, e1, e3, e9, e38, e39, hxy, hci, hw', h12]
          exact ⟨1, rfl, by rw [if_pos (by omega)]; omega⟩
    · rintro t h s hci hs ⟨⟨c, h12, hcl⟩, d, rfl⟩
      have e0 := hs 0 rfl
      have e1 := hs 1 rfl
      have e3 := hs 3 rfl
      have e9 := hs 9 rfl
      have e38 := hs 38 rfl
      have e39 := hs 39 rfl
      clear hs
      simp -dsimp -implicitDefEqProofs at e0 e1 e3 e9 e38 e39
      have hc1 : c ≤ 1 := Nat.le_trans hcl (by split <;> omega)
      simp -dsimp -implicitDefEqProofs [-getElem?_pos, -List.map_append, -List.map_set, List.getElem?_cons_zero, List.getElem?_cons_succ, e0, e1, e3, e9, e38, e39, hci, h12, hw]
      exact ends_bool (by have := hws.out; simp at this; simp [this]; omega)
  · refine call_CC (law_crowded) ?_
    simp -dsimp -implicitDefEqProofs [-getElem?_pos, -List.map_append, -List.map_set, List.getElem?_cons_zero, List.getElem?_cons_succ]
    by_cases h0 : we = 0
    rotate_left
    · simp -dsimp -implicitDefEqProofs [-getElem?_pos, -List.map_append, -List.map_set, List.getElem?_cons_zero, List.getElem?_cons_succ, h0]
      refine call_CC (law_crowded) ?_
      simp -dsimp -implicitDefEqProofs [-getElem?_pos, -List.map_append, -List.map_set, List.getElem?_cons_zero, List.getElem?_cons_succ]
      exact ends_bool rfl
    subst h0
    obtain ⟨l1, l2, -, ⟨w, hw, hws⟩, K, hK⟩ := ow rfl
    clear cw ch ow oh cat
    replace l1 := hid l1
    replace hws := hid hws
    replace hK := hid hK
    simp -dsimp -implicitDefEqProofs [-getElem?_pos, -List.map_append, -List.map_set, List.getElem?_cons_zero, List.getElem?_cons_succ]
    refine loop_count 40 wm.length (fun j _ s t => (∃ c : Nat, t 12 = Int' c ∧ c ≤ if K < j then 1 else 0) ∧ ∃ d, s = d + 8) _ rfl (by rfl) ⟨⟨0, rfl, by omega⟩, ⟨_, rfl⟩⟩ ?_ ?_
    · rintro j t h s hj hci hs ⟨⟨c, h12, hcl⟩, d, rfl⟩
      have hw' : IntKind.i64.wrap ((j : Int) + 1) = (j : Int) + 1 := wrap_ok (by omega)
      obtain ⟨y, hy⟩ : ∃ y, wm[j]? = some y := ⟨wm[j], by simp⟩
      obtain ⟨x, hx⟩ : ∃ x, zs[j]? = some x := ⟨zs[j]'(by have := l1.out; omega), by simp⟩
      have hj' : decide (j < wm.length) = true := by simp [hj]
      have hK' := hK.out j x y hx hy
      replace hK' := hid hK'
      replace hcl := hid hcl
      have e0 := hs 0 rfl
      have e1 := hs 1 rfl
      have e3 := hs 3 rfl
      have e9 := hs 9 rfl
      have e38 := hs 38 rfl
      have e39 := hs 39 rfl
      clear hs
      simp -dsimp -implicitDefEqProofs at e0 e1 e3 e9 e38 e39
      by_cases hjn : j = n
      · subst hjn
        simp -dsimp -implicitDefEqProofs [-getElem?_pos, -List.map_append, -List.map_set, List.getElem?_cons_zero, List.getElem?_cons_succ, e0, e1, e3, e9, e38, e39, hci, hj', hx, hy, h12, hw']
        exact ⟨c, rfl, Nat.le_trans hcl.out (by split <;> split <;> omega)⟩
      · have hjn' : ¬ (j : Int) = n := by omega
        simp -dsimp -implicitDefEqProofs [-getElem?_pos, -List.map_append, -List.map_set, List.getElem?_cons_zero, List.getElem?_cons_succ, e0, e1, e3, e9, e38, e39, hci, hj', hjn', hx, hy, h12]
        refine call_CC (zone_Same x y) ?_
        simp -dsimp -implicitDefEqProofs [-getElem?_pos, -List.map_append, -List.map_set, List.getElem?_cons_zero, List.getElem?_cons_succ, e0, e1, e3, e9, e38, e39, hci, hj', hjn', hx, hy, h12, hw']
        by_cases hxy : x = y
        · simp -dsimp -implicitDefEqProofs [-getElem?_pos, -List.map_append, -List.map_set, List.getElem?_cons_zero, List.getElem?_cons_succ, e0, e1, e3, e9, e38, e39, hxy, hci, hw', h12]
          exact ⟨c, rfl, Nat.le_trans hcl.out (by split <;> split <;> omega)⟩
        · obtain ⟨s0, s1, s2, s3, s4⟩ := hK'.out hjn hxy
          obtain rfl : c = 0 := by have := hcl.out; rw [if_neg (by omega)] at this; omega
          simp -dsimp -implicitDefEqProofs [-getElem?_pos, -List.map_append, -List.map_set, List.getElem?_cons_zero, List.getElem?_cons_succ, e0, e1, e3, e9, e38, e39, hxy, hx, hy, s1, s2, s3, s4, h12]
          refine call_CC (int_equal y.d y.d) ?_
          simp -dsimp -implicitDefEqProofs [-getElem?_pos, -List.map_append, -List.map_set, List.getElem?_cons_zero, List.getElem?_cons_succ, e0, e1, e3, e9, e38, e39, hxy, hci, hw', h12]
          exact ⟨1, rfl, by rw [if_pos (by omega)]; omega⟩
    · rintro t h s hci hs ⟨⟨c, h12, hcl⟩, d, rfl⟩
      have e0 := hs 0 rfl
      have e1 := hs 1 rfl
      have e3 := hs 3 rfl
      have e9 := hs 9 rfl
      have e38 := hs 38 rfl
      have e39 := hs 39 rfl
      clear hs
      simp -dsimp -implicitDefEqProofs at e0 e1 e3 e9 e38 e39
      have hc1 : c ≤ 1 := Nat.le_trans hcl (by split <;> omega)
      simp -dsimp -implicitDefEqProofs [-getElem?_pos, -List.map_append, -List.map_set, List.getElem?_cons_zero, List.getElem?_cons_succ, e0, e1, e3, e9, e38, e39, hci, h12, hw]
      exact ends_bool (by have := hws.out; simp at this; simp [this]; omega)

end Go.Proofs.Ytdjdjnmccphbjaa.E
