
/- Pm: law.WorldKeeps. -/
import Derived.Test.YtncdhkljejgpjaaGreatDoorPl
namespace Go.Proofs.YtncdhkljejgpjaaGreatDoor.E
open Go.RowKit Go.Proofs
set_option linter.unusedVariables false
set_option linter.unusedSimpArgs false
set_option maxRecDepth 100000
set_option maxHeartbeats 2000000
theorem hear_pos {w y : S.World} {x : S.Hap} (h : S.doWorld w x = (y, 0)) (hk : x.kind = 3 ∨ x.kind = 5) : 0 < w.mail.length := by
  unfold S.doWorld at h
  split at h
  · rename_i g; simp only [Prod.mk.injEq] at h; exact absurd h.2 g
  split at h
  · rename_i g; simp only [Prod.mk.injEq] at h; exact absurd h.2 g
  rename_i g
  rcases Nat.eq_zero_or_pos w.mail.length with e | e
  · exfalso
    apply g
    unfold S.happen S.hearMail
    rw [if_pos (by rcases hk with h | h <;> omega), if_pos (by omega)]
    simp
  · exact e
theorem law_WorldKeeps (w : S.World) (x : S.Hap) : C Tryz.prog 6 [.agg (worldC false w), .agg (hapC false x)] (Bool' true) [] := by
  obtain ⟨⟨y, e⟩, hy⟩ : ∃ q, S.doWorld w x = q := ⟨_, rfl⟩
  have c1 := hid (doW_eq hy)
  by_cases h0 : e = 0
  rotate_left
  · clear hy
    refine C_inline [] Tryz.func6 (fun _ _ => by kernel_rfl) rfl (by kernel_rfl) (by rfl) (by decide) (by rfl) (by rfl) (by rfl) ?_
    simp -dsimp -implicitDefEqProofs [-getElem?_pos, -List.map_append, -List.map_set, List.getElem?_cons_zero, List.getElem?_cons_succ]
    refine call_CC (c1.out) ?_
    simp -dsimp -implicitDefEqProofs [-getElem?_pos, -List.map_append, -List.map_set, List.getElem?_cons_zero, List.getElem?_cons_succ]
    refine call_CC (law_asked) ?_
    simp -dsimp -implicitDefEqProofs [-getElem?_pos, -List.map_append, -List.map_set, List.getElem?_cons_zero, List.getElem?_cons_succ, h0]
    refine call_CC (law_asked) ?_
    simp -dsimp -implicitDefEqProofs [-getElem?_pos, -List.map_append, -List.map_set, List.getElem?_cons_zero, List.getElem?_cons_succ]
    exact ends_bool rfl
  subst h0
  obtain ⟨k1, k2, ⟨k3, kk, k4⟩, k5, k6, k7⟩ := world_keeps hy
  obtain ⟨lw, ow⟩ := check_okW k1
  have m3 := ow.hand3
  have m30 := ow.mail30
  have hpos := fun g => hear_pos hy g
  have cc := hid (check_eq k2)
  have cb := hid (equal_bytes w.d.safe y.d.safe)
  obtain ⟨sb, hsb⟩ : ∃ sb, decide (w.d.safe = y.d.safe) = sb := ⟨_, rfl⟩
  rw [hsb] at cb
  have k7' : sb = true ∨ x.kind = 3 ∨ x.kind = 4 ∨ x.kind = 7 := by
    rcases k7 with g | g
    · exact .inl (by rw [← hsb, g]; simp)
    · exact .inr g
  clear hsb k7 hy k1 k2 ow
  obtain ⟨L, hL⟩ : ∃ L, mailLeft w x = L := ⟨_, rfl⟩
  rw [hL] at k5 k6
  replace k5 := hid k5
  replace k6 := hid k6
  replace m3 := hid m3
  replace m30 := hid m30
  replace k3 := hid k3
  replace k4 := hid k4
  replace k7' := hid k7'
  replace hpos := hid hpos
  replace hL := hid hL
  refine C_inline [] Tryz.func6 (fun _ _ => by kernel_rfl) rfl (by kernel_rfl) (by rfl) (by decide) (by rfl) (by rfl) (by rfl) ?_
  simp -dsimp -implicitDefEqProofs [-getElem?_pos, -List.map_append, -List.map_set, List.getElem?_cons_zero, List.getElem?_cons_succ]
  refine call_CC (c1.out) ?_
  simp -dsimp -implicitDefEqProofs [-getElem?_pos, -List.map_append, -List.map_set, List.getElem?_cons_zero, List.getElem?_cons_succ]
  refine call_CC (law_asked) ?_
  simp -dsimp -implicitDefEqProofs [-getElem?_pos, -List.map_append, -List.map_set, List.getElem?_cons_zero, List.getElem?_cons_succ]
  refine loop_count 27 w.hand.length (fun i h n t => h 0 = some ⟨37, 10, [worldC false w]⟩ ∧ h 4 = some ⟨41, 8, [hapC false x]⟩ ∧ h 36 = some ⟨37, 10, [worldC true y]⟩ ∧ (∃ d, n = d + 52) ∧ ∃ c : Nat, t 7 = Int' c ∧ c ≤ 1 ∧ (c = 1 → kk < i)) _ rfl (by rfl) ⟨rfl, rfl, rfl, ⟨40, rfl⟩, 0, rfl, by omega, by omega⟩ ?_ ?_
  · rintro i t h n hi hci hs ⟨g0, g4, g36, ⟨d, rfl⟩, c, hc7, hc1, hc2⟩
    have hw : IntKind.i64.wrap ((i : Int) + 1) = (i : Int) + 1 := wrap_ok (by have := m3.out; omega)
    have hw2 : IntKind.i64.wrap ((c : Int) + 1) = (c : Int) + 1 := wrap_ok (by omega)
    obtain ⟨a, ha⟩ : ∃ a, w.hand[i]? = some a := ⟨w.hand[i], by simp⟩
    obtain ⟨b, hb⟩ : ∃ b, y.hand[i]? = some b := ⟨y.hand[i]'(by have := k3.out; omega), by simp⟩
    have hi' : decide (i < w.hand.length) = true := by simp [hi]
    have cs := hid (hand_Same a b)
    have hne : a ≠ b → i = kk := fun g => by
      by_cases g2 : i = kk
      · exact g2
      · have := k4.out i g2
        rw [ha, hb] at this
        exact absurd (Option.some.inj this).symm g
    have e2 := hs 2 rfl
    have e3 := hs 3 rfl
    have e5 := hs 5 rfl
    have e25 := hs 25 rfl
    have e26 := hs 26 rfl
    clear hs
    simp -dsimp -implicitDefEqProofs at e2 e3 e5 e25 e26
    replace hi := hid hi
    replace hne := hid hne
    replace hc2 := hid hc2
    by_cases hab : a = b
    · rw [decide_eq_true hab] at cs
      simp -dsimp -implicitDefEqProofs [-getElem?_pos, -List.map_append, -List.map_set, List.getElem?_cons_zero, List.getElem?_cons_succ, e2, e3, e5, e25, e26, hci, hi', ha, hb, g0, g4, g36]
      refine call_CC (cs.out) ?_
      simp -dsimp -implicitDefEqProofs [-getElem?_pos, -List.map_append, -List.map_set, List.getElem?_cons_zero, List.getElem?_cons_succ, e2, e3, e5, e25, e26, hci, hw, g0, g4, g36]
      exact ⟨c, by simpa using hc7, hc1, fun g => Nat.lt_succ_of_lt (hc2.out g)⟩
    · rw [decide_eq_false hab] at cs
      have hik := hne.out hab
      have hc0 : c = 0 := by
        rcases (by omega : c = 0 ∨ c = 1) with g | g
        · exact g
        · have := hc2.out g; omega
      subst hc0
      simp -dsimp -implicitDefEqProofs [-getElem?_pos, -List.map_append, -List.map_set, List.getElem?_cons_zero, List.getElem?_cons_succ, e2, e3, e5, e25, e26, hci, hi', ha, hb, g0, g4, g36]
      refine call_CC (cs.out) ?_
      simp -dsimp -implicitDefEqProofs [-getElem?_pos, -List.map_append, -List.map_set, List.getElem?_cons_zero, List.getElem?_cons_succ, e2, e3, e5, e25, e26, hci, hw, hc7, hw2, g0, g4, g36]
      exact ⟨1, rfl, by omega, fun _ => by omega⟩
  · rintro t h n hci hs ⟨g0, g4, g36, ⟨d, rfl⟩, c, hc7, hc1, hc2⟩
    have cl : decide ((c : Int) ≤ 1) = true := by simp; omega
    have cl2 : decide (c ≤ 1) = true := by simp; omega
    have e2 := hs 2 rfl
    have e3 := hs 3 rfl
    have e5 := hs 5 rfl
    have e25 := hs 25 rfl
    have e26 := hs 26 rfl
    clear hs
    simp -dsimp -implicitDefEqProofs at e2 e3 e5 e25 e26
    obtain ⟨kind, who, nn, cm⟩ := x
    have hLo := hL.out
    unfold mailLeft at hLo
    simp only at hLo
    have q5 := k5.out
    have q6 := k6.out
    have q30 := m30.out
    have hw3 : IntKind.i64.wrap ((L : Int) + 1) = (L : Int) + 1 := wrap_ok (by split at hLo <;> omega)
    have f1 : decide ((L : Int) ≤ (y.mail.length : Int)) = true := by simp; omega
    have f2 : decide (L ≤ y.mail.length) = true := by simp; omega
    have f3 : decide ((y.mail.length : Int) ≤ (L : Int) + 1) = true := by simp; omega
    have f4 : decide (y.mail.length ≤ L + 1) = true := by simp; omega
    by_cases k3 : kind = 3
    · subst k3
      have hp := hpos.out (.inl rfl)
      rw [if_pos (.inl rfl)] at hLo
      have hw4 : IntKind.i64.wrap ((w.mail.length : Int) - 1) = (L : Int) := by rw [wrap_ok (by omega)]; omega
      clear hL hLo q5 q6 q30 hp hpos k4 k7'
      cases sb
      all_goals
        simp -dsimp -implicitDefEqProofs [-getElem?_pos, -List.map_append, -List.map_set, List.getElem?_cons_zero, List.getElem?_cons_succ, e2, e3, e5, e25, e26, hci, g0, g4, g36, hc7, hw4]
        refine call_CC (cb.out) ?_
        simp -dsimp -implicitDefEqProofs [-getElem?_pos, -List.map_append, -List.map_set, List.getElem?_cons_zero, List.getElem?_cons_succ, e2, e3, e5, e25, e26, hci, g0, g4, g36, hc7, hw4]
        refine call_CC (cc.out) ?_
        simp -dsimp -implicitDefEqProofs [-getElem?_pos, -List.map_append, -List.map_set, List.getElem?_cons_zero, List.getElem?_cons_succ, e2, e3, e5, e25, e26, hci, g0, g4, g36, hc7, hw4, hw3, cl, cl2, f1, f2, f3, f4]
        first | exact ends_bool rfl | exact ends_bool (by simpa using f4) | exact ends_bool (by simpa using f3) | trace_state
    by_cases k5' : kind = 5
    · subst k5'
      have hp := hpos.out (.inr rfl)
      rw [if_pos (.inr rfl)] at hLo
      have hw4 : IntKind.i64.wrap ((w.mail.length : Int) - 1) = (L : Int) := by rw [wrap_ok (by omega)]; omega
      have hsb : sb = true := by
        rcases k7'.out with g | g
        · exact g
        · simp at g
      subst hsb
      clear hL hLo q5 q6 q30 hp hpos k4 k7' k3
      simp -dsimp -implicitDefEqProofs [-getElem?_pos, -List.map_append, -List.map_set, List.getElem?_cons_zero, List.getElem?_cons_succ, e2, e3, e5, e25, e26, hci, g0, g4, g36, hc7, hw4]
      refine call_CC (cb.out) ?_
      simp -dsimp -implicitDefEqProofs [-getElem?_pos, -List.map_append, -List.map_set, List.getElem?_cons_zero, List.getElem?_cons_succ, e2, e3, e5, e25, e26, hci, g0, g4, g36, hc7, hw4]
      refine call_CC (cc.out) ?_
      simp -dsimp -implicitDefEqProofs [-getElem?_pos, -List.map_append, -List.map_set, List.getElem?_cons_zero, List.getElem?_cons_succ, e2, e3, e5, e25, e26, hci, g0, g4, g36, hc7, hw4, hw3, cl, cl2, f1, f2, f3, f4]
      first | exact ends_bool rfl | exact ends_bool (by simpa using f4) | trace_state
    rw [if_neg (by omega)] at hLo
    subst hLo
    have d3 : decide (kind = 3) = false := by simp [k3]
    have d5 : decide (kind = 5) = false := by simp [k5']
    have hcase : sb = true ∨ (sb = false ∧ (kind = 4 ∨ kind = 7)) := by
      cases sb with
      | true => exact .inl rfl
      | false =>
        rcases k7'.out with g | g
        · cases g
        · simp only at g; exact .inr ⟨rfl, by omega⟩
    clear hL q5 q6 q30 hpos k4 k7'
    rcases hcase with rfl | ⟨rfl, rfl | rfl⟩
    all_goals
      simp -dsimp -implicitDefEqProofs [-getElem?_pos, -List.map_append, -List.map_set, List.getElem?_cons_zero, List.getElem?_cons_succ, e2, e3, e5, e25, e26, hci, g0, g4, g36, hc7, d3, d5]
      refine call_CC (cb.out) ?_
      simp -dsimp -implicitDefEqProofs [-getElem?_pos, -List.map_append, -List.map_set, List.getElem?_cons_zero, List.getElem?_cons_succ, e2, e3, e5, e25, e26, hci, g0, g4, g36, hc7, d3, d5]
      refine call_CC (cc.out) ?_
      simp -dsimp -implicitDefEqProofs [-getElem?_pos, -List.map_append, -List.map_set, List.getElem?_cons_zero, List.getElem?_cons_succ, e2, e3, e5, e25, e26, hci, g0, g4, g36, hc7, hw3, cl, cl2, f1, f2, f3, f4, d3, d5]
      first | exact ends_bool rfl | exact ends_bool (by simpa using f4) | trace_state
end Go.Proofs.YtncdhkljejgpjaaGreatDoor.E
