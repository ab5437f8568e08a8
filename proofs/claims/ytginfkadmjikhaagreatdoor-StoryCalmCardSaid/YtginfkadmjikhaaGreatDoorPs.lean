
/- Ps: law.StoryCalm's pieces: do, drain, who waits. -/
import Derived.Test.YtginfkadmjikhaaGreatDoorPr
import Derived.Test.YtginfkadmjikhaaGreatDoorW2
namespace Go.Proofs.YtginfkadmjikhaaGreatDoor.E
open Go.RowKit Go.Proofs
set_option linter.unusedVariables false
set_option linter.unusedSimpArgs false
set_option maxRecDepth 100000
set_option maxHeartbeats 2000000
theorem calm_1 (w : S.World) : C Tryz.prog 52 [.agg (worldC false w)] (Bool' true) [] := by
  refine C_inline [] Tryz.func52 (fun _ _ => by kernel_rfl) rfl (by kernel_rfl) (by rfl) (by decide) (by rfl) (by rfl) (by rfl) ?_
  simp -dsimp -implicitDefEqProofs [-getElem?_pos, -List.map_append, -List.map_set, List.getElem?_cons_zero, List.getElem?_cons_succ]
  exact ends_bool rfl
theorem calm_4 (x : S.Hand) : C Tryz.prog 56 [.agg (handC false x)] (Bool' x.waits) [] := by
  refine C_inline [] Tryz.func56 (fun _ _ => by kernel_rfl) rfl (by kernel_rfl) (by rfl) (by decide) (by rfl) (by rfl) (by rfl) ?_
  simp -dsimp -implicitDefEqProofs [-getElem?_pos, -List.map_append, -List.map_set, List.getElem?_cons_zero, List.getElem?_cons_succ]
  exact ends_bool rfl
theorem calm_index (l : List S.Hand) (hl : l.length ≤ 3) (hw : ∀ x, x ∈ l → x.waits = false) : C Tryz.prog 102 [.lst false 8 (l.map (handC false)), .fn 56 []] (Int' (-1)) [] := by
  replace hw := hid hw
  replace hl := hid hl
  refine C_inline [] Tryz.func102 (fun _ _ => by kernel_rfl) rfl (by kernel_rfl) (by rfl) (by decide) (by rfl) (by rfl) (by rfl) ?_
  simp -dsimp -implicitDefEqProofs [-getElem?_pos, -List.map_append, -List.map_set, List.getElem?_cons_zero, List.getElem?_cons_succ]
  refine loop_count 8 l.length (fun k h n t => True) _ rfl (by rfl) trivial ?_ ?_
  · rintro k t h n hk hci hs -
    have hw1 : IntKind.i64.wrap ((k : Int) + 1) = (k : Int) + 1 := wrap_ok (by have := hl.out; omega)
    obtain ⟨x, hx⟩ : ∃ x, l[k]? = some x := ⟨l[k], by simp⟩
    have hxw := hw.out x (List.mem_of_getElem? hx)
    have hk' : decide (k < l.length) = true := by simp [hk]
    have c4 := hid (calm_4 x)
    rw [hxw] at c4
    have e0 := hs 0 rfl
    have e1 := hs 1 rfl
    have e7 := hs 7 rfl
    clear hs
    simp -dsimp -implicitDefEqProofs at e0 e1 e7
    replace hk := hid hk
    simp -dsimp -implicitDefEqProofs [-getElem?_pos, -List.map_append, -List.map_set, List.getElem?_cons_zero, List.getElem?_cons_succ, e0, e1, e7, hci, hk', hx, hk.out, hw1]
    refine call_CC (c4.out) ?_
    simp -dsimp -implicitDefEqProofs [-getElem?_pos, -List.map_append, -List.map_set, List.getElem?_cons_zero, List.getElem?_cons_succ, e0, e1, e7, hci, hw1]
    done
  · rintro t h n hci hs -
    have e0 := hs 0 rfl
    have e1 := hs 1 rfl
    have e7 := hs 7 rfl
    clear hs
    simp -dsimp -implicitDefEqProofs at e0 e1 e7
    simp -dsimp -implicitDefEqProofs [-getElem?_pos, -List.map_append, -List.map_set, List.getElem?_cons_zero, List.getElem?_cons_succ, e0, e1, e7, hci]
    exact ends_int rfl
theorem calm_contains (l : List S.Hand) (hl : l.length ≤ 3) (hw : ∀ x, x ∈ l → x.waits = false) : C Tryz.prog 55 [.lst false 8 (l.map (handC false)), .fn 56 []] (Bool' false) [] := by
  have c1 := hid (calm_index l hl hw)
  clear hl hw
  refine C_inline [] Tryz.func55 (fun _ _ => by kernel_rfl) rfl (by kernel_rfl) (by rfl) (by decide) (by rfl) (by rfl) (by rfl) ?_
  simp -dsimp -implicitDefEqProofs [-getElem?_pos, -List.map_append, -List.map_set, List.getElem?_cons_zero, List.getElem?_cons_succ]
  refine call_CC (c1.out) ?_
  simp -dsimp -implicitDefEqProofs [-getElem?_pos, -List.map_append, -List.map_set, List.getElem?_cons_zero, List.getElem?_cons_succ]
  exact ends_bool rfl
theorem calm_do (w : S.World) (x : S.Hap) (p n0 : Nat) (h0 : Heap) (hp : h0 p = some ⟨37, 10, [worldC true w]⟩) (hpn : p < n0) :
    CS Tryz.prog 53 [.agg (hapC false x), .ptr p 10 0 0] h0 n0 (fun h n r => r = Bool' (decide ((S.doWorld w x).2 = 0)) ∧ n0 ≤ n ∧
      h p = some ⟨37, 10, [worldC true (if (S.doWorld w x).2 = 0 then (S.doWorld w x).1 else w)]⟩ ∧ ∀ z, z < n0 → z ≠ p → h z = h0 z) := by
  obtain ⟨⟨v, e⟩, hD⟩ : ∃ q, S.doWorld w x = q := ⟨_, rfl⟩
  have cd := hid (doW_eq hD)
  rw [hD]
  clear hD
  refine CS_inline (typesOk _) Tryz.func53 (fun _ _ => by kernel_rfl) rfl (by kernel_rfl) (Nat.le_of_ble_eq_true rfl) ?_
  by_cases he : e = 0
  · subst he
    simp -dsimp -implicitDefEqProofs [-getElem?_pos, -List.map_append, -List.map_set, List.getElem?_cons_zero, List.getElem?_cons_succ, hp, far hpn]
    refine call_CC (cd.out) ?_
    simp -dsimp -implicitDefEqProofs [-getElem?_pos, -List.map_append, -List.map_set, List.getElem?_cons_zero, List.getElem?_cons_succ, hp, far hpn]
    exact ⟨by omega, fun z z1 z2 => by repeat (first | rfl | rw [if_neg (by omega)])⟩
  · have he' : decide (e = 0) = false := by simp [he]
    simp -dsimp -implicitDefEqProofs [-getElem?_pos, -List.map_append, -List.map_set, List.getElem?_cons_zero, List.getElem?_cons_succ, hp, far hpn]
    refine call_CC (cd.out) ?_
    simp -dsimp -implicitDefEqProofs [-getElem?_pos, -List.map_append, -List.map_set, List.getElem?_cons_zero, List.getElem?_cons_succ, hp, far hpn, he, he']
    exact ⟨by omega, fun z z1 z2 => by repeat (first | rfl | rw [if_neg (by omega)])⟩
theorem sub_hap (k w : Int) : SubL SubF [Int' k, Int' w, Int' 0, Int' 0, Int' 0, Int' 0, Int' 0, .nl] (hapC false ⟨k, w, 0, S.Cmd.zero⟩) :=
  .cons (.refl _) (.cons (.refl _) (.cons (.refl _) (.cons (.refl _) (.cons (.refl _) (.cons (.refl _) (.cons (.refl _) (.cons .nl (.nil _))))))))
theorem calm_drain (N : Nat) (W : Nat → S.World) (p q n0 : Nat) (h0 : Heap) (hp : h0 p = some ⟨37, 10, [worldC true (W 0)]⟩) (hq : h0 q = some ⟨99, 1, [[.fn 53 [.ptr p 10 0 0]]]⟩) (hpq : p ≠ q) (hpn : p < n0) (hqn : q < n0)
    (hW : ∀ k, k < N → (W k).mail ≠ [] ∧ S.doWorld (W k) ⟨3, 0, 0, S.Cmd.zero⟩ = (W (k + 1), 0)) (hN : (W N).mail = []) :
    CS Tryz.prog 54 [.ptr p 10 0 0, .ptr q 1 0 0] h0 n0 (fun h n r => r = Bool' true ∧ n0 ≤ n ∧ h p = some ⟨37, 10, [worldC true (W N)]⟩ ∧ ∀ z, z < n0 → z ≠ p → h z = h0 z) := by
  replace hW := hid hW
  replace hN := hid hN
  refine CS_inline (typesOk _) Tryz.func54 (fun _ _ => by kernel_rfl) rfl (by kernel_rfl) (Nat.le_of_ble_eq_true rfl) ?_
  simp -dsimp -implicitDefEqProofs [-getElem?_pos, -List.map_append, -List.map_set, List.getElem?_cons_zero, List.getElem?_cons_succ, hp, hq, far hpn, far hqn, hpq]
  refine loop_ghost N (fun k h n t => h p = some ⟨37, 10, [worldC true (W k)]⟩ ∧ n0 ≤ n ∧ ∀ z, z < n0 → z ≠ p → h z = h0 z) _ rfl ⟨hp, by (try dsimp only); omega, fun _ _ _ => rfl⟩ ?_ ?_
  · rintro k t h n hk hs ⟨h1, hn, hfr⟩
    obtain ⟨n1, rfl⟩ : ∃ n1, n = n1 + 1 := ⟨n - 1, by omega⟩
    obtain ⟨w1, w2⟩ := hW.out k hk
    have hq1 := (hfr q hqn (Ne.symm hpq)).trans hq
    obtain ⟨v, hv⟩ : ∃ v, W (k + 1) = v := ⟨_, rfl⟩
    rw [hv] at w2
    obtain ⟨w, hw⟩ : ∃ w, W k = w := ⟨_, rfl⟩
    rw [hw] at h1 w1 w2
    obtain ⟨H, d, up, hand, mail⟩ := w
    have m1 : decide (0 < mail.length) = true := by cases mail with | nil => exact absurd rfl w1 | cons a b => simp
    have m2 : decide ((0 : Int) < (mail.length : Int)) = true := by simpa using m1
    have pn : p < n1 + 1 := by omega
    have qn : q < n1 + 1 := by omega
    have e0 := hs 0 rfl
    have e1 := hs 1 rfl
    clear hs
    simp -dsimp -implicitDefEqProofs at e0 e1
    replace hk := hid hk
    simp -dsimp -implicitDefEqProofs [-getElem?_pos, -List.map_append, -List.map_set, List.getElem?_cons_zero, List.getElem?_cons_succ, e0, e1, h1, hq1, m1, m2, far pn, far qn]
    refine call_CSx ((calm_do ⟨H, d, up, hand, mail⟩ ⟨3, 0, 0, S.Cmd.zero⟩ p _ _ h1 (by omega)).args (.cons (.agg (sub_hap 3 0)) (.cons (.refl _) (.nil _)))) ?_
    rw [w2]
    rintro h' n' z ⟨rfl, hn', hp', hfr'⟩
    simp only [if_true] at hp'
    obtain ⟨n2, rfl⟩ : ∃ n2, n' = n2 + 1 := ⟨n' - 1, by omega⟩
    simp -dsimp -implicitDefEqProofs [-getElem?_pos, -List.map_append, -List.map_set, List.getElem?_cons_zero, List.getElem?_cons_succ, e0, e1]
    exact ⟨by rw [hv]; exact hp', by omega, fun z z1 z2 => (hfr' z (by omega) z2).trans (hfr z z1 z2)⟩
  · rintro t h n hs ⟨h1, hn, hfr⟩
    obtain ⟨n1, rfl⟩ : ∃ n1, n = n1 + 1 := ⟨n - 1, by omega⟩
    obtain ⟨w, hw⟩ : ∃ w, W N = w := ⟨_, rfl⟩
    have hN' := hN.out
    rw [hw] at h1 hN' ⊢
    obtain ⟨H, d, up, hand, mail⟩ := w
    simp only at hN'
    subst hN'
    have e0 := hs 0 rfl
    have e1 := hs 1 rfl
    clear hs
    simp -dsimp -implicitDefEqProofs at e0 e1
    simp -dsimp -implicitDefEqProofs [-getElem?_pos, -List.map_append, -List.map_set, List.getElem?_cons_zero, List.getElem?_cons_succ, e0, e1, h1]
    exact ⟨by omega, hfr⟩
end Go.Proofs.YtginfkadmjikhaaGreatDoor.E
