
/- Pl: laws on worlds, without the document's answer. -/
import Derived.Test.YtncdhkljejgpjaaGreatDoorP5
namespace Go.Proofs.YtncdhkljejgpjaaGreatDoor.E
open Go.RowKit Go.Proofs
set_option linter.unusedVariables false
set_option linter.unusedSimpArgs false
set_option maxRecDepth 100000
set_option maxHeartbeats 2000000
theorem do0_eq {w : S.World} {k who n : Int} {q : S.World × Int} (h : S.doWorld w ⟨k, who, n, S.Cmd.zero⟩ = q) : C Tryz.prog 15 [.agg (worldC false w), .agg [Int' k, Int' who, Int' n, Int' 0, Int' 0, Int' 0, Int' 0, .nl]] (doWR q) [] :=
  (doW_eq h).args (.cons (.refl _) (.cons (.agg (.cons (.refl _) (.cons (.refl _) (.cons (.refl _) (.cons (.refl _) (.cons (.refl _) (.cons (.refl _) (.cons (.refl _) (.cons .nl (.nil _)))))))))) (.nil _)))
theorem law_WorldTwice (w : S.World) (k : Int) : C Tryz.prog 7 [.agg (worldC false w), Int' k] (Bool' true) [] := by
  obtain ⟨e, he⟩ : ∃ e, S.checkWorld w = e := ⟨_, rfl⟩
  have c1 := hid (check_eq he)
  by_cases h0 : e = 0
  rotate_left
  · clear he
    refine C_inline [] Tryz.func7 (fun _ _ => by kernel_rfl) rfl (by kernel_rfl) (by rfl) (by decide) (by rfl) (by rfl) (by rfl) ?_
    simp -dsimp -implicitDefEqProofs [-getElem?_pos, -List.map_append, -List.map_set, List.getElem?_cons_zero, List.getElem?_cons_succ]
    refine call_CC (law_asked) ?_
    simp -dsimp -implicitDefEqProofs [-getElem?_pos, -List.map_append, -List.map_set, List.getElem?_cons_zero, List.getElem?_cons_succ]
    refine call_CC (c1.out) ?_
    simp -dsimp -implicitDefEqProofs [-getElem?_pos, -List.map_append, -List.map_set, List.getElem?_cons_zero, List.getElem?_cons_succ, h0]
    refine call_CC (law_asked) ?_
    simp -dsimp -implicitDefEqProofs [-getElem?_pos, -List.map_append, -List.map_set, List.getElem?_cons_zero, List.getElem?_cons_succ]
    exact ends_bool rfl
  subst h0
  by_cases hm : w.mail.length = 0
  · have hm1 : decide (w.mail.length = 0) = true := by simp [hm]
    have hm2 : decide (w.mail = []) = true := by simpa using hm
    clear he
    refine C_inline [] Tryz.func7 (fun _ _ => by kernel_rfl) rfl (by kernel_rfl) (by rfl) (by decide) (by rfl) (by rfl) (by rfl) ?_
    simp -dsimp -implicitDefEqProofs [-getElem?_pos, -List.map_append, -List.map_set, List.getElem?_cons_zero, List.getElem?_cons_succ]
    refine call_CC (law_asked) ?_
    simp -dsimp -implicitDefEqProofs [-getElem?_pos, -List.map_append, -List.map_set, List.getElem?_cons_zero, List.getElem?_cons_succ]
    refine call_CC (c1.out) ?_
    simp -dsimp -implicitDefEqProofs [-getElem?_pos, -List.map_append, -List.map_set, List.getElem?_cons_zero, List.getElem?_cons_succ, hm2]
    refine call_CC (law_asked) ?_
    simp -dsimp -implicitDefEqProofs [-getElem?_pos, -List.map_append, -List.map_set, List.getElem?_cons_zero, List.getElem?_cons_succ]
    exact ends_bool rfl
  have hm1 : decide (w.mail.length = 0) = false := by simp; exact fun g => hm (by rw [g]; rfl)
  have hm2 : decide (w.mail = []) = false := by simp; exact fun g => hm (by rw [g]; rfl)
  have hm3 : w.mail.length ≤ 30 := by obtain ⟨l, hok⟩ := check_okW he; exact hok.mail30
  have ca := at_law k (w.mail.length : Int) (by omega)
  have e2 := Int.emod_nonneg k (by omega : (w.mail.length : Int) ≠ 0)
  have e3 := Int.emod_lt_of_pos k (by omega : 0 < (w.mail.length : Int))
  obtain ⟨j, hj⟩ : ∃ j : Nat, k % (w.mail.length : Int) = j := ⟨(k % (w.mail.length : Int)).toNat, by omega⟩
  rw [hj] at ca e3
  obtain ⟨⟨x, f⟩, hx⟩ : ∃ q, S.doWorld w ⟨4, 0, j, S.Cmd.zero⟩ = q := ⟨_, rfl⟩
  have d1 := hid (do0_eq hx)
  replace ca := hid ca
  by_cases hf : f = 0
  rotate_left
  · clear he hx hj e2 e3
    refine C_inline [] Tryz.func7 (fun _ _ => by kernel_rfl) rfl (by kernel_rfl) (by rfl) (by decide) (by rfl) (by rfl) (by rfl) ?_
    simp -dsimp -implicitDefEqProofs [-getElem?_pos, -List.map_append, -List.map_set, List.getElem?_cons_zero, List.getElem?_cons_succ]
    refine call_CC (law_asked) ?_
    simp -dsimp -implicitDefEqProofs [-getElem?_pos, -List.map_append, -List.map_set, List.getElem?_cons_zero, List.getElem?_cons_succ]
    refine call_CC (c1.out) ?_
    simp -dsimp -implicitDefEqProofs [-getElem?_pos, -List.map_append, -List.map_set, List.getElem?_cons_zero, List.getElem?_cons_succ, hm2]
    refine call_CC (ca.out) ?_
    simp -dsimp -implicitDefEqProofs [-getElem?_pos, -List.map_append, -List.map_set, List.getElem?_cons_zero, List.getElem?_cons_succ]
    refine call_CC (d1.out) ?_
    simp -dsimp -implicitDefEqProofs [-getElem?_pos, -List.map_append, -List.map_set, List.getElem?_cons_zero, List.getElem?_cons_succ, hf]
    exact ends_bool rfl
  subst hf
  obtain ⟨y, hy, g1, g2, g3, g4⟩ := world_twice (by omega) hx
  have d2 := hid (do0_eq hy)
  have s1 := hid (hall_Same_eq (a := x.h) (b := y.h) (r := true) (by simp [g1]))
  have s2 : C Tryz.prog 40 [.agg (diskC false x.d), .agg (diskC false y.d)] (Bool' true) [] := by
    have := disk_Same x.d y.d
    rwa [decide_eq_true g2.symm] at this
  have s3 : C Tryz.prog 41 [.lst false 8 (x.hand.map (handC false)), .lst false 8 (y.hand.map (handC false)), .fn 37 []] (Bool' true) [] := by
    have := equal_hands x.hand y.hand
    rwa [decide_eq_true g3.symm] at this
  replace s2 := hid s2
  replace s3 := hid s3
  have hxl : x.mail.length ≤ 31 := by
    have h1 := hx
    obtain ⟨-, -, -, -, h4, -⟩ := world_keeps hx
    have : mailLeft w ⟨4, 0, j, S.Cmd.zero⟩ ≤ w.mail.length := by unfold mailLeft; split <;> omega
    omega
  have hw : IntKind.i64.wrap ((x.mail.length : Int) + 1) = (x.mail.length : Int) + 1 := wrap_ok (by omega)
  have g5 : decide ((y.mail.length : Int) ≤ (x.mail.length : Int) + 1) = true := by simp; omega
  have g6 : decide (y.mail.length ≤ x.mail.length + 1) = true := by simp; omega
  clear he hx hj e2 e3 hy g1 g2 g3 hm hm1 hm3
  refine C_inline [] Tryz.func7 (fun _ _ => by kernel_rfl) rfl (by kernel_rfl) (by rfl) (by decide) (by rfl) (by rfl) (by rfl) ?_
  simp -dsimp -implicitDefEqProofs [-getElem?_pos, -List.map_append, -List.map_set, List.getElem?_cons_zero, List.getElem?_cons_succ]
  refine call_CC (law_asked) ?_
  simp -dsimp -implicitDefEqProofs [-getElem?_pos, -List.map_append, -List.map_set, List.getElem?_cons_zero, List.getElem?_cons_succ]
  refine call_CC (c1.out) ?_
  simp -dsimp -implicitDefEqProofs [-getElem?_pos, -List.map_append, -List.map_set, List.getElem?_cons_zero, List.getElem?_cons_succ, hm2]
  refine call_CC (ca.out) ?_
  simp -dsimp -implicitDefEqProofs [-getElem?_pos, -List.map_append, -List.map_set, List.getElem?_cons_zero, List.getElem?_cons_succ]
  refine call_CC (d1.out) ?_
  simp -dsimp -implicitDefEqProofs [-getElem?_pos, -List.map_append, -List.map_set, List.getElem?_cons_zero, List.getElem?_cons_succ]
  refine call_CC (d2.out) ?_
  simp -dsimp -implicitDefEqProofs [-getElem?_pos, -List.map_append, -List.map_set, List.getElem?_cons_zero, List.getElem?_cons_succ]
  refine call_CC (s1.out) ?_
  simp -dsimp -implicitDefEqProofs [-getElem?_pos, -List.map_append, -List.map_set, List.getElem?_cons_zero, List.getElem?_cons_succ]
  refine call_CC (s2.out) ?_
  simp -dsimp -implicitDefEqProofs [-getElem?_pos, -List.map_append, -List.map_set, List.getElem?_cons_zero, List.getElem?_cons_succ]
  refine call_CC (s3.out) ?_
  simp -dsimp -implicitDefEqProofs [-getElem?_pos, -List.map_append, -List.map_set, List.getElem?_cons_zero, List.getElem?_cons_succ, hw, g5, g6]
  first | exact ends_bool rfl | exact ends_bool (by simpa using g6) | exact ends_bool (by simpa using g5)
end Go.Proofs.YtncdhkljejgpjaaGreatDoor.E
