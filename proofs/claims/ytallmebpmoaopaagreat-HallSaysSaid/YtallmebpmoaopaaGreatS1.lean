/- S1: Hg: the reference on commands. Hi: the reference on answers and hands. -/
import Derived.Test.YtallmebpmoaopaaGreatSc
import Derived.Test.YtallmebpmoaopaaGreatLi
namespace Go.Proofs.YtallmebpmoaopaaGreat.E
open Go.RowKit Go.Proofs
set_option maxRecDepth 100000
set_option maxHeartbeats 1000000
set_option linter.unusedSimpArgs false
set_option linter.unusedVariables false

theorem all_badH (xs : List Int) : xs.all (within 0 999) = !xs.any S.bad := by
  induction xs with
  | nil => rfl
  | cons x xs ih =>
    rw [List.all_cons, List.any_cons, ih, Bool.not_or]
    congr 1
    simp [S.bad]
    cases h1 : decide (x < 0) <;> cases h2 : decide (999 < x) <;> simp at h1 h2 <;> simp <;> omega

theorem ref_has (k : Int) (h : 1 ≤ k ∧ k ≤ 12) : ∃ s : ByteArray, C Tryz.prog 74 [Int' k] (.at (.string s)) [] ∧ decide (0 ≤ Lib.indexByte s.data.toList 122) = S.uZ k ∧ decide (0 ≤ Lib.indexByte s.data.toList 97) = S.uA k ∧ decide (0 ≤ Lib.indexByte s.data.toList 110) = S.uN k ∧ decide (0 ≤ Lib.indexByte s.data.toList 100) = S.uD k := by
  have hk : k = 1 ∨ k = 2 ∨ k = 3 ∨ k = 4 ∨ k = 5 ∨ k = 6 ∨ k = 7 ∨ k = 8 ∨ k = 9 ∨ k = 10 ∨ k = 11 ∨ k = 12 := by omega
  clear h
  rcases hk with rfl | rfl | rfl | rfl | rfl | rfl | rfl | rfl | rfl | rfl | rfl | rfl
  · exact ⟨⟨#[122]⟩, by (refine C_inline [] Tryz.func74 (fun _ _ => by kernel_rfl) rfl (by kernel_rfl) (by rfl) (by decide) (by rfl) (by rfl) (by rfl) ?_); (simp -dsimp -implicitDefEqProofs [-getElem?_pos, -List.map_append, -List.map_set, List.getElem?_cons_zero, List.getElem?_cons_succ]); exact ⟨⟨_, rfl, Sub.refl _⟩, rfl⟩, by decide, by decide, by decide, by decide⟩
  · exact ⟨⟨#[122]⟩, by (refine C_inline [] Tryz.func74 (fun _ _ => by kernel_rfl) rfl (by kernel_rfl) (by rfl) (by decide) (by rfl) (by rfl) (by rfl) ?_); (simp -dsimp -implicitDefEqProofs [-getElem?_pos, -List.map_append, -List.map_set, List.getElem?_cons_zero, List.getElem?_cons_succ]); exact ⟨⟨_, rfl, Sub.refl _⟩, rfl⟩, by decide, by decide, by decide, by decide⟩
  · exact ⟨⟨#[122]⟩, by (refine C_inline [] Tryz.func74 (fun _ _ => by kernel_rfl) rfl (by kernel_rfl) (by rfl) (by decide) (by rfl) (by rfl) (by rfl) ?_); (simp -dsimp -implicitDefEqProofs [-getElem?_pos, -List.map_append, -List.map_set, List.getElem?_cons_zero, List.getElem?_cons_succ]); exact ⟨⟨_, rfl, Sub.refl _⟩, rfl⟩, by decide, by decide, by decide, by decide⟩
  · exact ⟨⟨#[122]⟩, by (refine C_inline [] Tryz.func74 (fun _ _ => by kernel_rfl) rfl (by kernel_rfl) (by rfl) (by decide) (by rfl) (by rfl) (by rfl) ?_); (simp -dsimp -implicitDefEqProofs [-getElem?_pos, -List.map_append, -List.map_set, List.getElem?_cons_zero, List.getElem?_cons_succ]); exact ⟨⟨_, rfl, Sub.refl _⟩, rfl⟩, by decide, by decide, by decide, by decide⟩
  · exact ⟨⟨#[122, 100]⟩, by (refine C_inline [] Tryz.func74 (fun _ _ => by kernel_rfl) rfl (by kernel_rfl) (by rfl) (by decide) (by rfl) (by rfl) (by rfl) ?_); (simp -dsimp -implicitDefEqProofs [-getElem?_pos, -List.map_append, -List.map_set, List.getElem?_cons_zero, List.getElem?_cons_succ]); exact ⟨⟨_, rfl, Sub.refl _⟩, rfl⟩, by decide, by decide, by decide, by decide⟩
  · exact ⟨⟨#[122, 97, 100]⟩, by (refine C_inline [] Tryz.func74 (fun _ _ => by kernel_rfl) rfl (by kernel_rfl) (by rfl) (by decide) (by rfl) (by rfl) (by rfl) ?_); (simp -dsimp -implicitDefEqProofs [-getElem?_pos, -List.map_append, -List.map_set, List.getElem?_cons_zero, List.getElem?_cons_succ]); exact ⟨⟨_, rfl, Sub.refl _⟩, rfl⟩, by decide, by decide, by decide, by decide⟩
  · exact ⟨⟨#[122, 97, 110]⟩, by (refine C_inline [] Tryz.func74 (fun _ _ => by kernel_rfl) rfl (by kernel_rfl) (by rfl) (by decide) (by rfl) (by rfl) (by rfl) ?_); (simp -dsimp -implicitDefEqProofs [-getElem?_pos, -List.map_append, -List.map_set, List.getElem?_cons_zero, List.getElem?_cons_succ]); exact ⟨⟨_, rfl, Sub.refl _⟩, rfl⟩, by decide, by decide, by decide, by decide⟩
  · exact ⟨⟨#[110]⟩, by (refine C_inline [] Tryz.func74 (fun _ _ => by kernel_rfl) rfl (by kernel_rfl) (by rfl) (by decide) (by rfl) (by rfl) (by rfl) ?_); (simp -dsimp -implicitDefEqProofs [-getElem?_pos, -List.map_append, -List.map_set, List.getElem?_cons_zero, List.getElem?_cons_succ]); exact ⟨⟨_, rfl, Sub.refl _⟩, rfl⟩, by decide, by decide, by decide, by decide⟩
  · exact ⟨⟨#[110]⟩, by (refine C_inline [] Tryz.func74 (fun _ _ => by kernel_rfl) rfl (by kernel_rfl) (by rfl) (by decide) (by rfl) (by rfl) (by rfl) ?_); (simp -dsimp -implicitDefEqProofs [-getElem?_pos, -List.map_append, -List.map_set, List.getElem?_cons_zero, List.getElem?_cons_succ]); exact ⟨⟨_, rfl, Sub.refl _⟩, rfl⟩, by decide, by decide, by decide, by decide⟩
  · exact ⟨⟨#[]⟩, by (refine C_inline [] Tryz.func74 (fun _ _ => by kernel_rfl) rfl (by kernel_rfl) (by rfl) (by decide) (by rfl) (by rfl) (by rfl) ?_); (simp -dsimp -implicitDefEqProofs [-getElem?_pos, -List.map_append, -List.map_set, List.getElem?_cons_zero, List.getElem?_cons_succ]); exact ⟨⟨_, rfl, Sub.refl _⟩, rfl⟩, by decide, by decide, by decide, by decide⟩
  · exact ⟨⟨#[110]⟩, by (refine C_inline [] Tryz.func74 (fun _ _ => by kernel_rfl) rfl (by kernel_rfl) (by rfl) (by decide) (by rfl) (by rfl) (by rfl) ?_); (simp -dsimp -implicitDefEqProofs [-getElem?_pos, -List.map_append, -List.map_set, List.getElem?_cons_zero, List.getElem?_cons_succ]); exact ⟨⟨_, rfl, Sub.refl _⟩, rfl⟩, by decide, by decide, by decide, by decide⟩
  · exact ⟨⟨#[]⟩, by (refine C_inline [] Tryz.func74 (fun _ _ => by kernel_rfl) rfl (by kernel_rfl) (by rfl) (by decide) (by rfl) (by rfl) (by rfl) ?_); (simp -dsimp -implicitDefEqProofs [-getElem?_pos, -List.map_append, -List.map_set, List.getElem?_cons_zero, List.getElem?_cons_succ]); exact ⟨⟨_, rfl, Sub.refl _⟩, rfl⟩, by decide, by decide, by decide, by decide⟩

theorem ref_CheckCmd (c : S.Cmd) : C Tryz.prog 48 [.agg (cmdC false c)] (Int' (S.checkCmd c)) [] := by
  obtain ⟨k, z, n, p, d⟩ := c
  obtain ⟨r, hr⟩ : ∃ r, S.checkCmd ⟨k, z, n, p, d⟩ = r := ⟨_, rfl⟩
  rw [hr]
  unfold S.checkCmd S.misused at hr
  simp only at hr
  replace hr := hid hr
  have hin := ref_in k 1 12
  by_cases h1 : 1 ≤ k ∧ k ≤ 12
  rotate_left
  · have e : (decide (1 ≤ k) && decide (k ≤ 12)) = false := by simp; omega
    rw [e] at hin
    replace hin := hid hin
    obtain rfl : r = 4 := by rw [← hr.out, if_pos (by omega)]
    refine C_inline [] Tryz.func48 (fun _ _ => by kernel_rfl) rfl (by kernel_rfl) (by rfl) (by decide) (by rfl) (by rfl) (by rfl) ?_
    simp -dsimp -implicitDefEqProofs [-getElem?_pos, -List.map_append, -List.map_set, List.getElem?_cons_zero, List.getElem?_cons_succ]
    refine call_CC (hin.out) ?_
    simp -dsimp -implicitDefEqProofs [-getElem?_pos, -List.map_append, -List.map_set, List.getElem?_cons_zero, List.getElem?_cons_succ]
    exact ends_int rfl
  have e : (decide (1 ≤ k) && decide (k ≤ 12)) = true := by simp; omega
  rw [e] at hin
  replace hin := hid hin
  obtain ⟨s, hs, c1, c2, c3, c4⟩ := ref_has k h1
  have hr2 := hr.out
  rw [if_neg (by omega)] at hr2
  replace hr2 := hid hr2
  clear hr h1 e
  have d1 := strings_Contains s 122
  have d2 := strings_Contains s 97
  have d3 := strings_Contains s 110
  have d4 := strings_Contains s 100
  rw [c1] at d1
  rw [c2] at d2
  rw [c3] at d3
  rw [c4] at d4
  clear c1 c2 c3 c4
  replace d1 := hid d1
  replace d2 := hid d2
  replace d3 := hid d3
  replace d4 := hid d4
  replace hs := hid hs
  generalize S.uZ k = b1 at *
  generalize S.uA k = b2 at *
  generalize S.uN k = b3 at *
  generalize S.uD k = b4 at *
  refine C_inline [] Tryz.func48 (fun _ _ => by kernel_rfl) rfl (by kernel_rfl) (by rfl) (by decide) (by rfl) (by rfl) (by rfl) ?_
  simp -dsimp -implicitDefEqProofs [-getElem?_pos, -List.map_append, -List.map_set, List.getElem?_cons_zero, List.getElem?_cons_succ]
  refine call_CC (hin.out) ?_
  simp -dsimp -implicitDefEqProofs [-getElem?_pos, -List.map_append, -List.map_set, List.getElem?_cons_zero, List.getElem?_cons_succ]
  refine call_CC (hs.out) ?_
  simp -dsimp -implicitDefEqProofs [-getElem?_pos, -List.map_append, -List.map_set, List.getElem?_cons_zero, List.getElem?_cons_succ]
  refine loop_unroll 4 ?_
  simp -dsimp -implicitDefEqProofs [-getElem?_pos, -List.map_append, -List.map_set, List.getElem?_cons_zero, List.getElem?_cons_succ]
  refine guardC_C (d1.out) (by first | rfl | (simp -dsimp -implicitDefEqProofs; done)) (by first | exact Or.inr (by rfl) | exact Or.inl (by rfl)) ?_
  simp -dsimp -implicitDefEqProofs [-getElem?_pos, -List.map_append, -List.map_set, List.getElem?_cons_zero, List.getElem?_cons_succ]
  refine brA_split (fun g1 => ?_) (fun g1 => ?_)
  · obtain rfl : r = 4 := by rw [← hr2.out, if_pos (by simp at g1; simp [g1])]
    simp -dsimp -implicitDefEqProofs [-getElem?_pos, -List.map_append, -List.map_set, List.getElem?_cons_zero, List.getElem?_cons_succ]
    exact ends_int rfl
  simp -dsimp -implicitDefEqProofs [-getElem?_pos, -List.map_append, -List.map_set, List.getElem?_cons_zero, List.getElem?_cons_succ]
  refine guardC_C (d2.out) (by first | rfl | (simp -dsimp -implicitDefEqProofs; done)) (by first | exact Or.inr (by rfl) | exact Or.inl (by rfl)) ?_
  simp -dsimp -implicitDefEqProofs [-getElem?_pos, -List.map_append, -List.map_set, List.getElem?_cons_zero, List.getElem?_cons_succ]
  refine brA_split (fun g2 => ?_) (fun g2 => ?_)
  · obtain rfl : r = 4 := by rw [← hr2.out, if_pos (by simp at g2; simp [g2])]
    simp -dsimp -implicitDefEqProofs [-getElem?_pos, -List.map_append, -List.map_set, List.getElem?_cons_zero, List.getElem?_cons_succ]
    exact ends_int rfl
  simp -dsimp -implicitDefEqProofs [-getElem?_pos, -List.map_append, -List.map_set, List.getElem?_cons_zero, List.getElem?_cons_succ]
  refine guardC_C (d3.out) (by first | rfl | (simp -dsimp -implicitDefEqProofs; done)) (by first | exact Or.inr (by rfl) | exact Or.inl (by rfl)) ?_
  simp -dsimp -implicitDefEqProofs [-getElem?_pos, -List.map_append, -List.map_set, List.getElem?_cons_zero, List.getElem?_cons_succ]
  refine brA_split (fun g3 => ?_) (fun g3 => ?_)
  · obtain rfl : r = 4 := by rw [← hr2.out, if_pos (by simp at g3; simp [g3])]
    simp -dsimp -implicitDefEqProofs [-getElem?_pos, -List.map_append, -List.map_set, List.getElem?_cons_zero, List.getElem?_cons_succ]
    exact ends_int rfl
  simp -dsimp -implicitDefEqProofs [-getElem?_pos, -List.map_append, -List.map_set, List.getElem?_cons_zero, List.getElem?_cons_succ]
  refine call_CC (d4.out) ?_
  simp -dsimp -implicitDefEqProofs [-getElem?_pos, -List.map_append, -List.map_set, List.getElem?_cons_zero, List.getElem?_cons_succ]
  have e4 : decide (0 < d.length) = !decide (d = []) := by cases d <;> simp
  have hr3 := hr2.out
  rw [e4] at hr3
  replace hr3 := hid hr3
  clear hr2 e4
  refine brA_split (fun g4 => ?_) (fun g4 => ?_)
  · obtain rfl : r = 4 := by
      rw [← hr3.out, if_pos]
      revert g4
      cases b4 <;> cases decide (d = []) <;> simp
    simp -dsimp -implicitDefEqProofs [-getElem?_pos, -List.map_append, -List.map_set, List.getElem?_cons_zero, List.getElem?_cons_succ]
    exact ends_int rfl
  have hr4 := hr3.out
  rw [if_neg (by
    have x4 : (!(b4 == !decide (d = []))) = false := by revert g4; cases b4 <;> cases decide (d = []) <;> simp
    rw [x4]
    revert g1 g2 g3
    cases b1 <;> cases b2 <;> cases b3 <;> cases decide (z = 0) <;> cases decide (n = 0) <;> cases decide (p = 0) <;> simp)] at hr4
  replace hr4 := hid hr4
  clear hr3 g1 g2 g3 g4
  simp -dsimp -implicitDefEqProofs [-getElem?_pos, -List.map_append, -List.map_set, List.getElem?_cons_zero, List.getElem?_cons_succ]
  refine brA_split (fun g5 => ?_) (fun g5 => ?_)
  · obtain rfl : r = 2 := by rw [← hr4.out, if_pos (by simp at g5; omega)]
    simp -dsimp -implicitDefEqProofs [-getElem?_pos, -List.map_append, -List.map_set, List.getElem?_cons_zero, List.getElem?_cons_succ]
    exact ends_int rfl
  have hr5 := hr4.out
  rw [if_neg (by simp at g5; omega)] at hr5
  replace hr5 := hid hr5
  clear hr4
  have hl : d.length ≤ 8 := by simp at g5; omega
  clear g5
  have a1 := ref_all [z, p, n] 0 999 (by simp)
  have a2 := ref_all d 0 999 (by omega)
  rw [all_badH] at a1 a2
  have hb : (z :: p :: n :: d).any S.bad = ([z, p, n].any S.bad || d.any S.bad) := by simp [Bool.or_assoc]
  rw [hb] at hr5
  clear hb
  generalize [z, p, n].any S.bad = q1 at *
  generalize d.any S.bad = q2 at *
  replace hr5 := hid hr5
  replace a1 := hid a1
  replace a2 := hid a2
  simp -dsimp -implicitDefEqProofs [-getElem?_pos, -List.map_append, -List.map_set, List.getElem?_cons_zero, List.getElem?_cons_succ]
  refine call_CC (a1.out) ?_
  simp -dsimp -implicitDefEqProofs [-getElem?_pos, -List.map_append, -List.map_set, List.getElem?_cons_zero, List.getElem?_cons_succ]
  refine guardC_C (a2.out) (by first | rfl | (simp -dsimp -implicitDefEqProofs; done)) (by first | exact Or.inr (by rfl) | exact Or.inl (by rfl)) ?_
  simp -dsimp -implicitDefEqProofs [-getElem?_pos, -List.map_append, -List.map_set, List.getElem?_cons_zero, List.getElem?_cons_succ]
  cases q1 <;> cases q2
  · simp -dsimp -implicitDefEqProofs [-getElem?_pos, -List.map_append, -List.map_set, List.getElem?_cons_zero, List.getElem?_cons_succ]
    exact ends_int (by rw [← hr5.out]; rfl)
  · simp -dsimp -implicitDefEqProofs [-getElem?_pos, -List.map_append, -List.map_set, List.getElem?_cons_zero, List.getElem?_cons_succ]
    exact ends_int (by rw [← hr5.out]; rfl)
  · simp -dsimp -implicitDefEqProofs [-getElem?_pos, -List.map_append, -List.map_set, List.getElem?_cons_zero, List.getElem?_cons_succ]
    exact ends_int (by rw [← hr5.out]; rfl)
  · simp -dsimp -implicitDefEqProofs [-getElem?_pos, -List.map_append, -List.map_set, List.getElem?_cons_zero, List.getElem?_cons_succ]
    exact ends_int (by rw [← hr5.out]; rfl)

end Go.Proofs.YtallmebpmoaopaaGreat.E
namespace Go.Proofs.YtallmebpmoaopaaGreat.E
open Go.RowKit Go.Proofs
set_option maxRecDepth 100000
set_option maxHeartbeats 1000000
set_option linter.unusedSimpArgs false
set_option linter.unusedVariables false

theorem ref_CheckAnswer (a : S.Answer) : C Tryz.prog 28 [.agg (ansC false a)] (Int' (S.checkAnswer a)) [] := by
  obtain ⟨e, p, xs⟩ := a
  obtain ⟨r, hr⟩ : ∃ r, S.checkAnswer ⟨e, p, xs⟩ = r := ⟨_, rfl⟩
  rw [hr]
  unfold S.checkAnswer at hr
  simp only at hr
  have i1 := ref_in e 0 9
  have i2 := ref_in p 0 7
  obtain ⟨b1, hb1⟩ : ∃ b, (decide (0 ≤ e) && decide (e ≤ 9)) = b := ⟨_, rfl⟩
  obtain ⟨b2, hb2⟩ : ∃ b, (decide (0 ≤ p) && decide (p ≤ 7)) = b := ⟨_, rfl⟩
  rw [hb1] at i1
  rw [hb2] at i2
  have hc1 : (e < 0 ∨ 9 < e ∨ p < 0 ∨ 8 ≤ p) ↔ ¬ (b1 = true ∧ b2 = true) := by
    rw [← hb1, ← hb2]; simp; omega
  have hpos : b1 = true ∧ b2 = true → 0 ≤ e ∧ 0 ≤ p := by
    rw [← hb1, ← hb2]; simp; omega
  clear hb1 hb2
  replace hpos := hid hpos
  replace hr := hid hr
  replace i1 := hid i1
  replace i2 := hid i2
  refine C_inline [] Tryz.func28 (fun _ _ => by kernel_rfl) rfl (by kernel_rfl) (by rfl) (by decide) (by rfl) (by rfl) (by rfl) ?_
  simp -dsimp -implicitDefEqProofs [-getElem?_pos, -List.map_append, -List.map_set, List.getElem?_cons_zero, List.getElem?_cons_succ]
  refine call_CC (i1.out) ?_
  simp -dsimp -implicitDefEqProofs [-getElem?_pos, -List.map_append, -List.map_set, List.getElem?_cons_zero, List.getElem?_cons_succ]
  refine guardC_C (i2.out) (by first | rfl | (simp -dsimp -implicitDefEqProofs; done)) (by first | exact Or.inr (by rfl) | exact Or.inl (by rfl)) ?_
  simp -dsimp -implicitDefEqProofs [-getElem?_pos, -List.map_append, -List.map_set, List.getElem?_cons_zero, List.getElem?_cons_succ]
  have hr2 := hr.out
  clear hr
  cases b1 <;> cases b2
  rotate_right
  · rw [if_neg (by rw [hc1]; simp)] at hr2
    replace hr2 := hid hr2
    clear hc1
    simp -dsimp -implicitDefEqProofs [-getElem?_pos, -List.map_append, -List.map_set, List.getElem?_cons_zero, List.getElem?_cons_succ]
    refine brA_split (fun h2 => ?_) (fun h2 => ?_)
    · simp -dsimp -implicitDefEqProofs [-getElem?_pos, -List.map_append, -List.map_set, List.getElem?_cons_zero, List.getElem?_cons_succ]
      exact ends_int (by rw [← hr2.out, if_pos (by simp at h2; omega)])
    have hr3 := hr2.out
    rw [if_neg (by simp at h2; omega)] at hr3
    replace hr3 := hid hr3
    clear hr2
    have hal := ref_all xs 0 999 (by simp at h2; omega)
    rw [all_badH] at hal
    generalize xs.any S.bad = q at *
    replace hal := hid hal
    simp -dsimp -implicitDefEqProofs [-getElem?_pos, -List.map_append, -List.map_set, List.getElem?_cons_zero, List.getElem?_cons_succ]
    refine call_CC (hal.out) ?_
    cases q
    · simp -dsimp -implicitDefEqProofs [-getElem?_pos, -List.map_append, -List.map_set, List.getElem?_cons_zero, List.getElem?_cons_succ]
      have hr4 := hr3.out
      rw [if_neg (by simp)] at hr4
      replace hr4 := hid hr4
      clear hr3
      obtain ⟨p1, p2⟩ := hpos.out ⟨rfl, rfl⟩
      refine brA_split (fun h4 => ?_) (fun h4 => ?_)
      · simp -dsimp -implicitDefEqProofs [-getElem?_pos, -List.map_append, -List.map_set, List.getElem?_cons_zero, List.getElem?_cons_succ]
        exact ends_int (by rw [← hr4.out, if_pos (by simp at h4; omega)])
      · simp -dsimp -implicitDefEqProofs [-getElem?_pos, -List.map_append, -List.map_set, List.getElem?_cons_zero, List.getElem?_cons_succ]
        exact ends_int (by
          rw [← hr4.out, if_neg]
          intro hh
          have : (decide (0 < e) && (decide (0 < p) || decide (0 < xs.length))) = true := by
            simp only [Bool.and_eq_true, Bool.or_eq_true, decide_eq_true_eq]; omega
          rw [this] at h4; cases h4)
    · simp -dsimp -implicitDefEqProofs [-getElem?_pos, -List.map_append, -List.map_set, List.getElem?_cons_zero, List.getElem?_cons_succ]
      exact ends_int (by rw [← hr3.out]; rfl)
  all_goals
    rw [if_pos (by rw [hc1]; simp)] at hr2
    subst hr2
    simp -dsimp -implicitDefEqProofs [-getElem?_pos, -List.map_append, -List.map_set, List.getElem?_cons_zero, List.getElem?_cons_succ]
    exact ends_int rfl

theorem own_outF {h : Heap} {i n : Nat} {ty : TypeId} {s : Nat} {rows rows' : List (List AV)} (hi : h i = some ⟨ty, s, rows⟩) (hn : n = rows.length) (hm : rows.mapM (fun (r : List AV) => r.mapM (leafP h [] 2)) = some rows') :
    outLeaf h [] (.own i 0 n) = some (.lst (rows.all fun r => r.all freshCell) s rows') := by
  subst hn
  have e2 : leafP h [] 3 (.own i 0 rows.length) = some (.lst false s rows') := by
    show (match h i with | some e => if 0 + rows.length ≤ e.rows.length then (((e.rows.drop 0).take rows.length).mapM fun (r : List AV) => r.mapM (leafP h [] 2)).map (AV.lst false e.s ·) else none | none => none) = _
    rw [hi]
    simp only [List.drop_zero]
    rw [if_pos (by simp), List.take_of_length_le (by simp), hm]
    rfl
  show (match h i, leafP h [] 3 (.own i 0 rows.length) with | some e, some (.lst _ s rows) => some (AV.lst (e.rows.all fun r => r.all freshCell) s rows) | _, _ => none) = _
  rw [hi, e2]
theorem OutL.answersF {h : Heap} {i n : Nat} {e : HE} {xs : List S.Answer} {cs ts : List AV} (hi : h i = some e) (he : e.s = 3 ∧ e.rows = xs.map (ansC false)) (hn : n = xs.length) (g : OutL h cs ts) : OutL h (.own i 0 n :: cs) (.lst false 3 (xs.map (ansC false)) :: ts) := by
  have hi' : h i = some ⟨e.ty, 3, xs.map (ansC false)⟩ := by rw [hi, ← he.1, ← he.2]
  exact .cons (own_outF hi' (by simpa using hn) (mapM_map (f := ansC false) (g := fun (r : List AV) => r.mapM (leafP h [] 2)) (e := ansC false) (fun _ => rfl) xs)) (.lst (fun h => by cases h) (SubR.refl _)) g

end Go.Proofs.YtallmebpmoaopaaGreat.E
