/- S1: Hf: law.HandTurns. Sc: strings.Contains of one byte (turned from the shelf's templates strings.Contains, strings.Index, stringslite.Index, stringslite.IndexByte), and as a contract of the engine. Hg: the reference on commands. Hi: the reference on answers and hands. -/
import Derived.Test.YtadmfokicjjglaaGreatDoorD4
import Derived.Lib.Strings
import Derived.Lib.Slices
import Derived.Lib.Walk
import Derived.Lib.Bytealg
import Derived.Test.YtadmfokicjjglaaGreatDoorL1
namespace Go.Proofs.YtadmfokicjjglaaGreatDoor.E
open Go.RowKit Go.Proofs
set_option maxRecDepth 100000
set_option maxHeartbeats 2000000
set_option linter.unusedSimpArgs false
end Go.Proofs.YtadmfokicjjglaaGreatDoor.E
namespace Go.Proofs.YtadmfokicjjglaaGreatDoor.Sc
open Go.Proofs
set_option linter.unusedSimpArgs false
set_option linter.unusedVariables false
set_option maxHeartbeats 1000000 in
set_option maxRecDepth 100000 in
theorem indexByte_ok (s : ByteArray) (c : Int) (w : World) :
    Calls Tryz.prog 176 #[.string s, .int .u8 c] w fun e w' => e = .returned (.int .i64 (Lib.indexByte s.data.toList c.toNat.toUInt8)) ∧ w' = w := by
  go_enter Tryz.func176, Tryz.ntmps176
  go_wp2
  rw [run_callFunc_extern Tryz.func205 (by kernel_rfl) (by kernel_rfl) (by kernel_rfl) (e := Extern.BytealgIndexByte.indexByte) (by kernel_rfl), Lib.run_indexByteString]
  simp only [Result.andThen]
  rw [Oper.upon_value]
  go_wp2
  go_ret
  exact ⟨rfl, rfl⟩
set_option maxHeartbeats 2000000 in
set_option maxRecDepth 100000 in
theorem index_lite (s : ByteArray) (c : UInt8) (w : World) :
    Calls Tryz.prog 170 #[.string s, .string ⟨#[c]⟩] w fun e w' => e = .returned (.int .i64 (Lib.indexByte s.data.toList c)) ∧ w' = w := by
  go_enter Tryz.func170, Tryz.ntmps170
  go_wp2_with (go_at_call 176; refine (indexByte_ok _ _ _).mono ?_; rintro e w' ⟨rfl, rfl⟩)
  · have h : ([c] == s.toList) = true := by assumption
    go_ret
    refine ⟨?_, rfl⟩
    have e : s.data.toList = [c] := by rw [← Lib.toList_data]; exact (beq_iff_eq.1 h).symm
    rw [e]
    simp [Lib.indexByte]
  · go_ret
    exact ⟨rfl, rfl⟩
set_option maxHeartbeats 1000000 in
theorem index_one (s : ByteArray) (c : UInt8) (w : World) :
    Calls Tryz.prog 141 #[.string s, .string ⟨#[c]⟩] w fun e w' => e = .returned (.int .i64 (Lib.indexByte s.data.toList c)) ∧ w' = w := by
  go_enter Tryz.func141, Tryz.ntmps141
  go_wp2_with (go_at_call 170; refine (index_lite _ _ _).mono ?_; rintro e w' ⟨rfl, rfl⟩)
  go_ret
  exact ⟨rfl, rfl⟩
set_option maxHeartbeats 1000000 in
theorem contains_one (s : ByteArray) (c : UInt8) (w : World) :
    Calls Tryz.prog 118 #[.string s, .string ⟨#[c]⟩] w fun e w' => e = .returned (.bool (decide (0 ≤ Lib.indexByte s.data.toList c))) ∧ w' = w := by
  go_enter Tryz.func118, Tryz.ntmps118
  go_wp2_with (go_at_call 141; refine (index_one _ _ _).mono ?_; rintro e w' ⟨rfl, rfl⟩)
  go_ret
  exact ⟨rfl, rfl⟩
end Go.Proofs.YtadmfokicjjglaaGreatDoor.Sc
namespace Go.Proofs.YtadmfokicjjglaaGreatDoor.E
open Go.RowKit Go.Proofs
set_option linter.unusedSimpArgs false
set_option linter.unusedVariables false
theorem strings_Contains (s : ByteArray) (c : UInt8) : C Tryz.prog 118 [.at (.string s), .at (.string ⟨#[c]⟩)] (Bool' (decide (0 ≤ Lib.indexByte s.data.toList c))) [] := by
  refine ⟨fun _ _ => by kernel_rfl, rfl, rfl, fun F w vs hF hG hv => ?_⟩
  have H0 : HRel w.heap.size w noPlace F (heapOf []) 0 w := ⟨Below.refl _ _, ⟨Nat.le_refl _, hG⟩, hF, fun _ _ => rfl, (fun i e he => by simp [heapOf] at he), (fun i j e e' b c s c' s' h1 => by simp [heapOf] at h1)⟩
  obtain ⟨h1, h2⟩ := hv
  match vs, h1, h2 with
  | [u, v], _, h2 =>
    have e1 := V_at (h2 0 _ _ rfl rfl)
    have e2 := V_at (h2 1 _ _ rfl rfl)
    subst e1 e2
    refine (Sc.contains_one s c w).mono ?_
    rintro e w' ⟨rfl, rfl⟩
    exact ⟨_, noPlace, F, rfl, H0, .at rfl, fun b hb => .inl hb⟩
end Go.Proofs.YtadmfokicjjglaaGreatDoor.E
namespace Go.Proofs.YtadmfokicjjglaaGreatDoor.E
open Go.RowKit Go.Proofs
set_option maxRecDepth 100000
set_option maxHeartbeats 1000000
set_option linter.unusedSimpArgs false
set_option linter.unusedVariables false
theorem all_badH (xs : List Int) : xs.all (within 0 999) = !xs.any S.bad := by
  induction xs with
  | nil => rfl
  | cons x xs ih =>
    rw [List.all_cons, List.any_cons, ih, Bool.not_or]
    congr 1
    simp [S.bad]
    cases h1 : decide (x < 0) <;> cases h2 : decide (999 < x) <;> simp at h1 h2 <;> simp <;> omega
theorem ref_has (k : Int) (h : 1 ≤ k ∧ k ≤ 12) : ∃ s : ByteArray, C Tryz.prog 117 [Int' k] (.at (.string s)) [] ∧ decide (0 ≤ Lib.indexByte s.data.toList 122) = S.uZ k ∧ decide (0 ≤ Lib.indexByte s.data.toList 97) = S.uA k ∧ decide (0 ≤ Lib.indexByte s.data.toList 110) = S.uN k ∧ decide (0 ≤ Lib.indexByte s.data.toList 100) = S.uD k := by
  have hk : k = 1 ∨ k = 2 ∨ k = 3 ∨ k = 4 ∨ k = 5 ∨ k = 6 ∨ k = 7 ∨ k = 8 ∨ k = 9 ∨ k = 10 ∨ k = 11 ∨ k = 12 := by omega
  clear h
  rcases hk with rfl | rfl | rfl | rfl | rfl | rfl | rfl | rfl | rfl | rfl | rfl | rfl
  · exact ⟨⟨#[122]⟩, by (refine C_inline [] Tryz.func117 (fun _ _ => by kernel_rfl) rfl (by kernel_rfl) (by rfl) (by decide) (by rfl) (by rfl) (by rfl) ?_); (simp -dsimp -implicitDefEqProofs [-getElem?_pos, -List.map_append, -List.map_set, List.getElem?_cons_zero, List.getElem?_cons_succ]); exact ⟨⟨_, rfl, Sub.refl _⟩, rfl⟩, by decide, by decide, by decide, by decide⟩
  · exact ⟨⟨#[122]⟩, by (refine C_inline [] Tryz.func117 (fun _ _ => by kernel_rfl) rfl (by kernel_rfl) (by rfl) (by decide) (by rfl) (by rfl) (by rfl) ?_); (simp -dsimp -implicitDefEqProofs [-getElem?_pos, -List.map_append, -List.map_set, List.getElem?_cons_zero, List.getElem?_cons_succ]); exact ⟨⟨_, rfl, Sub.refl _⟩, rfl⟩, by decide, by decide, by decide, by decide⟩
  · exact ⟨⟨#[122]⟩, by (refine C_inline [] Tryz.func117 (fun _ _ => by kernel_rfl) rfl (by kernel_rfl) (by rfl) (by decide) (by rfl) (by rfl) (by rfl) ?_); (simp -dsimp -implicitDefEqProofs [-getElem?_pos, -List.map_append, -List.map_set, List.getElem?_cons_zero, List.getElem?_cons_succ]); exact ⟨⟨_, rfl, Sub.refl _⟩, rfl⟩, by decide, by decide, by decide, by decide⟩
  · exact ⟨⟨#[122]⟩, by (refine C_inline [] Tryz.func117 (fun _ _ => by kernel_rfl) rfl (by kernel_rfl) (by rfl) (by decide) (by rfl) (by rfl) (by rfl) ?_); (simp -dsimp -implicitDefEqProofs [-getElem?_pos, -List.map_append, -List.map_set, List.getElem?_cons_zero, List.getElem?_cons_succ]); exact ⟨⟨_, rfl, Sub.refl _⟩, rfl⟩, by decide, by decide, by decide, by decide⟩
  · exact ⟨⟨#[122, 100]⟩, by (refine C_inline [] Tryz.func117 (fun _ _ => by kernel_rfl) rfl (by kernel_rfl) (by rfl) (by decide) (by rfl) (by rfl) (by rfl) ?_); (simp -dsimp -implicitDefEqProofs [-getElem?_pos, -List.map_append, -List.map_set, List.getElem?_cons_zero, List.getElem?_cons_succ]); exact ⟨⟨_, rfl, Sub.refl _⟩, rfl⟩, by decide, by decide, by decide, by decide⟩
  · exact ⟨⟨#[122, 97, 100]⟩, by (refine C_inline [] Tryz.func117 (fun _ _ => by kernel_rfl) rfl (by kernel_rfl) (by rfl) (by decide) (by rfl) (by rfl) (by rfl) ?_); (simp -dsimp -implicitDefEqProofs [-getElem?_pos, -List.map_append, -List.map_set, List.getElem?_cons_zero, List.getElem?_cons_succ]); exact ⟨⟨_, rfl, Sub.refl _⟩, rfl⟩, by decide, by decide, by decide, by decide⟩
  · exact ⟨⟨#[122, 97, 110]⟩, by (refine C_inline [] Tryz.func117 (fun _ _ => by kernel_rfl) rfl (by kernel_rfl) (by rfl) (by decide) (by rfl) (by rfl) (by rfl) ?_); (simp -dsimp -implicitDefEqProofs [-getElem?_pos, -List.map_append, -List.map_set, List.getElem?_cons_zero, List.getElem?_cons_succ]); exact ⟨⟨_, rfl, Sub.refl _⟩, rfl⟩, by decide, by decide, by decide, by decide⟩
  · exact ⟨⟨#[110]⟩, by (refine C_inline [] Tryz.func117 (fun _ _ => by kernel_rfl) rfl (by kernel_rfl) (by rfl) (by decide) (by rfl) (by rfl) (by rfl) ?_); (simp -dsimp -implicitDefEqProofs [-getElem?_pos, -List.map_append, -List.map_set, List.getElem?_cons_zero, List.getElem?_cons_succ]); exact ⟨⟨_, rfl, Sub.refl _⟩, rfl⟩, by decide, by decide, by decide, by decide⟩
  · exact ⟨⟨#[110]⟩, by (refine C_inline [] Tryz.func117 (fun _ _ => by kernel_rfl) rfl (by kernel_rfl) (by rfl) (by decide) (by rfl) (by rfl) (by rfl) ?_); (simp -dsimp -implicitDefEqProofs [-getElem?_pos, -List.map_append, -List.map_set, List.getElem?_cons_zero, List.getElem?_cons_succ]); exact ⟨⟨_, rfl, Sub.refl _⟩, rfl⟩, by decide, by decide, by decide, by decide⟩
  · exact ⟨⟨#[]⟩, by (refine C_inline [] Tryz.func117 (fun _ _ => by kernel_rfl) rfl (by kernel_rfl) (by rfl) (by decide) (by rfl) (by rfl) (by rfl) ?_); (simp -dsimp -implicitDefEqProofs [-getElem?_pos, -List.map_append, -List.map_set, List.getElem?_cons_zero, List.getElem?_cons_succ]); exact ⟨⟨_, rfl, Sub.refl _⟩, rfl⟩, by decide, by decide, by decide, by decide⟩
  · exact ⟨⟨#[110]⟩, by (refine C_inline [] Tryz.func117 (fun _ _ => by kernel_rfl) rfl (by kernel_rfl) (by rfl) (by decide) (by rfl) (by rfl) (by rfl) ?_); (simp -dsimp -implicitDefEqProofs [-getElem?_pos, -List.map_append, -List.map_set, List.getElem?_cons_zero, List.getElem?_cons_succ]); exact ⟨⟨_, rfl, Sub.refl _⟩, rfl⟩, by decide, by decide, by decide, by decide⟩
  · exact ⟨⟨#[]⟩, by (refine C_inline [] Tryz.func117 (fun _ _ => by kernel_rfl) rfl (by kernel_rfl) (by rfl) (by decide) (by rfl) (by rfl) (by rfl) ?_); (simp -dsimp -implicitDefEqProofs [-getElem?_pos, -List.map_append, -List.map_set, List.getElem?_cons_zero, List.getElem?_cons_succ]); exact ⟨⟨_, rfl, Sub.refl _⟩, rfl⟩, by decide, by decide, by decide, by decide⟩
theorem ref_CheckCmd (c : S.Cmd) : C Tryz.prog 83 [.agg (cmdC false c)] (Int' (S.checkCmd c)) [] := by
  obtain ⟨k, z, n, p, d⟩ := c
  obtain ⟨r, hr⟩ : ∃ r, S.checkCmd ⟨k, z, n, p, d⟩ = r := ⟨_, rfl⟩
  rw [hr]
  unfold S.checkCmd S.misused at hr
  simp only at hr
  replace hr := hid hr
  have hin := ref_in k 1 12
  by_cases h1 : 1 ≤ k ∧ k ≤ 12
  rotate_left
  · have e : (decide (1 ≤ k) && decide (k ≤ 12)) = false := by simp; omega
    rw [e] at hin
    replace hin := hid hin
    obtain rfl : r = 4 := by rw [← hr.out, if_pos (by omega)]
    refine C_inline [] Tryz.func83 (fun _ _ => by kernel_rfl) rfl (by kernel_rfl) (by rfl) (by decide) (by rfl) (by rfl) (by rfl) ?_
    simp -dsimp -implicitDefEqProofs [-getElem?_pos, -List.map_append, -List.map_set, List.getElem?_cons_zero, List.getElem?_cons_succ]
    refine call_CC (hin.out) ?_
    simp -dsimp -implicitDefEqProofs [-getElem?_pos, -List.map_append, -List.map_set, List.getElem?_cons_zero, List.getElem?_cons_succ]
    exact ends_int rfl
  have e : (decide (1 ≤ k) && decide (k ≤ 12)) = true := by simp; omega
  rw [e] at hin
  replace hin := hid hin
  obtain ⟨s, hs, c1, c2, c3, c4⟩ := ref_has k h1
  have hr2 := hr.out
  rw [if_neg (by omega)] at hr2
  replace hr2 := hid hr2
  clear hr h1 e
  have d1 := strings_Contains s 122
  have d2 := strings_Contains s 97
  have d3 := strings_Contains s 110
  have d4 := strings_Contains s 100
  rw [c1] at d1
  rw [c2] at d2
  rw [c3] at d3
  rw [c4] at d4
  clear c1 c2 c3 c4
  replace d1 := hid d1
  replace d2 := hid d2
  replace d3 := hid d3
  replace d4 := hid d4
  replace hs := hid hs
  generalize S.uZ k = b1 at *
  generalize S.uA k = b2 at *
  generalize S.uN k = b3 at *
  generalize S.uD k = b4 at *
  refine C_inline [] Tryz.func83 (fun _ _ => by kernel_rfl) rfl (by kernel_rfl) (by rfl) (by decide) (by rfl) (by rfl) (by rfl) ?_
  simp -dsimp -implicitDefEqProofs [-getElem?_pos, -List.map_append, -List.map_set, List.getElem?_cons_zero, List.getElem?_cons_succ]
  refine call_CC (hin.out) ?_
  simp -dsimp -implicitDefEqProofs [-getElem?_pos, -List.map_append, -List.map_set, List.getElem?_cons_zero, List.getElem?_cons_succ]
  refine call_CC (hs.out) ?_
  simp -dsimp -implicitDefEqProofs [-getElem?_pos, -List.map_append, -List.map_set, List.getElem?_cons_zero, List.getElem?_cons_succ]
  refine loop_unroll 4 ?_
  simp -dsimp -implicitDefEqProofs [-getElem?_pos, -List.map_append, -List.map_set, List.getElem?_cons_zero, List.getElem?_cons_succ]
  refine guardC_C (d1.out) (by first | rfl | (simp -dsimp -implicitDefEqProofs; done)) (by first | exact Or.inr (by rfl) | exact Or.inl (by rfl)) ?_
  simp -dsimp -implicitDefEqProofs [-getElem?_pos, -List.map_append, -List.map_set, List.getElem?_cons_zero, List.getElem?_cons_succ]
  refine brA_split (fun g1 => ?_) (fun g1 => ?_)
  · obtain rfl : r = 4 := by rw [← hr2.out, if_pos (by simp at g1; simp [g1])]
    simp -dsimp -implicitDefEqProofs [-getElem?_pos, -List.map_append, -List.map_set, List.getElem?_cons_zero, List.getElem?_cons_succ]
    exact ends_int rfl
  simp -dsimp -implicitDefEqProofs [-getElem?_pos, -List.map_append, -List.map_set, List.getElem?_cons_zero, List.getElem?_cons_succ]
  refine guardC_C (d2.out) (by first | rfl | (simp -dsimp -implicitDefEqProofs; done)) (by first | exact Or.inr (by rfl) | exact Or.inl (by rfl)) ?_
  simp -dsimp -implicitDefEqProofs [-getElem?_pos, -List.map_append, -List.map_set, List.getElem?_cons_zero, List.getElem?_cons_succ]
  refine brA_split (fun g2 => ?_) (fun g2 => ?_)
  · obtain rfl : r = 4 := by rw [← hr2.out, if_pos (by simp at g2; simp [g2])]
    simp -dsimp -implicitDefEqProofs [-getElem?_pos, -List.map_append, -List.map_set, List.getElem?_cons_zero, List.getElem?_cons_succ]
    exact ends_int rfl
  simp -dsimp -implicitDefEqProofs [-getElem?_pos, -List.map_append, -List.map_set, List.getElem?_cons_zero, List.getElem?_cons_succ]
  refine guardC_C (d3.out) (by first | rfl | (simp -dsimp -implicitDefEqProofs; done)) (by first | exact Or.inr (by rfl) | exact Or.inl (by rfl)) ?_
  simp -dsimp -implicitDefEqProofs [-getElem?_pos, -List.map_append, -List.map_set, List.getElem?_cons_zero, List.getElem?_cons_succ]
  refine brA_split (fun g3 => ?_) (fun g3 => ?_)
  · obtain rfl : r = 4 := by rw [← hr2.out, if_pos (by simp at g3; simp [g3])]
    simp -dsimp -implicitDefEqProofs [-getElem?_pos, -List.map_append, -List.map_set, List.getElem?_cons_zero, List.getElem?_cons_succ]
    exact ends_int rfl
  simp -dsimp -implicitDefEqProofs [-getElem?_pos, -List.map_append, -List.map_set, List.getElem?_cons_zero, List.getElem?_cons_succ]
  refine call_CC (d4.out) ?_
  simp -dsimp -implicitDefEqProofs [-getElem?_pos, -List.map_append, -List.map_set, List.getElem?_cons_zero, List.getElem?_cons_succ]
  have e4 : decide (0 < d.length) = !decide (d = []) := by cases d <;> simp
  have hr3 := hr2.out
  rw [e4] at hr3
  replace hr3 := hid hr3
  clear hr2 e4
  refine brA_split (fun g4 => ?_) (fun g4 => ?_)
  · obtain rfl : r = 4 := by
      rw [← hr3.out, if_pos]
      revert g4
      cases b4 <;> cases decide (d = []) <;> simp
    simp -dsimp -implicitDefEqProofs [-getElem?_pos, -List.map_append, -List.map_set, List.getElem?_cons_zero, List.getElem?_cons_succ]
    exact ends_int rfl
  have hr4 := hr3.out
  rw [if_neg (by
    have x4 : (!(b4 == !decide (d = []))) = false := by revert g4; cases b4 <;> cases decide (d = []) <;> simp
    rw [x4]
    revert g1 g2 g3
    cases b1 <;> cases b2 <;> cases b3 <;> cases decide (z = 0) <;> cases decide (n = 0) <;> cases decide (p = 0) <;> simp)] at hr4
  replace hr4 := hid hr4
  clear hr3 g1 g2 g3 g4
  simp -dsimp -implicitDefEqProofs [-getElem?_pos, -List.map_append, -List.map_set, List.getElem?_cons_zero, List.getElem?_cons_succ]
  refine brA_split (fun g5 => ?_) (fun g5 => ?_)
  · obtain rfl : r = 2 := by rw [← hr4.out, if_pos (by simp at g5; omega)]
    simp -dsimp -implicitDefEqProofs [-getElem?_pos, -List.map_append, -List.map_set, List.getElem?_cons_zero, List.getElem?_cons_succ]
    exact ends_int rfl
  have hr5 := hr4.out
  rw [if_neg (by simp at g5; omega)] at hr5
  replace hr5 := hid hr5
  clear hr4
  have hl : d.length ≤ 8 := by simp at g5; omega
  clear g5
  have a1 := ref_all [z, p, n] 0 999 (by simp)
  have a2 := ref_all d 0 999 (by omega)
  rw [all_badH] at a1 a2
  have hb : (z :: p :: n :: d).any S.bad = ([z, p, n].any S.bad || d.any S.bad) := by simp [Bool.or_assoc]
  rw [hb] at hr5
  clear hb
  generalize [z, p, n].any S.bad = q1 at *
  generalize d.any S.bad = q2 at *
  replace hr5 := hid hr5
  replace a1 := hid a1
  replace a2 := hid a2
  simp -dsimp -implicitDefEqProofs [-getElem?_pos, -List.map_append, -List.map_set, List.getElem?_cons_zero, List.getElem?_cons_succ]
  refine call_CC (a1.out) ?_
  simp -dsimp -implicitDefEqProofs [-getElem?_pos, -List.map_append, -List.map_set, List.getElem?_cons_zero, List.getElem?_cons_succ]
  refine guardC_C (a2.out) (by first | rfl | (simp -dsimp -implicitDefEqProofs; done)) (by first | exact Or.inr (by rfl) | exact Or.inl (by rfl)) ?_
  simp -dsimp -implicitDefEqProofs [-getElem?_pos, -List.map_append, -List.map_set, List.getElem?_cons_zero, List.getElem?_cons_succ]
  cases q1 <;> cases q2
  · simp -dsimp -implicitDefEqProofs [-getElem?_pos, -List.map_append, -List.map_set, List.getElem?_cons_zero, List.getElem?_cons_succ]
    exact ends_int (by rw [← hr5.out]; rfl)
  · simp -dsimp -implicitDefEqProofs [-getElem?_pos, -List.map_append, -List.map_set, List.getElem?_cons_zero, List.getElem?_cons_succ]
    exact ends_int (by rw [← hr5.out]; rfl)
  · simp -dsimp -implicitDefEqProofs [-getElem?_pos, -List.map_append, -List.map_set, List.getElem?_cons_zero, List.getElem?_cons_succ]
    exact ends_int (by rw [← hr5.out]; rfl)
  · simp -dsimp -implicitDefEqProofs [-getElem?_pos, -List.map_append, -List.map_set, List.getElem?_cons_zero, List.getElem?_cons_succ]
    exact ends_int (by rw [← hr5.out]; rfl)
end Go.Proofs.YtadmfokicjjglaaGreatDoor.E
namespace Go.Proofs.YtadmfokicjjglaaGreatDoor.E
open Go.RowKit Go.Proofs
set_option maxRecDepth 100000
set_option maxHeartbeats 1000000
set_option linter.unusedSimpArgs false
set_option linter.unusedVariables false
end Go.Proofs.YtadmfokicjjglaaGreatDoor.E
