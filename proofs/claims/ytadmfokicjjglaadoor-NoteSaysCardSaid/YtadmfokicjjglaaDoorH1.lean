/- H1: Ha: commands and answers, by the engine. Hb: commands and answers: copies, likeness. Hc: hands. -/
import Derived.Test.YtadmfokicjjglaaDoorGr
import Derived.Test.YtadmfokicjjglaaDoorSp
namespace Go.Proofs.YtadmfokicjjglaaDoor.E
open Go.RowKit Go.Proofs
set_option maxRecDepth 100000
set_option maxHeartbeats 1000000
set_option linter.unusedSimpArgs false
abbrev cmdC (fr : Bool) (c : S.Cmd) : List AV := [.at (.int .i64 c.kind), .at (.int .i64 c.z), .at (.int .i64 c.n), .at (.int .i64 c.pos), .lst fr 1 (I c.d)]
abbrev ansC (fr : Bool) (a : S.Answer) : List AV := [.at (.int .i64 a.e), .at (.int .i64 a.pos), .lst fr 1 (I a.d)]
theorem ends_b4 {a b c d a' b' c' d' : Bool} {h : Heap} {n : Nat} (e : a = a') (f : b = b') (g : c = c') (i : d = d') : Ends [] (.agg [Bool' a', Bool' b', Bool' c', Bool' d']) [] h n (.agg [Bool' a, Bool' b, Bool' c, Bool' d]) := by
  subst e f g i
  exact ⟨⟨_, rfl, Sub.refl _⟩, rfl⟩
theorem cmd_uses (k : Int) : C Tryd.prog 23 [Int' k] (.agg [Bool' (S.uZ k), Bool' (S.uA k), Bool' (S.uN k), Bool' (S.uD k)]) [] := by
  refine C_inline [] Tryd.func23 (fun _ _ => by kernel_rfl) rfl (by kernel_rfl) (by rfl) (by decide) (by rfl) (by rfl) (by rfl) ?_
  simp -dsimp -implicitDefEqProofs [-getElem?_pos, -List.map_append, -List.map_set, List.getElem?_cons_zero, List.getElem?_cons_succ]
  repeat' (refine brA_split (fun g => ?_) (fun g => ?_) <;> simp -dsimp -implicitDefEqProofs [-getElem?_pos, -List.map_append, -List.map_set, List.getElem?_cons_zero, List.getElem?_cons_succ, g])
  all_goals
    apply ends_b4 <;> simp at * <;> simp [S.uZ, S.uA, S.uN, S.uD] <;> grind
theorem cmd_Check (c : S.Cmd) : C Tryd.prog 10 [.agg (cmdC false c)] (Int' (S.checkCmd c)) [] := by
  obtain ⟨k, z, n, p, xs⟩ := c
  obtain ⟨r, hr⟩ : ∃ r, S.checkCmd ⟨k, z, n, p, xs⟩ = r := ⟨_, rfl⟩
  rw [hr]
  unfold S.checkCmd at hr
  replace hr := hid hr
  refine C_inline [] Tryd.func10 (fun _ _ => by kernel_rfl) rfl (by kernel_rfl) (by rfl) (by decide) (by rfl) (by rfl) (by rfl) ?_
  simp -dsimp -implicitDefEqProofs [-getElem?_pos, -List.map_append, -List.map_set, List.getElem?_cons_zero, List.getElem?_cons_succ]
  refine brA_split (fun h1 => ?_) (fun h1 => ?_)
  · simp -dsimp -implicitDefEqProofs [-getElem?_pos, -List.map_append, -List.map_set, List.getElem?_cons_zero, List.getElem?_cons_succ]
    exact ends_int (by simp at h1; rw [← hr.out, if_pos (by simp; omega)])
  simp at h1
  simp -dsimp -implicitDefEqProofs [-getElem?_pos, -List.map_append, -List.map_set, List.getElem?_cons_zero, List.getElem?_cons_succ]
  refine call_CC (cmd_uses k) ?_
  simp -dsimp -implicitDefEqProofs [-getElem?_pos, -List.map_append, -List.map_set, List.getElem?_cons_zero, List.getElem?_cons_succ]
  refine brA_split (fun h2 => ?_) (fun h2 => ?_)
  · simp -dsimp -implicitDefEqProofs [-getElem?_pos, -List.map_append, -List.map_set, List.getElem?_cons_zero, List.getElem?_cons_succ]
    exact ends_int (by rw [← hr.out, if_neg (by simp; omega), if_pos (by simpa [S.misused] using h2)])
  have h2' : ¬ (S.misused ⟨k, z, n, p, xs⟩ = true) := by rw [Bool.not_eq_true]; simpa [S.misused] using h2
  simp -dsimp -implicitDefEqProofs [-getElem?_pos, -List.map_append, -List.map_set, List.getElem?_cons_zero, List.getElem?_cons_succ]
  refine brA_split (fun h3 => ?_) (fun h3 => ?_)
  · simp -dsimp -implicitDefEqProofs [-getElem?_pos, -List.map_append, -List.map_set, List.getElem?_cons_zero, List.getElem?_cons_succ]
    exact ends_int (by simp at h3; rw [← hr.out, if_neg (by simp; omega), if_neg h2', if_pos (by simp; omega)])
  simp at h3
  have h3 : xs.length ≤ 8 := by omega
  clear h2
  simp -dsimp -implicitDefEqProofs [-getElem?_pos, -List.map_append, -List.map_set, List.getElem?_cons_zero, List.getElem?_cons_succ]
  refine call_CC (slices_Concat [z, p, n] xs (by simp) (by omega)) ?_
  simp -dsimp -implicitDefEqProofs [-getElem?_pos, -List.map_append, -List.map_set, List.getElem?_cons_zero, List.getElem?_cons_succ]
  refine loop_count 70 (xs.length + 3) (fun k h _ _ => h = _ ∧ Hid (∀ j, j < k → S.bad ((z :: p :: n :: xs).getD j 0) = false)) _ rfl (by rfl) ⟨rfl, by intro j hj; omega⟩ ?_ ?_
  · rintro k t h m hk hci hs ⟨rfl, hb⟩
    have hw : IntKind.i64.wrap ((k : Int) + 1) = (k : Int) + 1 := wrap_ok (by omega)
    obtain ⟨x, hx⟩ : ∃ x, (z :: p :: n :: xs)[k]? = some x := ⟨(z :: p :: n :: xs)[k]'(by simp; omega), by simp⟩
    have hk' : decide ((k : Int) < xs.length + 1 + 1 + 1) = true := by simp; omega
    have e1 := hs 1 rfl
    have e68 := hs 68 rfl
    have e69 := hs 69 rfl
    clear hs
    simp -dsimp -implicitDefEqProofs at e1 e68 e69
    replace hk := hid hk
    simp -dsimp -implicitDefEqProofs [-getElem?_pos, -List.map_append, -List.map_set, List.getElem?_cons_zero, List.getElem?_cons_succ, e1, e68, e69, hci, hk', hx]
    refine brA_split (fun g1 => ?_) (fun g1 => ?_)
    · simp -dsimp -implicitDefEqProofs [-getElem?_pos, -List.map_append, -List.map_set, List.getElem?_cons_zero, List.getElem?_cons_succ]
      exact ends_int (by rw [← hr.out, if_neg (by simp; omega), if_neg h2', if_neg (by simp; omega), if_pos (any_of hx (by simpa [S.bad] using g1))])
    simp -dsimp -implicitDefEqProofs [-getElem?_pos, -List.map_append, -List.map_set, List.getElem?_cons_zero, List.getElem?_cons_succ, hw, hci, e1, e68, e69]
    exact below_succ hb.out hx (by simpa [S.bad] using g1)
  · rintro t h m hci hs ⟨rfl, hb⟩
    have hba := any_none (xs := z :: p :: n :: xs) (p := S.bad) (by simpa using hb.out)
    have hk' : decide ((xs.length : Int) + 3 < xs.length + 1 + 1 + 1) = false := by simp; omega
    have e1 := hs 1 rfl
    have e68 := hs 68 rfl
    have e69 := hs 69 rfl
    clear hs
    simp -dsimp -implicitDefEqProofs at e1 e68 e69
    simp -dsimp -implicitDefEqProofs [-getElem?_pos, -List.map_append, -List.map_set, List.getElem?_cons_zero, List.getElem?_cons_succ, e1, e68, e69, hci, hk']
    exact ends_int (by rw [← hr.out, if_neg (by simp; omega), if_neg h2', if_neg (by simp; omega), if_neg (by simp only [hba]; simp)])
end Go.Proofs.YtadmfokicjjglaaDoor.E
namespace Go.Proofs.YtadmfokicjjglaaDoor.E
open Go.RowKit Go.Proofs
set_option maxRecDepth 100000
set_option maxHeartbeats 1000000
set_option linter.unusedSimpArgs false
theorem ends_eq {p : Prop} [Decidable p] {b : Bool} {h : Heap} {n : Nat} (e : b = true ↔ p) : Ends [] (Bool' (decide p)) [] h n (Bool' b) := ends_bool (by
  by_cases hp : p
  · rw [decide_eq_true hp]; exact e.2 hp
  · rw [decide_eq_false hp]; exact Bool.eq_false_iff.2 fun hb => hp (e.1 hb))
theorem cmd_Same (a b : S.Cmd) : C Tryd.prog 11 [.agg (cmdC false a), .agg (cmdC false b)] (Bool' (decide (a = b))) [] := by
  refine C_inline [] Tryd.func11 (fun _ _ => by kernel_rfl) rfl (by kernel_rfl) (by rfl) (by decide) (by rfl) (by rfl) (by rfl) ?_
  simp -dsimp -implicitDefEqProofs [-getElem?_pos, -List.map_append, -List.map_set, List.getElem?_cons_zero, List.getElem?_cons_succ]
  refine guardC_C (int_equal a.d b.d) (by first | rfl | (simp -dsimp -implicitDefEqProofs; done)) (by first | exact Or.inr (by rfl) | exact Or.inl (by rfl)) ?_
  simp -dsimp -implicitDefEqProofs [-getElem?_pos, -List.map_append, -List.map_set, List.getElem?_cons_zero, List.getElem?_cons_succ]
  exact ends_eq (by cases a; cases b; simp; grind)
theorem ref_SameCmd (a b : S.Cmd) : C Tryd.prog 12 [.agg (cmdC false a), .agg (cmdC false b)] (Bool' (decide (a = b))) [] := by
  refine C_inline [] Tryd.func12 (fun _ _ => by kernel_rfl) rfl (by kernel_rfl) (by rfl) (by decide) (by rfl) (by rfl) (by rfl) ?_
  simp -dsimp -implicitDefEqProofs [-getElem?_pos, -List.map_append, -List.map_set, List.getElem?_cons_zero, List.getElem?_cons_succ]
  refine guardC_C (int_equal a.d b.d) (by first | rfl | (simp -dsimp -implicitDefEqProofs; done)) (by first | exact Or.inr (by rfl) | exact Or.inl (by rfl)) ?_
  simp -dsimp -implicitDefEqProofs [-getElem?_pos, -List.map_append, -List.map_set, List.getElem?_cons_zero, List.getElem?_cons_succ]
  exact ends_eq (by cases a; cases b; simp; grind)
end Go.Proofs.YtadmfokicjjglaaDoor.E
namespace Go.Proofs.YtadmfokicjjglaaDoor.E
open Go.RowKit Go.Proofs
set_option maxRecDepth 100000
set_option maxHeartbeats 1000000
set_option linter.unusedSimpArgs false
end Go.Proofs.YtadmfokicjjglaaDoor.E
