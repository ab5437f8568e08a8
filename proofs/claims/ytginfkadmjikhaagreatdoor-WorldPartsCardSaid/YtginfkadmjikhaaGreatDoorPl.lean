
/- Pl: laws on worlds, without the document's answer. -/
import Derived.Test.YtginfkadmjikhaaGreatDoorP5
namespace Go.Proofs.YtginfkadmjikhaaGreatDoor.E
open Go.RowKit Go.Proofs
set_option linter.unusedVariables false
set_option linter.unusedSimpArgs false
set_option maxRecDepth 100000
set_option maxHeartbeats 2000000
theorem sameW_eq {a b : S.World} {r : Bool} (h : decide (a = b) = r) : C Tryz.prog 19 [.agg (worldC false a), .agg (worldC false b)] (Bool' r) [] := h ▸ world_Same a b
theorem script_len : ∀ (l : List S.Hap) (w : S.World), (S.script w l).2.length = l.length
  | [], _ => rfl
  | x :: l, w => by simp [S.script, script_len l]
theorem law_WorldParts (w : S.World) (l : List S.Hap) (k : Int) : C Tryz.prog 5 [.agg (worldC false w), .lst false 8 (l.map (hapC false)), Int' k] (Bool' true) [] := by
  obtain ⟨⟨x, said, e⟩, hq⟩ : ∃ q, S.runWorld w l = q := ⟨_, rfl⟩
  have c1 := hid (runW_eq hq)
  by_cases h0 : e = 0
  rotate_left
  · clear hq
    refine C_inline [] Tryz.func5 (fun _ _ => by kernel_rfl) rfl (by kernel_rfl) (by rfl) (by decide) (by rfl) (by rfl) (by rfl) ?_
    simp -dsimp -implicitDefEqProofs [-getElem?_pos, -List.map_append, -List.map_set, List.getElem?_cons_zero, List.getElem?_cons_succ]
    refine call_CC (c1.out) ?_
    simp -dsimp -implicitDefEqProofs [-getElem?_pos, -List.map_append, -List.map_set, List.getElem?_cons_zero, List.getElem?_cons_succ]
    refine call_CC (law_asked) ?_
    simp -dsimp -implicitDefEqProofs [-getElem?_pos, -List.map_append, -List.map_set, List.getElem?_cons_zero, List.getElem?_cons_succ, h0]
    refine call_CC (law_asked) ?_
    simp -dsimp -implicitDefEqProofs [-getElem?_pos, -List.map_append, -List.map_set, List.getElem?_cons_zero, List.getElem?_cons_succ]
    exact ends_bool rfl
  subst h0
  have hl : l.length ≤ 120 ∧ said.length = l.length := by
    have h := hq
    unfold S.runWorld at h
    split at h
    · rename_i g; simp only [Prod.mk.injEq] at h; exact absurd h.2.2 g
    split at h
    · simp at h
    simp only [Prod.mk.injEq, and_true] at h
    exact ⟨by omega, by rw [← h.2, script_len]⟩
  have hw : IntKind.i64.wrap ((l.length : Int) + 1) = (l.length : Int) + 1 := wrap_ok (by omega)
  have ca := at_law k ((l.length : Int) + 1) (by omega)
  have e2 := Int.emod_nonneg k (by omega : (l.length : Int) + 1 ≠ 0)
  have e3 := Int.emod_lt_of_pos k (by omega : 0 < (l.length : Int) + 1)
  obtain ⟨j, hj⟩ : ∃ j : Nat, k % ((l.length : Int) + 1) = j := ⟨(k % ((l.length : Int) + 1)).toNat, by omega⟩
  rw [hj] at ca e3
  have hjl : j ≤ l.length := by omega
  obtain ⟨y, a, b, h1, h2, h3⟩ := world_parts j hq
  have c2 := hid (runW_eq h1)
  have c3 := hid (runW_eq h2)
  have hab : a.length + b.length ≤ 120 := by have := congrArg List.length h3; simp at this; omega
  have cs := hid (sameW_eq (a := x) (b := x) (r := true) (by simp))
  have cc := hid (concat_errs a b (by omega) (by omega))
  have ce : C Tryz.prog 35 [.lst false 1 (I said), .lst false 1 (I (a ++ b))] (Bool' true) [] := by
    have := equal_errs said (a ++ b) (by omega)
    rwa [decide_eq_true h3] at this
  replace ca := hid ca
  replace ce := hid ce
  clear hq h1 h2 h3 hj e2 e3 hl hab
  refine C_inline [] Tryz.func5 (fun _ _ => by kernel_rfl) rfl (by kernel_rfl) (by rfl) (by decide) (by rfl) (by rfl) (by rfl) ?_
  simp -dsimp -implicitDefEqProofs [-getElem?_pos, -List.map_append, -List.map_set, List.getElem?_cons_zero, List.getElem?_cons_succ]
  refine call_CC (c1.out) ?_
  simp -dsimp -implicitDefEqProofs [-getElem?_pos, -List.map_append, -List.map_set, List.getElem?_cons_zero, List.getElem?_cons_succ]
  refine call_CC (law_asked) ?_
  simp -dsimp -implicitDefEqProofs [-getElem?_pos, -List.map_append, -List.map_set, List.getElem?_cons_zero, List.getElem?_cons_succ, hw]
  refine call_CC (ca.out) ?_
  simp -dsimp -implicitDefEqProofs [-getElem?_pos, -List.map_append, -List.map_set, List.getElem?_cons_zero, List.getElem?_cons_succ, hjl]
  refine call_CC (c2.out) ?_
  simp -dsimp -implicitDefEqProofs [-getElem?_pos, -List.map_append, -List.map_set, List.getElem?_cons_zero, List.getElem?_cons_succ, hjl]
  refine call_CC (c3.out) ?_
  simp -dsimp -implicitDefEqProofs [-getElem?_pos, -List.map_append, -List.map_set, List.getElem?_cons_zero, List.getElem?_cons_succ]
  refine call_CC (cs.out) ?_
  simp -dsimp -implicitDefEqProofs [-getElem?_pos, -List.map_append, -List.map_set, List.getElem?_cons_zero, List.getElem?_cons_succ]
  refine call_CC (cc.out) ?_
  simp -dsimp -implicitDefEqProofs [-getElem?_pos, -List.map_append, -List.map_set, List.getElem?_cons_zero, List.getElem?_cons_succ]
  refine call_CC (ce.out) ?_
  simp -dsimp -implicitDefEqProofs [-getElem?_pos, -List.map_append, -List.map_set, List.getElem?_cons_zero, List.getElem?_cons_succ]
  exact ends_bool rfl
end Go.Proofs.YtginfkadmjikhaaGreatDoor.E
