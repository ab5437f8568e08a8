/- W1: Wb: records as texts: printed, read. Wc: law.lined; law.NoteBack. -/
import Derived.Test.YtginfkadmjikhaaGreatDoorV2
import Derived.Test.YtginfkadmjikhaaGreatDoorWa
import Derived.Test.YtginfkadmjikhaaGreatDoorSq
namespace Go.Proofs.YtginfkadmjikhaaGreatDoor.E
open Go.RowKit Go.Proofs
set_option linter.unusedVariables false
set_option linter.unusedSimpArgs false
set_option maxRecDepth 100000
set_option maxHeartbeats 2000000
theorem ends_ib {h : Heap} {n : Nat} {a b : Int} {e e' : Bool} (h1 : a = b) (h2 : e = e') : Ends [] (.tup [Int' b, Bool' e']) [] h n (.tup [Int' a, Bool' e]) := by
  subst h1 h2
  exact ⟨⟨_, rfl, .refl _⟩, rfl⟩
theorem note_number (l : List UInt8) (hl : l.length ≤ 1000000) : C Tryz.prog 180 [Tx l] (.tup [Int' (S.numP l).1, Bool' (S.numP l).2]) [] := by
  have ca := strconv_Atoi l hl
  unfold S.numP
  unfold numR at ca
  cases hv : Lib.atoiAll l with
  | ok v =>
    rw [hv] at ca
    simp only at ca ⊢
    obtain ⟨b0, b1⟩ := Lib.atoiAll_bounds hv
    have ci := hid (strconv_Itoa v b0 b1)
    obtain ⟨b, hb⟩ : ∃ b, decide (Lib.itoa v = l) = b := ⟨_, rfl⟩
    rw [hb]
    clear hv hl
    replace ca := hid ca
    refine C_inline [] Tryz.func180 (fun _ _ => by kernel_rfl) rfl (by kernel_rfl) (by rfl) (by decide) (by rfl) (by rfl) (by rfl) ?_
    simp -dsimp -implicitDefEqProofs [-getElem?_pos, -List.map_append, -List.map_set, List.getElem?_cons_zero, List.getElem?_cons_succ]
    refine call_CC (ca.out) ?_
    simp -dsimp -implicitDefEqProofs [-getElem?_pos, -List.map_append, -List.map_set, List.getElem?_cons_zero, List.getElem?_cons_succ]
    refine call_CC (ci.out) ?_
    simp -dsimp -implicitDefEqProofs [-getElem?_pos, -List.map_append, -List.map_set, List.getElem?_cons_zero, List.getElem?_cons_succ, hb]
    exact ends_ib rfl rfl
  | range =>
    rw [hv] at ca
    simp only at ca ⊢
    replace ca := hid ca
    clear hv
    refine C_inline [] Tryz.func180 (fun _ _ => by kernel_rfl) rfl (by kernel_rfl) (by rfl) (by decide) (by rfl) (by rfl) (by rfl) ?_
    simp -dsimp -implicitDefEqProofs [-getElem?_pos, -List.map_append, -List.map_set, List.getElem?_cons_zero, List.getElem?_cons_succ]
    refine call_CC (ca.out) ?_
    simp -dsimp -implicitDefEqProofs [-getElem?_pos, -List.map_append, -List.map_set, List.getElem?_cons_zero, List.getElem?_cons_succ]
    exact ends_ib rfl rfl
  | _ =>
    rw [hv] at ca
    simp only at ca ⊢
    replace ca := hid ca
    clear hv
    refine C_inline [] Tryz.func180 (fun _ _ => by kernel_rfl) rfl (by kernel_rfl) (by rfl) (by decide) (by rfl) (by rfl) (by rfl) ?_
    simp -dsimp -implicitDefEqProofs [-getElem?_pos, -List.map_append, -List.map_set, List.getElem?_cons_zero, List.getElem?_cons_succ]
    refine call_CC (ca.out) ?_
    simp -dsimp -implicitDefEqProofs [-getElem?_pos, -List.map_append, -List.map_set, List.getElem?_cons_zero, List.getElem?_cons_succ]
    exact ends_ib rfl rfl
theorem note_Print (r : S.Rec) : C Tryz.prog 212 [.agg (recC false r)] (.tup [Tx (S.recPrint r).1, Int' (S.recPrint r).2]) [] := by
  have h0 := note_Check r
  unfold S.recPrint
  by_cases h : S.checkRec r = 0
  · rw [if_neg (by simp [h])]
    obtain ⟨hw, hs, hc⟩ := S.checkRec_ok h
    rw [h] at h0
    have h1 := print_eq (c := r.c) (r := (S.cmdText r.c, 0)) (by unfold S.cmdPrint; rw [if_neg (by simp [hc])])
    have l1 := (S.itoa_facts (n := r.who) hw.1 (by omega)).2.2.2
    have l2 := (S.itoa_facts (n := r.seq) (by omega) (by omega)).2.2.2
    have l3 := S.cmdText_len hc
    have i1 := hid (itoa_call (n := r.who) (by omega) (by omega))
    have i2 := hid (itoa_call (n := r.seq) (by omega) (by omega))
    unfold S.recText
    obtain ⟨w, s, c⟩ := r
    simp only at *
    generalize Lib.itoa w = a at *
    generalize Lib.itoa s = b at *
    generalize S.cmdText c = t at *
    have f0 : decide (a.length ≤ 3999999999999999999) = true := by simp; omega
    have f2 : decide (a.length + 1 + b.length ≤ 4000000000000000000) = true := by simp; omega
    have f3 : decide (a.length + (b.length + 1) ≤ 4000000000000000000) = true := by simp; omega
    have f4 : decide (a.length + (b.length + 1) ≤ 3999999999999999998) = true := by simp; omega
    have f5 : decide (a.length + (b.length + 2 + 1) + t.length ≤ 4000000000000000000) = true := by simp; omega
    replace h0 := hid h0
    replace h1 := hid h1
    clear h hw hs hc l1 l2 l3
    refine C_inline [] Tryz.func212 (fun _ _ => by kernel_rfl) rfl (by kernel_rfl) (by rfl) (by decide) (by rfl) (by rfl) (by rfl) ?_
    simp -dsimp -implicitDefEqProofs [-getElem?_pos, -List.map_append, -List.map_set, List.getElem?_cons_zero, List.getElem?_cons_succ]
    refine call_CC (h0.out) ?_
    simp -dsimp -implicitDefEqProofs [-getElem?_pos, -List.map_append, -List.map_set, List.getElem?_cons_zero, List.getElem?_cons_succ]
    refine call_CC (h1.out) ?_
    simp -dsimp -implicitDefEqProofs [-getElem?_pos, -List.map_append, -List.map_set, List.getElem?_cons_zero, List.getElem?_cons_succ]
    refine call_CC (i1.out) ?_
    simp -dsimp -implicitDefEqProofs [-getElem?_pos, -List.map_append, -List.map_set, List.getElem?_cons_zero, List.getElem?_cons_succ, f0]
    refine call_CC (i2.out) ?_
    simp -dsimp -implicitDefEqProofs [-getElem?_pos, -List.map_append, -List.map_set, List.getElem?_cons_zero, List.getElem?_cons_succ, f2, f3, f4, f5]
    exact ends_ti rfl rfl
  · rw [if_pos h]
    generalize S.checkRec r = e at *
    have he : decide (e = 0) = false := by simp [h]
    replace h0 := hid h0
    refine C_inline [] Tryz.func212 (fun _ _ => by kernel_rfl) rfl (by kernel_rfl) (by rfl) (by decide) (by rfl) (by rfl) (by rfl) ?_
    simp -dsimp -implicitDefEqProofs [-getElem?_pos, -List.map_append, -List.map_set, List.getElem?_cons_zero, List.getElem?_cons_succ]
    refine call_CC (h0.out) ?_
    simp -dsimp -implicitDefEqProofs [-getElem?_pos, -List.map_append, -List.map_set, List.getElem?_cons_zero, List.getElem?_cons_succ, he]
    exact ends_ti rfl rfl
theorem note_Parse (l : List UInt8) : C Tryz.prog 150 [Tx l] (.tup [.agg (recC false (S.recParse l).1), Int' (S.recParse l).2]) [] := by
  unfold S.recParse
  by_cases hl : 60000 < l.length
  · have hl' : decide ((60000 : Int) < (l.length : Int)) = true := by simp; omega
    rw [if_pos hl]
    refine C_inline [] Tryz.func150 (fun _ _ => by kernel_rfl) rfl (by kernel_rfl) (by rfl) (by decide) (by rfl) (by rfl) (by rfl) ?_
    simp -dsimp -implicitDefEqProofs [-getElem?_pos, -List.map_append, -List.map_set, List.getElem?_cons_zero, List.getElem?_cons_succ, hl']
    exact ends_ag outL rfl
  · have hl' : decide ((60000 : Int) < (l.length : Int)) = false := by simp; omega
    rw [if_neg hl]
    have c1 := strings_Cut l [58, 32] (by omega)
    have d1 := S.cut_len l [58, 32]
    obtain ⟨⟨x, y, p⟩, h1⟩ : ∃ p, Lib.cut l [58, 32] = p := ⟨_, rfl⟩
    rw [h1] at c1 d1 ⊢
    simp only at c1 d1 ⊢
    have c2 := strings_Cut x [32] (by omega)
    have d2 := S.cut_len x [32]
    obtain ⟨⟨u, v, q⟩, h2⟩ : ∃ p, Lib.cut x [32] = p := ⟨_, rfl⟩
    rw [h2] at c2 d2 ⊢
    simp only at c2 d2 ⊢
    have c3 := note_number u (by omega)
    have c4 := note_number v (by omega)
    obtain ⟨⟨m, s⟩, h3⟩ : ∃ p, S.numP u = p := ⟨_, rfl⟩
    obtain ⟨⟨n, t⟩, h4⟩ : ∃ p, S.numP v = p := ⟨_, rfl⟩
    rw [h3] at c3 ⊢
    rw [h4] at c4 ⊢
    simp only at c3 c4 ⊢
    clear h1 h2 h3 h4 d1 d2 hl
    replace c1 := hid c1
    replace c2 := hid c2
    replace c3 := hid c3
    replace c4 := hid c4
    by_cases hb : (p && q && s && t) = false
    · rw [if_pos hb]
      have cs : p = false ∨ (p = true ∧ (q = false ∨ (q = true ∧ (s = false ∨ (s = true ∧ t = false))))) := by
        cases p <;> cases q <;> cases s <;> cases t <;> simp_all
      clear hb
      rcases cs with rfl | ⟨rfl, rfl | ⟨rfl, rfl | ⟨rfl, rfl⟩⟩⟩
      all_goals
        refine C_inline [] Tryz.func150 (fun _ _ => by kernel_rfl) rfl (by kernel_rfl) (by rfl) (by decide) (by rfl) (by rfl) (by rfl) ?_
        simp -dsimp -implicitDefEqProofs [-getElem?_pos, -List.map_append, -List.map_set, List.getElem?_cons_zero, List.getElem?_cons_succ, hl']
        refine call_CC (c1.out) ?_
        simp -dsimp -implicitDefEqProofs [-getElem?_pos, -List.map_append, -List.map_set, List.getElem?_cons_zero, List.getElem?_cons_succ]
        refine call_CC (c2.out) ?_
        simp -dsimp -implicitDefEqProofs [-getElem?_pos, -List.map_append, -List.map_set, List.getElem?_cons_zero, List.getElem?_cons_succ]
        refine call_CC (c3.out) ?_
        simp -dsimp -implicitDefEqProofs [-getElem?_pos, -List.map_append, -List.map_set, List.getElem?_cons_zero, List.getElem?_cons_succ]
        refine call_CC (c4.out) ?_
        simp -dsimp -implicitDefEqProofs [-getElem?_pos, -List.map_append, -List.map_set, List.getElem?_cons_zero, List.getElem?_cons_succ]
        exact ends_ag outL rfl
    · rw [if_neg hb]
      have hp : p = true ∧ q = true ∧ s = true ∧ t = true := by
        cases p <;> cases q <;> cases s <;> cases t <;> simp_all
      obtain ⟨rfl, rfl, rfl, rfl⟩ := hp
      unfold S.recOf
      have c5 := cmd_Parse y
      obtain ⟨⟨c, e⟩, h5⟩ : ∃ p, S.cmdParse y = p := ⟨_, rfl⟩
      rw [h5] at c5 ⊢
      simp only at c5 ⊢
      replace c5 := hid c5
      clear h5 hb
      by_cases he : e = 0
      · subst he
        rw [if_neg (by simp)]
        have c6 := note_Check ⟨m, n, c⟩
        obtain ⟨f, hf⟩ : ∃ f, S.checkRec ⟨m, n, c⟩ = f := ⟨_, rfl⟩
        rw [hf] at c6 ⊢
        replace c6 := hid c6
        clear hf
        by_cases hf : f = 0
        · subst hf
          rw [if_neg (by simp)]
          refine C_inline [] Tryz.func150 (fun _ _ => by kernel_rfl) rfl (by kernel_rfl) (by rfl) (by decide) (by rfl) (by rfl) (by rfl) ?_
          simp -dsimp -implicitDefEqProofs [-getElem?_pos, -List.map_append, -List.map_set, List.getElem?_cons_zero, List.getElem?_cons_succ, hl']
          refine call_CC (c1.out) ?_
          simp -dsimp -implicitDefEqProofs [-getElem?_pos, -List.map_append, -List.map_set, List.getElem?_cons_zero, List.getElem?_cons_succ]
          refine call_CC (c2.out) ?_
          simp -dsimp -implicitDefEqProofs [-getElem?_pos, -List.map_append, -List.map_set, List.getElem?_cons_zero, List.getElem?_cons_succ]
          refine call_CC (c3.out) ?_
          simp -dsimp -implicitDefEqProofs [-getElem?_pos, -List.map_append, -List.map_set, List.getElem?_cons_zero, List.getElem?_cons_succ]
          refine call_CC (c4.out) ?_
          simp -dsimp -implicitDefEqProofs [-getElem?_pos, -List.map_append, -List.map_set, List.getElem?_cons_zero, List.getElem?_cons_succ]
          refine call_CC (c5.out) ?_
          simp -dsimp -implicitDefEqProofs [-getElem?_pos, -List.map_append, -List.map_set, List.getElem?_cons_zero, List.getElem?_cons_succ]
          refine call_CC (c6.out) ?_
          simp -dsimp -implicitDefEqProofs [-getElem?_pos, -List.map_append, -List.map_set, List.getElem?_cons_zero, List.getElem?_cons_succ]
          exact ends_ag outL rfl
        · rw [if_pos hf]
          have hf' : decide (f = 0) = false := by simp [hf]
          refine C_inline [] Tryz.func150 (fun _ _ => by kernel_rfl) rfl (by kernel_rfl) (by rfl) (by decide) (by rfl) (by rfl) (by rfl) ?_
          simp -dsimp -implicitDefEqProofs [-getElem?_pos, -List.map_append, -List.map_set, List.getElem?_cons_zero, List.getElem?_cons_succ, hl']
          refine call_CC (c1.out) ?_
          simp -dsimp -implicitDefEqProofs [-getElem?_pos, -List.map_append, -List.map_set, List.getElem?_cons_zero, List.getElem?_cons_succ]
          refine call_CC (c2.out) ?_
          simp -dsimp -implicitDefEqProofs [-getElem?_pos, -List.map_append, -List.map_set, List.getElem?_cons_zero, List.getElem?_cons_succ]
          refine call_CC (c3.out) ?_
          simp -dsimp -implicitDefEqProofs [-getElem?_pos, -List.map_append, -List.map_set, List.getElem?_cons_zero, List.getElem?_cons_succ]
          refine call_CC (c4.out) ?_
          simp -dsimp -implicitDefEqProofs [-getElem?_pos, -List.map_append, -List.map_set, List.getElem?_cons_zero, List.getElem?_cons_succ]
          refine call_CC (c5.out) ?_
          simp -dsimp -implicitDefEqProofs [-getElem?_pos, -List.map_append, -List.map_set, List.getElem?_cons_zero, List.getElem?_cons_succ]
          refine call_CC (c6.out) ?_
          simp -dsimp -implicitDefEqProofs [-getElem?_pos, -List.map_append, -List.map_set, List.getElem?_cons_zero, List.getElem?_cons_succ, hf', hf]
          exact ends_ag outL rfl
      · rw [if_pos he]
        have he' : decide (e = 0) = false := by simp [he]
        refine C_inline [] Tryz.func150 (fun _ _ => by kernel_rfl) rfl (by kernel_rfl) (by rfl) (by decide) (by rfl) (by rfl) (by rfl) ?_
        simp -dsimp -implicitDefEqProofs [-getElem?_pos, -List.map_append, -List.map_set, List.getElem?_cons_zero, List.getElem?_cons_succ, hl']
        refine call_CC (c1.out) ?_
        simp -dsimp -implicitDefEqProofs [-getElem?_pos, -List.map_append, -List.map_set, List.getElem?_cons_zero, List.getElem?_cons_succ]
        refine call_CC (c2.out) ?_
        simp -dsimp -implicitDefEqProofs [-getElem?_pos, -List.map_append, -List.map_set, List.getElem?_cons_zero, List.getElem?_cons_succ]
        refine call_CC (c3.out) ?_
        simp -dsimp -implicitDefEqProofs [-getElem?_pos, -List.map_append, -List.map_set, List.getElem?_cons_zero, List.getElem?_cons_succ]
        refine call_CC (c4.out) ?_
        simp -dsimp -implicitDefEqProofs [-getElem?_pos, -List.map_append, -List.map_set, List.getElem?_cons_zero, List.getElem?_cons_succ]
        refine call_CC (c5.out) ?_
        simp -dsimp -implicitDefEqProofs [-getElem?_pos, -List.map_append, -List.map_set, List.getElem?_cons_zero, List.getElem?_cons_succ, he', he]
        exact ends_ag outL rfl
end Go.Proofs.YtginfkadmjikhaaGreatDoor.E
namespace Go.Proofs.YtginfkadmjikhaaGreatDoor.E
open Go.RowKit Go.Proofs
set_option linter.unusedVariables false
set_option linter.unusedSimpArgs false
set_option maxRecDepth 100000
set_option maxHeartbeats 2000000
theorem rparse_eq {l : List UInt8} {r : S.Rec × Int} (h : S.recParse l = r) : C Tryz.prog 150 [Tx l] (.tup [.agg (recC false r.1), Int' r.2]) [] := h ▸ note_Parse l
end Go.Proofs.YtginfkadmjikhaaGreatDoor.E
