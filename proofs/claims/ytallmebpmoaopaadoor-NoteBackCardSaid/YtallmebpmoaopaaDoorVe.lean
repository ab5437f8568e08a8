
/- Ve: cmd.Parse whole; law.spoken; law.CmdBack. -/
import Derived.Test.YtallmebpmoaopaaDoorVd
import Derived.Test.YtallmebpmoaopaaDoorSpecBack
namespace Go.Proofs.YtallmebpmoaopaaDoor.E
open Go.RowKit Go.Proofs
set_option linter.unusedVariables false
set_option linter.unusedSimpArgs false
set_option maxRecDepth 100000
set_option maxHeartbeats 2000000

theorem cmd_Parse (l : List UInt8) : C Tryd.prog 11 [Tx l] (.tup [.agg (cmdC false (S.cmdParse l).1), Int' (S.cmdParse l).2]) [] := by
  unfold S.cmdParse
  by_cases h : 60000 < l.length
  · have hl' : decide ((60000 : Int) < (l.length : Int)) = true := by simp; omega
    rw [if_pos h]
    refine C_inlineG [(23, [82080, 80082])] [] Tryd.func11 (fun _ _ => by kernel_rfl) rfl (by kernel_rfl) (by rfl) (by decide) (by rfl) (by rfl) (by first | rfl | exact plain_I _ | exact plain_map (fun _ => rfl) _) ?_
    simp -dsimp -implicitDefEqProofs [-getElem?_pos, -List.map_append, -List.map_set, List.getElem?_cons_zero, List.getElem?_cons_succ, hl']
    exact ends_ag outL rfl
  · rw [if_neg h]
    unfold S.cmdRead
    cases hp : S.pieces 32 l with
    | nil => exact absurd hp (S.pieces_ne _ _)
    | cons w ts => exact cmd_Parse_word l w ts (by omega) hp
theorem print_eq {c : S.Cmd} {r : List UInt8 × Int} (h : S.cmdPrint c = r) : C Tryd.prog 8 [.agg (cmdC false c)] (.tup [Tx r.1, Int' r.2]) [] := h ▸ cmd_Print c
theorem parse_eq {l : List UInt8} {r : S.Cmd × Int} (h : S.cmdParse l = r) : C Tryd.prog 11 [Tx l] (.tup [.agg (cmdC false r.1), Int' r.2]) [] := h ▸ cmd_Parse l
theorem printN_eq {k z n p : Int} {r : List UInt8 × Int} (h : S.cmdPrint ⟨k, z, n, p, []⟩ = r) : C Tryd.prog 8 [.agg [Int' k, Int' z, Int' n, Int' p, .nl]] (.tup [Tx r.1, Int' r.2]) [] :=
  (print_eq h).args (.cons (.agg (.cons (.refl _) (.cons (.refl _) (.cons (.refl _) (.cons (.refl _) (.cons .nl (.nil _))))))) (.nil _))
theorem sameC_eq {a b : S.Cmd} {r : Bool} (h : decide (a = b) = r) : C Tryd.prog 10 [.agg (cmdC false a), .agg (cmdC false b)] (Bool' r) [] := h ▸ cmd_Same a b
theorem sameCN_eq {a : S.Cmd} {k z n p : Int} {r : Bool} (h : decide (a = ⟨k, z, n, p, []⟩) = r) : C Tryd.prog 10 [.agg (cmdC false a), .agg [Int' k, Int' z, Int' n, Int' p, .nl]] (Bool' r) [] :=
  (sameC_eq h).args (.cons (.refl _) (.cons (.agg (.cons (.refl _) (.cons (.refl _) (.cons (.refl _) (.cons (.refl _) (.cons .nl (.nil _))))))) (.nil _)))

theorem law_spoken : C Tryd.prog 9 [] (Bool' true) [] := by
  have c1 := hid (print_eq (c := ⟨6, 1, 0, 2, [3, 4]⟩) (r := ([119, 114, 105, 116, 101, 32, 49, 32, 50, 32, 51, 32, 52], 0)) (by decide +kernel))
  have c2 := hid (printN_eq (k := 12) (z := 0) (n := 0) (p := 0) (r := ([99, 108, 101, 97, 114], 0)) (by decide +kernel))
  have c3 := hid (parse_eq (l := [114, 101, 97, 100, 32, 49, 32, 50, 32, 51]) (r := (⟨7, 1, 3, 2, []⟩, 0)) (by decide +kernel))
  have c4 := hid (parse_eq (l := [97, 112, 112, 101, 110, 100, 32, 49]) (r := (S.Cmd.zero, 1)) (by decide +kernel))
  have c5 := hid (sameCN_eq (a := ⟨7, 1, 3, 2, []⟩) (k := 7) (z := 1) (n := 3) (p := 2) (r := true) (by decide))
  refine C_inline [] Tryd.func9 (fun _ _ => by kernel_rfl) rfl (by kernel_rfl) (by rfl) (by decide) (by rfl) (by rfl) (by rfl) ?_
  simp -dsimp -implicitDefEqProofs [-getElem?_pos, -List.map_append, -List.map_set, List.getElem?_cons_zero, List.getElem?_cons_succ]
  refine call_CC (c1.out) ?_
  simp -dsimp -implicitDefEqProofs [-getElem?_pos, -List.map_append, -List.map_set, List.getElem?_cons_zero, List.getElem?_cons_succ]
  refine call_CC (c2.out) ?_
  simp -dsimp -implicitDefEqProofs [-getElem?_pos, -List.map_append, -List.map_set, List.getElem?_cons_zero, List.getElem?_cons_succ]
  refine call_CC (c3.out) ?_
  simp -dsimp -implicitDefEqProofs [-getElem?_pos, -List.map_append, -List.map_set, List.getElem?_cons_zero, List.getElem?_cons_succ]
  refine call_CC (c4.out) ?_
  simp -dsimp -implicitDefEqProofs [-getElem?_pos, -List.map_append, -List.map_set, List.getElem?_cons_zero, List.getElem?_cons_succ]
  refine call_CC (c5.out) ?_
  simp -dsimp -implicitDefEqProofs [-getElem?_pos, -List.map_append, -List.map_set, List.getElem?_cons_zero, List.getElem?_cons_succ]
  exact ends_bool rfl

theorem law_CmdBack (c d : S.Cmd) (s : ByteArray) : C Tryd.prog 3 [.agg (cmdC false c), .agg (cmdC false d), .at (.string s)] (Bool' true) [] := by
  obtain ⟨l, rfl⟩ : ∃ l : List UInt8, s = ⟨l.toArray⟩ := ⟨s.data.toList, (Lib.mk_data s).symm⟩
  obtain ⟨⟨t, e⟩, h1⟩ : ∃ r, S.cmdPrint c = r := ⟨_, rfl⟩
  obtain ⟨⟨u, f⟩, h2⟩ : ∃ r, S.cmdPrint d = r := ⟨_, rfl⟩
  obtain ⟨⟨x, g⟩, h3⟩ : ∃ r, S.cmdParse l = r := ⟨_, rfl⟩
  have c1 := hid (print_eq h1)
  have c2 := hid (print_eq h2)
  have c3 := hid (parse_eq h3)
  obtain ⟨b, hb⟩ : ∃ b, decide (c = d) = b := ⟨_, rfl⟩
  have c4 := hid (sameC_eq hb)
  have okp : ∀ {c : S.Cmd} {t : List UInt8}, S.cmdPrint c = (t, 0) → S.checkCmd c = 0 ∧ S.cmdText c = t := by
    intro c t h
    unfold S.cmdPrint at h
    split at h
    · rename_i hne; simp only [Prod.mk.injEq] at h; exact absurd h.2 hne
    · rename_i hz
      simp only [Prod.mk.injEq, and_true] at h
      exact ⟨by simpa using hz, h⟩
  have k1 : e = 0 → f = 0 → decide (t = u) = b := by
    intro he hf
    subst he hf
    obtain ⟨a1, a2⟩ := okp h1
    obtain ⟨b1, b2⟩ := okp h2
    rw [← hb, ← a2, ← b2]
    have := S.text_inj a1 b1
    simp [this]
  have k2 : e = 0 → C Tryd.prog 11 [Tx t] (.tup [.agg (cmdC false c), Int' 0]) [] := by
    intro he
    subst he
    obtain ⟨a1, a2⟩ := okp h1
    exact parse_eq (l := t) (r := (c, 0)) (by rw [← a2]; exact S.parse_text a1)
  have k3 : g = 0 → C Tryd.prog 8 [.agg (cmdC false x)] (.tup [Tx l, Int' 0]) [] := by
    intro hg
    subst hg
    obtain ⟨a1, a2⟩ := S.text_parse h3
    refine print_eq (c := x) (r := (l, 0)) ?_
    unfold S.cmdPrint
    rw [if_neg (by simp [a1]), a2]
  have c5 := hid (sameC_eq (a := c) (b := c) (r := true) (by simp))
  clear h1 h2 h3 hb okp
  by_cases he : e = 0
  · subst he
    have k2' := hid (k2 rfl)
    clear k2
    by_cases hf : f = 0
    · subst hf
      have k1' := k1 rfl rfl
      clear k1
      by_cases hg : g = 0
      · subst hg
        have k3' := hid (k3 rfl)
        clear k3
        refine C_inline [] Tryd.func3 (fun _ _ => by kernel_rfl) rfl (by kernel_rfl) (by rfl) (by decide) (by rfl) (by rfl) (by rfl) ?_
        simp -dsimp -implicitDefEqProofs [-getElem?_pos, -List.map_append, -List.map_set, List.getElem?_cons_zero, List.getElem?_cons_succ]
        refine call_CC (c1.out) ?_
        simp -dsimp -implicitDefEqProofs [-getElem?_pos, -List.map_append, -List.map_set, List.getElem?_cons_zero, List.getElem?_cons_succ]
        refine call_CC (c2.out) ?_
        simp -dsimp -implicitDefEqProofs [-getElem?_pos, -List.map_append, -List.map_set, List.getElem?_cons_zero, List.getElem?_cons_succ]
        refine call_CC (law_spoken) ?_
        simp -dsimp -implicitDefEqProofs [-getElem?_pos, -List.map_append, -List.map_set, List.getElem?_cons_zero, List.getElem?_cons_succ]
        refine call_CC (c4.out) ?_
        simp -dsimp -implicitDefEqProofs [-getElem?_pos, -List.map_append, -List.map_set, List.getElem?_cons_zero, List.getElem?_cons_succ, k1']
        refine call_CC (k2'.out) ?_
        simp -dsimp -implicitDefEqProofs [-getElem?_pos, -List.map_append, -List.map_set, List.getElem?_cons_zero, List.getElem?_cons_succ]
        refine call_CC (c5.out) ?_
        simp -dsimp -implicitDefEqProofs [-getElem?_pos, -List.map_append, -List.map_set, List.getElem?_cons_zero, List.getElem?_cons_succ]
        refine call_CC (c3.out) ?_
        simp -dsimp -implicitDefEqProofs [-getElem?_pos, -List.map_append, -List.map_set, List.getElem?_cons_zero, List.getElem?_cons_succ]
        refine call_CC (k3'.out) ?_
        simp -dsimp -implicitDefEqProofs [-getElem?_pos, -List.map_append, -List.map_set, List.getElem?_cons_zero, List.getElem?_cons_succ]
        exact ends_bool rfl
      · clear k3
        refine C_inline [] Tryd.func3 (fun _ _ => by kernel_rfl) rfl (by kernel_rfl) (by rfl) (by decide) (by rfl) (by rfl) (by rfl) ?_
        simp -dsimp -implicitDefEqProofs [-getElem?_pos, -List.map_append, -List.map_set, List.getElem?_cons_zero, List.getElem?_cons_succ]
        refine call_CC (c1.out) ?_
        simp -dsimp -implicitDefEqProofs [-getElem?_pos, -List.map_append, -List.map_set, List.getElem?_cons_zero, List.getElem?_cons_succ]
        refine call_CC (c2.out) ?_
        simp -dsimp -implicitDefEqProofs [-getElem?_pos, -List.map_append, -List.map_set, List.getElem?_cons_zero, List.getElem?_cons_succ]
        refine call_CC (law_spoken) ?_
        simp -dsimp -implicitDefEqProofs [-getElem?_pos, -List.map_append, -List.map_set, List.getElem?_cons_zero, List.getElem?_cons_succ]
        refine call_CC (c4.out) ?_
        simp -dsimp -implicitDefEqProofs [-getElem?_pos, -List.map_append, -List.map_set, List.getElem?_cons_zero, List.getElem?_cons_succ, k1']
        refine call_CC (k2'.out) ?_
        simp -dsimp -implicitDefEqProofs [-getElem?_pos, -List.map_append, -List.map_set, List.getElem?_cons_zero, List.getElem?_cons_succ]
        refine call_CC (c5.out) ?_
        simp -dsimp -implicitDefEqProofs [-getElem?_pos, -List.map_append, -List.map_set, List.getElem?_cons_zero, List.getElem?_cons_succ]
        refine call_CC (c3.out) ?_
        simp -dsimp -implicitDefEqProofs [-getElem?_pos, -List.map_append, -List.map_set, List.getElem?_cons_zero, List.getElem?_cons_succ, hg]
        exact ends_bool rfl
    · clear k1
      by_cases hg : g = 0
      · subst hg
        have k3' := hid (k3 rfl)
        clear k3
        refine C_inline [] Tryd.func3 (fun _ _ => by kernel_rfl) rfl (by kernel_rfl) (by rfl) (by decide) (by rfl) (by rfl) (by rfl) ?_
        simp -dsimp -implicitDefEqProofs [-getElem?_pos, -List.map_append, -List.map_set, List.getElem?_cons_zero, List.getElem?_cons_succ]
        refine call_CC (c1.out) ?_
        simp -dsimp -implicitDefEqProofs [-getElem?_pos, -List.map_append, -List.map_set, List.getElem?_cons_zero, List.getElem?_cons_succ]
        refine call_CC (c2.out) ?_
        simp -dsimp -implicitDefEqProofs [-getElem?_pos, -List.map_append, -List.map_set, List.getElem?_cons_zero, List.getElem?_cons_succ]
        refine call_CC (law_spoken) ?_
        simp -dsimp -implicitDefEqProofs [-getElem?_pos, -List.map_append, -List.map_set, List.getElem?_cons_zero, List.getElem?_cons_succ, hf]
        refine call_CC (k2'.out) ?_
        simp -dsimp -implicitDefEqProofs [-getElem?_pos, -List.map_append, -List.map_set, List.getElem?_cons_zero, List.getElem?_cons_succ]
        refine call_CC (c5.out) ?_
        simp -dsimp -implicitDefEqProofs [-getElem?_pos, -List.map_append, -List.map_set, List.getElem?_cons_zero, List.getElem?_cons_succ]
        refine call_CC (c3.out) ?_
        simp -dsimp -implicitDefEqProofs [-getElem?_pos, -List.map_append, -List.map_set, List.getElem?_cons_zero, List.getElem?_cons_succ]
        refine call_CC (k3'.out) ?_
        simp -dsimp -implicitDefEqProofs [-getElem?_pos, -List.map_append, -List.map_set, List.getElem?_cons_zero, List.getElem?_cons_succ]
        exact ends_bool rfl
      · clear k3
        refine C_inline [] Tryd.func3 (fun _ _ => by kernel_rfl) rfl (by kernel_rfl) (by rfl) (by decide) (by rfl) (by rfl) (by rfl) ?_
        simp -dsimp -implicitDefEqProofs [-getElem?_pos, -List.map_append, -List.map_set, List.getElem?_cons_zero, List.getElem?_cons_succ]
        refine call_CC (c1.out) ?_
        simp -dsimp -implicitDefEqProofs [-getElem?_pos, -List.map_append, -List.map_set, List.getElem?_cons_zero, List.getElem?_cons_succ]
        refine call_CC (c2.out) ?_
        simp -dsimp -implicitDefEqProofs [-getElem?_pos, -List.map_append, -List.map_set, List.getElem?_cons_zero, List.getElem?_cons_succ]
        refine call_CC (law_spoken) ?_
        simp -dsimp -implicitDefEqProofs [-getElem?_pos, -List.map_append, -List.map_set, List.getElem?_cons_zero, List.getElem?_cons_succ, hf]
        refine call_CC (k2'.out) ?_
        simp -dsimp -implicitDefEqProofs [-getElem?_pos, -List.map_append, -List.map_set, List.getElem?_cons_zero, List.getElem?_cons_succ]
        refine call_CC (c5.out) ?_
        simp -dsimp -implicitDefEqProofs [-getElem?_pos, -List.map_append, -List.map_set, List.getElem?_cons_zero, List.getElem?_cons_succ]
        refine call_CC (c3.out) ?_
        simp -dsimp -implicitDefEqProofs [-getElem?_pos, -List.map_append, -List.map_set, List.getElem?_cons_zero, List.getElem?_cons_succ, hg]
        exact ends_bool rfl
  · clear k1 k2
    by_cases hg : g = 0
    · subst hg
      have k3' := hid (k3 rfl)
      clear k3
      refine C_inline [] Tryd.func3 (fun _ _ => by kernel_rfl) rfl (by kernel_rfl) (by rfl) (by decide) (by rfl) (by rfl) (by rfl) ?_
      simp -dsimp -implicitDefEqProofs [-getElem?_pos, -List.map_append, -List.map_set, List.getElem?_cons_zero, List.getElem?_cons_succ]
      refine call_CC (c1.out) ?_
      simp -dsimp -implicitDefEqProofs [-getElem?_pos, -List.map_append, -List.map_set, List.getElem?_cons_zero, List.getElem?_cons_succ]
      refine call_CC (c2.out) ?_
      simp -dsimp -implicitDefEqProofs [-getElem?_pos, -List.map_append, -List.map_set, List.getElem?_cons_zero, List.getElem?_cons_succ]
      refine call_CC (law_spoken) ?_
      simp -dsimp -implicitDefEqProofs [-getElem?_pos, -List.map_append, -List.map_set, List.getElem?_cons_zero, List.getElem?_cons_succ, he]
      refine call_CC (c3.out) ?_
      simp -dsimp -implicitDefEqProofs [-getElem?_pos, -List.map_append, -List.map_set, List.getElem?_cons_zero, List.getElem?_cons_succ]
      refine call_CC (k3'.out) ?_
      simp -dsimp -implicitDefEqProofs [-getElem?_pos, -List.map_append, -List.map_set, List.getElem?_cons_zero, List.getElem?_cons_succ]
      exact ends_bool rfl
    · clear k3
      refine C_inline [] Tryd.func3 (fun _ _ => by kernel_rfl) rfl (by kernel_rfl) (by rfl) (by decide) (by rfl) (by rfl) (by rfl) ?_
      simp -dsimp -implicitDefEqProofs [-getElem?_pos, -List.map_append, -List.map_set, List.getElem?_cons_zero, List.getElem?_cons_succ]
      refine call_CC (c1.out) ?_
      simp -dsimp -implicitDefEqProofs [-getElem?_pos, -List.map_append, -List.map_set, List.getElem?_cons_zero, List.getElem?_cons_succ]
      refine call_CC (c2.out) ?_
      simp -dsimp -implicitDefEqProofs [-getElem?_pos, -List.map_append, -List.map_set, List.getElem?_cons_zero, List.getElem?_cons_succ]
      refine call_CC (law_spoken) ?_
      simp -dsimp -implicitDefEqProofs [-getElem?_pos, -List.map_append, -List.map_set, List.getElem?_cons_zero, List.getElem?_cons_succ, he]
      refine call_CC (c3.out) ?_
      simp -dsimp -implicitDefEqProofs [-getElem?_pos, -List.map_append, -List.map_set, List.getElem?_cons_zero, List.getElem?_cons_succ, hg]
      exact ends_bool rfl

end Go.Proofs.YtallmebpmoaopaaDoor.E
