
/- Wc: law.lined; law.NoteBack. -/
import Derived.Test.YtallmebpmoaopaaDoorWb
namespace Go.Proofs.YtallmebpmoaopaaDoor.E
open Go.RowKit Go.Proofs
set_option linter.unusedVariables false
set_option linter.unusedSimpArgs false
set_option maxRecDepth 100000
set_option maxHeartbeats 2000000

theorem rprint_eq {c : S.Rec} {r : List UInt8 × Int} (h : S.recPrint c = r) : C Tryd.prog 17 [.agg (recC false c)] (.tup [Tx r.1, Int' r.2]) [] := h ▸ note_Print c
theorem rparse_eq {l : List UInt8} {r : S.Rec × Int} (h : S.recParse l = r) : C Tryd.prog 20 [Tx l] (.tup [.agg (recC false r.1), Int' r.2]) [] := h ▸ note_Parse l
theorem sameR_eq {a b : S.Rec} {r : Bool} (h : decide (a = b) = r) : C Tryd.prog 19 [.agg (recC false a), .agg (recC false b)] (Bool' r) [] := h ▸ note_Same a b

theorem law_lined : C Tryd.prog 18 [] (Bool' true) [] := by
  have c1 := hid (rprint_eq (c := ⟨1, 3, ⟨5, 2, 0, 0, [7]⟩⟩) (r := ([49, 32, 51, 58, 32, 97, 112, 112, 101, 110, 100, 32, 50, 32, 55], 0)) (by decide +kernel))
  have c2 := hid (rparse_eq (l := [49, 32, 51, 58, 32, 97, 112, 112, 101, 110, 100, 32, 50, 32, 55]) (r := (⟨1, 3, ⟨5, 2, 0, 0, [7]⟩⟩, 0)) (by decide +kernel))
  have c3 := hid (rparse_eq (l := [49, 32, 48, 58, 32, 99, 108, 101, 97, 114]) (r := (S.Rec.zero, 3)) (by decide +kernel))
  have c4 := hid (sameR_eq (a := ⟨1, 3, ⟨5, 2, 0, 0, [7]⟩⟩) (b := ⟨1, 3, ⟨5, 2, 0, 0, [7]⟩⟩) (r := true) (by decide))
  refine C_inline [] Tryd.func18 (fun _ _ => by kernel_rfl) rfl (by kernel_rfl) (by rfl) (by decide) (by rfl) (by rfl) (by rfl) ?_
  simp -dsimp -implicitDefEqProofs [-getElem?_pos, -List.map_append, -List.map_set, List.getElem?_cons_zero, List.getElem?_cons_succ]
  refine call_CC (c1.out) ?_
  simp -dsimp -implicitDefEqProofs [-getElem?_pos, -List.map_append, -List.map_set, List.getElem?_cons_zero, List.getElem?_cons_succ]
  refine call_CC (c2.out) ?_
  simp -dsimp -implicitDefEqProofs [-getElem?_pos, -List.map_append, -List.map_set, List.getElem?_cons_zero, List.getElem?_cons_succ]
  refine call_CC (c3.out) ?_
  simp -dsimp -implicitDefEqProofs [-getElem?_pos, -List.map_append, -List.map_set, List.getElem?_cons_zero, List.getElem?_cons_succ]
  refine call_CC (c4.out) ?_
  simp -dsimp -implicitDefEqProofs [-getElem?_pos, -List.map_append, -List.map_set, List.getElem?_cons_zero, List.getElem?_cons_succ]
  exact ends_bool rfl

theorem law_NoteBack (c d : S.Rec) (s : ByteArray) : C Tryd.prog 5 [.agg (recC false c), .agg (recC false d), .at (.string s)] (Bool' true) [] := by
  obtain ⟨l, rfl⟩ : ∃ l : List UInt8, s = ⟨l.toArray⟩ := ⟨s.data.toList, (Lib.mk_data s).symm⟩
  obtain ⟨⟨t, e⟩, h1⟩ : ∃ r, S.recPrint c = r := ⟨_, rfl⟩
  obtain ⟨⟨u, f⟩, h2⟩ : ∃ r, S.recPrint d = r := ⟨_, rfl⟩
  obtain ⟨⟨x, g⟩, h3⟩ : ∃ r, S.recParse l = r := ⟨_, rfl⟩
  have c1 := hid (rprint_eq h1)
  have c2 := hid (rprint_eq h2)
  have c3 := hid (rparse_eq h3)
  obtain ⟨b, hb⟩ : ∃ b, decide (c = d) = b := ⟨_, rfl⟩
  have c4 := hid (sameR_eq hb)
  have okp : ∀ {c : S.Rec} {t : List UInt8}, S.recPrint c = (t, 0) → S.checkRec c = 0 ∧ S.recText c = t := by
    intro c t h
    unfold S.recPrint at h
    split at h
    · rename_i hne; simp only [Prod.mk.injEq] at h; exact absurd h.2 hne
    · rename_i hz
      simp only [Prod.mk.injEq, and_true] at h
      exact ⟨by simpa using hz, h⟩
  have k1 : e = 0 → f = 0 → decide (t = u) = b := by
    intro he hf
    subst he hf
    obtain ⟨a1, a2⟩ := okp h1
    obtain ⟨b1, b2⟩ := okp h2
    rw [← hb, ← a2, ← b2]
    have := S.rec_inj a1 b1
    simp [this]
  have k2 : e = 0 → C Tryd.prog 20 [Tx t] (.tup [.agg (recC false c), Int' 0]) [] := by
    intro he
    subst he
    obtain ⟨a1, a2⟩ := okp h1
    exact rparse_eq (l := t) (r := (c, 0)) (by rw [← a2]; exact S.parse_rec a1)
  have k3 : g = 0 → C Tryd.prog 17 [.agg (recC false x)] (.tup [Tx l, Int' 0]) [] := by
    intro hg
    subst hg
    obtain ⟨a1, a2⟩ := S.rec_parse h3
    refine rprint_eq (c := x) (r := (l, 0)) ?_
    unfold S.recPrint
    rw [if_neg (by simp [a1]), a2]
  have c5 := hid (sameR_eq (a := c) (b := c) (r := true) (by simp))
  clear h1 h2 h3 hb okp
  by_cases he : e = 0
  · subst he
    have k2' := hid (k2 rfl)
    clear k2
    by_cases hf : f = 0
    · subst hf
      have k1' := k1 rfl rfl
      clear k1
      by_cases hg : g = 0
      · subst hg
        have k3' := hid (k3 rfl)
        clear k3
        refine C_inline [] Tryd.func5 (fun _ _ => by kernel_rfl) rfl (by kernel_rfl) (by rfl) (by decide) (by rfl) (by rfl) (by rfl) ?_
        simp -dsimp -implicitDefEqProofs [-getElem?_pos, -List.map_append, -List.map_set, List.getElem?_cons_zero, List.getElem?_cons_succ]
        refine call_CC (c1.out) ?_
        simp -dsimp -implicitDefEqProofs [-getElem?_pos, -List.map_append, -List.map_set, List.getElem?_cons_zero, List.getElem?_cons_succ]
        refine call_CC (c2.out) ?_
        simp -dsimp -implicitDefEqProofs [-getElem?_pos, -List.map_append, -List.map_set, List.getElem?_cons_zero, List.getElem?_cons_succ]
        refine call_CC (law_lined) ?_
        simp -dsimp -implicitDefEqProofs [-getElem?_pos, -List.map_append, -List.map_set, List.getElem?_cons_zero, List.getElem?_cons_succ]
        refine call_CC (c4.out) ?_
        simp -dsimp -implicitDefEqProofs [-getElem?_pos, -List.map_append, -List.map_set, List.getElem?_cons_zero, List.getElem?_cons_succ, k1']
        refine call_CC (k2'.out) ?_
        simp -dsimp -implicitDefEqProofs [-getElem?_pos, -List.map_append, -List.map_set, List.getElem?_cons_zero, List.getElem?_cons_succ]
        refine call_CC (c5.out) ?_
        simp -dsimp -implicitDefEqProofs [-getElem?_pos, -List.map_append, -List.map_set, List.getElem?_cons_zero, List.getElem?_cons_succ]
        refine call_CC (c3.out) ?_
        simp -dsimp -implicitDefEqProofs [-getElem?_pos, -List.map_append, -List.map_set, List.getElem?_cons_zero, List.getElem?_cons_succ]
        refine call_CC (k3'.out) ?_
        simp -dsimp -implicitDefEqProofs [-getElem?_pos, -List.map_append, -List.map_set, List.getElem?_cons_zero, List.getElem?_cons_succ]
        exact ends_bool rfl
      · clear k3
        refine C_inline [] Tryd.func5 (fun _ _ => by kernel_rfl) rfl (by kernel_rfl) (by rfl) (by decide) (by rfl) (by rfl) (by rfl) ?_
        simp -dsimp -implicitDefEqProofs [-getElem?_pos, -List.map_append, -List.map_set, List.getElem?_cons_zero, List.getElem?_cons_succ]
        refine call_CC (c1.out) ?_
        simp -dsimp -implicitDefEqProofs [-getElem?_pos, -List.map_append, -List.map_set, List.getElem?_cons_zero, List.getElem?_cons_succ]
        refine call_CC (c2.out) ?_
        simp -dsimp -implicitDefEqProofs [-getElem?_pos, -List.map_append, -List.map_set, List.getElem?_cons_zero, List.getElem?_cons_succ]
        refine call_CC (law_lined) ?_
        simp -dsimp -implicitDefEqProofs [-getElem?_pos, -List.map_append, -List.map_set, List.getElem?_cons_zero, List.getElem?_cons_succ]
        refine call_CC (c4.out) ?_
        simp -dsimp -implicitDefEqProofs [-getElem?_pos, -List.map_append, -List.map_set, List.getElem?_cons_zero, List.getElem?_cons_succ, k1']
        refine call_CC (k2'.out) ?_
        simp -dsimp -implicitDefEqProofs [-getElem?_pos, -List.map_append, -List.map_set, List.getElem?_cons_zero, List.getElem?_cons_succ]
        refine call_CC (c5.out) ?_
        simp -dsimp -implicitDefEqProofs [-getElem?_pos, -List.map_append, -List.map_set, List.getElem?_cons_zero, List.getElem?_cons_succ]
        refine call_CC (c3.out) ?_
        simp -dsimp -implicitDefEqProofs [-getElem?_pos, -List.map_append, -List.map_set, List.getElem?_cons_zero, List.getElem?_cons_succ, hg]
        exact ends_bool rfl
    · clear k1
      by_cases hg : g = 0
      · subst hg
        have k3' := hid (k3 rfl)
        clear k3
        refine C_inline [] Tryd.func5 (fun _ _ => by kernel_rfl) rfl (by kernel_rfl) (by rfl) (by decide) (by rfl) (by rfl) (by rfl) ?_
        simp -dsimp -implicitDefEqProofs [-getElem?_pos, -List.map_append, -List.map_set, List.getElem?_cons_zero, List.getElem?_cons_succ]
        refine call_CC (c1.out) ?_
        simp -dsimp -implicitDefEqProofs [-getElem?_pos, -List.map_append, -List.map_set, List.getElem?_cons_zero, List.getElem?_cons_succ]
        refine call_CC (c2.out) ?_
        simp -dsimp -implicitDefEqProofs [-getElem?_pos, -List.map_append, -List.map_set, List.getElem?_cons_zero, List.getElem?_cons_succ]
        refine call_CC (law_lined) ?_
        simp -dsimp -implicitDefEqProofs [-getElem?_pos, -List.map_append, -List.map_set, List.getElem?_cons_zero, List.getElem?_cons_succ, hf]
        refine call_CC (k2'.out) ?_
        simp -dsimp -implicitDefEqProofs [-getElem?_pos, -List.map_append, -List.map_set, List.getElem?_cons_zero, List.getElem?_cons_succ]
        refine call_CC (c5.out) ?_
        simp -dsimp -implicitDefEqProofs [-getElem?_pos, -List.map_append, -List.map_set, List.getElem?_cons_zero, List.getElem?_cons_succ]
        refine call_CC (c3.out) ?_
        simp -dsimp -implicitDefEqProofs [-getElem?_pos, -List.map_append, -List.map_set, List.getElem?_cons_zero, List.getElem?_cons_succ]
        refine call_CC (k3'.out) ?_
        simp -dsimp -implicitDefEqProofs [-getElem?_pos, -List.map_append, -List.map_set, List.getElem?_cons_zero, List.getElem?_cons_succ]
        exact ends_bool rfl
      · clear k3
        refine C_inline [] Tryd.func5 (fun _ _ => by kernel_rfl) rfl (by kernel_rfl) (by rfl) (by decide) (by rfl) (by rfl) (by rfl) ?_
        simp -dsimp -implicitDefEqProofs [-getElem?_pos, -List.map_append, -List.map_set, List.getElem?_cons_zero, List.getElem?_cons_succ]
        refine call_CC (c1.out) ?_
        simp -dsimp -implicitDefEqProofs [-getElem?_pos, -List.map_append, -List.map_set, List.getElem?_cons_zero, List.getElem?_cons_succ]
        refine call_CC (c2.out) ?_
        simp -dsimp -implicitDefEqProofs [-getElem?_pos, -List.map_append, -List.map_set, List.getElem?_cons_zero, List.getElem?_cons_succ]
        refine call_CC (law_lined) ?_
        simp -dsimp -implicitDefEqProofs [-getElem?_pos, -List.map_append, -List.map_set, List.getElem?_cons_zero, List.getElem?_cons_succ, hf]
        refine call_CC (k2'.out) ?_
        simp -dsimp -implicitDefEqProofs [-getElem?_pos, -List.map_append, -List.map_set, List.getElem?_cons_zero, List.getElem?_cons_succ]
        refine call_CC (c5.out) ?_
        simp -dsimp -implicitDefEqProofs [-getElem?_pos, -List.map_append, -List.map_set, List.getElem?_cons_zero, List.getElem?_cons_succ]
        refine call_CC (c3.out) ?_
        simp -dsimp -implicitDefEqProofs [-getElem?_pos, -List.map_append, -List.map_set, List.getElem?_cons_zero, List.getElem?_cons_succ, hg]
        exact ends_bool rfl
  · clear k1 k2
    by_cases hg : g = 0
    · subst hg
      have k3' := hid (k3 rfl)
      clear k3
      refine C_inline [] Tryd.func5 (fun _ _ => by kernel_rfl) rfl (by kernel_rfl) (by rfl) (by decide) (by rfl) (by rfl) (by rfl) ?_
      simp -dsimp -implicitDefEqProofs [-getElem?_pos, -List.map_append, -List.map_set, List.getElem?_cons_zero, List.getElem?_cons_succ]
      refine call_CC (c1.out) ?_
      simp -dsimp -implicitDefEqProofs [-getElem?_pos, -List.map_append, -List.map_set, List.getElem?_cons_zero, List.getElem?_cons_succ]
      refine call_CC (c2.out) ?_
      simp -dsimp -implicitDefEqProofs [-getElem?_pos, -List.map_append, -List.map_set, List.getElem?_cons_zero, List.getElem?_cons_succ]
      refine call_CC (law_lined) ?_
      simp -dsimp -implicitDefEqProofs [-getElem?_pos, -List.map_append, -List.map_set, List.getElem?_cons_zero, List.getElem?_cons_succ, he]
      refine call_CC (c3.out) ?_
      simp -dsimp -implicitDefEqProofs [-getElem?_pos, -List.map_append, -List.map_set, List.getElem?_cons_zero, List.getElem?_cons_succ]
      refine call_CC (k3'.out) ?_
      simp -dsimp -implicitDefEqProofs [-getElem?_pos, -List.map_append, -List.map_set, List.getElem?_cons_zero, List.getElem?_cons_succ]
      exact ends_bool rfl
    · clear k3
      refine C_inline [] Tryd.func5 (fun _ _ => by kernel_rfl) rfl (by kernel_rfl) (by rfl) (by decide) (by rfl) (by rfl) (by rfl) ?_
      simp -dsimp -implicitDefEqProofs [-getElem?_pos, -List.map_append, -List.map_set, List.getElem?_cons_zero, List.getElem?_cons_succ]
      refine call_CC (c1.out) ?_
      simp -dsimp -implicitDefEqProofs [-getElem?_pos, -List.map_append, -List.map_set, List.getElem?_cons_zero, List.getElem?_cons_succ]
      refine call_CC (c2.out) ?_
      simp -dsimp -implicitDefEqProofs [-getElem?_pos, -List.map_append, -List.map_set, List.getElem?_cons_zero, List.getElem?_cons_succ]
      refine call_CC (law_lined) ?_
      simp -dsimp -implicitDefEqProofs [-getElem?_pos, -List.map_append, -List.map_set, List.getElem?_cons_zero, List.getElem?_cons_succ, he]
      refine call_CC (c3.out) ?_
      simp -dsimp -implicitDefEqProofs [-getElem?_pos, -List.map_append, -List.map_set, List.getElem?_cons_zero, List.getElem?_cons_succ, hg]
      exact ends_bool rfl

end Go.Proofs.YtallmebpmoaopaaDoor.E
