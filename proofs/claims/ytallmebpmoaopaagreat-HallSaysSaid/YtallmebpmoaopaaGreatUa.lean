
/- Ua: ref.CheckHall, ref.SameHall, ref.Nexted; law.HallSays. -/
import Derived.Test.YtallmebpmoaopaaGreatD2
import Derived.Test.YtallmebpmoaopaaGreatK1
namespace Go.Proofs.YtallmebpmoaopaaGreat.E
open Go.RowKit Go.Proofs
set_option maxRecDepth 100000
set_option maxHeartbeats 2000000
set_option linter.unusedSimpArgs false
set_option linter.unusedVariables false

theorem ref_SameAnswer0 (a : S.Answer) : C Tryz.prog 15 [.agg (ansC false a), .agg [Int' 0, Int' 0, .nl]] (Bool' (decide (a = S.Answer.zero))) [] := (ref_SameAnswer a S.Answer.zero).args (.cons (.refl _) (.cons sub_ans0 (.nil _)))
theorem ref_SameHall1 (a b : S.Last) : C Tryz.prog 33 [.agg (lastC false a), .agg (lastC false b)] (Bool' (decide (a = b))) [] := by
  refine C_inline [] Tryz.func33 (fun _ _ => by kernel_rfl) rfl (by kernel_rfl) (by rfl) (by decide) (by rfl) (by rfl) (by rfl) ?_
  simp -dsimp -implicitDefEqProofs [-getElem?_pos, -List.map_append, -List.map_set, List.getElem?_cons_zero, List.getElem?_cons_succ]
  refine guardC_C (ref_SameAnswer a.a b.a) (by first | rfl | (simp -dsimp -implicitDefEqProofs; done)) (by first | exact Or.inr (by rfl) | exact Or.inl (by rfl)) ?_
  simp -dsimp -implicitDefEqProofs [-getElem?_pos, -List.map_append, -List.map_set, List.getElem?_cons_zero, List.getElem?_cons_succ]
  exact ends_eq (by cases a; cases b; simp)
theorem equal_lasts_ref (xs ys : List S.Last) : C Tryz.prog 30 [.lst false 4 (xs.map (lastC false)), .lst false 4 (ys.map (lastC false)), .fn 33 []] (Bool' (decide (xs = ys))) [] := by
  rw [← eqAll_dec]
  exact equalFunc_lasts (fun _ => rfl) xs ys (fun x y _ _ => ref_SameHall1 x y) (fun _ _ => ⟨rfl, rfl⟩)
theorem ref_SameHall (a b : S.Hall) : C Tryz.prog 12 [.agg (hallC false a), .agg (hallC false b)] (Bool' (decide (a = b))) [] := by
  refine C_inline [] Tryz.func12 (fun _ _ => by kernel_rfl) rfl (by kernel_rfl) (by rfl) (by decide) (by rfl) (by rfl) (by rfl) ?_
  simp -dsimp -implicitDefEqProofs [-getElem?_pos, -List.map_append, -List.map_set, List.getElem?_cons_zero, List.getElem?_cons_succ]
  refine call_CC (ref_SameDesk a.d b.d) ?_
  simp -dsimp -implicitDefEqProofs [-getElem?_pos, -List.map_append, -List.map_set, List.getElem?_cons_zero, List.getElem?_cons_succ]
  refine guardC_C (equal_lasts_ref a.last b.last) (by first | rfl | (simp -dsimp -implicitDefEqProofs; done)) (by first | exact Or.inr (by rfl) | exact Or.inl (by rfl)) ?_
  simp -dsimp -implicitDefEqProofs [-getElem?_pos, -List.map_append, -List.map_set, List.getElem?_cons_zero, List.getElem?_cons_succ]
  exact ends_eq (by cases a; cases b; simp)

theorem ref_CheckHall (h : S.Hall) : C Tryz.prog 10 [.agg (hallC false h)] (Int' (S.checkHall h)) [] := by
  obtain ⟨d, ls⟩ := h
  obtain ⟨r, hr⟩ : ∃ r, S.checkHall ⟨d, ls⟩ = r := ⟨_, rfl⟩
  rw [hr]
  unfold S.checkHall at hr
  simp only at hr
  replace hr := hid hr
  refine C_inline [] Tryz.func10 (fun _ _ => by kernel_rfl) rfl (by kernel_rfl) (by rfl) (by decide) (by rfl) (by rfl) (by rfl) ?_
  simp -dsimp -implicitDefEqProofs [-getElem?_pos, -List.map_append, -List.map_set, List.getElem?_cons_zero, List.getElem?_cons_succ]
  refine call_CC (ref_CheckDesk d) ?_
  simp -dsimp -implicitDefEqProofs [-getElem?_pos, -List.map_append, -List.map_set, List.getElem?_cons_zero, List.getElem?_cons_succ]
  by_cases h1 : S.checkDesk d = 0
  rotate_left
  · simp -dsimp -implicitDefEqProofs [-getElem?_pos, -List.map_append, -List.map_set, List.getElem?_cons_zero, List.getElem?_cons_succ, h1]
    exact ends_int (by rw [← hr.out, if_pos h1])
  simp -dsimp -implicitDefEqProofs [-getElem?_pos, -List.map_append, -List.map_set, List.getElem?_cons_zero, List.getElem?_cons_succ, h1]
  refine brA_split (fun h2 => ?_) (fun h2 => ?_)
  rotate_left
  · simp -dsimp -implicitDefEqProofs [-getElem?_pos, -List.map_append, -List.map_set, List.getElem?_cons_zero, List.getElem?_cons_succ]
    exact ends_int (by simp at h2; rw [← hr.out, if_neg (by simp [h1]), if_pos (by omega)])
  simp at h2
  have hl : ls.length = 3 := by omega
  have hr2 := hr.out
  rw [if_neg (by simp [h1]), if_neg (by simp [hl])] at hr2
  replace hr2 := hid hr2
  clear hr h1
  simp -dsimp -implicitDefEqProofs [-getElem?_pos, -List.map_append, -List.map_set, List.getElem?_cons_zero, List.getElem?_cons_succ]
  refine loop_count 20 ls.length (fun k _ m t => (∃ d, m = d + 20) ∧ Hid (∀ (j : Nat) (x : S.Last), j < k → ls[j]? = some x → S.checkLast x = 0)) _ rfl (by rfl) ⟨⟨_, rfl⟩, by intro j x hj; omega⟩ ?_ ?_
  · rintro k t h m hk hci hs ⟨⟨d, rfl⟩, hb⟩
    have hw : IntKind.i64.wrap ((k : Int) + 1) = (k : Int) + 1 := wrap_ok (by omega)
    obtain ⟨x, hx⟩ : ∃ x, ls[k]? = some x := ⟨ls[k], by simp⟩
    have hk' : decide (k < ls.length) = true := by simp [hk]
    have e1 := hs 1 rfl
    have e18 := hs 18 rfl
    have e19 := hs 19 rfl
    clear hs
    simp -dsimp -implicitDefEqProofs at e1 e18 e19
    replace hk := hid hk
    obtain ⟨q, hq⟩ : ∃ q, S.checkLast x = q := ⟨_, rfl⟩
    have hbad : q ≠ 0 → q = r := fun g => by rw [← hr2.out, firstBad_at hb.out hx (by rw [hq]; exact g), hq]
    have hgood : q = 0 → ∀ (j : Nat) (y : S.Last), j < k + 1 → ls[j]? = some y → S.checkLast y = 0 := fun g => upto_succ hb.out hx (by rw [hq]; exact g)
    replace hbad := hid hbad
    replace hgood := hid hgood
    clear hb
    obtain ⟨s, a⟩ := x
    unfold S.checkLast at hq
    simp only at hq
    by_cases h0 : s < 0 ∨ 40 < s
    · have h0' := in_no h0
      have e : q = 3 := by rw [← hq, if_pos (by omega)]
      have := hbad.out (by omega)
      clear hq hbad hgood h0
      simp -dsimp -implicitDefEqProofs [-getElem?_pos, -List.map_append, -List.map_set, List.getElem?_cons_zero, List.getElem?_cons_succ, e1, e18, e19, hci, hk', hx]
      refine call_CC (ref_in s 0 40) ?_
      simp -dsimp -implicitDefEqProofs [-getElem?_pos, -List.map_append, -List.map_set, List.getElem?_cons_zero, List.getElem?_cons_succ, h0']
      exact ends_int (by omega)
    have h0' := in_yes h0
    rw [if_neg (by omega)] at hq
    replace h0 := hid h0
    by_cases h3 : S.checkAnswer a = 0
    rotate_left
    · have e : q = S.checkAnswer a := by rw [← hq, if_pos h3]
      have := hbad.out (by rw [e]; exact h3)
      clear hq hbad hgood
      simp -dsimp -implicitDefEqProofs [-getElem?_pos, -List.map_append, -List.map_set, List.getElem?_cons_zero, List.getElem?_cons_succ, e1, e18, e19, hci, hk', hx]
      refine call_CC (ref_in s 0 40) ?_
      simp -dsimp -implicitDefEqProofs [-getElem?_pos, -List.map_append, -List.map_set, List.getElem?_cons_zero, List.getElem?_cons_succ, h0']
      refine call_CC (ref_CheckAnswer a) ?_
      simp -dsimp -implicitDefEqProofs [-getElem?_pos, -List.map_append, -List.map_set, List.getElem?_cons_zero, List.getElem?_cons_succ, h3]
      exact ends_int (by omega)
    rw [if_neg (by simp [h3])] at hq
    by_cases h4 : s = 0
    · subst h4
      by_cases h5 : a = S.Answer.zero
      · have e : q = 0 := by rw [← hq, if_neg (by simp [h5])]
        have hg := hgood.out e
        clear hq hbad hgood
        simp -dsimp -implicitDefEqProofs [-getElem?_pos, -List.map_append, -List.map_set, List.getElem?_cons_zero, List.getElem?_cons_succ, e1, e18, e19, hci, hk', hx]
        refine call_CC (ref_in 0 0 40) ?_
        simp -dsimp -implicitDefEqProofs [-getElem?_pos, -List.map_append, -List.map_set, List.getElem?_cons_zero, List.getElem?_cons_succ, h0']
        refine call_CC (ref_CheckAnswer a) ?_
        simp -dsimp -implicitDefEqProofs [-getElem?_pos, -List.map_append, -List.map_set, List.getElem?_cons_zero, List.getElem?_cons_succ, h3]
        refine call_CC (ref_SameAnswer0 a) ?_
        simp -dsimp -implicitDefEqProofs [-getElem?_pos, -List.map_append, -List.map_set, List.getElem?_cons_zero, List.getElem?_cons_succ, e1, e18, e19, hci, hw, h5]
        exact hg
      · have e : q = 4 := by rw [← hq, if_pos ⟨rfl, h5⟩]
        have := hbad.out (by omega)
        clear hq hbad hgood
        simp -dsimp -implicitDefEqProofs [-getElem?_pos, -List.map_append, -List.map_set, List.getElem?_cons_zero, List.getElem?_cons_succ, e1, e18, e19, hci, hk', hx]
        refine call_CC (ref_in 0 0 40) ?_
        simp -dsimp -implicitDefEqProofs [-getElem?_pos, -List.map_append, -List.map_set, List.getElem?_cons_zero, List.getElem?_cons_succ, h0']
        refine call_CC (ref_CheckAnswer a) ?_
        simp -dsimp -implicitDefEqProofs [-getElem?_pos, -List.map_append, -List.map_set, List.getElem?_cons_zero, List.getElem?_cons_succ, h3]
        refine call_CC (ref_SameAnswer0 a) ?_
        simp -dsimp -implicitDefEqProofs [-getElem?_pos, -List.map_append, -List.map_set, List.getElem?_cons_zero, List.getElem?_cons_succ, e1, e18, e19, hci, hw, h5]
        exact ends_int (by omega)
    · have e : q = 0 := by rw [← hq, if_neg (fun g => h4 g.1)]
      have hg := hgood.out e
      clear hq hbad hgood
      simp -dsimp -implicitDefEqProofs [-getElem?_pos, -List.map_append, -List.map_set, List.getElem?_cons_zero, List.getElem?_cons_succ, e1, e18, e19, hci, hk', hx]
      refine call_CC (ref_in s 0 40) ?_
      simp -dsimp -implicitDefEqProofs [-getElem?_pos, -List.map_append, -List.map_set, List.getElem?_cons_zero, List.getElem?_cons_succ, h0']
      refine call_CC (ref_CheckAnswer a) ?_
      simp -dsimp -implicitDefEqProofs [-getElem?_pos, -List.map_append, -List.map_set, List.getElem?_cons_zero, List.getElem?_cons_succ, h3, h4, e1, e18, e19, hci, hw]
      exact hg
  · rintro t h m hci hs ⟨⟨d, rfl⟩, hb⟩
    have hfb := firstBad_none (f := S.checkLast) (xs := ls) hb.out
    have e1 := hs 1 rfl
    have e18 := hs 18 rfl
    have e19 := hs 19 rfl
    clear hs
    simp -dsimp -implicitDefEqProofs at e1 e18 e19
    simp -dsimp -implicitDefEqProofs [-getElem?_pos, -List.map_append, -List.map_set, List.getElem?_cons_zero, List.getElem?_cons_succ, e1, e18, e19, hci]
    exact ends_int (by rw [← hr2.out, hfb])

theorem ref_Nexted (h : S.Hall) (r : S.Rec) : C Tryz.prog 6 [.agg (hallC false h), .agg (recC false r)] (nextRF (S.nextHall h r)) [] := by
  obtain ⟨q, hq⟩ : ∃ q, S.nextHall h r = q := ⟨_, rfl⟩
  rw [hq]
  unfold S.nextHall at hq
  have h1 := ref_CheckHall h
  have h2 := ref_CheckRec r
  by_cases g : S.checkHall h = 0
  · rw [if_neg (by simp [g])] at hq
    rw [g] at h1
    by_cases g2 : S.checkRec r = 0
    · rw [if_neg (by simp [g2])] at hq
      have h3 := ref_nexted h r g g2
      rw [hq] at h3
      rw [g2] at h2
      replace h1 := hid h1
      replace h2 := hid h2
      replace h3 := hid h3
      clear hq g g2
      refine C_inline [] Tryz.func6 (fun _ _ => by kernel_rfl) rfl (by kernel_rfl) (by rfl) (by decide) (by rfl) (by rfl) (by rfl) ?_
      simp -dsimp -implicitDefEqProofs [-getElem?_pos, -List.map_append, -List.map_set, List.getElem?_cons_zero, List.getElem?_cons_succ]
      refine call_CC (h1.out) ?_
      simp -dsimp -implicitDefEqProofs [-getElem?_pos, -List.map_append, -List.map_set, List.getElem?_cons_zero, List.getElem?_cons_succ]
      refine call_CC (h2.out) ?_
      simp -dsimp -implicitDefEqProofs [-getElem?_pos, -List.map_append, -List.map_set, List.getElem?_cons_zero, List.getElem?_cons_succ]
      refine call_CC (h3.out) ?_
      simp -dsimp -implicitDefEqProofs [-getElem?_pos, -List.map_append, -List.map_set, List.getElem?_cons_zero, List.getElem?_cons_succ]
      exact ends_aai outL outL rfl
    · rw [if_pos g2] at hq
      subst hq
      replace h1 := hid h1
      clear g
      generalize S.checkRec r = e at *
      replace h2 := hid h2
      refine C_inline [] Tryz.func6 (fun _ _ => by kernel_rfl) rfl (by kernel_rfl) (by rfl) (by decide) (by rfl) (by rfl) (by rfl) ?_
      simp -dsimp -implicitDefEqProofs [-getElem?_pos, -List.map_append, -List.map_set, List.getElem?_cons_zero, List.getElem?_cons_succ]
      refine call_CC (h1.out) ?_
      simp -dsimp -implicitDefEqProofs [-getElem?_pos, -List.map_append, -List.map_set, List.getElem?_cons_zero, List.getElem?_cons_succ]
      refine call_CC (h2.out) ?_
      simp -dsimp -implicitDefEqProofs [-getElem?_pos, -List.map_append, -List.map_set, List.getElem?_cons_zero, List.getElem?_cons_succ, g2]
      exact ends_aai outL outL rfl
  · rw [if_pos g] at hq
    subst hq
    clear h2
    generalize S.checkHall h = e at *
    replace h1 := hid h1
    refine C_inline [] Tryz.func6 (fun _ _ => by kernel_rfl) rfl (by kernel_rfl) (by rfl) (by decide) (by rfl) (by rfl) (by rfl) ?_
    simp -dsimp -implicitDefEqProofs [-getElem?_pos, -List.map_append, -List.map_set, List.getElem?_cons_zero, List.getElem?_cons_succ]
    refine call_CC (h1.out) ?_
    simp -dsimp -implicitDefEqProofs [-getElem?_pos, -List.map_append, -List.map_set, List.getElem?_cons_zero, List.getElem?_cons_succ, g]
    exact ends_aai outL outL rfl

theorem hallOf_eqU {l : List S.Rec} {q : S.Hall × List S.Answer × Int} (h : hallOf l = q) : C Tryz.prog 7 [.lst false 7 (l.map (recC false))] (hallOfR q) [] := h ▸ ref_HallOf l
theorem sameHD_eq {a b : S.Hall} {r : Bool} (h : decide (a = b) = r) : C Tryz.prog 11 [.agg (hallC false a), .agg (hallC false b)] (Bool' r) [] := h ▸ hall_Same a b
theorem sameHR_eq {a b : S.Hall} {r : Bool} (h : decide (a = b) = r) : C Tryz.prog 12 [.agg (hallC false a), .agg (hallC false b)] (Bool' r) [] := h ▸ ref_SameHall a b
theorem sameAR_self (a : S.Answer) : C Tryz.prog 15 [.agg (ansC false a), .agg (ansC false a)] (Bool' true) [] := by
  have := ref_SameAnswer a a
  simpa using this
theorem chkHD_eq {h : S.Hall} {e : Int} (g : S.checkHall h = e) : C Tryz.prog 9 [.agg (hallC false h)] (Int' e) [] := g ▸ hall_Check h
theorem chkHR_eq {h : S.Hall} {e : Int} (g : S.checkHall h = e) : C Tryz.prog 10 [.agg (hallC false h)] (Int' e) [] := g ▸ ref_CheckHall h

theorem law_HallSays (h : S.Hall) (r : S.Rec) (l : List S.Rec) (g : S.Hall) : C Tryz.prog 3 [.agg (hallC false h), .agg (recC false r), .lst false 7 (l.map (recC false)), .agg (hallC false g)] (Bool' true) [] := by
  obtain ⟨⟨x, a, e⟩, hq⟩ : ∃ q, S.nextHall h r = q := ⟨_, rfl⟩
  have c1 := hid (next_eq hq)
  have c3 := hid (show C Tryz.prog 6 [.agg (hallC false h), .agg (recC false r)] (nextRF (x, a, e)) [] from hq ▸ ref_Nexted h r)
  have hh : (hallOf l).1 = (S.replay l).1 ∧ (hallOf l).2.2 = (S.replay l).2 := by
    unfold S.replay hallOf
    by_cases hl : 80 < l.length
    · rw [if_pos hl, if_pos hl]; exact ⟨rfl, rfl⟩
    · rw [if_neg hl, if_neg hl]
      exact hallOf_replay l S.Hall.new [] (by decide)
  obtain ⟨⟨y, f⟩, hy⟩ : ∃ q, S.replay l = q := ⟨_, rfl⟩
  have c2 := hall_Replay l
  rw [hy] at c2
  obtain ⟨⟨y', told, f'⟩, hY⟩ : ∃ q, hallOf l = q := ⟨_, rfl⟩
  have c4 := hid (hallOf_eqU hY)
  rw [hy, hY] at hh
  obtain ⟨rfl, rfl⟩ := hh
  replace c2 := hid c2
  clear hy hY hq
  obtain ⟨k, hk⟩ : ∃ k, S.checkHall h = k := ⟨_, rfl⟩
  have c5 := hid (chkHD_eq hk)
  have c6 := hid (chkHR_eq hk)
  obtain ⟨s, hs⟩ : ∃ s, decide (h = g) = s := ⟨_, rfl⟩
  have c7 := hid (sameHD_eq hs)
  have c8 := hid (sameHR_eq hs)
  have c9 := hid (sameHR_eq (a := S.Hall.new) (b := S.Hall.new) (r := true) (by simp))
  have c10 := hid (sameHR_eq (a := x) (b := x) (r := true) (by simp))
  have c11 := hid (sameHR_eq (a := y') (b := y') (r := true) (by simp))
  have c12 := hid (sameAR_self a)
  clear hk hs
  refine C_inline [] Tryz.func3 (fun _ _ => by kernel_rfl) rfl (by kernel_rfl) (by rfl) (by decide) (by rfl) (by rfl) (by rfl) ?_
  simp -dsimp -implicitDefEqProofs [-getElem?_pos, -List.map_append, -List.map_set, List.getElem?_cons_zero, List.getElem?_cons_succ]
  refine call_CC (c1.out) ?_
  simp -dsimp -implicitDefEqProofs [-getElem?_pos, -List.map_append, -List.map_set, List.getElem?_cons_zero, List.getElem?_cons_succ]
  refine call_CC (c2.out) ?_
  simp -dsimp -implicitDefEqProofs [-getElem?_pos, -List.map_append, -List.map_set, List.getElem?_cons_zero, List.getElem?_cons_succ]
  refine call_CC (c3.out) ?_
  simp -dsimp -implicitDefEqProofs [-getElem?_pos, -List.map_append, -List.map_set, List.getElem?_cons_zero, List.getElem?_cons_succ]
  refine call_CC (c4.out) ?_
  simp -dsimp -implicitDefEqProofs [-getElem?_pos, -List.map_append, -List.map_set, List.getElem?_cons_zero, List.getElem?_cons_succ]
  refine call_CC (law_once) ?_
  simp -dsimp -implicitDefEqProofs [-getElem?_pos, -List.map_append, -List.map_set, List.getElem?_cons_zero, List.getElem?_cons_succ]
  refine call_CC (c5.out) ?_
  simp -dsimp -implicitDefEqProofs [-getElem?_pos, -List.map_append, -List.map_set, List.getElem?_cons_zero, List.getElem?_cons_succ]
  refine call_CC (c6.out) ?_
  simp -dsimp -implicitDefEqProofs [-getElem?_pos, -List.map_append, -List.map_set, List.getElem?_cons_zero, List.getElem?_cons_succ]
  refine call_CC (c7.out) ?_
  simp -dsimp -implicitDefEqProofs [-getElem?_pos, -List.map_append, -List.map_set, List.getElem?_cons_zero, List.getElem?_cons_succ]
  refine call_CC (c8.out) ?_
  simp -dsimp -implicitDefEqProofs [-getElem?_pos, -List.map_append, -List.map_set, List.getElem?_cons_zero, List.getElem?_cons_succ]
  refine call_CC (hall_New) ?_
  simp -dsimp -implicitDefEqProofs [-getElem?_pos, -List.map_append, -List.map_set, List.getElem?_cons_zero, List.getElem?_cons_succ]
  refine call_CC (ref_FreshHall) ?_
  simp -dsimp -implicitDefEqProofs [-getElem?_pos, -List.map_append, -List.map_set, List.getElem?_cons_zero, List.getElem?_cons_succ]
  refine call_CC (c9.out) ?_
  simp -dsimp -implicitDefEqProofs [-getElem?_pos, -List.map_append, -List.map_set, List.getElem?_cons_zero, List.getElem?_cons_succ]
  refine call_CC (c10.out) ?_
  simp -dsimp -implicitDefEqProofs [-getElem?_pos, -List.map_append, -List.map_set, List.getElem?_cons_zero, List.getElem?_cons_succ]
  refine call_CC (c12.out) ?_
  simp -dsimp -implicitDefEqProofs [-getElem?_pos, -List.map_append, -List.map_set, List.getElem?_cons_zero, List.getElem?_cons_succ]
  refine call_CC (c11.out) ?_
  simp -dsimp -implicitDefEqProofs [-getElem?_pos, -List.map_append, -List.map_set, List.getElem?_cons_zero, List.getElem?_cons_succ]
  exact ends_bool rfl

end Go.Proofs.YtallmebpmoaopaaGreat.E
