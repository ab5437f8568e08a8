/- Hf: law.HandTurns. -/
import Derived.Test.YtdjdjnmccphbjaaHe
namespace Go.Proofs.Ytdjdjnmccphbjaa.E
open Go.RowKit Go.Proofs
set_option maxRecDepth 100000
set_option maxHeartbeats 2000000
set_option linter.unusedSimpArgs false

theorem checkHand_of {h : S.Hand} (h1 : 0 ≤ h.seq ∧ h.seq ≤ 40) (h2 : ∀ a, a ∈ h.got → S.checkAnswer a = 0) (h3 : (h.got.length : Int) + (if h.waits = true then 1 else 0) = h.seq) (h4 : h.waits = false → h.c = S.Cmd.zero) (h5 : h.waits = true → S.checkCmd h.c = 0) : S.checkHand h = 0 := by
  have hf : S.firstBad S.checkAnswer h.got = 0 := firstBad_none fun j x _ hx => h2 x (List.mem_of_getElem? hx)
  unfold S.checkHand
  rw [if_neg (by omega), if_neg (by simp [hf]), if_neg]
  · split
    · rename_i hw; exact h5 hw
    · rfl
  · rintro (g | ⟨g, g'⟩)
    · exact g h3
    · exact g' (h4 g)

/-- a hand that doesn't wait asks: what it is then, and behind the answer -/
theorem turn {h : S.Hand} (h0 : S.checkHand h = 0) (hw : h.waits = false) {c : S.Cmd} (hc : S.checkCmd c = 0) (hs : h.seq < 40) {a : S.Answer} (ha : S.checkAnswer a = 0) :
    S.ask h c = (⟨h.seq + 1, true, c, h.got⟩, 0) ∧ S.hear ⟨h.seq + 1, true, c, h.got⟩ (h.seq + 1) a = (⟨h.seq + 1, false, S.Cmd.zero, h.got ++ [a]⟩, 0) ∧
      S.hear ⟨h.seq + 1, false, S.Cmd.zero, h.got ++ [a]⟩ (h.seq + 1) a = (⟨h.seq + 1, false, S.Cmd.zero, h.got ++ [a]⟩, 0) ∧ S.checkHand ⟨h.seq + 1, false, S.Cmd.zero, h.got ++ [a]⟩ = 0 := by
  obtain ⟨p1, p2, p3, p4, p5⟩ := checkHand_parts h0
  rw [if_neg (by simp [hw])] at p3
  have k1 : S.checkHand ⟨h.seq + 1, true, c, h.got⟩ = 0 := checkHand_of (by simp only; omega) p2 (by simp; omega) (by simp) (fun _ => hc)
  have k2 : S.checkHand ⟨h.seq + 1, false, S.Cmd.zero, h.got ++ [a]⟩ = 0 := checkHand_of (by simp only; omega) (fun x hx => by
    rcases List.mem_append.1 hx with g | g
    · exact p2 x g
    · simp at g; subst g; exact ha) (by simp; omega) (fun _ => rfl) (by simp)
  refine ⟨?_, ?_, ?_, k2⟩
  · unfold S.ask
    rw [if_neg (by simp [h0]), if_neg (by simp [hc]), if_neg (by simp [hw]), if_neg (by omega)]
  · unfold S.hear
    rw [if_neg (by simp [k1]), if_neg (by simp [ha]), if_pos ⟨rfl, rfl⟩]
  · unfold S.hear
    rw [if_neg (by simp [k2]), if_neg (by simp [ha]), if_neg (by simp)]
theorem turn_not {h : S.Hand} (h0 : S.checkHand h = 0) (hw : h.waits = false) {c : S.Cmd} (hn : ¬ (S.checkCmd c = 0 ∧ h.seq < 40)) : (S.ask h c).2 ≠ 0 := by
  obtain ⟨p1, -⟩ := checkHand_parts h0
  unfold S.ask
  rw [if_neg (by simp [h0])]
  by_cases hc : S.checkCmd c = 0
  · rw [if_neg (by simp [hc]), if_neg (by simp [hw]), if_pos (by omega)]
    decide
  · rw [if_pos hc]; exact hc

/-- a hand that doesn't wait lies there -/
def HandOk (h : Heap) (i : Nat) : Prop := ∃ (fr : Bool) (hd : S.Hand), h i = some ⟨50, 8, [handC fr hd]⟩ ∧ S.checkHand hd = 0 ∧ hd.waits = false

theorem law_HandTurns (h : S.Hand) (l : List S.Cmd) (a : S.Answer) : C Try.prog 7 [.agg (handC false h), .lst false 5 (l.map (cmdC false)), .agg (ansC false a)] (Bool' true) [] := by
  by_cases h0 : S.checkHand h = 0
  · by_cases ha : S.checkAnswer a = 0
    · obtain ⟨m0, hm1, hm2⟩ : ∃ m : Nat, (if (10 : Int) < (l.length : Int) then (10 : Int) else (l.length : Int)) = (m : Int) ∧ m ≤ l.length := by
        by_cases g : (10 : Int) < (l.length : Int)
        · exact ⟨10, by rw [if_pos g]; rfl, by omega⟩
        · exact ⟨l.length, by rw [if_neg g], Nat.le_refl _⟩
      obtain ⟨l', hl'⟩ : ∃ l', l' = l.take m0 := ⟨_, rfl⟩
      have hl1 : (l.map (cmdC false)).take m0 = l'.map (cmdC false) := by rw [hl', List.map_take]
      have hl2 : l'.length = m0 := by rw [hl']; simp; omega
      replace hl' := hid hl'
      have hr := hid (checkHand_parts h0)
      have hstart : h.waits = true → S.hear h h.seq a = (⟨h.seq, false, S.Cmd.zero, h.got ++ [a]⟩, 0) ∧ S.checkHand ⟨h.seq, false, S.Cmd.zero, h.got ++ [a]⟩ = 0 := by
        intro hw
        obtain ⟨p1, p2, p3, p4, p5⟩ := hr.out
        rw [if_pos hw] at p3
        refine ⟨?_, checkHand_of p1 (fun x hx => ?_) (by simp; omega) (fun _ => rfl) (by simp)⟩
        · unfold S.hear
          rw [if_neg (by simp [h0]), if_neg (by simp [ha]), if_pos ⟨hw, rfl⟩]
        · rcases List.mem_append.1 hx with g | g
          · exact p2 x g
          · simp at g; subst g; exact ha
      replace hstart := hid hstart
      refine C_inline [] Try.func7 (fun _ _ => by kernel_rfl) rfl (by kernel_rfl) (by rfl) (by decide) (by rfl) (by rfl) (by rfl) ?_
      simp -dsimp -implicitDefEqProofs [-getElem?_pos, -List.map_append, -List.map_set, List.getElem?_cons_zero, List.getElem?_cons_succ]
      refine call_CC (law_answered) ?_
      simp -dsimp -implicitDefEqProofs [-getElem?_pos, -List.map_append, -List.map_set, List.getElem?_cons_zero, List.getElem?_cons_succ]
      refine call_CC (hand_Check h) ?_
      simp -dsimp -implicitDefEqProofs [-getElem?_pos, -List.map_append, -List.map_set, List.getElem?_cons_zero, List.getElem?_cons_succ, h0]
      refine call_CC (desk_CheckAnswer a) ?_
      simp -dsimp -implicitDefEqProofs [-getElem?_pos, -List.map_append, -List.map_set, List.getElem?_cons_zero, List.getElem?_cons_succ, ha]
      cases hw : h.waits
      rotate_left
      · obtain ⟨g1, g2⟩ := hstart.out hw
        have cc := hid (hear_eq g1)
        simp -dsimp -implicitDefEqProofs [-getElem?_pos, -List.map_append, -List.map_set, List.getElem?_cons_zero, List.getElem?_cons_succ]
        refine call_CC (cc.out) ?_
        simp -dsimp -implicitDefEqProofs [-getElem?_pos, -List.map_append, -List.map_set, List.getElem?_cons_zero, List.getElem?_cons_succ, hm1, hm2, hl1, hl2]
        refine loop_count 46 l'.length (fun k h m _ => HandOk h 0 ∧ h 4 = some ⟨53, 3, [ansC false a]⟩ ∧ ∃ d, m = d + 8) _ rfl (by rfl) ⟨⟨true, ⟨h.seq, false, S.Cmd.zero, h.got ++ [a]⟩, rfl, g2, rfl⟩, rfl, ⟨_, rfl⟩⟩ ?_ ?_
        · rintro k t h m hk hci hs ⟨⟨fr, hd, h0, hd1, hd2⟩, h4, d, rfl⟩
          have hw : IntKind.i64.wrap ((k : Int) + 1) = (k : Int) + 1 := wrap_ok (by have := hm2; rw [hl2] at hk; omega)
          obtain ⟨x, hx⟩ : ∃ x, l'[k]? = some x := ⟨l'[k], by simp⟩
          have hk' : decide (k < m0) = true := by rw [hl2] at hk; simp [hk]
          have e3 := hs 3 rfl
          have e5 := hs 5 rfl
          have e44 := hs 44 rfl
          have e45 := hs 45 rfl
          clear hs
          simp -dsimp -implicitDefEqProofs at e3 e5 e44 e45
          replace hk := hid hk
          by_cases hc : S.checkCmd x = 0 ∧ hd.seq < 40
          · obtain ⟨g1, g2, g3, g4⟩ := turn hd1 hd2 hc.1 hc.2 ha
            obtain ⟨p1, p2, p3, -⟩ := checkHand_parts hd1
            have hw2 : IntKind.i64.wrap ((hd.got.length : Int) + 1) = (hd.got.length : Int) + 1 := wrap_ok (by rw [if_neg (by simp [hd2])] at p3; omega)
            have c1 := hid (ask_eq g1)
            have c2 := hid (hear_eq g2)
            have c3 := hid (hear_eq g3)
            have hk4 := hid g4
            clear g1 g2 g3 p1 p2 p3
            simp -dsimp -implicitDefEqProofs [-getElem?_pos, -List.map_append, -List.map_set, List.getElem?_cons_zero, List.getElem?_cons_succ, e3, e5, e44, e45, hci, hk', hx, h0, h4]
            refine call_CC (c1.out) ?_
            simp -dsimp -implicitDefEqProofs [-getElem?_pos, -List.map_append, -List.map_set, List.getElem?_cons_zero, List.getElem?_cons_succ, e3, e5, e44, e45, h4, h0]
            refine call_CC (c2.out) ?_
            simp -dsimp -implicitDefEqProofs [-getElem?_pos, -List.map_append, -List.map_set, List.getElem?_cons_zero, List.getElem?_cons_succ, e3, e5, e44, e45, h4, h0]
            refine call_CC (c3.out) ?_
            simp -dsimp -implicitDefEqProofs [-getElem?_pos, -List.map_append, -List.map_set, List.getElem?_cons_zero, List.getElem?_cons_succ, e3, e5, e44, e45, h4, h0, hw2]
            refine call_CC (hand_Same ⟨hd.seq + 1, false, S.Cmd.zero, hd.got ++ [a]⟩ ⟨hd.seq + 1, false, S.Cmd.zero, hd.got ++ [a]⟩) ?_
            simp -dsimp -implicitDefEqProofs [-getElem?_pos, -List.map_append, -List.map_set, List.getElem?_cons_zero, List.getElem?_cons_succ, e3, e5, e44, e45, h4, h0, hw2]
            refine call_CC (hand_Check ⟨hd.seq + 1, false, S.Cmd.zero, hd.got ++ [a]⟩) ?_
            simp -dsimp -implicitDefEqProofs [-getElem?_pos, -List.map_append, -List.map_set, List.getElem?_cons_zero, List.getElem?_cons_succ, e3, e5, e44, e45, h4, h0, hw2, g4, hci, hw]
            exact ⟨true, ⟨hd.seq + 1, false, S.Cmd.zero, hd.got ++ [a]⟩, by rfl, g4, rfl⟩
          · have g1 := turn_not hd1 hd2 hc
            obtain ⟨r, hr⟩ : ∃ r, S.ask hd x = r := ⟨_, rfl⟩
            rw [hr] at g1
            have c1 := hid (ask_eq hr)
            have hc' : (decide (S.checkCmd x = 0) && decide (hd.seq < 40)) = false := by simpa using hc
            clear hr
            simp -dsimp -implicitDefEqProofs [-getElem?_pos, -List.map_append, -List.map_set, List.getElem?_cons_zero, List.getElem?_cons_succ, e3, e5, e44, e45, hci, hk', hx, h0, h4]
            refine call_CC (c1.out) ?_
            simp -dsimp -implicitDefEqProofs [-getElem?_pos, -List.map_append, -List.map_set, List.getElem?_cons_zero, List.getElem?_cons_succ, e3, e5, e44, e45, h4, h0, g1]
            refine call_CC (cmd_Check x) ?_
            simp -dsimp -implicitDefEqProofs [-getElem?_pos, -List.map_append, -List.map_set, List.getElem?_cons_zero, List.getElem?_cons_succ, e3, e5, e44, e45, h4, h0, hc', hci, hw]
            exact ⟨fr, hd, by simpa using h0, hd1, hd2⟩
        · rintro t h m hci hs ⟨⟨fr, hd, h0, hd1, hd2⟩, h4, d, rfl⟩
          have e3 := hs 3 rfl
          have e5 := hs 5 rfl
          have e44 := hs 44 rfl
          have e45 := hs 45 rfl
          clear hs
          simp -dsimp -implicitDefEqProofs at e3 e5 e44 e45
          simp -dsimp -implicitDefEqProofs [-getElem?_pos, -List.map_append, -List.map_set, List.getElem?_cons_zero, List.getElem?_cons_succ, e3, e5, e44, e45, hci, hl2]
          exact ends_bool rfl
      · simp -dsimp -implicitDefEqProofs [-getElem?_pos, -List.map_append, -List.map_set, List.getElem?_cons_zero, List.getElem?_cons_succ, hm1, hm2, hl1, hl2]
        refine loop_count 46 l'.length (fun k h m _ => HandOk h 0 ∧ h 4 = some ⟨53, 3, [ansC false a]⟩ ∧ ∃ d, m = d + 8) _ rfl (by rfl) ⟨⟨false, h, rfl, h0, hw⟩, rfl, ⟨_, rfl⟩⟩ ?_ ?_
        · rintro k t h m hk hci hs ⟨⟨fr, hd, h0, hd1, hd2⟩, h4, d, rfl⟩
          have hw : IntKind.i64.wrap ((k : Int) + 1) = (k : Int) + 1 := wrap_ok (by have := hm2; rw [hl2] at hk; omega)
          obtain ⟨x, hx⟩ : ∃ x, l'[k]? = some x := ⟨l'[k], by simp⟩
          have hk' : decide (k < m0) = true := by rw [hl2] at hk; simp [hk]
          have e3 := hs 3 rfl
          have e5 := hs 5 rfl
          have e44 := hs 44 rfl
          have e45 := hs 45 rfl
          clear hs
          simp -dsimp -implicitDefEqProofs at e3 e5 e44 e45
          replace hk := hid hk
          by_cases hc : S.checkCmd x = 0 ∧ hd.seq < 40
          · obtain ⟨g1, g2, g3, g4⟩ := turn hd1 hd2 hc.1 hc.2 ha
            obtain ⟨p1, p2, p3, -⟩ := checkHand_parts hd1
            have hw2 : IntKind.i64.wrap ((hd.got.length : Int) + 1) = (hd.got.length : Int) + 1 := wrap_ok (by rw [if_neg (by simp [hd2])] at p3; omega)
            have c1 := hid (ask_eq g1)
            have c2 := hid (hear_eq g2)
            have c3 := hid (hear_eq g3)
            have hk4 := hid g4
            clear g1 g2 g3 p1 p2 p3
            simp -dsimp -implicitDefEqProofs [-getElem?_pos, -List.map_append, -List.map_set, List.getElem?_cons_zero, List.getElem?_cons_succ, e3, e5, e44, e45, hci, hk', hx, h0, h4]
            refine call_CC (c1.out) ?_
            simp -dsimp -implicitDefEqProofs [-getElem?_pos, -List.map_append, -List.map_set, List.getElem?_cons_zero, List.getElem?_cons_succ, e3, e5, e44, e45, h4, h0]
            refine call_CC (c2.out) ?_
            simp -dsimp -implicitDefEqProofs [-getElem?_pos, -List.map_append, -List.map_set, List.getElem?_cons_zero, List.getElem?_cons_succ, e3, e5, e44, e45, h4, h0]
            refine call_CC (c3.out) ?_
            simp -dsimp -implicitDefEqProofs [-getElem?_pos, -List.map_append, -List.map_set, List.getElem?_cons_zero, List.getElem?_cons_succ, e3, e5, e44, e45, h4, h0, hw2]
            refine call_CC (hand_Same ⟨hd.seq + 1, false, S.Cmd.zero, hd.got ++ [a]⟩ ⟨hd.seq + 1, false, S.Cmd.zero, hd.got ++ [a]⟩) ?_
            simp -dsimp -implicitDefEqProofs [-getElem?_pos, -List.map_append, -List.map_set, List.getElem?_cons_zero, List.getElem?_cons_succ, e3, e5, e44, e45, h4, h0, hw2]
            refine call_CC (hand_Check ⟨hd.seq + 1, false, S.Cmd.zero, hd.got ++ [a]⟩) ?_
            simp -dsimp -implicitDefEqProofs [-getElem?_pos, -List.map_append, -List.map_set, List.getElem?_cons_zero, List.getElem?_cons_succ, e3, e5, e44, e45, h4, h0, hw2, g4, hci, hw]
            exact ⟨true, ⟨hd.seq + 1, false, S.Cmd.zero, hd.got ++ [a]⟩, by rfl, g4, rfl⟩
          · have g1 := turn_not hd1 hd2 hc
            obtain ⟨r, hr⟩ : ∃ r, S.ask hd x = r := ⟨_, rfl⟩
            rw [hr] at g1
            have c1 := hid (ask_eq hr)
            have hc' : (decide (S.checkCmd x = 0) && decide (hd.seq < 40)) = false := by simpa using hc
            clear hr
            simp -dsimp -implicitDefEqProofs [-getElem?_pos, -List.map_append, -List.map_set, List.getElem?_cons_zero, List.getElem?_cons_succ, e3, e5, e44, e45, hci, hk', hx, h0, h4]
            refine call_CC (c1.out) ?_
            simp -dsimp -implicitDefEqProofs [-getElem?_pos, -List.map_append, -List.map_set, List.getElem?_cons_zero, List.getElem?_cons_succ, e3, e5, e44, e45, h4, h0, g1]
            refine call_CC (cmd_Check x) ?_
            simp -dsimp -implicitDefEqProofs [-getElem?_pos, -List.map_append, -List.map_set, List.getElem?_cons_zero, List.getElem?_cons_succ, e3, e5, e44, e45, h4, h0, hc', hci, hw]
            exact ⟨fr, hd, by simpa using h0, hd1, hd2⟩
        · rintro t h m hci hs ⟨⟨fr, hd, h0, hd1, hd2⟩, h4, d, rfl⟩
          have e3 := hs 3 rfl
          have e5 := hs 5 rfl
          have e44 := hs 44 rfl
          have e45 := hs 45 rfl
          clear hs
          simp -dsimp -implicitDefEqProofs at e3 e5 e44 e45
          simp -dsimp -implicitDefEqProofs [-getElem?_pos, -List.map_append, -List.map_set, List.getElem?_cons_zero, List.getElem?_cons_succ, e3, e5, e44, e45, hci, hl2]
          exact ends_bool rfl
    · refine C_inline [] Try.func7 (fun _ _ => by kernel_rfl) rfl (by kernel_rfl) (by rfl) (by decide) (by rfl) (by rfl) (by rfl) ?_
      simp -dsimp -implicitDefEqProofs [-getElem?_pos, -List.map_append, -List.map_set, List.getElem?_cons_zero, List.getElem?_cons_succ]
      refine call_CC (law_answered) ?_
      simp -dsimp -implicitDefEqProofs [-getElem?_pos, -List.map_append, -List.map_set, List.getElem?_cons_zero, List.getElem?_cons_succ]
      refine call_CC (hand_Check h) ?_
      simp -dsimp -implicitDefEqProofs [-getElem?_pos, -List.map_append, -List.map_set, List.getElem?_cons_zero, List.getElem?_cons_succ, h0]
      refine call_CC (desk_CheckAnswer a) ?_
      simp -dsimp -implicitDefEqProofs [-getElem?_pos, -List.map_append, -List.map_set, List.getElem?_cons_zero, List.getElem?_cons_succ, ha]
      refine call_CC (law_answered) ?_
      simp -dsimp -implicitDefEqProofs [-getElem?_pos, -List.map_append, -List.map_set, List.getElem?_cons_zero, List.getElem?_cons_succ]
      exact ends_bool rfl
  · refine C_inline [] Try.func7 (fun _ _ => by kernel_rfl) rfl (by kernel_rfl) (by rfl) (by decide) (by rfl) (by rfl) (by rfl) ?_
    simp -dsimp -implicitDefEqProofs [-getElem?_pos, -List.map_append, -List.map_set, List.getElem?_cons_zero, List.getElem?_cons_succ]
    refine call_CC (law_answered) ?_
    simp -dsimp -implicitDefEqProofs [-getElem?_pos, -List.map_append, -List.map_set, List.getElem?_cons_zero, List.getElem?_cons_succ]
    refine call_CC (hand_Check h) ?_
    simp -dsimp -implicitDefEqProofs [-getElem?_pos, -List.map_append, -List.map_set, List.getElem?_cons_zero, List.getElem?_cons_succ, h0]
    refine call_CC (law_answered) ?_
    simp -dsimp -implicitDefEqProofs [-getElem?_pos, -List.map_append, -List.map_set, List.getElem?_cons_zero, List.getElem?_cons_succ]
    exact ends_bool rfl

end Go.Proofs.Ytdjdjnmccphbjaa.E
