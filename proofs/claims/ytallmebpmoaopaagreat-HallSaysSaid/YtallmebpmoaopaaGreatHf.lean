
/- Hf: law.HandTurns. -/
import Derived.Test.YtallmebpmoaopaaGreatHe
namespace Go.Proofs.YtallmebpmoaopaaGreat.E
open Go.RowKit Go.Proofs
set_option maxRecDepth 100000
set_option maxHeartbeats 2000000
set_option linter.unusedSimpArgs false

theorem checkHand_of {h : S.Hand} (h1 : 0 ≤ h.seq ∧ h.seq ≤ 40) (h2 : ∀ a, a ∈ h.got → S.checkAnswer a = 0) (h3 : (h.got.length : Int) + (if h.waits = true then 1 else 0) = h.seq) (h4 : h.waits = false → h.c = S.Cmd.zero) (h5 : h.waits = true → S.checkCmd h.c = 0) : S.checkHand h = 0 := by
  have hf : S.firstBad S.checkAnswer h.got = 0 := firstBad_none fun j x _ hx => h2 x (List.mem_of_getElem? hx)
  unfold S.checkHand
  rw [if_neg (by omega), if_neg (by simp [hf]), if_neg]
  · split
    · rename_i hw; exact h5 hw
    · rfl
  · rintro (g | ⟨g, g'⟩)
    · exact g h3
    · exact g' (h4 g)

/-- a hand that doesn't wait asks: what it is then, and behind the answer -/
theorem turn {h : S.Hand} (h0 : S.checkHand h = 0) (hw : h.waits = false) {c : S.Cmd} (hc : S.checkCmd c = 0) (hs : h.seq < 40) {a : S.Answer} (ha : S.checkAnswer a = 0) :
    S.ask h c = (⟨h.seq + 1, true, c, h.got⟩, 0) ∧ S.hear ⟨h.seq + 1, true, c, h.got⟩ (h.seq + 1) a = (⟨h.seq + 1, false, S.Cmd.zero, h.got ++ [a]⟩, 0) ∧
      S.hear ⟨h.seq + 1, false, S.Cmd.zero, h.got ++ [a]⟩ (h.seq + 1) a = (⟨h.seq + 1, false, S.Cmd.zero, h.got ++ [a]⟩, 0) ∧ S.checkHand ⟨h.seq + 1, false, S.Cmd.zero, h.got ++ [a]⟩ = 0 := by
  obtain ⟨p1, p2, p3, p4, p5⟩ := checkHand_parts h0
  rw [if_neg (by simp [hw])] at p3
  have k1 : S.checkHand ⟨h.seq + 1, true, c, h.got⟩ = 0 := checkHand_of (by simp only; omega) p2 (by simp; omega) (by simp) (fun _ => hc)
  have k2 : S.checkHand ⟨h.seq + 1, false, S.Cmd.zero, h.got ++ [a]⟩ = 0 := checkHand_of (by simp only; omega) (fun x hx => by
    rcases List.mem_append.1 hx with g | g
    · exact p2 x g
    · simp at g; subst g; exact ha) (by simp; omega) (fun _ => rfl) (by simp)
  refine ⟨?_, ?_, ?_, k2⟩
  · unfold S.ask
    rw [if_neg (by simp [h0]), if_neg (by simp [hc]), if_neg (by simp [hw]), if_neg (by omega)]
  · unfold S.hear
    rw [if_neg (by simp [k1]), if_neg (by simp [ha]), if_pos ⟨rfl, rfl⟩]
  · unfold S.hear
    rw [if_neg (by simp [k2]), if_neg (by simp [ha]), if_neg (by simp)]
theorem turn_not {h : S.Hand} (h0 : S.checkHand h = 0) (hw : h.waits = false) {c : S.Cmd} (hn : ¬ (S.checkCmd c = 0 ∧ h.seq < 40)) : (S.ask h c).2 ≠ 0 := by
  obtain ⟨p1, -⟩ := checkHand_parts h0
  unfold S.ask
  rw [if_neg (by simp [h0])]
  by_cases hc : S.checkCmd c = 0
  · rw [if_neg (by simp [hc]), if_neg (by simp [hw]), if_pos (by omega)]
    decide
  · rw [if_pos hc]; exact hc

end Go.Proofs.YtallmebpmoaopaaGreat.E
