
/- Wj: StoryOnce as the law's loops ask it: record by record. -/
import Derived.Test.YtginfkadmjikhaaGreatDoorW2
namespace Go.Proofs.YtginfkadmjikhaaGreatDoor.E
open Go.RowKit Go.Proofs
set_option linter.unusedVariables false
set_option linter.unusedSimpArgs false
def toldFrom (h : S.Hall) (out : List S.Answer) : List S.Rec → List S.Answer × Int
  | [] => (out, 0)
  | r :: l => if (S.nextHall h r).2.2 ≠ 0 then ([], (S.nextHall h r).2.2) else toldFrom (S.nextHall h r).1 (out ++ [(S.nextHall h r).2.1]) l
def toldWorld (w : S.World) : List S.Answer × Int := if (S.doneWorld w).2 ≠ 0 then ([], (S.doneWorld w).2) else toldFrom S.Hall.new [] (S.doneWorld w).1
def playFrom (w : S.World) : List S.Hap → S.World
  | [] => w
  | x :: l => playFrom (if (S.doWorld w x).2 = 0 then (S.doWorld w x).1 else w) l
theorem do_once {w : S.World} {l : List S.Rec} {x : S.Hap} (h : Once w l) (e : (S.doWorld w x).2 = 0) : ∃ l', Once (S.doWorld w x).1 l' ∧ l'.take l.length = l ∧ (answersFrom S.Hall.new l').take l.length = answersFrom S.Hall.new l := by
  have h0 := okW_check h.reach.ok
  unfold S.doWorld at e ⊢
  rw [if_neg (by simp [h0])] at e ⊢
  by_cases g : (S.happen w x).2 ≠ 0
  · rw [if_pos g] at e; exact absurd e g
  · rw [if_neg g]
    have he : S.happen w x = ((S.happen w x).1, 0) := Prod.ext rfl (Decidable.not_not.1 g)
    obtain ⟨l1, o1⟩ := once_happen h he
    obtain ⟨l2, r2, q1, q2⟩ := story_grows h.reach he
    have hl : l1 = l2 := textOf_inj o1.reach.ok.recs r2.ok.recs (by rw [← o1.reach.ok.safe, ← r2.ok.safe])
    subst hl
    exact ⟨l1, o1, q1, q2⟩
theorem play_once : ∀ {xs : List S.Hap} {w : S.World} {l : List S.Rec}, Once w l → ∃ l', Once (playFrom w xs) l'
  | [], w, l, h => ⟨l, h⟩
  | x :: xs, w, l, h => by
    rw [playFrom]
    by_cases g : (S.doWorld w x).2 = 0
    · rw [if_pos g]
      obtain ⟨l', o, -, -⟩ := do_once h g
      exact play_once o
    · rw [if_neg g]
      exact play_once h
end Go.Proofs.YtginfkadmjikhaaGreatDoor.E
