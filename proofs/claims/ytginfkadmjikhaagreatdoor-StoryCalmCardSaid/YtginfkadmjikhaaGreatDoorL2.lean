/- L2: Lk: law.BookAlone, by the engine. Ll: law.BookHolds, by the engine. -/
import Derived.Test.YtginfkadmjikhaaGreatDoorL3
namespace Go.Proofs.YtginfkadmjikhaaGreatDoor.E
open Go.RowKit Go.Proofs
set_option maxRecDepth 100000
set_option maxHeartbeats 1000000
set_option linter.unusedSimpArgs false
theorem good_ready {b : S.Book} (h : S.checkBook b = 0) {w : Int} (hw : w = 0 ∨ w = 1 ∨ w = 2) : S.ready b w = 0 := by
  unfold S.ready
  rw [if_neg (by simp [h]), if_neg (by omega)]
end Go.Proofs.YtginfkadmjikhaaGreatDoor.E
namespace Go.Proofs.YtginfkadmjikhaaGreatDoor.E
open Go.RowKit Go.Proofs
set_option maxRecDepth 100000
set_option maxHeartbeats 1000000
set_option linter.unusedSimpArgs false
def S.move (q : Int) (b : S.Book) (w n : Int) : S.Book × Int :=
  if q = 0 then S.register b w n else if q = 1 then S.reserve b w n else if q = 2 then S.release b w else if q = 3 then S.preempt b w n else S.clear b w
theorem check_iff (x0 x1 x2 h t : Int) : S.checkBook ⟨[x0, x1, x2], h, t⟩ = 0 ↔ (0 ≤ x0 ∧ x0 ≤ 9) ∧ (0 ≤ x1 ∧ x1 ≤ 9) ∧ (0 ≤ x2 ∧ x2 ≤ 9) ∧ 0 ≤ t ∧ t ≤ 4 ∧
    ((h = -1 ∧ t = 0) ∨ (h = 0 ∧ t ≠ 0 ∧ x0 ≠ 0) ∨ (h = 1 ∧ t ≠ 0 ∧ x1 ≠ 0) ∨ (h = 2 ∧ t ≠ 0 ∧ x2 ≠ 0)) := by
  have hh : h < -1 ∨ h = -1 ∨ h = 0 ∨ h = 1 ∨ h = 2 ∨ 3 ≤ h := by omega
  unfold S.checkBook
  simp only [S.badKey, List.length_cons, List.length_nil, List.any_cons, List.any_nil, S.Book.key]
  rcases hh with hh | rfl | rfl | rfl | rfl | hh
  · constructor
    · intro g; exfalso; grind
    · omega
  · simp; grind
  · simp; grind
  · simp; grind
  · simp; grind
  · constructor
    · intro g; exfalso; grind
    · omega
theorem check_shape {b : S.Book} (h : S.checkBook b = 0) : ∃ x0 x1 x2, b = ⟨[x0, x1, x2], b.h, b.t⟩ := by
  obtain ⟨k, bh, bt⟩ := b
  by_cases g : k.length = 3
  · match k, g with
    | [x0, x1, x2], _ => exact ⟨x0, x1, x2, rfl⟩
  · unfold S.checkBook at h; rw [if_pos g] at h; cases h
theorem move_good {b : S.Book} (hb : S.checkBook b = 0) {w : Int} (hw : w = 0 ∨ w = 1 ∨ w = 2) {n q : Int} (h : (S.move q b w n).2 = 0) :
    S.checkBook (S.move q b w n).1 = 0 ∧ (q < 3 → 0 ≤ q → 0 ≤ b.h → b.h ≠ w → (S.move q b w n).1.h = b.h ∧ (S.move q b w n).1.t = b.t) := by
  have hr := good_ready hb hw
  obtain ⟨x0, x1, x2, hs⟩ := check_shape hb
  obtain ⟨k, bh, bt⟩ := b
  simp only [S.Book.mk.injEq, and_true] at hs
  subst hs
  rw [check_iff] at hb
  unfold S.move at h ⊢
  split at h
  · rename_i hq; subst hq
    simp only [↓reduceIte] at h ⊢
    unfold S.register at h ⊢
    rw [if_neg (by simp [hr])] at h ⊢
    rcases hw with rfl | rfl | rfl <;> (split at h; · cases h) <;> (rename_i g; rw [if_neg g]; split <;> (simp only [List.set_cons_zero, List.set_cons_succ, Int.toNat_zero, Int.toNat_one, show (2 : Int).toNat = 2 from rfl]; rw [check_iff]; grind))
  split at h
  · rename_i hq; subst hq
    simp only [↓reduceIte, show ¬ (1 : Int) = 0 by omega] at h ⊢
    unfold S.reserve at h ⊢
    rw [if_neg (by simp [hr])] at h ⊢
    rcases hw with rfl | rfl | rfl <;> (split at h; · cases h) <;> (rename_i g; rw [if_neg g]; split at h; · cases h) <;> (rename_i g2; rw [if_neg g2]; rw [check_iff]; simp [S.Book.key] at g2; grind)
  split at h
  · rename_i hq; subst hq
    simp only [↓reduceIte, show ¬ (2 : Int) = 0 by omega, show ¬ (2 : Int) = 1 by omega] at h ⊢
    unfold S.release at h ⊢
    rw [if_neg (by simp [hr])] at h ⊢
    rcases hw with rfl | rfl | rfl <;> (split at h; · cases h) <;> (rename_i g; rw [if_neg g]; split <;> (rw [check_iff]; simp [S.Book.key] at g; grind))
  split at h
  · rename_i hq; subst hq
    simp only [↓reduceIte, show ¬ (3 : Int) = 0 by omega, show ¬ (3 : Int) = 1 by omega, show ¬ (3 : Int) = 2 by omega] at h ⊢
    unfold S.preempt at h ⊢
    rw [if_neg (by simp [hr])] at h ⊢
    rcases hw with rfl | rfl | rfl <;> (split at h; · cases h) <;> (rename_i g; rw [if_neg g]; split at h; · cases h) <;> (rename_i g2; rw [if_neg g2]; refine ⟨?_, by omega⟩; simp [S.struck]; rw [check_iff]; simp [S.Book.key] at g2 ⊢; obtain ⟨_, _, _, _, _, hb⟩ := hb; rcases hb with ⟨rfl, _⟩ | ⟨rfl, _⟩ | ⟨rfl, _⟩ | ⟨rfl, _⟩ <;> simp <;> grind)
  · rename_i q0 q1 q2 q3
    simp only [q0, q1, q2, q3, ↓reduceIte] at h ⊢
    unfold S.clear at h ⊢
    rw [if_neg (by simp [hr])] at h ⊢
    split at h
    · cases h
    · rename_i g
      rw [if_neg g]
      exact ⟨by decide, by omega⟩
end Go.Proofs.YtginfkadmjikhaaGreatDoor.E
