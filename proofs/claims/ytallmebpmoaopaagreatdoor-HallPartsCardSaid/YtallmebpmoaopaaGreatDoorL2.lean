/- L2: Lk: law.BookAlone, by the engine. Ll: law.BookHolds, by the engine. -/
import Derived.Test.YtallmebpmoaopaaGreatDoorLh
import Derived.Test.YtallmebpmoaopaaGreatDoorLj
namespace Go.Proofs.YtallmebpmoaopaaGreatDoor.E
open Go.RowKit Go.Proofs
set_option maxRecDepth 100000
set_option maxHeartbeats 1000000
set_option linter.unusedSimpArgs false

/-- a reservation that went well -/
theorem reserve_shape {b : S.Book} {who kind : Int} (h : (S.reserve b who kind).2 = 0) : ∃ x0 x1 x2, b.k = [x0, x1, x2] ∧ (who = 0 ∨ who = 1 ∨ who = 2) ∧ (1 ≤ kind ∧ kind ≤ 4) ∧
    (S.reserve b who kind) = (⟨[x0, x1, x2], who, kind⟩, 0) ∧ [x0, x1, x2].getD who.toNat 0 ≠ 0 ∧ (0 ≤ x0 ∧ x0 ≤ 9) ∧ (0 ≤ x1 ∧ x1 ≤ 9) ∧ (0 ≤ x2 ∧ x2 ≤ 9) := by
  by_cases hr : S.ready b who = 0
  · obtain ⟨⟨x0, x1, x2, hk⟩, hw, hc⟩ := ready_shape hr
    obtain ⟨xs, bh, bt⟩ := b
    simp only at hk
    subst hk
    have hs : S.reserve ⟨[x0, x1, x2], bh, bt⟩ who kind = if kind < 1 ∨ 4 < kind then (S.Book.zero, 3) else if S.Book.key ⟨[x0, x1, x2], bh, bt⟩ who = 0 ∨ (0 ≤ bh ∧ (bh ≠ who ∨ bt ≠ kind)) then (S.Book.zero, 8) else (⟨[x0, x1, x2], who, kind⟩, 0) := by
      unfold S.reserve
      rw [if_neg (by simp [hr])]
    rw [hs] at h ⊢
    split at h; · cases h
    rename_i g1
    split at h; · cases h
    rename_i g2
    rw [if_neg g1, if_neg g2]
    have hb : ¬ ([x0, x1, x2].any S.badKey = true) := by
      intro g
      unfold S.checkBook at hc
      rw [if_neg (by simp), if_pos g] at hc
      cases hc
    simp [S.badKey] at hb
    refine ⟨x0, x1, x2, rfl, hw, by omega, rfl, ?_, by omega, by omega, by omega⟩
    intro e
    exact g2 (Or.inl e)
  · have : (S.reserve b who kind).2 = S.ready b who := by unfold S.reserve; rw [if_pos hr]
    rw [this] at h
    exact absurd h hr

theorem good_book {x0 x1 x2 w kind : Int} (hw : w = 0 ∨ w = 1 ∨ w = 2) (hk : 1 ≤ kind ∧ kind ≤ 4) (hn : [x0, x1, x2].getD w.toNat 0 ≠ 0) (p0 : 0 ≤ x0 ∧ x0 ≤ 9) (p1 : 0 ≤ x1 ∧ x1 ≤ 9) (p2 : 0 ≤ x2 ∧ x2 ≤ 9) : S.checkBook ⟨[x0, x1, x2], w, kind⟩ = 0 := by
  unfold S.checkBook
  rw [if_neg (by simp), if_neg (by simp [S.badKey]; omega), if_neg (by simp; omega), if_neg]
  rintro (⟨g, _⟩ | ⟨_, g | g⟩)
  · simp at g; omega
  · simp at g; omega
  · exact hn g
theorem good_ready {b : S.Book} (h : S.checkBook b = 0) {w : Int} (hw : w = 0 ∨ w = 1 ∨ w = 2) : S.ready b w = 0 := by
  unfold S.ready
  rw [if_neg (by simp [h]), if_neg (by omega)]

end Go.Proofs.YtallmebpmoaopaaGreatDoor.E
namespace Go.Proofs.YtallmebpmoaopaaGreatDoor.E
open Go.RowKit Go.Proofs
set_option maxRecDepth 100000
set_option maxHeartbeats 1000000
set_option linter.unusedSimpArgs false

/-- one of the five moves -/
def S.move (q : Int) (b : S.Book) (w n : Int) : S.Book × Int :=
  if q = 0 then S.register b w n else if q = 1 then S.reserve b w n else if q = 2 then S.release b w else if q = 3 then S.preempt b w n else S.clear b w

theorem check_iff (x0 x1 x2 h t : Int) : S.checkBook ⟨[x0, x1, x2], h, t⟩ = 0 ↔ (0 ≤ x0 ∧ x0 ≤ 9) ∧ (0 ≤ x1 ∧ x1 ≤ 9) ∧ (0 ≤ x2 ∧ x2 ≤ 9) ∧ 0 ≤ t ∧ t ≤ 4 ∧
    ((h = -1 ∧ t = 0) ∨ (h = 0 ∧ t ≠ 0 ∧ x0 ≠ 0) ∨ (h = 1 ∧ t ≠ 0 ∧ x1 ≠ 0) ∨ (h = 2 ∧ t ≠ 0 ∧ x2 ≠ 0)) := by
  have hh : h < -1 ∨ h = -1 ∨ h = 0 ∨ h = 1 ∨ h = 2 ∨ 3 ≤ h := by omega
  unfold S.checkBook
  simp only [S.badKey, List.length_cons, List.length_nil, List.any_cons, List.any_nil, S.Book.key]
  rcases hh with hh | rfl | rfl | rfl | rfl | hh
  · constructor
    · intro g; exfalso; grind
    · omega
  · simp; grind
  · simp; grind
  · simp; grind
  · simp; grind
  · constructor
    · intro g; exfalso; grind
    · omega

theorem check_shape {b : S.Book} (h : S.checkBook b = 0) : ∃ x0 x1 x2, b = ⟨[x0, x1, x2], b.h, b.t⟩ := by
  obtain ⟨k, bh, bt⟩ := b
  by_cases g : k.length = 3
  · match k, g with
    | [x0, x1, x2], _ => exact ⟨x0, x1, x2, rfl⟩
  · unfold S.checkBook at h; rw [if_pos g] at h; cases h

theorem move_good {b : S.Book} (hb : S.checkBook b = 0) {w : Int} (hw : w = 0 ∨ w = 1 ∨ w = 2) {n q : Int} (h : (S.move q b w n).2 = 0) :
    S.checkBook (S.move q b w n).1 = 0 ∧ (q < 3 → 0 ≤ q → 0 ≤ b.h → b.h ≠ w → (S.move q b w n).1.h = b.h ∧ (S.move q b w n).1.t = b.t) := by
  have hr := good_ready hb hw
  obtain ⟨x0, x1, x2, hs⟩ := check_shape hb
  obtain ⟨k, bh, bt⟩ := b
  simp only [S.Book.mk.injEq, and_true] at hs
  subst hs
  rw [check_iff] at hb
  unfold S.move at h ⊢
  split at h
  · rename_i hq; subst hq
    simp only [↓reduceIte] at h ⊢
    unfold S.register at h ⊢
    rw [if_neg (by simp [hr])] at h ⊢
    rcases hw with rfl | rfl | rfl <;> (split at h; · cases h) <;> (rename_i g; rw [if_neg g]; split <;> (simp only [List.set_cons_zero, List.set_cons_succ, Int.toNat_zero, Int.toNat_one, show (2 : Int).toNat = 2 from rfl]; rw [check_iff]; grind))
  split at h
  · rename_i hq; subst hq
    simp only [↓reduceIte, show ¬ (1 : Int) = 0 by omega] at h ⊢
    unfold S.reserve at h ⊢
    rw [if_neg (by simp [hr])] at h ⊢
    rcases hw with rfl | rfl | rfl <;> (split at h; · cases h) <;> (rename_i g; rw [if_neg g]; split at h; · cases h) <;> (rename_i g2; rw [if_neg g2]; rw [check_iff]; simp [S.Book.key] at g2; grind)
  split at h
  · rename_i hq; subst hq
    simp only [↓reduceIte, show ¬ (2 : Int) = 0 by omega, show ¬ (2 : Int) = 1 by omega] at h ⊢
    unfold S.release at h ⊢
    rw [if_neg (by simp [hr])] at h ⊢
    rcases hw with rfl | rfl | rfl <;> (split at h; · cases h) <;> (rename_i g; rw [if_neg g]; split <;> (rw [check_iff]; simp [S.Book.key] at g; grind))
  split at h
  · rename_i hq; subst hq
    simp only [↓reduceIte, show ¬ (3 : Int) = 0 by omega, show ¬ (3 : Int) = 1 by omega, show ¬ (3 : Int) = 2 by omega] at h ⊢
    unfold S.preempt at h ⊢
    rw [if_neg (by simp [hr])] at h ⊢
    rcases hw with rfl | rfl | rfl <;> (split at h; · cases h) <;> (rename_i g; rw [if_neg g]; split at h; · cases h) <;> (rename_i g2; rw [if_neg g2]; refine ⟨?_, by omega⟩; simp [S.struck]; rw [check_iff]; simp [S.Book.key] at g2 ⊢; obtain ⟨_, _, _, _, _, hb⟩ := hb; rcases hb with ⟨rfl, _⟩ | ⟨rfl, _⟩ | ⟨rfl, _⟩ | ⟨rfl, _⟩ <;> simp <;> grind)
  · rename_i q0 q1 q2 q3
    simp only [q0, q1, q2, q3, ↓reduceIte] at h ⊢
    unfold S.clear at h ⊢
    rw [if_neg (by simp [hr])] at h ⊢
    split at h
    · cases h
    · rename_i g
      rw [if_neg g]
      exact ⟨by decide, by omega⟩

theorem mv0 (b : S.Book) (w n : Int) : C Tryz.prog 66 [Bk b, Int' w, Int' n] (.tup [BkN (S.move 0 b w n).1, Int' (S.move 0 b w n).2]) [] := by simpa [S.move] using book_Register b w n
theorem mv1 (b : S.Book) (w n : Int) : C Tryz.prog 67 [Bk b, Int' w, Int' n] (.tup [BkN (S.move 1 b w n).1, Int' (S.move 1 b w n).2]) [] := by simpa [S.move] using book_Reserve b w n
theorem mv2 (b : S.Book) (w n : Int) : C Tryz.prog 68 [Bk b, Int' w] (.tup [BkN (S.move 2 b w n).1, Int' (S.move 2 b w n).2]) [] := by simpa [S.move] using book_Release b w
theorem mv3 (b : S.Book) (w n : Int) : C Tryz.prog 69 [Bk b, Int' w, Int' n] (.tup [BkN (S.move 3 b w n).1, Int' (S.move 3 b w n).2]) [] := by simpa [S.move] using book_Preempt b w n
theorem mv4 (b : S.Book) (w n : Int) : C Tryz.prog 70 [Bk b, Int' w] (.tup [BkN (S.move 4 b w n).1, Int' (S.move 4 b w n).2]) [] := by simpa [S.move] using book_Clear b w

end Go.Proofs.YtallmebpmoaopaaGreatDoor.E
