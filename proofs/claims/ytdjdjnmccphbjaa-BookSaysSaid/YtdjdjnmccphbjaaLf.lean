/- Lf: more of the book, by the engine. -/
import Derived.Test.YtdjdjnmccphbjaaLe
namespace Go.Proofs.Ytdjdjnmccphbjaa.E
open Go.RowKit Go.Proofs
set_option maxRecDepth 100000
set_option maxHeartbeats 1000000
set_option linter.unusedSimpArgs false

theorem ends_may {b x : Bool} {c y : Int} {h : Heap} {n : Nat} (e : (x, y) = (b, c)) : Ends [] (.tup [Bool' b, Int' c]) [] h n (.tup [Bool' x, Int' y]) := by
  cases e
  exact ⟨⟨_, rfl, Sub.refl _⟩, rfl⟩

theorem book_May (b : S.Book) (who : Int) (write : Bool) : C Try.prog 29 [Bk b, Int' who, Bool' write] (.tup [Bool' (S.may b who write).1, Int' (S.may b who write).2]) [] := by
  by_cases h : S.ready b who = 0
  · obtain ⟨⟨x0, x1, x2, hk⟩, hw, hc⟩ := ready_shape h
    obtain ⟨xs, bh, bt⟩ := b
    simp only at hk
    subst hk
    have hr : S.may ⟨[x0, x1, x2], bh, bt⟩ who write = (S.might ⟨[x0, x1, x2], bh, bt⟩ who write, 0) := by
      unfold S.may
      rw [if_neg (by simp [h])]
    generalize S.may ⟨[x0, x1, x2], bh, bt⟩ who write = r at hr ⊢
    replace hr := hid hr
    have hready := hid (book_ready_ok ⟨[x0, x1, x2], bh, bt⟩ who h)
    clear h hc
    rcases hw with rfl | rfl | rfl
    all_goals
      cases write
      all_goals
        refine C_inline [] Try.func29 (fun _ _ => by kernel_rfl) rfl (by kernel_rfl) (by rfl) (by decide) (by rfl) (by rfl) (by rfl) ?_
        simp -dsimp -implicitDefEqProofs [initT]
        refine call_C (hready.out) (by first | rfl | (simp -dsimp -implicitDefEqProofs; done)) (by first | exact Or.inr (by rfl) | exact Or.inl ⟨by rfl, by first | rfl | simp [newNews, newLeaf, I]⟩) (Nat.le_of_ble_eq_true rfl) ?_
        simp -dsimp -implicitDefEqProofs
        repeat' (refine brA_split (fun g => ?_) (fun g => ?_) <;> simp -dsimp -implicitDefEqProofs [*])
        all_goals
          refine ends_may (Eq.trans ?_ hr.out.symm)
          simp at *
          simp [S.might, S.Book.key]
          try grind
  · refine C_inline [] Try.func29 (fun _ _ => by kernel_rfl) rfl (by kernel_rfl) (by rfl) (by decide) (by rfl) (by rfl) (by rfl) ?_
    simp -dsimp -implicitDefEqProofs [initT]
    refine call_C ((book_ready_bad b who h)) (by first | rfl | (simp -dsimp -implicitDefEqProofs; done)) (by first | exact Or.inr (by rfl) | exact Or.inl ⟨by rfl, by first | rfl | simp [newNews, newLeaf, I]⟩) (Nat.le_of_ble_eq_true rfl) ?_
    simp -dsimp -implicitDefEqProofs [h]
    exact ends_may (by unfold S.may; rw [if_pos h])

/-- the same book -/
def _root_.Go.Proofs.Ytdjdjnmccphbjaa.S.same (a b : S.Book) : Bool := decide (a.k = b.k) && decide (a.h = b.h) && decide (a.t = b.t)

theorem book_Same (a b : S.Book) (hl : a.k.length ≤ 100000000) : C Try.prog 33 [Bk a, Bk b] (Bool' (S.same a b)) [] := by
  refine C_inline [] Try.func33 (fun _ _ => by kernel_rfl) rfl (by kernel_rfl) (by rfl) (by decide) (by rfl) (by rfl) (by rfl) ?_
  simp -dsimp -implicitDefEqProofs [initT]
  refine call_C ((equal_int a.k b.k hl)) (by first | rfl | (simp -dsimp -implicitDefEqProofs; done)) (by first | exact Or.inr (by rfl) | exact Or.inl ⟨by rfl, by first | rfl | simp [newNews, newLeaf, I]⟩) (Nat.le_of_ble_eq_true rfl) ?_
  simp -dsimp -implicitDefEqProofs
  repeat' (refine brA_split (fun g => ?_) (fun g => ?_) <;> simp -dsimp -implicitDefEqProofs [*])
  all_goals
    refine ends_bool ?_
    simp [S.same] at *
    try simp [*]

theorem ref_SameBook (a b : S.Book) (hl : a.k.length ≤ 100000000) : C Try.prog 28 [Bk a, Bk b] (Bool' (S.same a b)) [] := by
  refine C_inline [] Try.func28 (fun _ _ => by kernel_rfl) rfl (by kernel_rfl) (by rfl) (by decide) (by rfl) (by rfl) (by rfl) ?_
  simp -dsimp -implicitDefEqProofs [initT]
  refine call_C ((equal_int a.k b.k hl)) (by first | rfl | (simp -dsimp -implicitDefEqProofs; done)) (by first | exact Or.inr (by rfl) | exact Or.inl ⟨by rfl, by first | rfl | simp [newNews, newLeaf, I]⟩) (Nat.le_of_ble_eq_true rfl) ?_
  simp -dsimp -implicitDefEqProofs
  repeat' (refine brA_split (fun g => ?_) (fun g => ?_) <;> simp -dsimp -implicitDefEqProofs [*])
  all_goals
    refine ends_bool ?_
    simp [S.same] at *
    try simp [*]

theorem ref_in (x lo hi : Int) : C Try.prog 91 [Int' x, Int' lo, Int' hi] (Bool' (decide (lo ≤ x) && decide (x ≤ hi))) [] := by
  refine C_inline [] Try.func91 (fun _ _ => by kernel_rfl) rfl (by kernel_rfl) (by rfl) (by decide) (by rfl) (by rfl) (by rfl) ?_
  simp -dsimp -implicitDefEqProofs [initT]
  repeat' (refine brA_split (fun g => ?_) (fun g => ?_) <;> simp -dsimp -implicitDefEqProofs [*])
  all_goals
    refine ends_bool ?_
    simp at *
    try simp [*]
    try omega

end Go.Proofs.Ytdjdjnmccphbjaa.E
