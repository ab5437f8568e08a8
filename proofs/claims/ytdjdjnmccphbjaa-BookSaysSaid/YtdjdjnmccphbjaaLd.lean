/- Ld: the book's moves, by the engine. -/
import Derived.Test.YtdjdjnmccphbjaaLc
namespace Go.Proofs.Ytdjdjnmccphbjaa.E
open Go.RowKit Go.Proofs
set_option maxRecDepth 100000
set_option maxHeartbeats 1000000
set_option linter.unusedSimpArgs false

@[simp] theorem I_cons (x : Int) (xs : List Int) : I (x :: xs) = [.at (.int .i64 x)] :: I xs := rfl
@[simp] theorem I_nil : I [] = [] := rfl

theorem ends_book2 (ks : List Int) {x : AV} {bh bt c : Int} {r : S.Book × Int} {h : Heap} {n : Nat} (hx : outLeaf h [] x = some (.lst true 1 (I ks))) (e : r = (⟨ks, bh, bt⟩, c)) :
    Ends [] (.tup [BkN r.1, Int' r.2]) [] h n (.tup [.agg [x, Int' bh, Int' bt], Int' c]) := by
  subst e
  exact ends_book hx (.refl _) rfl rfl rfl
theorem ends_book0 {c : Int} {r : S.Book × Int} {h : Heap} {n : Nat} (e : r = (S.Book.zero, c)) :
    Ends [] (.tup [BkN r.1, Int' r.2]) [] h n (.tup [.agg [.nl, Int' 0, Int' 0], Int' c]) := by
  subst e
  exact ends_book rfl .nl rfl rfl rfl

theorem book_Register (b : S.Book) (who key : Int) : C Try.prog 22 [Bk b, Int' who, Int' key] (.tup [BkN (S.register b who key).1, Int' (S.register b who key).2]) [] := by
  by_cases h : S.ready b who = 0
  · obtain ⟨⟨x0, x1, x2, hk⟩, hw, hc⟩ := ready_shape h
    obtain ⟨xs, bh, bt⟩ := b
    simp only at hk
    subst hk
    have hr : S.register ⟨[x0, x1, x2], bh, bt⟩ who key = if key < 0 ∨ 9 < key then (S.Book.zero, 3) else if key = 0 ∧ bh = who then (⟨[x0, x1, x2].set who.toNat key, -1, 0⟩, 0) else (⟨[x0, x1, x2].set who.toNat key, bh, bt⟩, 0) := by
      unfold S.register
      rw [if_neg (by simp [h])]
    generalize S.register ⟨[x0, x1, x2], bh, bt⟩ who key = r at hr ⊢
    replace hr := hid hr
    have hready := hid (book_ready_ok ⟨[x0, x1, x2], bh, bt⟩ who h)
    clear h hc
    obtain ⟨w0, hw0⟩ : ∃ w, w = who := ⟨_, rfl⟩
    rcases hw with rfl | rfl | rfl
    all_goals
      refine C_inline [] Try.func22 (fun _ _ => by kernel_rfl) rfl (by kernel_rfl) (by rfl) (by decide) (by rfl) (by rfl) (by rfl) ?_
      simp -dsimp -implicitDefEqProofs [initT]
      refine call_C hready.out rfl (Or.inr (by rfl)) (Nat.le_of_ble_eq_true rfl) ?_
      simp -dsimp -implicitDefEqProofs
      refine brA_split (fun h1 => ?_) (fun h1 => ?_) <;> simp -dsimp -implicitDefEqProofs [*]
      · exact ends_book0 (hr.out.trans (by simp at h1; rw [if_pos (by omega)]))
      refine brA_split (fun h2 => ?_) (fun h2 => ?_) <;> simp -dsimp -implicitDefEqProofs [*]
      · exact ends_book0 (hr.out.trans (by simp at h2; rw [if_pos (by omega)]))
      by_cases c1 : key = 0
      · subst c1
        by_cases c2 : bh = w0
        · subst hw0;  subst c2
          simp -dsimp -implicitDefEqProofs
          refine call_CS (CS_inline (typesOk _) Try.func89 (fun _ _ => by kernel_rfl) rfl (by kernel_rfl) (Nat.le_of_ble_eq_true rfl) ?_)
          simp -dsimp -implicitDefEqProofs [initT]
          exact ends_book2 [_, _, _] rfl (hr.out.trans (by simp))
        · subst hw0
          simp -dsimp -implicitDefEqProofs [c2]
          exact ends_book2 [_, _, _] rfl (hr.out.trans (by simp [c2]))
      · simp -dsimp -implicitDefEqProofs [c1]
        exact ends_book2 [_, _, _] rfl (hr.out.trans (by simp [c1]; simp at h1 h2; omega))
  · refine C_inline [] Try.func22 (fun _ _ => by kernel_rfl) rfl (by kernel_rfl) (by rfl) (by decide) (by rfl) (by rfl) (by rfl) ?_
    simp -dsimp -implicitDefEqProofs [initT]
    refine call_C (book_ready_bad b who h) rfl (Or.inr (by rfl)) (Nat.le_of_ble_eq_true rfl) ?_
    simp -dsimp -implicitDefEqProofs [h]
    exact ends_book0 (by unfold S.register; rw [if_pos h])

end Go.Proofs.Ytdjdjnmccphbjaa.E
