/- L0: Lc: the book's moves, by the engine. Ld: the book's moves, by the engine. -/
import Derived.Test.YtginfkadmjikhaaGreatDoorA1
namespace Go.Proofs.YtginfkadmjikhaaGreatDoor.E
open Go.RowKit Go.Proofs
set_option maxRecDepth 100000
set_option maxHeartbeats 1000000
set_option linter.unusedSimpArgs false
theorem ends_book {x y : AV} {b : S.Book} {c bh bt cc : Int} {h : Heap} {n : Nat} (hx : outLeaf h [] x = some y) (hy : SubF y (.lst true 1 (I b.k))) (e1 : bh = b.h) (e2 : bt = b.t) (e3 : cc = c) :
    Ends [] (.tup [BkN b, Int' c]) [] h n (.tup [.agg [x, Int' bh, Int' bt], Int' cc]) := by
  subst e1 e2 e3
  refine ⟨⟨.tup [.agg [y, Int' b.h, Int' b.t], Int' cc], ?_, .tup (.cons (.agg (.cons hy (.cons (.refl _) (.cons (.refl _) (.nil _))))) (.cons (.leaf (.refl _)) (.nil _)))⟩, rfl⟩
  have i (z : Int) : outLeaf h [] (Int' z) = some (Int' z) := rfl
  have i2 (z : Int) : outAgg h [] (Int' z) = some (Int' z) := rfl
  have e : outAgg h [] (.agg [x, Int' b.h, Int' b.t]) = some (.agg [y, Int' b.h, Int' b.t]) := by
    show (List.mapM (outLeaf h []) [x, Int' b.h, Int' b.t]).map AV.agg = _
    simp only [List.mapM_cons, List.mapM_nil, hx, i, Option.pure_def, Option.bind_eq_bind, Option.bind_some, Option.map_some]
  show (List.mapM (outAgg h []) [.agg [x, Int' b.h, Int' b.t], Int' cc]).map AV.tup = _
  simp only [List.mapM_cons, List.mapM_nil, e, i2, Option.pure_def, Option.bind_eq_bind, Option.bind_some, Option.map_some]
theorem ready_shape {b : S.Book} {who : Int} (h : S.ready b who = 0) : (∃ x0 x1 x2, b.k = [x0, x1, x2]) ∧ (who = 0 ∨ who = 1 ∨ who = 2) ∧ S.checkBook b = 0 := by
  have h1 : S.checkBook b = 0 := by
    unfold S.ready at h
    split at h
    · exact h
    · rename_i g; simpa using g
  have h2 : ¬ (who < 0 ∨ 3 ≤ who) := by
    intro g
    unfold S.ready at h
    rw [if_neg (by simp [h1]), if_pos g] at h
    cases h
  refine ⟨?_, by omega, h1⟩
  have hl : b.k.length = 3 := by
    by_cases g : b.k.length = 3
    · exact g
    · unfold S.checkBook at h1; rw [if_pos g] at h1; cases h1
  match b.k, hl with
  | [x0, x1, x2], _ => exact ⟨x0, x1, x2, rfl⟩
theorem book_Copy (b : S.Book) (hl : b.k.length ≤ 100000000) : C Tryz.prog 138 [Bk b] (.agg [.own 0 0 b.k.length, Int' b.h, Int' b.t]) [⟨3, 1, I b.k⟩] := by
  refine C_inline [16] Tryz.func138 (fun _ _ => by kernel_rfl) rfl (by kernel_rfl) (by rfl) (by decide) (by rfl) (by rfl) (plain_I _) ?_
  simp -dsimp -implicitDefEqProofs [initT]
  refine call_C (clone_int b.k hl) rfl (Or.inr (by rfl)) (Nat.le_of_ble_eq_true rfl) ?_
  simp -dsimp -implicitDefEqProofs
  exact ⟨⟨_, rfl, Sub.refl _⟩, rfl⟩
theorem book_ready_bad (b : S.Book) (who : Int) (h : S.ready b who ≠ 0) : C Tryz.prog 101 [Bk b, Int' who] (.tup [BkN S.Book.zero, Int' (S.ready b who)]) [] := by
  refine C_inline [] Tryz.func101 (fun _ _ => by kernel_rfl) rfl (by kernel_rfl) (by rfl) (by decide) (by rfl) (by rfl) (by rfl) ?_
  simp -dsimp -implicitDefEqProofs [initT]
  refine call_C (book_Check b) rfl (Or.inr (by rfl)) (Nat.le_of_ble_eq_true rfl) ?_
  simp -dsimp -implicitDefEqProofs
  by_cases h1 : S.checkBook b = 0
  · have hl : (b.k.length : Int) = 3 := by
      have : b.k.length = 3 := by
        by_cases g : b.k.length = 3
        · exact g
        · unfold S.checkBook at h1; rw [if_pos g] at h1; cases h1
      omega
    have hr : S.ready b who = if who < 0 ∨ 3 ≤ who then 5 else 0 := by unfold S.ready; rw [if_neg (by simp [h1])]
    have hw : who < 0 ∨ 3 ≤ who := by rw [hr] at h; grind
    rw [if_pos hw] at hr
    rw [hr]
    replace h := hid h
    have cs : decide (who < 0) = true ∨ (decide (who < 0) = false ∧ decide (3 ≤ who) = true) := by simp; omega
    clear hw hr
    rcases cs with c | ⟨c, d⟩
    · simp -dsimp -implicitDefEqProofs [h1, c]
      exact ends_book rfl .nl rfl rfl rfl
    · simp -dsimp -implicitDefEqProofs [h1, c, d, hl]
      exact ends_book rfl .nl rfl rfl rfl
  · have hr : S.ready b who = S.checkBook b := by unfold S.ready; rw [if_pos h1]
    rw [hr]
    simp -dsimp -implicitDefEqProofs [h1]
    exact ends_book rfl .nl rfl rfl rfl
theorem book_ready_ok (b : S.Book) (who : Int) (h : S.ready b who = 0) : C Tryz.prog 101 [Bk b, Int' who] (.tup [.agg [.own 0 0 3, Int' b.h, Int' b.t], Int' 0]) [⟨3, 1, I b.k⟩] := by
  obtain ⟨⟨x0, x1, x2, hk⟩, hw, hc⟩ := ready_shape h
  obtain ⟨xs, bh, bt⟩ := b
  simp only at hk
  subst hk
  refine C_inline [72] Tryz.func101 (fun _ _ => by kernel_rfl) rfl (by kernel_rfl) (by rfl) (by decide) (by rfl) (by rfl) (plain_I _) ?_
  simp -dsimp -implicitDefEqProofs [initT]
  refine call_C (book_Check ⟨[x0, x1, x2], bh, bt⟩) rfl (Or.inr (by rfl)) (Nat.le_of_ble_eq_true rfl) ?_
  have c1 : decide (who < 0) = false := decide_eq_false (by omega)
  have c2 : decide (3 ≤ who) = false := decide_eq_false (by omega)
  simp -dsimp -implicitDefEqProofs [hc, c1, c2]
  refine call_C (book_Copy ⟨[x0, x1, x2], bh, bt⟩ (by simp)) rfl (Or.inr (by rfl)) (Nat.le_of_ble_eq_true rfl) ?_
  simp -dsimp -implicitDefEqProofs
  exact ⟨⟨_, rfl, Sub.refl _⟩, rfl⟩
end Go.Proofs.YtginfkadmjikhaaGreatDoor.E
namespace Go.Proofs.YtginfkadmjikhaaGreatDoor.E
open Go.RowKit Go.Proofs
set_option maxRecDepth 100000
set_option maxHeartbeats 1000000
set_option linter.unusedSimpArgs false
@[simp] theorem I_cons (x : Int) (xs : List Int) : I (x :: xs) = [.at (.int .i64 x)] :: I xs := rfl
@[simp] theorem I_nil : I [] = [] := rfl
theorem ends_book2 (ks : List Int) {x : AV} {bh bt c : Int} {r : S.Book × Int} {h : Heap} {n : Nat} (hx : outLeaf h [] x = some (.lst true 1 (I ks))) (e : r = (⟨ks, bh, bt⟩, c)) :
    Ends [] (.tup [BkN r.1, Int' r.2]) [] h n (.tup [.agg [x, Int' bh, Int' bt], Int' c]) := by
  subst e
  exact ends_book hx (.refl _) rfl rfl rfl
theorem ends_book0 {c : Int} {r : S.Book × Int} {h : Heap} {n : Nat} (e : r = (S.Book.zero, c)) :
    Ends [] (.tup [BkN r.1, Int' r.2]) [] h n (.tup [.agg [.nl, Int' 0, Int' 0], Int' c]) := by
  subst e
  exact ends_book rfl .nl rfl rfl rfl
theorem book_Register (b : S.Book) (who key : Int) : C Tryz.prog 163 [Bk b, Int' who, Int' key] (.tup [BkN (S.register b who key).1, Int' (S.register b who key).2]) [] := by
  by_cases h : S.ready b who = 0
  · obtain ⟨⟨x0, x1, x2, hk⟩, hw, hc⟩ := ready_shape h
    obtain ⟨xs, bh, bt⟩ := b
    simp only at hk
    subst hk
    have hr : S.register ⟨[x0, x1, x2], bh, bt⟩ who key = if key < 0 ∨ 9 < key then (S.Book.zero, 3) else if key = 0 ∧ bh = who then (⟨[x0, x1, x2].set who.toNat key, -1, 0⟩, 0) else (⟨[x0, x1, x2].set who.toNat key, bh, bt⟩, 0) := by
      unfold S.register
      rw [if_neg (by simp [h])]
    generalize S.register ⟨[x0, x1, x2], bh, bt⟩ who key = r at hr ⊢
    replace hr := hid hr
    have hready := hid (book_ready_ok ⟨[x0, x1, x2], bh, bt⟩ who h)
    clear h hc
    obtain ⟨w0, hw0⟩ : ∃ w, w = who := ⟨_, rfl⟩
    rcases hw with rfl | rfl | rfl
    all_goals
      refine C_inline [] Tryz.func163 (fun _ _ => by kernel_rfl) rfl (by kernel_rfl) (by rfl) (by decide) (by rfl) (by rfl) (by rfl) ?_
      simp -dsimp -implicitDefEqProofs [initT]
      refine call_C hready.out rfl (Or.inr (by rfl)) (Nat.le_of_ble_eq_true rfl) ?_
      simp -dsimp -implicitDefEqProofs
      refine brA_split (fun h1 => ?_) (fun h1 => ?_) <;> simp -dsimp -implicitDefEqProofs [*]
      · exact ends_book0 (hr.out.trans (by simp at h1; rw [if_pos (by omega)]))
      refine brA_split (fun h2 => ?_) (fun h2 => ?_) <;> simp -dsimp -implicitDefEqProofs [*]
      · exact ends_book0 (hr.out.trans (by simp at h2; rw [if_pos (by omega)]))
      by_cases c1 : key = 0
      · subst c1
        by_cases c2 : bh = w0
        · subst hw0;  subst c2
          simp -dsimp -implicitDefEqProofs
          refine call_CS (CS_inline (typesOk _) Tryz.func195 (fun _ _ => by kernel_rfl) rfl (by kernel_rfl) (Nat.le_of_ble_eq_true rfl) ?_)
          simp -dsimp -implicitDefEqProofs [initT]
          exact ends_book2 [_, _, _] rfl (hr.out.trans (by simp))
        · subst hw0
          simp -dsimp -implicitDefEqProofs [c2]
          exact ends_book2 [_, _, _] rfl (hr.out.trans (by simp [c2]))
      · simp -dsimp -implicitDefEqProofs [c1]
        exact ends_book2 [_, _, _] rfl (hr.out.trans (by simp [c1]; simp at h1 h2; omega))
  · refine C_inline [] Tryz.func163 (fun _ _ => by kernel_rfl) rfl (by kernel_rfl) (by rfl) (by decide) (by rfl) (by rfl) (by rfl) ?_
    simp -dsimp -implicitDefEqProofs [initT]
    refine call_C (book_ready_bad b who h) rfl (Or.inr (by rfl)) (Nat.le_of_ble_eq_true rfl) ?_
    simp -dsimp -implicitDefEqProofs [h]
    exact ends_book0 (by unfold S.register; rw [if_pos h])
end Go.Proofs.YtginfkadmjikhaaGreatDoor.E
