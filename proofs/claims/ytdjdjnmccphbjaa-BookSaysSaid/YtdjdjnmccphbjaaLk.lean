/- Lk: law.BookAlone, by the engine. -/
import Derived.Test.YtdjdjnmccphbjaaLh
import Derived.Test.YtdjdjnmccphbjaaLj
namespace Go.Proofs.Ytdjdjnmccphbjaa.E
open Go.RowKit Go.Proofs
set_option maxRecDepth 100000
set_option maxHeartbeats 1000000
set_option linter.unusedSimpArgs false

/-- a reservation that went well -/
theorem reserve_shape {b : S.Book} {who kind : Int} (h : (S.reserve b who kind).2 = 0) : ∃ x0 x1 x2, b.k = [x0, x1, x2] ∧ (who = 0 ∨ who = 1 ∨ who = 2) ∧ (1 ≤ kind ∧ kind ≤ 4) ∧
    (S.reserve b who kind) = (⟨[x0, x1, x2], who, kind⟩, 0) ∧ [x0, x1, x2].getD who.toNat 0 ≠ 0 ∧ (0 ≤ x0 ∧ x0 ≤ 9) ∧ (0 ≤ x1 ∧ x1 ≤ 9) ∧ (0 ≤ x2 ∧ x2 ≤ 9) := by
  by_cases hr : S.ready b who = 0
  · obtain ⟨⟨x0, x1, x2, hk⟩, hw, hc⟩ := ready_shape hr
    obtain ⟨xs, bh, bt⟩ := b
    simp only at hk
    subst hk
    have hs : S.reserve ⟨[x0, x1, x2], bh, bt⟩ who kind = if kind < 1 ∨ 4 < kind then (S.Book.zero, 3) else if S.Book.key ⟨[x0, x1, x2], bh, bt⟩ who = 0 ∨ (0 ≤ bh ∧ (bh ≠ who ∨ bt ≠ kind)) then (S.Book.zero, 8) else (⟨[x0, x1, x2], who, kind⟩, 0) := by
      unfold S.reserve
      rw [if_neg (by simp [hr])]
    rw [hs] at h ⊢
    split at h; · cases h
    rename_i g1
    split at h; · cases h
    rename_i g2
    rw [if_neg g1, if_neg g2]
    have hb : ¬ ([x0, x1, x2].any S.badKey = true) := by
      intro g
      unfold S.checkBook at hc
      rw [if_neg (by simp), if_pos g] at hc
      cases hc
    simp [S.badKey] at hb
    refine ⟨x0, x1, x2, rfl, hw, by omega, rfl, ?_, by omega, by omega, by omega⟩
    intro e
    exact g2 (Or.inl e)
  · have : (S.reserve b who kind).2 = S.ready b who := by unfold S.reserve; rw [if_pos hr]
    rw [this] at h
    exact absurd h hr

theorem good_book {x0 x1 x2 w kind : Int} (hw : w = 0 ∨ w = 1 ∨ w = 2) (hk : 1 ≤ kind ∧ kind ≤ 4) (hn : [x0, x1, x2].getD w.toNat 0 ≠ 0) (p0 : 0 ≤ x0 ∧ x0 ≤ 9) (p1 : 0 ≤ x1 ∧ x1 ≤ 9) (p2 : 0 ≤ x2 ∧ x2 ≤ 9) : S.checkBook ⟨[x0, x1, x2], w, kind⟩ = 0 := by
  unfold S.checkBook
  rw [if_neg (by simp), if_neg (by simp [S.badKey]; omega), if_neg (by simp; omega), if_neg]
  rintro (⟨g, _⟩ | ⟨_, g | g⟩)
  · simp at g; omega
  · simp at g; omega
  · exact hn g
theorem good_ready {b : S.Book} (h : S.checkBook b = 0) {w : Int} (hw : w = 0 ∨ w = 1 ∨ w = 2) : S.ready b w = 0 := by
  unfold S.ready
  rw [if_neg (by simp [h]), if_neg (by omega)]

theorem law_BookAlone (b : S.Book) (who kind key : Int) : C Try.prog 6 [Bk b, Int' who, Int' kind, Int' key] (Bool' true) [] := by
  obtain ⟨w, hwe⟩ : ∃ w, w = who % 3 := ⟨_, rfl⟩
  obtain ⟨q, hqe⟩ : ∃ q, q = key % 9 := ⟨_, rfl⟩
  have hq : 0 ≤ q ∧ q ≤ 8 := by omega
  have hq1 : IntKind.i64.wrap (1 + q) = 1 + q := wrap_ok (by omega)
  by_cases h : (S.reserve b w kind).2 = 0
  · obtain ⟨x0, x1, x2, -, hw, hkind, hres, hne, p0, p1, p2⟩ := reserve_shape h
    have hgood := good_book hw hkind hne p0 p1 p2
    have hres2 : S.reserve ⟨[x0, x1, x2], w, kind⟩ w kind = (⟨[x0, x1, x2], w, kind⟩, 0) := by
      unfold S.reserve
      rw [if_neg (by simp [good_ready hgood hw]), if_neg (by omega), if_neg (by simp; exact hne)]
    have hreg : S.register ⟨[x0, x1, x2], w, kind⟩ w (1 + q) = (⟨[x0, x1, x2].set w.toNat (1 + q), w, kind⟩, 0) := by
      unfold S.register
      rw [if_neg (by simp [good_ready hgood hw]), if_neg (by omega), if_neg (by omega)]
    have hmay : ∀ k, (k = 0 ∨ k = 1 ∨ k = 2) → S.may ⟨[x0, x1, x2], w, kind⟩ k true = (S.might ⟨[x0, x1, x2], w, kind⟩ k true, 0) := by
      intro k hk
      unfold S.may
      rw [if_neg (by simp [good_ready hgood hk])]
    have cres := hid (res_eq (hid hres).out)
    have cres2 := hid (res_eq hres2)
    have creg := hid (reg_eq hreg)
    have cm0 := hid (may_eq (hmay 0 (by simp)))
    have cm1 := hid (may_eq (hmay 1 (by simp)))
    have cm2 := hid (may_eq (hmay 2 (by simp)))
    have hsame : S.same ⟨[x0, x1, x2], w, kind⟩ ⟨[x0, x1, x2], w, kind⟩ = true := by simp [S.same]
    have csame := hid (same_eq hsame (by simp))
    obtain ⟨m0, hm0⟩ : ∃ m, m = S.might ⟨[x0, x1, x2], w, kind⟩ 0 true := ⟨_, rfl⟩
    obtain ⟨m1, hm1⟩ : ∃ m, m = S.might ⟨[x0, x1, x2], w, kind⟩ 1 true := ⟨_, rfl⟩
    obtain ⟨m2, hm2⟩ : ∃ m, m = S.might ⟨[x0, x1, x2], w, kind⟩ 2 true := ⟨_, rfl⟩
    rw [← hm0] at cm0; rw [← hm1] at cm1; rw [← hm2] at cm2
    have e0 : (w = 0 → m0 = true) ∧ (w ≠ 0 → x0 = 0 → m0 = false) := by
      subst hm0; simp [S.might, S.Book.key]; omega
    have e1 : (w = 1 → m1 = true) ∧ (w ≠ 1 → x1 = 0 → m1 = false) := by
      subst hm1; simp [S.might, S.Book.key]; omega
    have e2 : (w = 2 → m2 = true) ∧ (w ≠ 2 → x2 = 0 → m2 = false) := by
      subst hm2; simp [S.might, S.Book.key]; omega
    clear hm0 hm1 hm2 hmay hres hres2 hreg hsame hgood
    replace e0 := hid e0; replace e1 := hid e1; replace e2 := hid e2
    replace hne := hid hne
    refine C_inline [] Try.func6 (fun _ _ => by kernel_rfl) rfl (by kernel_rfl) (by rfl) (by decide) (by rfl) (by rfl) (by rfl) ?_
    simp -dsimp -implicitDefEqProofs [initT]
    refine call_C ((law_at who 3 (by omega))) (by first | rfl | (simp -dsimp -implicitDefEqProofs; done)) (by first | exact Or.inr (by rfl) | exact Or.inl ⟨by rfl, by first | rfl | simp [newNews, newLeaf, I]⟩) (Nat.le_of_ble_eq_true rfl) ?_
    rw [← hwe]
    simp -dsimp -implicitDefEqProofs
    refine call_C ((law_at key 9 (by omega))) (by first | rfl | (simp -dsimp -implicitDefEqProofs; done)) (by first | exact Or.inr (by rfl) | exact Or.inl ⟨by rfl, by first | rfl | simp [newNews, newLeaf, I]⟩) (Nat.le_of_ble_eq_true rfl) ?_
    rw [← hqe]
    simp -dsimp -implicitDefEqProofs [hq1]
    clear hwe hqe h
    refine call_C (cres.out) (by first | rfl | (simp -dsimp -implicitDefEqProofs; done)) (by first | exact Or.inr (by rfl) | exact Or.inl ⟨by rfl, by first | rfl | simp [newNews, newLeaf, I]⟩) (Nat.le_of_ble_eq_true rfl) ?_
    simp -dsimp -implicitDefEqProofs
    refine call_C (law_booked) (by first | rfl | (simp -dsimp -implicitDefEqProofs; done)) (by first | exact Or.inr (by rfl) | exact Or.inl ⟨by rfl, by first | rfl | simp [newNews, newLeaf, I]⟩) (Nat.le_of_ble_eq_true rfl) ?_
    simp -dsimp -implicitDefEqProofs
    obtain ⟨w0, hw0⟩ : ∃ x, x = w := ⟨_, rfl⟩
    rcases hw with rfl | rfl | rfl
    all_goals
      refine loop_count 36 3 (fun k h m _ => h = _ ∧ ∃ d, m = d + 100) _ rfl (by rfl) ⟨rfl, ⟨_, rfl⟩⟩ ?_ ?_
      · rintro k t h m hk hci hs ⟨rfl, d, rfl⟩
        have e1' := hs 1 rfl
        have e9 := hs 9 rfl
        clear hs
        simp -dsimp -implicitDefEqProofs at e1' e9
        obtain rfl | rfl | rfl : k = 0 ∨ k = 1 ∨ k = 2 := by omega
        · simp at hci
          simp -dsimp -implicitDefEqProofs [*]
          refine call_C (cm0.out) (by first | rfl | (simp -dsimp -implicitDefEqProofs; done)) (by first | exact Or.inr (by rfl) | exact Or.inl ⟨by rfl, by first | rfl | simp [newNews, newLeaf, I]⟩) (Nat.le_of_ble_eq_true rfl) ?_
          have f := And.intro e0.out hne.out
          by_cases g : x0 = 0 <;> cases m0 <;> simp [g] at f <;> simp -dsimp -implicitDefEqProofs [*]
        · simp at hci
          simp -dsimp -implicitDefEqProofs [*]
          refine call_C (cm1.out) (by first | rfl | (simp -dsimp -implicitDefEqProofs; done)) (by first | exact Or.inr (by rfl) | exact Or.inl ⟨by rfl, by first | rfl | simp [newNews, newLeaf, I]⟩) (Nat.le_of_ble_eq_true rfl) ?_
          have f := And.intro e1.out hne.out
          by_cases g : x1 = 0 <;> cases m1 <;> simp [g] at f <;> simp -dsimp -implicitDefEqProofs [*]
        · simp at hci
          simp -dsimp -implicitDefEqProofs [*]
          refine call_C (cm2.out) (by first | rfl | (simp -dsimp -implicitDefEqProofs; done)) (by first | exact Or.inr (by rfl) | exact Or.inl ⟨by rfl, by first | rfl | simp [newNews, newLeaf, I]⟩) (Nat.le_of_ble_eq_true rfl) ?_
          have f := And.intro e2.out hne.out
          by_cases g : x2 = 0 <;> cases m2 <;> simp [g] at f <;> simp -dsimp -implicitDefEqProofs [*]
      · rintro t h m hci hs ⟨rfl, d, rfl⟩
        have e1' := hs 1 rfl
        have e2' := hs 2 rfl
        have e3' := hs 3 rfl
        have e9 := hs 9 rfl
        clear hs
        simp -dsimp -implicitDefEqProofs at e1' e2' e3' e9
        simp -dsimp -implicitDefEqProofs [*]
        refine call_C (cres2.out) (by first | rfl | (simp -dsimp -implicitDefEqProofs; done)) (by first | exact Or.inr (by rfl) | exact Or.inl ⟨by rfl, by first | rfl | simp [newNews, newLeaf, I]⟩) (Nat.le_of_ble_eq_true rfl) ?_
        simp -dsimp -implicitDefEqProofs [*]
        refine call_C (creg.out) (by first | rfl | (simp -dsimp -implicitDefEqProofs; done)) (by first | exact Or.inr (by rfl) | exact Or.inl ⟨by rfl, by first | rfl | simp [newNews, newLeaf, I]⟩) (Nat.le_of_ble_eq_true rfl) ?_
        simp -dsimp -implicitDefEqProofs [*]
        refine call_C (csame.out) (by first | rfl | (simp -dsimp -implicitDefEqProofs; done)) (by first | exact Or.inr (by rfl) | exact Or.inl ⟨by rfl, by first | rfl | simp [newNews, newLeaf, I]⟩) (Nat.le_of_ble_eq_true rfl) ?_
        simp -dsimp -implicitDefEqProofs [*]
        exact ends_bool rfl
  · refine C_inline [] Try.func6 (fun _ _ => by kernel_rfl) rfl (by kernel_rfl) (by rfl) (by decide) (by rfl) (by rfl) (by rfl) ?_
    simp -dsimp -implicitDefEqProofs [initT]
    refine call_C ((law_at who 3 (by omega))) (by first | rfl | (simp -dsimp -implicitDefEqProofs; done)) (by first | exact Or.inr (by rfl) | exact Or.inl ⟨by rfl, by first | rfl | simp [newNews, newLeaf, I]⟩) (Nat.le_of_ble_eq_true rfl) ?_
    rw [← hwe]
    simp -dsimp -implicitDefEqProofs
    refine call_C ((law_at key 9 (by omega))) (by first | rfl | (simp -dsimp -implicitDefEqProofs; done)) (by first | exact Or.inr (by rfl) | exact Or.inl ⟨by rfl, by first | rfl | simp [newNews, newLeaf, I]⟩) (Nat.le_of_ble_eq_true rfl) ?_
    rw [← hqe]
    simp -dsimp -implicitDefEqProofs [hq1]
    refine call_C ((book_Reserve b w kind)) (by first | rfl | (simp -dsimp -implicitDefEqProofs; done)) (by first | exact Or.inr (by rfl) | exact Or.inl ⟨by rfl, by first | rfl | simp [newNews, newLeaf, I]⟩) (Nat.le_of_ble_eq_true rfl) ?_
    generalize S.reserve b w kind = r at h ⊢
    simp -dsimp -implicitDefEqProofs
    refine call_C (law_booked) (by first | rfl | (simp -dsimp -implicitDefEqProofs; done)) (by first | exact Or.inr (by rfl) | exact Or.inl ⟨by rfl, by first | rfl | simp [newNews, newLeaf, I]⟩) (Nat.le_of_ble_eq_true rfl) ?_
    simp -dsimp -implicitDefEqProofs [h]
    refine call_C (law_booked) (by first | rfl | (simp -dsimp -implicitDefEqProofs; done)) (by first | exact Or.inr (by rfl) | exact Or.inl ⟨by rfl, by first | rfl | simp [newNews, newLeaf, I]⟩) (Nat.le_of_ble_eq_true rfl) ?_
    simp -dsimp -implicitDefEqProofs
    exact ends_bool rfl

end Go.Proofs.Ytdjdjnmccphbjaa.E
