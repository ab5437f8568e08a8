/- Lb: books, by the engine. -/
import Derived.Test.YtdjdjnmccphbjaaLa
namespace Go.Proofs.Ytdjdjnmccphbjaa.E
open Go.RowKit Go.Proofs
set_option maxRecDepth 100000
set_option maxHeartbeats 1000000
set_option linter.unusedSimpArgs false

/-- a book that is read -/
abbrev Bk (b : S.Book) : AV := .agg [.lst false 1 (I b.k), .at (.int .i64 b.h), .at (.int .i64 b.t)]
/-- a book that is new -/
abbrev BkN (b : S.Book) : AV := .agg [.lst true 1 (I b.k), .at (.int .i64 b.h), .at (.int .i64 b.t)]
abbrev Int' (x : Int) : AV := .at (.int .i64 x)
abbrev Bool' (x : Bool) : AV := .at (.bool x)

theorem below_succ {p : Int → Bool} {xs : List Int} {k : Nat} {b : Bool} {x : Int} (h : ∀ j, j < k → p (xs.getD j 0) = b) (hx : xs[k]? = some x) (hp : p x = b) : ∀ j, j < k + 1 → p (xs.getD j 0) = b := by
  intro j hj
  rcases Nat.lt_or_ge j k with g | g
  · exact h j g
  · have : j = k := by omega
    subst this
    simp [hx, hp]
theorem any_of {p : Int → Bool} {xs : List Int} {k : Nat} {x : Int} (hx : xs[k]? = some x) (hp : p x = true) : xs.any p = true := List.any_eq_true.2 ⟨x, List.mem_of_getElem? hx, hp⟩
theorem any_none {p : Int → Bool} {xs : List Int} (h : ∀ j, j < xs.length → p (xs.getD j 0) = false) : xs.any p = false := by
  rw [List.any_eq_false]
  intro x hx
  obtain ⟨j, hj⟩ := List.mem_iff_getElem?.1 hx
  have := h j (List.getElem?_eq_some_iff.1 hj).1
  simp [hj] at this
  simp [this]

theorem book_Check (b : S.Book) : C Try.prog 32 [Bk b] (Int' (S.checkBook b)) [] := by
  obtain ⟨xs, bh, bt⟩ := b
  refine C_inline [] Try.func32 (fun _ _ => by kernel_rfl) rfl (by kernel_rfl) (by rfl) (by decide) (by rfl) (by rfl) (by rfl) ?_
  simp -dsimp -implicitDefEqProofs [initT]
  refine brA_split (fun h1 => ?_) (fun h1 => ?_) <;> simp -dsimp -implicitDefEqProofs [*]
  rotate_left
  · refine ends_int ?_
    simp at h1
    unfold S.checkBook
    rw [if_pos (by simp; omega)]
  simp at h1
  replace h1 : xs.length = 3 := by omega
  refine loop_count 12 3 (fun k h _ _ => h = _ ∧ Hid (∀ j, j < k → S.badKey (xs.getD j 0) = false)) _ rfl (by rfl) ⟨rfl, by intro j hj; omega⟩ ?_ ?_
  · rintro k t h m hk hci hs ⟨rfl, hb⟩
    have e1 := hs 1 rfl
    have e10 := hs 10 rfl
    have e11 := hs 11 rfl
    clear hs
    simp -dsimp -implicitDefEqProofs at e1 e10 e11
    have hw : IntKind.i64.wrap ((k : Int) + 1) = (k : Int) + 1 := wrap_ok (by omega)
    have hlt : decide (k < xs.length) = true := by simp; omega
    obtain ⟨x, hx⟩ : ∃ x, xs[k]? = some x := ⟨xs[k]'(by omega), by simp⟩
    replace hk := hid hk
    replace h1 := hid h1
    simp -dsimp -implicitDefEqProofs [*]
    refine brA_split (fun g1 => ?_) (fun g1 => ?_) <;> simp -dsimp -implicitDefEqProofs [*]
    · refine ends_int ?_
      simp at g1
      unfold S.checkBook
      rw [if_neg (by have := h1.out; simp [this]), if_pos (any_of hx (by simp [S.badKey, g1]))]
    refine brA_split (fun g2 => ?_) (fun g2 => ?_) <;> simp -dsimp -implicitDefEqProofs [*]
    · refine ends_int ?_
      simp at g2
      unfold S.checkBook
      rw [if_neg (by have := h1.out; simp [this]), if_pos (any_of hx (by simp [S.badKey, g2]))]
    exact hid (below_succ hb.out hx (by simp at g1 g2; simp [S.badKey]; omega))
  · rintro t h m hci hs ⟨rfl, hb⟩
    have e1 := hs 1 rfl
    have e10 := hs 10 rfl
    have e11 := hs 11 rfl
    clear hs
    simp -dsimp -implicitDefEqProofs at e1 e10 e11
    have hba := any_none (p := S.badKey) (xs := xs) (by rw [h1]; exact hb.out)
    have hlen : (xs.length : Int) = 3 := by omega
    have key : S.checkBook ⟨xs, bh, bt⟩ = if bh < -1 ∨ 3 ≤ bh ∨ bt < 0 ∨ 4 < bt then 3 else if (bh < 0 ∧ bt ≠ 0) ∨ (0 ≤ bh ∧ (bt = 0 ∨ xs.getD bh.toNat 0 = 0)) then 4 else 0 := by
      unfold S.checkBook
      rw [if_neg (by simp [h1]), if_neg (by simp [hba])]
      rfl
    replace key := hid key
    have cs : (decide (bh < -1) = true) ∨ (decide (bh < -1) = false ∧ decide (3 ≤ bh) = true) ∨ bh = -1 ∨ ∃ n z, bh = ((n : Nat) : Int) ∧ n < 3 ∧ xs[n]? = some z := by
      by_cases c1 : bh < -1
      · simp [c1]
      by_cases c2 : 3 ≤ bh
      · simp [c1, c2]
      by_cases c3 : bh = -1
      · simp [c3]
      exact Or.inr (Or.inr (Or.inr ⟨bh.toNat, xs[bh.toNat]'(by omega), by omega, by omega, by simp⟩))
    clear h1
    rcases cs with c | ⟨c, d⟩ | rfl | ⟨n, z, rfl, hn, hz⟩
    · simp -dsimp -implicitDefEqProofs [*]
      refine ends_int ?_
      rw [key.out]; try (clear key; grind)
    · simp -dsimp -implicitDefEqProofs [*]
      refine ends_int ?_
      rw [key.out]; try (clear key; grind)
    · simp -dsimp -implicitDefEqProofs [*]
      repeat' (refine brA_split (fun g => ?_) (fun g => ?_) <;> simp -dsimp -implicitDefEqProofs [*])
      all_goals
        refine ends_int ?_
        rw [key.out]; try (clear key hb hba hci e1 e10 e11; grind)
    · have d : decide ((3 : Int) ≤ (n : Int)) = false := decide_eq_false (by omega)
      have d2 : decide ((n : Int) < 0) = false := decide_eq_false (by omega)
      have d3 : decide ((n : Int) < -1) = false := decide_eq_false (by omega)
      simp -dsimp -implicitDefEqProofs [*]
      repeat' (refine brA_split (fun g => ?_) (fun g => ?_) <;> simp -dsimp -implicitDefEqProofs [*])
      all_goals
        refine ends_int ?_
        rw [key.out]; try (clear key hb hba hci e1 e10 e11; clear hlen; grind)

end Go.Proofs.Ytdjdjnmccphbjaa.E
