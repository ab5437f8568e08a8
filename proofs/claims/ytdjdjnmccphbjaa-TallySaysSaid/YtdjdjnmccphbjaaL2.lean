/- L2: Lk: law.BookAlone, by the engine. Ll: law.BookHolds, by the engine. -/
import Derived.Test.YtdjdjnmccphbjaaLh
import Derived.Test.YtdjdjnmccphbjaaLj
namespace Go.Proofs.Ytdjdjnmccphbjaa.E
open Go.RowKit Go.Proofs
set_option maxRecDepth 100000
set_option maxHeartbeats 1000000
set_option linter.unusedSimpArgs false

/-- a reservation that went well -/
theorem reserve_shape {b : S.Book} {who kind : Int} (h : (S.reserve b who kind).2 = 0) : ∃ x0 x1 x2, b.k = [x0, x1, x2] ∧ (who = 0 ∨ who = 1 ∨ who = 2) ∧ (1 ≤ kind ∧ kind ≤ 4) ∧
    (S.reserve b who kind) = (⟨[x0, x1, x2], who, kind⟩, 0) ∧ [x0, x1, x2].getD who.toNat 0 ≠ 0 ∧ (0 ≤ x0 ∧ x0 ≤ 9) ∧ (0 ≤ x1 ∧ x1 ≤ 9) ∧ (0 ≤ x2 ∧ x2 ≤ 9) := by
  by_cases hr : S.ready b who = 0
  · obtain ⟨⟨x0, x1, x2, hk⟩, hw, hc⟩ := ready_shape hr
    obtain ⟨xs, bh, bt⟩ := b
    simp only at hk
    subst hk
    have hs : S.reserve ⟨[x0, x1, x2], bh, bt⟩ who kind = if kind < 1 ∨ 4 < kind then (S.Book.zero, 3) else if S.Book.key ⟨[x0, x1, x2], bh, bt⟩ who = 0 ∨ (0 ≤ bh ∧ (bh ≠ who ∨ bt ≠ kind)) then (S.Book.zero, 8) else (⟨[x0, x1, x2], who, kind⟩, 0) := by
      unfold S.reserve
      rw [if_neg (by simp [hr])]
    rw [hs] at h ⊢
    split at h; · cases h
    rename_i g1
    split at h; · cases h
    rename_i g2
    rw [if_neg g1, if_neg g2]
    have hb : ¬ ([x0, x1, x2].any S.badKey = true) := by
      intro g
      unfold S.checkBook at hc
      rw [if_neg (by simp), if_pos g] at hc
      cases hc
    simp [S.badKey] at hb
    refine ⟨x0, x1, x2, rfl, hw, by omega, rfl, ?_, by omega, by omega, by omega⟩
    intro e
    exact g2 (Or.inl e)
  · have : (S.reserve b who kind).2 = S.ready b who := by unfold S.reserve; rw [if_pos hr]
    rw [this] at h
    exact absurd h hr

theorem good_book {x0 x1 x2 w kind : Int} (hw : w = 0 ∨ w = 1 ∨ w = 2) (hk : 1 ≤ kind ∧ kind ≤ 4) (hn : [x0, x1, x2].getD w.toNat 0 ≠ 0) (p0 : 0 ≤ x0 ∧ x0 ≤ 9) (p1 : 0 ≤ x1 ∧ x1 ≤ 9) (p2 : 0 ≤ x2 ∧ x2 ≤ 9) : S.checkBook ⟨[x0, x1, x2], w, kind⟩ = 0 := by
  unfold S.checkBook
  rw [if_neg (by simp), if_neg (by simp [S.badKey]; omega), if_neg (by simp; omega), if_neg]
  rintro (⟨g, _⟩ | ⟨_, g | g⟩)
  · simp at g; omega
  · simp at g; omega
  · exact hn g
theorem good_ready {b : S.Book} (h : S.checkBook b = 0) {w : Int} (hw : w = 0 ∨ w = 1 ∨ w = 2) : S.ready b w = 0 := by
  unfold S.ready
  rw [if_neg (by simp [h]), if_neg (by omega)]

theorem law_BookAlone (b : S.Book) (who kind key : Int) : C Try.prog 6 [Bk b, Int' who, Int' kind, Int' key] (Bool' true) [] := by
  obtain ⟨w, hwe⟩ : ∃ w, w = who % 3 := ⟨_, rfl⟩
  obtain ⟨q, hqe⟩ : ∃ q, q = key % 9 := ⟨_, rfl⟩
  have hq : 0 ≤ q ∧ q ≤ 8 := by omega
  have hq1 : IntKind.i64.wrap (1 + q) = 1 + q := wrap_ok (by omega)
  by_cases h : (S.reserve b w kind).2 = 0
  · obtain ⟨x0, x1, x2, -, hw, hkind, hres, hne, p0, p1, p2⟩ := reserve_shape h
    have hgood := good_book hw hkind hne p0 p1 p2
    have hres2 : S.reserve ⟨[x0, x1, x2], w, kind⟩ w kind = (⟨[x0, x1, x2], w, kind⟩, 0) := by
      unfold S.reserve
      rw [if_neg (by simp [good_ready hgood hw]), if_neg (by omega), if_neg (by simp; exact hne)]
    have hreg : S.register ⟨[x0, x1, x2], w, kind⟩ w (1 + q) = (⟨[x0, x1, x2].set w.toNat (1 + q), w, kind⟩, 0) := by
      unfold S.register
      rw [if_neg (by simp [good_ready hgood hw]), if_neg (by omega), if_neg (by omega)]
    have hmay : ∀ k, (k = 0 ∨ k = 1 ∨ k = 2) → S.may ⟨[x0, x1, x2], w, kind⟩ k true = (S.might ⟨[x0, x1, x2], w, kind⟩ k true, 0) := by
      intro k hk
      unfold S.may
      rw [if_neg (by simp [good_ready hgood hk])]
    have cres := hid (res_eq (hid hres).out)
    have cres2 := hid (res_eq hres2)
    have creg := hid (reg_eq hreg)
    have cm0 := hid (may_eq (hmay 0 (by simp)))
    have cm1 := hid (may_eq (hmay 1 (by simp)))
    have cm2 := hid (may_eq (hmay 2 (by simp)))
    have hsame : S.same ⟨[x0, x1, x2], w, kind⟩ ⟨[x0, x1, x2], w, kind⟩ = true := by simp [S.same]
    have csame := hid (same_eq hsame (by simp))
    obtain ⟨m0, hm0⟩ : ∃ m, m = S.might ⟨[x0, x1, x2], w, kind⟩ 0 true := ⟨_, rfl⟩
    obtain ⟨m1, hm1⟩ : ∃ m, m = S.might ⟨[x0, x1, x2], w, kind⟩ 1 true := ⟨_, rfl⟩
    obtain ⟨m2, hm2⟩ : ∃ m, m = S.might ⟨[x0, x1, x2], w, kind⟩ 2 true := ⟨_, rfl⟩
    rw [← hm0] at cm0; rw [← hm1] at cm1; rw [← hm2] at cm2
    have e0 : (w = 0 → m0 = true) ∧ (w ≠ 0 → x0 = 0 → m0 = false) := by
      subst hm0; simp [S.might, S.Book.key]; omega
    have e1 : (w = 1 → m1 = true) ∧ (w ≠ 1 → x1 = 0 → m1 = false) := by
      subst hm1; simp [S.might, S.Book.key]; omega
    have e2 : (w = 2 → m2 = true) ∧ (w ≠ 2 → x2 = 0 → m2 = false) := by
      subst hm2; simp [S.might, S.Book.key]; omega
    clear hm0 hm1 hm2 hmay hres hres2 hreg hsame hgood
    replace e0 := hid e0; replace e1 := hid e1; replace e2 := hid e2
    replace hne := hid hne
    refine C_inline [] Try.func6 (fun _ _ => by kernel_rfl) rfl (by kernel_rfl) (by rfl) (by decide) (by rfl) (by rfl) (by rfl) ?_
    simp -dsimp -implicitDefEqProofs [initT]
    refine call_CC ((law_at who 3 (by omega))) ?_
    rw [← hwe]
    simp -dsimp -implicitDefEqProofs
    refine call_CC ((law_at key 9 (by omega))) ?_
    rw [← hqe]
    simp -dsimp -implicitDefEqProofs [hq1]
    clear hwe hqe h
    refine call_CC (cres.out) ?_
    simp -dsimp -implicitDefEqProofs
    refine call_CC (law_booked) ?_
    simp -dsimp -implicitDefEqProofs
    obtain ⟨w0, hw0⟩ : ∃ x, x = w := ⟨_, rfl⟩
    rcases hw with rfl | rfl | rfl
    all_goals
      refine loop_count 36 3 (fun k h m _ => h = _ ∧ ∃ d, m = d + 100) _ rfl (by rfl) ⟨rfl, ⟨_, rfl⟩⟩ ?_ ?_
      · rintro k t h m hk hci hs ⟨rfl, d, rfl⟩
        have e1' := hs 1 rfl
        have e9 := hs 9 rfl
        clear hs
        simp -dsimp -implicitDefEqProofs at e1' e9
        obtain rfl | rfl | rfl : k = 0 ∨ k = 1 ∨ k = 2 := by omega
        · simp at hci
          simp -dsimp -implicitDefEqProofs [*]
          refine call_CC (cm0.out) ?_
          have f := And.intro e0.out hne.out
          by_cases g : x0 = 0 <;> cases m0 <;> simp [g] at f <;> simp -dsimp -implicitDefEqProofs [*]
        · simp at hci
          simp -dsimp -implicitDefEqProofs [*]
          refine call_CC (cm1.out) ?_
          have f := And.intro e1.out hne.out
          by_cases g : x1 = 0 <;> cases m1 <;> simp [g] at f <;> simp -dsimp -implicitDefEqProofs [*]
        · simp at hci
          simp -dsimp -implicitDefEqProofs [*]
          refine call_CC (cm2.out) ?_
          have f := And.intro e2.out hne.out
          by_cases g : x2 = 0 <;> cases m2 <;> simp [g] at f <;> simp -dsimp -implicitDefEqProofs [*]
      · rintro t h m hci hs ⟨rfl, d, rfl⟩
        have e1' := hs 1 rfl
        have e2' := hs 2 rfl
        have e3' := hs 3 rfl
        have e9 := hs 9 rfl
        clear hs
        simp -dsimp -implicitDefEqProofs at e1' e2' e3' e9
        simp -dsimp -implicitDefEqProofs [*]
        refine call_CC (cres2.out) ?_
        simp -dsimp -implicitDefEqProofs [*]
        refine call_CC (creg.out) ?_
        simp -dsimp -implicitDefEqProofs [*]
        refine call_CC (csame.out) ?_
        simp -dsimp -implicitDefEqProofs [*]
        exact ends_bool rfl
  · refine C_inline [] Try.func6 (fun _ _ => by kernel_rfl) rfl (by kernel_rfl) (by rfl) (by decide) (by rfl) (by rfl) (by rfl) ?_
    simp -dsimp -implicitDefEqProofs [initT]
    refine call_CC ((law_at who 3 (by omega))) ?_
    rw [← hwe]
    simp -dsimp -implicitDefEqProofs
    refine call_CC ((law_at key 9 (by omega))) ?_
    rw [← hqe]
    simp -dsimp -implicitDefEqProofs [hq1]
    refine call_CC ((book_Reserve b w kind)) ?_
    generalize S.reserve b w kind = r at h ⊢
    simp -dsimp -implicitDefEqProofs
    refine call_CC (law_booked) ?_
    simp -dsimp -implicitDefEqProofs [h]
    refine call_CC (law_booked) ?_
    simp -dsimp -implicitDefEqProofs
    exact ends_bool rfl

end Go.Proofs.Ytdjdjnmccphbjaa.E
namespace Go.Proofs.Ytdjdjnmccphbjaa.E
open Go.RowKit Go.Proofs
set_option maxRecDepth 100000
set_option maxHeartbeats 1000000
set_option linter.unusedSimpArgs false

/-- one of the five moves -/
def S.move (q : Int) (b : S.Book) (w n : Int) : S.Book × Int :=
  if q = 0 then S.register b w n else if q = 1 then S.reserve b w n else if q = 2 then S.release b w else if q = 3 then S.preempt b w n else S.clear b w

theorem check_iff (x0 x1 x2 h t : Int) : S.checkBook ⟨[x0, x1, x2], h, t⟩ = 0 ↔ (0 ≤ x0 ∧ x0 ≤ 9) ∧ (0 ≤ x1 ∧ x1 ≤ 9) ∧ (0 ≤ x2 ∧ x2 ≤ 9) ∧ 0 ≤ t ∧ t ≤ 4 ∧
    ((h = -1 ∧ t = 0) ∨ (h = 0 ∧ t ≠ 0 ∧ x0 ≠ 0) ∨ (h = 1 ∧ t ≠ 0 ∧ x1 ≠ 0) ∨ (h = 2 ∧ t ≠ 0 ∧ x2 ≠ 0)) := by
  have hh : h < -1 ∨ h = -1 ∨ h = 0 ∨ h = 1 ∨ h = 2 ∨ 3 ≤ h := by omega
  unfold S.checkBook
  simp only [S.badKey, List.length_cons, List.length_nil, List.any_cons, List.any_nil, S.Book.key]
  rcases hh with hh | rfl | rfl | rfl | rfl | hh
  · constructor
    · intro g; exfalso; grind
    · omega
  · simp; grind
  · simp; grind
  · simp; grind
  · simp; grind
  · constructor
    · intro g; exfalso; grind
    · omega

theorem check_shape {b : S.Book} (h : S.checkBook b = 0) : ∃ x0 x1 x2, b = ⟨[x0, x1, x2], b.h, b.t⟩ := by
  obtain ⟨k, bh, bt⟩ := b
  by_cases g : k.length = 3
  · match k, g with
    | [x0, x1, x2], _ => exact ⟨x0, x1, x2, rfl⟩
  · unfold S.checkBook at h; rw [if_pos g] at h; cases h

theorem move_good {b : S.Book} (hb : S.checkBook b = 0) {w : Int} (hw : w = 0 ∨ w = 1 ∨ w = 2) {n q : Int} (h : (S.move q b w n).2 = 0) :
    S.checkBook (S.move q b w n).1 = 0 ∧ (q < 3 → 0 ≤ q → 0 ≤ b.h → b.h ≠ w → (S.move q b w n).1.h = b.h ∧ (S.move q b w n).1.t = b.t) := by
  have hr := good_ready hb hw
  obtain ⟨x0, x1, x2, hs⟩ := check_shape hb
  obtain ⟨k, bh, bt⟩ := b
  simp only [S.Book.mk.injEq, and_true] at hs
  subst hs
  rw [check_iff] at hb
  unfold S.move at h ⊢
  split at h
  · rename_i hq; subst hq
    simp only [↓reduceIte] at h ⊢
    unfold S.register at h ⊢
    rw [if_neg (by simp [hr])] at h ⊢
    rcases hw with rfl | rfl | rfl <;> (split at h; · cases h) <;> (rename_i g; rw [if_neg g]; split <;> (simp only [List.set_cons_zero, List.set_cons_succ, Int.toNat_zero, Int.toNat_one, show (2 : Int).toNat = 2 from rfl]; rw [check_iff]; grind))
  split at h
  · rename_i hq; subst hq
    simp only [↓reduceIte, show ¬ (1 : Int) = 0 by omega] at h ⊢
    unfold S.reserve at h ⊢
    rw [if_neg (by simp [hr])] at h ⊢
    rcases hw with rfl | rfl | rfl <;> (split at h; · cases h) <;> (rename_i g; rw [if_neg g]; split at h; · cases h) <;> (rename_i g2; rw [if_neg g2]; rw [check_iff]; simp [S.Book.key] at g2; grind)
  split at h
  · rename_i hq; subst hq
    simp only [↓reduceIte, show ¬ (2 : Int) = 0 by omega, show ¬ (2 : Int) = 1 by omega] at h ⊢
    unfold S.release at h ⊢
    rw [if_neg (by simp [hr])] at h ⊢
    rcases hw with rfl | rfl | rfl <;> (split at h; · cases h) <;> (rename_i g; rw [if_neg g]; split <;> (rw [check_iff]; simp [S.Book.key] at g; grind))
  split at h
  · rename_i hq; subst hq
    simp only [↓reduceIte, show ¬ (3 : Int) = 0 by omega, show ¬ (3 : Int) = 1 by omega, show ¬ (3 : Int) = 2 by omega] at h ⊢
    unfold S.preempt at h ⊢
    rw [if_neg (by simp [hr])] at h ⊢
    rcases hw with rfl | rfl | rfl <;> (split at h; · cases h) <;> (rename_i g; rw [if_neg g]; split at h; · cases h) <;> (rename_i g2; rw [if_neg g2]; refine ⟨?_, by omega⟩; simp [S.struck]; rw [check_iff]; simp [S.Book.key] at g2 ⊢; obtain ⟨_, _, _, _, _, hb⟩ := hb; rcases hb with ⟨rfl, _⟩ | ⟨rfl, _⟩ | ⟨rfl, _⟩ | ⟨rfl, _⟩ <;> simp <;> grind)
  · rename_i q0 q1 q2 q3
    simp only [q0, q1, q2, q3, ↓reduceIte] at h ⊢
    unfold S.clear at h ⊢
    rw [if_neg (by simp [hr])] at h ⊢
    split at h
    · cases h
    · rename_i g
      rw [if_neg g]
      exact ⟨by decide, by omega⟩

theorem mv0 (b : S.Book) (w n : Int) : C Try.prog 22 [Bk b, Int' w, Int' n] (.tup [BkN (S.move 0 b w n).1, Int' (S.move 0 b w n).2]) [] := by simpa [S.move] using book_Register b w n
theorem mv1 (b : S.Book) (w n : Int) : C Try.prog 23 [Bk b, Int' w, Int' n] (.tup [BkN (S.move 1 b w n).1, Int' (S.move 1 b w n).2]) [] := by simpa [S.move] using book_Reserve b w n
theorem mv2 (b : S.Book) (w n : Int) : C Try.prog 24 [Bk b, Int' w] (.tup [BkN (S.move 2 b w n).1, Int' (S.move 2 b w n).2]) [] := by simpa [S.move] using book_Release b w
theorem mv3 (b : S.Book) (w n : Int) : C Try.prog 25 [Bk b, Int' w, Int' n] (.tup [BkN (S.move 3 b w n).1, Int' (S.move 3 b w n).2]) [] := by simpa [S.move] using book_Preempt b w n
theorem mv4 (b : S.Book) (w n : Int) : C Try.prog 26 [Bk b, Int' w] (.tup [BkN (S.move 4 b w n).1, Int' (S.move 4 b w n).2]) [] := by simpa [S.move] using book_Clear b w

end Go.Proofs.Ytdjdjnmccphbjaa.E
