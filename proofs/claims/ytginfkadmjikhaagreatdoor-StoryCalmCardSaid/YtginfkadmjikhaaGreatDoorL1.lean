/- L1: Le: more of the book, by the engine. Lf: more of the book, by the engine. Lg: more of the book, by the engine. -/
import Derived.Test.YtginfkadmjikhaaGreatDoorL0
namespace Go.Proofs.YtginfkadmjikhaaGreatDoor.E
open Go.RowKit Go.Proofs
set_option maxRecDepth 100000
set_option maxHeartbeats 1000000
set_option linter.unusedSimpArgs false
theorem book_New : C Tryz.prog 154 [] (BkN S.Book.new) [] := by
  refine C_inline [] Tryz.func154 (fun _ _ => by kernel_rfl) rfl (by kernel_rfl) (by rfl) (by decide) (by rfl) (by rfl) (by rfl) ?_
  simp -dsimp -implicitDefEqProofs [initT]
  exact ⟨⟨_, rfl, .one (.agg (.cons (.lst (fun h => h) (SubR.refl _)) (.cons (.refl _) (.cons (.refl _) (.nil _)))))⟩, rfl⟩
theorem book_Release (b : S.Book) (who : Int) : C Tryz.prog 165 [Bk b, Int' who] (.tup [BkN (S.release b who).1, Int' (S.release b who).2]) [] := by
  by_cases h : S.ready b who = 0
  · obtain ⟨⟨x0, x1, x2, hk⟩, hw, hc⟩ := ready_shape h
    obtain ⟨xs, bh, bt⟩ := b
    simp only at hk
    subst hk
    have hr : S.release ⟨[x0, x1, x2], bh, bt⟩ who = if S.Book.key ⟨[x0, x1, x2], bh, bt⟩ who = 0 then (S.Book.zero, 8) else if bh = who then (⟨[x0, x1, x2], -1, 0⟩, 0) else (⟨[x0, x1, x2], bh, bt⟩, 0) := by
      unfold S.release
      rw [if_neg (by simp [h])]
    generalize S.release ⟨[x0, x1, x2], bh, bt⟩ who = r at hr ⊢
    replace hr := hid hr
    have hready := hid (book_ready_ok ⟨[x0, x1, x2], bh, bt⟩ who h)
    clear h hc
    obtain ⟨w0, hw0⟩ : ∃ w, w = who := ⟨_, rfl⟩
    rcases hw with rfl | rfl | rfl
    all_goals
      refine C_inline [] Tryz.func165 (fun _ _ => by kernel_rfl) rfl (by kernel_rfl) (by rfl) (by decide) (by rfl) (by rfl) (by rfl) ?_
      simp -dsimp -implicitDefEqProofs [initT]
      refine call_CC (hready.out) ?_
      simp -dsimp -implicitDefEqProofs
      refine brA_split (fun h1 => ?_) (fun h1 => ?_) <;> simp -dsimp -implicitDefEqProofs [*]
      · exact ends_book0 (hr.out.trans (by simp at h1; simp [S.Book.key, h1]))
      simp at h1
      by_cases c2 : bh = w0
      · subst hw0 c2
        simp -dsimp -implicitDefEqProofs
        refine call_CS (CS_inline (typesOk _) Tryz.func195 (fun _ _ => by kernel_rfl) rfl (by kernel_rfl) (Nat.le_of_ble_eq_true rfl) ?_)
        simp -dsimp -implicitDefEqProofs [initT]
        exact ends_book2 [_, _, _] rfl (hr.out.trans (by simp [S.Book.key, h1]))
      · subst hw0
        simp -dsimp -implicitDefEqProofs [c2]
        exact ends_book2 [_, _, _] rfl (hr.out.trans (by simp [S.Book.key, h1, c2]))
  · refine C_inline [] Tryz.func165 (fun _ _ => by kernel_rfl) rfl (by kernel_rfl) (by rfl) (by decide) (by rfl) (by rfl) (by rfl) ?_
    simp -dsimp -implicitDefEqProofs [initT]
    refine call_CC ((book_ready_bad b who h)) ?_
    simp -dsimp -implicitDefEqProofs [h]
    exact ends_book0 (by unfold S.release; rw [if_pos h])
theorem book_Clear (b : S.Book) (who : Int) : C Tryz.prog 167 [Bk b, Int' who] (.tup [BkN (S.clear b who).1, Int' (S.clear b who).2]) [] := by
  by_cases h : S.ready b who = 0
  · obtain ⟨⟨x0, x1, x2, hk⟩, hw, hc⟩ := ready_shape h
    obtain ⟨xs, bh, bt⟩ := b
    simp only at hk
    subst hk
    have hr : S.clear ⟨[x0, x1, x2], bh, bt⟩ who = if S.Book.key ⟨[x0, x1, x2], bh, bt⟩ who = 0 then (S.Book.zero, 8) else (S.Book.new, 0) := by
      unfold S.clear
      rw [if_neg (by simp [h])]
    generalize S.clear ⟨[x0, x1, x2], bh, bt⟩ who = r at hr ⊢
    replace hr := hid hr
    have hready := hid (book_ready_ok ⟨[x0, x1, x2], bh, bt⟩ who h)
    clear h hc
    rcases hw with rfl | rfl | rfl
    all_goals
      refine C_inline [] Tryz.func167 (fun _ _ => by kernel_rfl) rfl (by kernel_rfl) (by rfl) (by decide) (by rfl) (by rfl) (by rfl) ?_
      simp -dsimp -implicitDefEqProofs [initT]
      refine call_CC (hready.out) ?_
      simp -dsimp -implicitDefEqProofs
      refine brA_split (fun h1 => ?_) (fun h1 => ?_) <;> simp -dsimp -implicitDefEqProofs [*]
      · exact ends_book0 (hr.out.trans (by simp at h1; simp [S.Book.key, h1]))
      simp at h1
      refine call_C book_New rfl (Or.inr (by rfl)) (Nat.le_of_ble_eq_true rfl) ?_
      simp -dsimp -implicitDefEqProofs
      exact ends_book2 [_, _, _] rfl (hr.out.trans (by simp [S.Book.key, h1]; rfl))
  · refine C_inline [] Tryz.func167 (fun _ _ => by kernel_rfl) rfl (by kernel_rfl) (by rfl) (by decide) (by rfl) (by rfl) (by rfl) ?_
    simp -dsimp -implicitDefEqProofs [initT]
    refine call_CC ((book_ready_bad b who h)) ?_
    simp -dsimp -implicitDefEqProofs [h]
    exact ends_book0 (by unfold S.clear; rw [if_pos h])
theorem book_Reserve (b : S.Book) (who kind : Int) : C Tryz.prog 164 [Bk b, Int' who, Int' kind] (.tup [BkN (S.reserve b who kind).1, Int' (S.reserve b who kind).2]) [] := by
  by_cases h : S.ready b who = 0
  · obtain ⟨⟨x0, x1, x2, hk⟩, hw, hc⟩ := ready_shape h
    obtain ⟨xs, bh, bt⟩ := b
    simp only at hk
    subst hk
    have hr : S.reserve ⟨[x0, x1, x2], bh, bt⟩ who kind = if kind < 1 ∨ 4 < kind then (S.Book.zero, 3) else if S.Book.key ⟨[x0, x1, x2], bh, bt⟩ who = 0 ∨ (0 ≤ bh ∧ (bh ≠ who ∨ bt ≠ kind)) then (S.Book.zero, 8) else (⟨[x0, x1, x2], who, kind⟩, 0) := by
      unfold S.reserve
      rw [if_neg (by simp [h])]
    generalize S.reserve ⟨[x0, x1, x2], bh, bt⟩ who kind = r at hr ⊢
    replace hr := hid hr
    have hready := hid (book_ready_ok ⟨[x0, x1, x2], bh, bt⟩ who h)
    clear h hc
    rcases hw with rfl | rfl | rfl
    all_goals
      refine C_inline [] Tryz.func164 (fun _ _ => by kernel_rfl) rfl (by kernel_rfl) (by rfl) (by decide) (by rfl) (by rfl) (by rfl) ?_
      simp -dsimp -implicitDefEqProofs [initT]
      refine call_CC (hready.out) ?_
      simp -dsimp -implicitDefEqProofs
      repeat' (refine brA_split (fun g => ?_) (fun g => ?_) <;> simp -dsimp -implicitDefEqProofs [*])
      all_goals
        simp at *
        first
          | exact ends_book0 (hr.out.trans (by simp [S.Book.key]; grind))
          | exact ends_book2 [_, _, _] rfl (hr.out.trans (by simp [S.Book.key]; grind))
  · refine C_inline [] Tryz.func164 (fun _ _ => by kernel_rfl) rfl (by kernel_rfl) (by rfl) (by decide) (by rfl) (by rfl) (by rfl) ?_
    simp -dsimp -implicitDefEqProofs [initT]
    refine call_CC ((book_ready_bad b who h)) ?_
    simp -dsimp -implicitDefEqProofs [h]
    exact ends_book0 (by unfold S.reserve; rw [if_pos h])
end Go.Proofs.YtginfkadmjikhaaGreatDoor.E
namespace Go.Proofs.YtginfkadmjikhaaGreatDoor.E
open Go.RowKit Go.Proofs
set_option maxRecDepth 100000
set_option maxHeartbeats 1000000
set_option linter.unusedSimpArgs false
theorem ends_may {b x : Bool} {c y : Int} {h : Heap} {n : Nat} (e : (x, y) = (b, c)) : Ends [] (.tup [Bool' b, Int' c]) [] h n (.tup [Bool' x, Int' y]) := by
  cases e
  exact ⟨⟨_, rfl, Sub.refl _⟩, rfl⟩
theorem book_May (b : S.Book) (who : Int) (write : Bool) : C Tryz.prog 49 [Bk b, Int' who, Bool' write] (.tup [Bool' (S.may b who write).1, Int' (S.may b who write).2]) [] := by
  by_cases h : S.ready b who = 0
  · obtain ⟨⟨x0, x1, x2, hk⟩, hw, hc⟩ := ready_shape h
    obtain ⟨xs, bh, bt⟩ := b
    simp only at hk
    subst hk
    have hr : S.may ⟨[x0, x1, x2], bh, bt⟩ who write = (S.might ⟨[x0, x1, x2], bh, bt⟩ who write, 0) := by
      unfold S.may
      rw [if_neg (by simp [h])]
    generalize S.may ⟨[x0, x1, x2], bh, bt⟩ who write = r at hr ⊢
    replace hr := hid hr
    have hready := hid (book_ready_ok ⟨[x0, x1, x2], bh, bt⟩ who h)
    clear h hc
    rcases hw with rfl | rfl | rfl
    all_goals
      cases write
      all_goals
        refine C_inline [] Tryz.func49 (fun _ _ => by kernel_rfl) rfl (by kernel_rfl) (by rfl) (by decide) (by rfl) (by rfl) (by rfl) ?_
        simp -dsimp -implicitDefEqProofs [initT]
        refine call_CC (hready.out) ?_
        simp -dsimp -implicitDefEqProofs
        repeat' (refine brA_split (fun g => ?_) (fun g => ?_) <;> simp -dsimp -implicitDefEqProofs [*])
        all_goals
          refine ends_may (Eq.trans ?_ hr.out.symm)
          simp at *
          simp [S.might, S.Book.key]
          try grind
  · refine C_inline [] Tryz.func49 (fun _ _ => by kernel_rfl) rfl (by kernel_rfl) (by rfl) (by decide) (by rfl) (by rfl) (by rfl) ?_
    simp -dsimp -implicitDefEqProofs [initT]
    refine call_CC ((book_ready_bad b who h)) ?_
    simp -dsimp -implicitDefEqProofs [h]
    exact ends_may (by unfold S.may; rw [if_pos h])
def _root_.Go.Proofs.YtginfkadmjikhaaGreatDoor.S.same (a b : S.Book) : Bool := decide (a.k = b.k) && decide (a.h = b.h) && decide (a.t = b.t)
end Go.Proofs.YtginfkadmjikhaaGreatDoor.E
namespace Go.Proofs.YtginfkadmjikhaaGreatDoor.E
open Go.RowKit Go.Proofs
set_option maxRecDepth 100000
set_option maxHeartbeats 1000000
set_option linter.unusedSimpArgs false
@[simp] theorem wrap_1 : IntKind.i64.wrap 1 = 1 := wrap_ok (by omega)
@[simp] theorem wrap_2 : IntKind.i64.wrap 2 = 2 := wrap_ok (by omega)
@[simp] theorem wrap_3 : IntKind.i64.wrap 3 = 3 := wrap_ok (by omega)
theorem mapM_self {α : Type} {f : α → Option α} : ∀ {l : List α}, (∀ x, x ∈ l → f x = some x) → l.mapM f = some l
  | [], _ => by simp
  | x :: l, h => by
    rw [List.mapM_cons, h x (by simp), mapM_self (fun y hy => h y (by simp [hy]))]
    rfl
theorem own_shown {h : Heap} {i : Nat} {ty : TypeId} (ks : List Int) (hi : h i = some ⟨ty, 1, I ks⟩) : outLeaf h [] (.own i 0 ks.length) = some (.lst true 1 (I ks)) := by
  have e1 : (I ks).mapM (fun (r : List AV) => r.mapM (leafP h [] 2)) = some (I ks) := mapM_self fun r hr => by
    simp only [I, List.mem_map] at hr
    obtain ⟨x, _, rfl⟩ := hr
    rfl
  have e2 : leafP h [] 3 (.own i 0 ks.length) = some (.lst false 1 (I ks)) := by
    show (match h i with | some e => if 0 + ks.length ≤ e.rows.length then (((e.rows.drop 0).take ks.length).mapM fun (r : List AV) => r.mapM (leafP h [] 2)).map (AV.lst false e.s ·) else none | none => none) = _
    rw [hi]
    simp only [List.drop_zero]
    rw [if_pos (by simp), List.take_of_length_le (by simp), e1]
    rfl
  have e3 : ((I ks).all fun r => r.all freshCell) = true := by simp [I, freshCell]
  show (match h i, leafP h [] 3 (.own i 0 ks.length) with | some e, some (.lst _ s rows) => some (AV.lst (e.rows.all fun r => r.all freshCell) s rows) | _, _ => none) = _
  rw [hi, e2]
  simp only [e3]
theorem ends_own (ks : List Int) {ty : TypeId} {i : Nat} {bh bt c : Int} {r : S.Book × Int} {h : Heap} {n : Nat} (hi : h i = some ⟨ty, 1, I ks⟩) (e : r = (⟨ks, bh, bt⟩, c)) :
    Ends [] (.tup [BkN r.1, Int' r.2]) [] h n (.tup [.agg [.own i 0 ks.length, Int' bh, Int' bt], Int' c]) := ends_book2 ks (own_shown ks hi) e
theorem book_Preempt (b : S.Book) (who key : Int) : C Tryz.prog 166 [Bk b, Int' who, Int' key] (.tup [BkN (S.preempt b who key).1, Int' (S.preempt b who key).2]) [] := by
  by_cases h : S.ready b who = 0
  · obtain ⟨⟨x0, x1, x2, hk⟩, hw, hc⟩ := ready_shape h
    obtain ⟨xs, bh, bt⟩ := b
    simp only at hk
    subst hk
    have hr : S.preempt ⟨[x0, x1, x2], bh, bt⟩ who key = if key < 1 ∨ 9 < key then (S.Book.zero, 3) else if S.Book.key ⟨[x0, x1, x2], bh, bt⟩ who = 0 then (S.Book.zero, 8) else
        (⟨S.struck [x0, x1, x2] who key, if 0 ≤ bh ∧ bh ≠ who ∧ S.Book.key ⟨[x0, x1, x2], bh, bt⟩ bh = key then who else bh, bt⟩, 0) := by
      unfold S.preempt
      rw [if_neg (by simp [h])]
    generalize S.preempt ⟨[x0, x1, x2], bh, bt⟩ who key = r at hr ⊢
    replace hr := hid hr
    have hready := hid (book_ready_ok ⟨[x0, x1, x2], bh, bt⟩ who h)
    have hbh : bh = -1 ∨ bh = 0 ∨ bh = 1 ∨ bh = 2 := by
      unfold S.checkBook at hc
      split at hc; · cases hc
      split at hc; · cases hc
      split at hc
      · cases hc
      · rename_i a3
        have a4 : ¬ (bh < -1 ∨ 3 ≤ bh ∨ bt < 0 ∨ 4 < bt) := a3
        omega
    clear h hc
    obtain ⟨w0, hw0⟩ : ∃ w, w = who := ⟨_, rfl⟩
    obtain ⟨b0, hb0⟩ : ∃ w, w = bh := ⟨_, rfl⟩
    rcases hw with rfl | rfl | rfl <;> rcases hbh with rfl | rfl | rfl | rfl
    all_goals
      refine C_inline [] Tryz.func166 (fun _ _ => by kernel_rfl) rfl (by kernel_rfl) (by rfl) (by decide) (by rfl) (by rfl) (by rfl) ?_
      simp -dsimp -implicitDefEqProofs [initT]
      refine call_CC (hready.out) ?_
      simp -dsimp -implicitDefEqProofs
      refine brA_split (fun h1 => ?_) (fun h1 => ?_) <;> simp -dsimp -implicitDefEqProofs [*]
      · exact ends_book0 (hr.out.trans (by simp at h1; rw [if_pos (by omega)]))
      refine brA_split (fun h2 => ?_) (fun h2 => ?_) <;> simp -dsimp -implicitDefEqProofs [*]
      · exact ends_book0 (hr.out.trans (by simp at h2; rw [if_pos (by omega)]))
      refine brA_split (fun h3 => ?_) (fun h3 => ?_) <;> simp -dsimp -implicitDefEqProofs [*]
      · exact ends_book0 (hr.out.trans (by simp at h1 h2 h3; rw [if_neg (by omega)]; simp [S.Book.key, h3]))
      simp only [decide_eq_false_iff_not] at h1 h2 h3
      replace hr := hid (hr.out.trans (by rw [if_neg (by omega), if_neg (by simpa [S.Book.key] using h3)]))
      have hkey : key ≠ 0 := by omega
      replace h1 := hid h1
      replace h2 := hid h2
      refine loop_count 37 3 (fun k h _ _ => h 4 = some ⟨25, 3, [[.nl, .at (.int .i64 0), .at (.int .i64 0)]]⟩ ∧
        h 20 = some ⟨3, 1, I [if 0 < k ∧ w0 ≠ 0 ∧ x0 = key then 0 else x0, if 1 < k ∧ w0 ≠ 1 ∧ x1 = key then 0 else x1, if 2 < k ∧ w0 ≠ 2 ∧ x2 = key then 0 else x2]⟩ ∧
        h 0 = some ⟨25, 3, [[.own 20 0 3, .at (.int .i64 (if 0 ≤ b0 ∧ b0 < k ∧ b0 ≠ w0 ∧ [x0, x1, x2].getD b0.toNat 0 = key then w0 else b0)), .at (.int .i64 bt)]]⟩) _ rfl (by rfl) ?_ ?_ ?_
      · subst hw0 hb0
        simp
      · rintro k t h m hk hci hs ⟨a4, a20, a0⟩
        have e2 := hs 2 rfl
        have e1 := hs 1 rfl
        have e3 := hs 3 rfl
        have e6 := hs 6 rfl
        have e36 := hs 36 rfl
        clear hs
        simp -dsimp -implicitDefEqProofs at e1 e2 e3 e6 e36
        obtain rfl | rfl | rfl : k = 0 ∨ k = 1 ∨ k = 2 := by omega
        all_goals
          subst hw0 hb0
          simp at a20 a0 hci
          simp -dsimp -implicitDefEqProofs [*]
          repeat' (refine brA_split (fun g => ?_) (fun g => ?_) <;> simp -dsimp -implicitDefEqProofs [*])
          all_goals
            clear hready hr a0 a20 a4 e1 e2 e3 e6 e36 hci h1 h2
            simp only [decide_eq_true_eq, decide_eq_false_iff_not] at *
            try grind
      · rintro t h m hci hs ⟨a4, a20, a0⟩
        have e3 := hs 3 rfl
        have e6 := hs 6 rfl
        have e36 := hs 36 rfl
        clear hs
        simp -dsimp -implicitDefEqProofs at e3 e6 e36
        subst hw0 hb0
        have b20 := hid a20
        simp at a20 a0 hci
        simp -dsimp -implicitDefEqProofs [*]
        refine ends_own [_, _, _] b20.out (hr.out.trans ?_)
        simp [S.struck, S.Book.key]
  · refine C_inline [] Tryz.func166 (fun _ _ => by kernel_rfl) rfl (by kernel_rfl) (by rfl) (by decide) (by rfl) (by rfl) (by rfl) ?_
    simp -dsimp -implicitDefEqProofs [initT]
    refine call_CC ((book_ready_bad b who h)) ?_
    simp -dsimp -implicitDefEqProofs [h]
    exact ends_book0 (by unfold S.preempt; rw [if_pos h])
end Go.Proofs.YtginfkadmjikhaaGreatDoor.E
