
/- Li: the reference's reading of a book, by the engine. -/
import Derived.Test.YtallmebpmoaopaaGreatL1
namespace Go.Proofs.YtallmebpmoaopaaGreat.E
open Go.RowKit Go.Proofs
set_option maxRecDepth 100000
set_option maxHeartbeats 1000000
set_option linter.unusedSimpArgs false

abbrev within (lo hi x : Int) : Bool := decide (lo ≤ x) && decide (x ≤ hi)

theorem ref_all (xs : List Int) (lo hi : Int) (hlen : xs.length ≤ 100000000) : C Tryz.prog 54 [.lst false 1 (I xs), Int' lo, Int' hi] (Bool' (xs.all (within lo hi))) [] := by
  refine C_inline [] Tryz.func54 (fun _ _ => by kernel_rfl) rfl (by kernel_rfl) (by rfl) (by decide) (by rfl) (by rfl) (by rfl) ?_
  simp -dsimp -implicitDefEqProofs [initT]
  refine loop_count 11 xs.length (fun k h _ _ => h = _ ∧ Hid (∀ j, j < k → (!within lo hi (xs.getD j 0)) = false)) _ rfl (by rfl) ⟨rfl, by intro j hj; omega⟩ ?_ ?_
  · rintro k t h m hk hci hs ⟨rfl, hb⟩
    have e1 := hs 1 rfl
    have e2 := hs 2 rfl
    have e9 := hs 9 rfl
    have e10 := hs 10 rfl
    clear hs
    simp -dsimp -implicitDefEqProofs at e1 e2 e9 e10
    have hw : IntKind.i64.wrap ((k : Int) + 1) = (k : Int) + 1 := wrap_ok (by omega)
    have hlt : decide (k < xs.length) = true := by simp; exact hk
    obtain ⟨x, hx⟩ : ∃ x, xs[k]? = some x := ⟨xs[k], by simp⟩
    replace hk := hid hk
    simp -dsimp -implicitDefEqProofs [*]
    refine call_CC ((ref_in x lo hi)) ?_
    by_cases g : within lo hi x = true
    · simp -dsimp -implicitDefEqProofs [*]
      exact hid fun j hj => by
        have := below_succ (p := fun x => !within lo hi x) (b := false) hb.out hx (by show (!within lo hi x) = false; rw [g]; rfl) j hj
        simpa using this
    · have g' : within lo hi x = false := by simpa using g
      simp -dsimp -implicitDefEqProofs [*]
      refine ends_bool ?_
      symm
      rw [List.all_eq_false]
      exact ⟨x, List.mem_of_getElem? hx, g⟩
  · rintro t h m hci hs ⟨rfl, hb⟩
    have e9 := hs 9 rfl
    have e10 := hs 10 rfl
    clear hs
    simp -dsimp -implicitDefEqProofs at e9 e10
    simp -dsimp -implicitDefEqProofs [*]
    refine ends_bool ?_
    symm
    rw [List.all_eq_true]
    intro x hx
    obtain ⟨j, hj⟩ := List.mem_iff_getElem?.1 hx
    have := hb.out j (List.getElem?_eq_some_iff.1 hj).1
    simpa [hj] using this

theorem ref_Might (x0 x1 x2 bh bt who : Int) (write : Bool) (hw : who = 0 ∨ who = 1 ∨ who = 2) (hc : S.checkBook ⟨[x0, x1, x2], bh, bt⟩ = 0) : C Tryz.prog 77 [Bk ⟨[x0, x1, x2], bh, bt⟩, Int' who, Bool' write] (Bool' (S.might ⟨[x0, x1, x2], bh, bt⟩ who write)) [] := by
  have a4 : ¬ (bh < -1 ∨ 3 ≤ bh ∨ bt < 0 ∨ 4 < bt) ∧ ¬ ((bh < 0 ∧ bt ≠ 0) ∨ (0 ≤ bh ∧ (bt = 0 ∨ S.Book.key ⟨[x0, x1, x2], bh, bt⟩ bh = 0))) ∧ 0 ≤ x0 ∧ 0 ≤ x1 ∧ 0 ≤ x2 := by
    unfold S.checkBook at hc
    split at hc; · cases hc
    split at hc; · cases hc
    rename_i a2
    split at hc; · cases hc
    rename_i a3
    split at hc; · cases hc
    rename_i a4
    refine ⟨a3, a4, ?_⟩
    simp [S.badKey] at a2
    omega
  obtain ⟨a5, a6, p0, p1, p2⟩ := a4
  replace a6 := hid a6
  replace hc := hid hc
  rcases hw with rfl | rfl | rfl
  all_goals
    cases write
    all_goals
      refine C_inline [] Tryz.func77 (fun _ _ => by kernel_rfl) rfl (by kernel_rfl) (by rfl) (by decide) (by rfl) (by rfl) (by rfl) ?_
      simp -dsimp -implicitDefEqProofs [initT]
      repeat' (refine brA_split (fun g => ?_) (fun g => ?_) <;> simp -dsimp -implicitDefEqProofs [*])
      all_goals
        refine ends_bool ?_
        have := a6.out
        clear a6 hc
        simp at *
        simp [S.might, S.Book.key]
        try grind

end Go.Proofs.YtallmebpmoaopaaGreat.E
