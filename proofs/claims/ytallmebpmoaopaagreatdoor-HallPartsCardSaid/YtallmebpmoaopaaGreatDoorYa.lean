
/- Ya: zones by themselves. -/
import Derived.Test.YtallmebpmoaopaaGreatDoorHd
import Derived.Test.YtallmebpmoaopaaGreatDoorSp
namespace Go.Proofs.YtallmebpmoaopaaGreatDoor.E
open Go.RowKit Go.Proofs
set_option maxRecDepth 100000
set_option maxHeartbeats 1000000
set_option linter.unusedSimpArgs false

abbrev zoneC (fr : Bool) (z : S.Zone) : List AV := [.at (.int .i64 z.st), .lst fr 1 (I z.d)]

theorem idx_at {α : Type} {p : α → Bool} : ∀ {xs : List α} {k : Nat} {x : α}, (∀ (j : Nat) (y : α), j < k → xs[j]? = some y → p y = false) → xs[k]? = some x → p x = true → S.idx p xs = (k : Int)
  | [], k, x, _, hx, _ => by simp at hx
  | y :: xs, k, x, h, hx, hp => by
    unfold S.idx
    cases k with
    | zero => cases hx; rw [if_pos hp]; rfl
    | succ k =>
      have hy := h 0 y (by omega) rfl
      have ih := idx_at (xs := xs) (k := k) (x := x) (fun j z hj hz => h (j + 1) z (by omega) (by simpa using hz)) (by simpa using hx) hp
      rw [if_neg (by simp [hy]), ih, if_neg (by omega)]
      omega
theorem idx_none {α : Type} {p : α → Bool} : ∀ {xs : List α}, (∀ (j : Nat) (y : α), j < xs.length → xs[j]? = some y → p y = false) → S.idx p xs = -1
  | [], _ => rfl
  | y :: xs, h => by
    unfold S.idx
    rw [if_neg (by simp [h 0 y (by simp) rfl]), if_pos]
    rw [idx_none fun j z hj hz => h (j + 1) z (by simpa using hj) (by simpa using hz)]
    decide
theorem idx_any {α : Type} {p : α → Bool} : ∀ (xs : List α), decide (0 ≤ S.idx p xs) = xs.any p
  | [] => rfl
  | x :: xs => by
    have ih := idx_any (p := p) xs
    unfold S.idx
    rw [List.any_cons]
    by_cases h : p x = true
    · rw [if_pos h, h]; rfl
    · rw [if_neg h, Bool.not_eq_true] at *
      rw [h, Bool.false_or, ← ih]
      by_cases g : S.idx p xs < 0
      · rw [if_pos g, decide_eq_false (by omega), decide_eq_false (by omega)]
      · rw [if_neg g, decide_eq_true (by omega), decide_eq_true (by omega)]
theorem idx_spec {α : Type} {p : α → Bool} : ∀ (xs : List α), S.idx p xs = -1 ∨ ∃ (k : Nat) (x : α), S.idx p xs = (k : Int) ∧ xs[k]? = some x ∧ p x = true
  | [] => Or.inl rfl
  | x :: xs => by
    unfold S.idx
    by_cases h : p x = true
    · rw [if_pos h]; exact Or.inr ⟨0, x, rfl, rfl, h⟩
    · rw [if_neg h]
      rcases idx_spec (p := p) xs with e | ⟨k, y, e, h1, h2⟩
      · rw [e, if_pos (by decide)]; exact Or.inl rfl
      · rw [e, if_neg (by omega)]
        exact Or.inr ⟨k + 1, y, by omega, by simpa using h1, h2⟩

theorem indexFunc_int (p : Int → Bool) (f : FuncId) (xs : List Int) (hlen : xs.length ≤ maxLen) (hf : ∀ x, C Tryz.prog f [Int' x] (Bool' (p x)) []) : C Tryz.prog 164 [.lst false 1 (I xs), .fn f []] (Int' (S.idx p xs)) [] := by
  unfold maxLen at hlen
  refine C_inline [] Tryz.func164 (fun _ _ => by kernel_rfl) rfl (by kernel_rfl) (by rfl) (by decide) (by rfl) (by rfl) (by rfl) ?_
  simp -dsimp -implicitDefEqProofs [-getElem?_pos, -List.map_append, -List.map_set, List.getElem?_cons_zero, List.getElem?_cons_succ]
  refine loop_count 8 xs.length (fun k _ m _ => Hid (∀ (j : Nat) (y : Int), j < k → xs[j]? = some y → p y = false)) _ rfl (by rfl) (by intro j y hj; omega) ?_ ?_
  · rintro k t h m hk hci hs hb
    have hw : IntKind.i64.wrap ((k : Int) + 1) = (k : Int) + 1 := wrap_ok (by omega)
    obtain ⟨x, hx⟩ : ∃ x, xs[k]? = some x := ⟨xs[k], by simp⟩
    have hk' : decide (k < xs.length) = true := by simp [hk]
    have e0 := hs 0 rfl
    have e1 := hs 1 rfl
    have e7 := hs 7 rfl
    clear hs
    simp -dsimp -implicitDefEqProofs at e0 e1 e7
    replace hk := hid hk
    have hc := hid (hf x)
    clear hf
    simp -dsimp -implicitDefEqProofs [-getElem?_pos, -List.map_append, -List.map_set, List.getElem?_cons_zero, List.getElem?_cons_succ, e0, e1, e7, hci, hk', hx]
    refine call_CC (hc.out) ?_
    simp -dsimp -implicitDefEqProofs [-getElem?_pos, -List.map_append, -List.map_set, List.getElem?_cons_zero, List.getElem?_cons_succ]
    cases hp : p x
    · simp -dsimp -implicitDefEqProofs [-getElem?_pos, -List.map_append, -List.map_set, List.getElem?_cons_zero, List.getElem?_cons_succ, hw, hci, e0, e1, e7]
      exact upto_succ hb.out hx hp
    · simp -dsimp -implicitDefEqProofs [-getElem?_pos, -List.map_append, -List.map_set, List.getElem?_cons_zero, List.getElem?_cons_succ]
      exact ends_int (idx_at hb.out hx hp).symm
  · rintro t h m hci hs hb
    have e0 := hs 0 rfl
    have e1 := hs 1 rfl
    have e7 := hs 7 rfl
    clear hs
    simp -dsimp -implicitDefEqProofs at e0 e1 e7
    simp -dsimp -implicitDefEqProofs [-getElem?_pos, -List.map_append, -List.map_set, List.getElem?_cons_zero, List.getElem?_cons_succ, e0, e1, e7, hci]
    exact ends_int (idx_none hb.out).symm
theorem containsFunc_int (p : Int → Bool) (f : FuncId) (xs : List Int) (hf : ∀ x, C Tryz.prog f [Int' x] (Bool' (p x)) []) : C Tryz.prog 149 [.lst false 1 (I xs), .fn f []] (Bool' (xs.any p)) [] := by
  refine C_real (fun _ _ => by kernel_rfl) rfl rfl fun hr => ?_
  have hx := (hr.get (j := 0) rfl).len
  rw [I_length] at hx
  refine C_inline [] Tryz.func149 (fun _ _ => by kernel_rfl) rfl (by kernel_rfl) (by rfl) (by decide) (by rfl) (by rfl) (by rfl) ?_
  simp -dsimp -implicitDefEqProofs [-getElem?_pos, -List.map_append, -List.map_set, List.getElem?_cons_zero, List.getElem?_cons_succ]
  refine call_CC (indexFunc_int p f xs hx hf) ?_
  simp -dsimp -implicitDefEqProofs [-getElem?_pos, -List.map_append, -List.map_set, List.getElem?_cons_zero, List.getElem?_cons_succ]
  exact ends_bool (idx_any xs)
theorem slices_Index (xs : List Int) (v : Int) (hlen : xs.length ≤ maxLen) : C Tryz.prog 163 [.lst false 1 (I xs), Int' v] (Int' (S.idx (fun x => decide (x = v)) xs)) [] := by
  unfold maxLen at hlen
  refine C_inline [] Tryz.func163 (fun _ _ => by kernel_rfl) rfl (by kernel_rfl) (by rfl) (by decide) (by rfl) (by rfl) (by rfl) ?_
  simp -dsimp -implicitDefEqProofs [-getElem?_pos, -List.map_append, -List.map_set, List.getElem?_cons_zero, List.getElem?_cons_succ]
  refine loop_count 8 xs.length (fun k _ m _ => Hid (∀ (j : Nat) (y : Int), j < k → xs[j]? = some y → decide (y = v) = false)) _ rfl (by rfl) (by intro j y hj; omega) ?_ ?_
  · rintro k t h m hk hci hs hb
    have hw : IntKind.i64.wrap ((k : Int) + 1) = (k : Int) + 1 := wrap_ok (by omega)
    obtain ⟨x, hx⟩ : ∃ x, xs[k]? = some x := ⟨xs[k], by simp⟩
    have hk' : decide (k < xs.length) = true := by simp [hk]
    have e0 := hs 0 rfl
    have e1 := hs 1 rfl
    have e7 := hs 7 rfl
    clear hs
    simp -dsimp -implicitDefEqProofs at e0 e1 e7
    replace hk := hid hk
    simp -dsimp -implicitDefEqProofs [-getElem?_pos, -List.map_append, -List.map_set, List.getElem?_cons_zero, List.getElem?_cons_succ, e0, e1, e7, hci, hk', hx]
    refine brA_split (fun hp => ?_) (fun hp => ?_)
    · simp -dsimp -implicitDefEqProofs [-getElem?_pos, -List.map_append, -List.map_set, List.getElem?_cons_zero, List.getElem?_cons_succ]
      simp at hp
      exact ends_int (idx_at (p := fun y => decide (y = v)) hb.out hx (by simp [hp])).symm
    · simp at hp
      simp -dsimp -implicitDefEqProofs [-getElem?_pos, -List.map_append, -List.map_set, List.getElem?_cons_zero, List.getElem?_cons_succ, hw, hci, e0, e1, e7]
      intro j y hj hy
      have := upto_succ (p := fun y => decide (y = v) = false) hb.out hx (by simp; exact fun e => hp e.symm) j y hj hy
      simpa using this
  · rintro t h m hci hs hb
    have e0 := hs 0 rfl
    have e1 := hs 1 rfl
    have e7 := hs 7 rfl
    clear hs
    simp -dsimp -implicitDefEqProofs at e0 e1 e7
    simp -dsimp -implicitDefEqProofs [-getElem?_pos, -List.map_append, -List.map_set, List.getElem?_cons_zero, List.getElem?_cons_succ, e0, e1, e7, hci]
    exact ends_int (idx_none hb.out).symm
theorem slices_Contains (xs : List Int) (v : Int) : C Tryz.prog 146 [.lst false 1 (I xs), Int' v] (Bool' (xs.any fun x => decide (x = v))) [] := by
  refine C_real (fun _ _ => by kernel_rfl) rfl rfl fun hr => ?_
  have hx := (hr.get (j := 0) rfl).len
  rw [I_length] at hx
  refine C_inline [] Tryz.func146 (fun _ _ => by kernel_rfl) rfl (by kernel_rfl) (by rfl) (by decide) (by rfl) (by rfl) (by rfl) ?_
  simp -dsimp -implicitDefEqProofs [-getElem?_pos, -List.map_append, -List.map_set, List.getElem?_cons_zero, List.getElem?_cons_succ]
  refine call_CC (slices_Index xs v hx) ?_
  simp -dsimp -implicitDefEqProofs [-getElem?_pos, -List.map_append, -List.map_set, List.getElem?_cons_zero, List.getElem?_cons_succ]
  exact ends_bool (idx_any xs)

theorem zone_bad (x : Int) : C Tryz.prog 150 [Int' x] (Bool' (S.bad x)) [] := by
  refine C_inline [] Tryz.func150 (fun _ _ => by kernel_rfl) rfl (by kernel_rfl) (by rfl) (by decide) (by rfl) (by rfl) (by rfl) ?_
  simp -dsimp -implicitDefEqProofs [-getElem?_pos, -List.map_append, -List.map_set, List.getElem?_cons_zero, List.getElem?_cons_succ]
  exact ends_bool rfl

theorem zone_Check (z : S.Zone) : C Tryz.prog 122 [.agg (zoneC false z)] (Int' (S.checkZone z)) [] := by
  obtain ⟨st, xs⟩ := z
  obtain ⟨r, hr⟩ : ∃ r, S.checkZone ⟨st, xs⟩ = r := ⟨_, rfl⟩
  rw [hr]
  unfold S.checkZone at hr
  replace hr := hid hr
  refine C_inline [] Tryz.func122 (fun _ _ => by kernel_rfl) rfl (by kernel_rfl) (by rfl) (by decide) (by rfl) (by rfl) (by rfl) ?_
  simp -dsimp -implicitDefEqProofs [-getElem?_pos, -List.map_append, -List.map_set, List.getElem?_cons_zero, List.getElem?_cons_succ]
  refine brA_split (fun h1 => ?_) (fun h1 => ?_)
  · simp -dsimp -implicitDefEqProofs [-getElem?_pos, -List.map_append, -List.map_set, List.getElem?_cons_zero, List.getElem?_cons_succ]
    exact ends_int (by simp at h1; rw [← hr.out, if_pos h1])
  simp at h1
  simp -dsimp -implicitDefEqProofs [-getElem?_pos, -List.map_append, -List.map_set, List.getElem?_cons_zero, List.getElem?_cons_succ]
  refine brA_split (fun h2 => ?_) (fun h2 => ?_)
  · simp -dsimp -implicitDefEqProofs [-getElem?_pos, -List.map_append, -List.map_set, List.getElem?_cons_zero, List.getElem?_cons_succ]
    exact ends_int (by simp at h2; rw [← hr.out, if_neg (by simp; omega), if_pos (by simp; omega)])
  simp at h2
  have h2 : xs.length ≤ 8 := by omega
  simp -dsimp -implicitDefEqProofs [-getElem?_pos, -List.map_append, -List.map_set, List.getElem?_cons_zero, List.getElem?_cons_succ]
  refine loop_count 21 xs.length (fun k h _ _ => h = _ ∧ Hid (∀ j, j < k → S.bad (xs.getD j 0) = false)) _ rfl (by rfl) ⟨rfl, by intro j hj; omega⟩ ?_ ?_
  · rintro k t h m hk hci hs ⟨rfl, hb⟩
    have hw : IntKind.i64.wrap ((k : Int) + 1) = (k : Int) + 1 := wrap_ok (by omega)
    obtain ⟨x, hx⟩ : ∃ x, xs[k]? = some x := ⟨xs[k], by simp⟩
    have hk' : decide (k < xs.length) = true := by simp [hk]
    have e1 := hs 1 rfl
    have e19 := hs 19 rfl
    have e20 := hs 20 rfl
    clear hs
    simp -dsimp -implicitDefEqProofs at e1 e19 e20
    simp -dsimp -implicitDefEqProofs [-getElem?_pos, -List.map_append, -List.map_set, List.getElem?_cons_zero, List.getElem?_cons_succ, hci, e1, e19, e20, hk', hx]
    refine brA_split (fun g1 => ?_) (fun g1 => ?_)
    · simp -dsimp -implicitDefEqProofs [-getElem?_pos, -List.map_append, -List.map_set, List.getElem?_cons_zero, List.getElem?_cons_succ]
      exact ends_int (by rw [← hr.out, if_neg (by simp; omega), if_neg (by simp; omega), if_pos (any_of hx (by simpa [S.bad] using g1))])
    simp -dsimp -implicitDefEqProofs [-getElem?_pos, -List.map_append, -List.map_set, List.getElem?_cons_zero, List.getElem?_cons_succ, hw, hci, e1, e19, e20]
    exact below_succ hb.out hx (by simpa [S.bad] using g1)
  · rintro t h m hci hs ⟨rfl, hb⟩
    have hba := any_none hb.out
    have e1 := hs 1 rfl
    have e19 := hs 19 rfl
    have e20 := hs 20 rfl
    clear hs
    simp -dsimp -implicitDefEqProofs at e1 e19 e20
    simp -dsimp -implicitDefEqProofs [-getElem?_pos, -List.map_append, -List.map_set, List.getElem?_cons_zero, List.getElem?_cons_succ, e1, e19, e20, hci]
    refine brA_split (fun g1 => ?_) (fun g1 => ?_)
    · simp -dsimp -implicitDefEqProofs [-getElem?_pos, -List.map_append, -List.map_set, List.getElem?_cons_zero, List.getElem?_cons_succ]
      exact ends_int (by rw [← hr.out, if_neg (by simp; omega), if_neg (by simp; omega), if_neg (by simp [hba]), if_pos (by simp at g1; grind)])
    · simp -dsimp -implicitDefEqProofs [-getElem?_pos, -List.map_append, -List.map_set, List.getElem?_cons_zero, List.getElem?_cons_succ]
      exact ends_int (by rw [← hr.out, if_neg (by simp; omega), if_neg (by simp; omega), if_neg (by simp [hba]), if_neg (by simp at g1; grind)])

theorem zone_Same (a b : S.Zone) : C Tryz.prog 107 [.agg (zoneC false a), .agg (zoneC false b)] (Bool' (decide (a = b))) [] := by
  refine C_inline [] Tryz.func107 (fun _ _ => by kernel_rfl) rfl (by kernel_rfl) (by rfl) (by decide) (by rfl) (by rfl) (by rfl) ?_
  simp -dsimp -implicitDefEqProofs [-getElem?_pos, -List.map_append, -List.map_set, List.getElem?_cons_zero, List.getElem?_cons_succ]
  refine guardC_C (int_equal a.d b.d) (by first | rfl | (simp -dsimp -implicitDefEqProofs; done)) (by first | exact Or.inr (by rfl) | exact Or.inl (by rfl)) ?_
  simp -dsimp -implicitDefEqProofs [-getElem?_pos, -List.map_append, -List.map_set, List.getElem?_cons_zero, List.getElem?_cons_succ]
  exact ends_eq (by cases a; cases b; simp)
end Go.Proofs.YtallmebpmoaopaaGreatDoor.E
