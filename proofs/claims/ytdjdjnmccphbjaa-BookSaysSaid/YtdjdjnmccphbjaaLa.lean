/- La: slices.Equal and slices.Clone on numbers, by the engine. -/
import Derived.Test.YtdjdjnmccphbjaaX3
import Derived.Test.YtdjdjnmccphbjaaEngT
import Derived.Test.YtdjdjnmccphbjaaSp
namespace Go.Proofs.Ytdjdjnmccphbjaa.E
open Go.RowKit Go.Proofs
set_option maxRecDepth 100000
set_option maxHeartbeats 1000000
set_option linter.unusedSimpArgs false

theorem ends_int {k : IntKind} {a b : Int} {h : Heap} {n : Nat} (e : b = a) : Ends [] (.at (.int k a)) [] h n (.at (.int k b)) := ⟨⟨_, rfl, e ▸ Sub.refl _⟩, rfl⟩
theorem ends_bool {a b : Bool} {h : Heap} {n : Nat} (e : b = a) : Ends [] (.at (.bool a)) [] h n (.at (.bool b)) := ⟨⟨_, rfl, e ▸ Sub.refl _⟩, rfl⟩
theorem wrap_ok {x : Int} (h : -9223372036854775808 ≤ x ∧ x ≤ 9223372036854775807) : IntKind.i64.wrap x = x := by rw [IntKind.wrap_i64]; omega
theorem hid {p : Prop} (h : p) : Hid p := h

theorem same_ne {xs ys : List Int} {k : Nat} {x y : Int} (hx : xs[k]? = some x) (hy : ys[k]? = some y) (h : x ≠ y) : decide (xs = ys) = false := by
  simp
  rintro rfl
  rw [hx] at hy
  cases hy
  exact h rfl

theorem equal_int' (xs ys : List Int) (hlen : xs.length ≤ maxLen) : C Try.prog 21 [.lst false 1 (I xs), .lst false 1 (I ys)] (.at (.bool (decide (xs = ys)))) [] := by
  unfold maxLen at hlen
  refine C_inline [] Try.func21 (fun _ _ => by kernel_rfl) rfl (by kernel_rfl) (by rfl) (by decide) (by rfl) (by rfl) (by rfl) ?_
  simp -dsimp -implicitDefEqProofs [initT]
  refine brA_split (fun h1 => ?_) (fun h1 => ?_) <;> simp -dsimp -implicitDefEqProofs [*]
  rotate_left
  · refine ends_bool ?_
    simp at h1
    simp
    intro e; subst e; simp at h1
  simp at h1
  have hl : xs.length = ys.length := by omega
  refine loop_count 13 xs.length (fun k h _ _ => h = _ ∧ Hid (∀ j, j < k → xs[j]? = ys[j]?)) _ rfl (by rfl) ⟨rfl, by intro j hj; omega⟩ ?_ ?_
  · rintro k t h m hk hci hs ⟨rfl, hb⟩
    have e0 := hs 0 rfl
    have e1 := hs 1 rfl
    have e12 := hs 12 rfl
    clear hs
    simp -dsimp -implicitDefEqProofs at e0 e1 e12
    have hw : IntKind.i64.wrap ((k : Int) + 1) = (k : Int) + 1 := wrap_ok (by omega)
    have hlt : decide (k < xs.length) = true := by simp; exact hk
    have hlt2 : decide (k < ys.length) = true := by simp; omega
    obtain ⟨x, hx⟩ : ∃ x, xs[k]? = some x := ⟨xs[k], by simp⟩
    obtain ⟨y, hy⟩ : ∃ y, ys[k]? = some y := ⟨ys[k]'(by omega), by simp⟩
    replace hk := hid hk
    replace hl := hid hl
    simp -dsimp -implicitDefEqProofs [*]
    refine brA_split (fun g1 => ?_) (fun g1 => ?_) <;> simp -dsimp -implicitDefEqProofs [*]
    rotate_left
    · exact ends_bool (same_ne hx hy (by simpa using g1)).symm
    refine hid fun j hj => ?_
    rcases Nat.lt_or_ge j k with g | g
    · exact hb.out j g
    · have : j = k := by omega
      subst this
      simp at g1
      rw [hx, hy, g1]
  · rintro t h m hci hs ⟨rfl, hb⟩
    have e0 := hs 0 rfl
    have e1 := hs 1 rfl
    have e12 := hs 12 rfl
    clear hs
    simp -dsimp -implicitDefEqProofs at e0 e1 e12
    simp -dsimp -implicitDefEqProofs [*]
    refine ends_bool ?_
    symm
    simp
    apply List.ext_getElem?
    intro j
    rcases Nat.lt_or_ge j xs.length with g | g
    · exact hb.out j g
    · rw [List.getElem?_eq_none g, List.getElem?_eq_none (by omega)]

theorem equal_int (xs ys : List Int) (hlen : xs.length ≤ 100000000) : C Try.prog 21 [.lst false 1 (I xs), .lst false 1 (I ys)] (.at (.bool (decide (xs = ys)))) [] := equal_int' xs ys (by unfold maxLen; omega)

theorem plain_I (xs : List Int) {el : TypeId} {s : Nat} : plainNews [⟨el, s, I xs⟩] = true := by
  simp [plainNews, I, plainCell]

theorem clone_int_rows (rows : List (List AV)) (hlen : rows.length ≤ 100000000) (hp : plainNews [⟨3, 1, rows⟩] = true) : C Try.prog 92 [.lst false 1 rows] (.own 0 0 rows.length) [⟨3, 1, rows⟩] := by
  cases rows with
  | nil =>
    have h1 : C Try.prog 92 [.nilv] .nl [] := by
      refine C_inline [] Try.func92 (fun _ _ => by kernel_rfl) rfl (by kernel_rfl) (by rfl) (by decide) (by rfl) (by rfl) (by rfl) ?_
      simp -dsimp -implicitDefEqProofs [initT]
      exact ⟨⟨_, rfl, Sub.refl _⟩, rfl⟩
    have h2 : C Try.prog 92 [.nn] (.own 0 0 0) [⟨3, 1, []⟩] := by
      refine C_inline [20] Try.func92 (fun _ _ => by kernel_rfl) rfl (by kernel_rfl) (by rfl) (by decide) (by rfl) (by rfl) (by first | rfl | exact plain_I _ | exact plain_map (fun _ => rfl) _) ?_
      simp -dsimp -implicitDefEqProofs [initT]
      exact ⟨⟨_, rfl, Sub.refl _⟩, rfl⟩
    exact C_empty (C_nl_own h1) h2
  | cons x xs =>
    refine C_inline [20] Try.func92 (fun _ _ => by kernel_rfl) rfl (by kernel_rfl) (by rfl) (by decide) (by rfl) (by rfl) hp ?_
    have hw : decide (100000000 < xs.length + 1) = false := by simp at hlen ⊢; omega
    simp -dsimp -implicitDefEqProofs [initT]
    simp only [hw]
    simp -dsimp -implicitDefEqProofs
    exact ⟨⟨_, rfl, Sub.refl _⟩, rfl⟩

theorem clone_zones (rows : List (List AV)) (hlen : rows.length ≤ 100000000) (hp : plainNews [⟨72, 2, rows⟩] = true) : C Try.prog 112 [.lst false 2 rows] (.own 0 0 rows.length) [⟨72, 2, rows⟩] := by
  cases rows with
  | nil =>
    have h1 : C Try.prog 112 [.nilv] .nl [] := by
      refine C_inline [] Try.func112 (fun _ _ => by kernel_rfl) rfl (by kernel_rfl) (by rfl) (by decide) (by rfl) (by rfl) (by rfl) ?_
      simp -dsimp -implicitDefEqProofs [initT]
      exact ⟨⟨_, rfl, Sub.refl _⟩, rfl⟩
    have h2 : C Try.prog 112 [.nn] (.own 0 0 0) [⟨72, 2, []⟩] := by
      refine C_inline [20] Try.func112 (fun _ _ => by kernel_rfl) rfl (by kernel_rfl) (by rfl) (by decide) (by rfl) (by rfl) (by first | rfl | exact plain_I _ | exact plain_map (fun _ => rfl) _) ?_
      simp -dsimp -implicitDefEqProofs [initT]
      exact ⟨⟨_, rfl, Sub.refl _⟩, rfl⟩
    exact C_empty (C_nl_own h1) h2
  | cons x xs =>
    refine C_inline [20] Try.func112 (fun _ _ => by kernel_rfl) rfl (by kernel_rfl) (by rfl) (by decide) (by rfl) (by rfl) hp ?_
    have hw : decide (100000000 < xs.length + 1) = false := by simp at hlen ⊢; omega
    simp -dsimp -implicitDefEqProofs [initT]
    simp only [hw]
    simp -dsimp -implicitDefEqProofs
    exact ⟨⟨_, rfl, Sub.refl _⟩, rfl⟩

theorem clone_answers (rows : List (List AV)) (hlen : rows.length ≤ 100000000) (hp : plainNews [⟨53, 3, rows⟩] = true) : C Try.prog 117 [.lst false 3 rows] (.own 0 0 rows.length) [⟨53, 3, rows⟩] := by
  cases rows with
  | nil =>
    have h1 : C Try.prog 117 [.nilv] .nl [] := by
      refine C_inline [] Try.func117 (fun _ _ => by kernel_rfl) rfl (by kernel_rfl) (by rfl) (by decide) (by rfl) (by rfl) (by rfl) ?_
      simp -dsimp -implicitDefEqProofs [initT]
      exact ⟨⟨_, rfl, Sub.refl _⟩, rfl⟩
    have h2 : C Try.prog 117 [.nn] (.own 0 0 0) [⟨53, 3, []⟩] := by
      refine C_inline [20] Try.func117 (fun _ _ => by kernel_rfl) rfl (by kernel_rfl) (by rfl) (by decide) (by rfl) (by rfl) (by first | rfl | exact plain_I _ | exact plain_map (fun _ => rfl) _) ?_
      simp -dsimp -implicitDefEqProofs [initT]
      exact ⟨⟨_, rfl, Sub.refl _⟩, rfl⟩
    exact C_empty (C_nl_own h1) h2
  | cons x xs =>
    refine C_inline [20] Try.func117 (fun _ _ => by kernel_rfl) rfl (by kernel_rfl) (by rfl) (by decide) (by rfl) (by rfl) hp ?_
    have hw : decide (100000000 < xs.length + 1) = false := by simp at hlen ⊢; omega
    simp -dsimp -implicitDefEqProofs [initT]
    simp only [hw]
    simp -dsimp -implicitDefEqProofs
    exact ⟨⟨_, rfl, Sub.refl _⟩, rfl⟩

theorem clone_lasts (rows : List (List AV)) (hlen : rows.length ≤ 100000000) (hp : plainNews [⟨104, 4, rows⟩] = true) : C Try.prog 142 [.lst false 4 rows] (.own 0 0 rows.length) [⟨104, 4, rows⟩] := by
  cases rows with
  | nil =>
    have h1 : C Try.prog 142 [.nilv] .nl [] := by
      refine C_inline [] Try.func142 (fun _ _ => by kernel_rfl) rfl (by kernel_rfl) (by rfl) (by decide) (by rfl) (by rfl) (by rfl) ?_
      simp -dsimp -implicitDefEqProofs [initT]
      exact ⟨⟨_, rfl, Sub.refl _⟩, rfl⟩
    have h2 : C Try.prog 142 [.nn] (.own 0 0 0) [⟨104, 4, []⟩] := by
      refine C_inline [20] Try.func142 (fun _ _ => by kernel_rfl) rfl (by kernel_rfl) (by rfl) (by decide) (by rfl) (by rfl) (by first | rfl | exact plain_I _ | exact plain_map (fun _ => rfl) _) ?_
      simp -dsimp -implicitDefEqProofs [initT]
      exact ⟨⟨_, rfl, Sub.refl _⟩, rfl⟩
    exact C_empty (C_nl_own h1) h2
  | cons x xs =>
    refine C_inline [20] Try.func142 (fun _ _ => by kernel_rfl) rfl (by kernel_rfl) (by rfl) (by decide) (by rfl) (by rfl) hp ?_
    have hw : decide (100000000 < xs.length + 1) = false := by simp at hlen ⊢; omega
    simp -dsimp -implicitDefEqProofs [initT]
    simp only [hw]
    simp -dsimp -implicitDefEqProofs
    exact ⟨⟨_, rfl, Sub.refl _⟩, rfl⟩

theorem clone_int (xs : List Int) (hlen : xs.length ≤ 100000000) : C Try.prog 92 [.lst false 1 (I xs)] (.own 0 0 xs.length) [⟨3, 1, I xs⟩] := by
  have := clone_int_rows (I xs) (by simpa using hlen) (plain_I xs)
  simpa only [I_length] using this

end Go.Proofs.Ytdjdjnmccphbjaa.E
