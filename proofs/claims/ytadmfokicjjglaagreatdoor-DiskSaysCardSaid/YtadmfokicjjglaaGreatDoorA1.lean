/- A1: La: slices.Equal and slices.Clone on numbers, by the engine. Lb: books, by the engine. -/
import Derived.Test.YtadmfokicjjglaaGreatDoorX3
import Derived.Test.YtadmfokicjjglaaGreatDoorEngT
import Derived.Test.YtadmfokicjjglaaGreatDoorSp
namespace Go.Proofs.YtadmfokicjjglaaGreatDoor.E
open Go.RowKit Go.Proofs
set_option maxRecDepth 100000
set_option maxHeartbeats 1000000
set_option linter.unusedSimpArgs false
theorem ends_int {k : IntKind} {a b : Int} {h : Heap} {n : Nat} (e : b = a) : Ends [] (.at (.int k a)) [] h n (.at (.int k b)) := ⟨⟨_, rfl, e ▸ Sub.refl _⟩, rfl⟩
theorem ends_bool {a b : Bool} {h : Heap} {n : Nat} (e : b = a) : Ends [] (.at (.bool a)) [] h n (.at (.bool b)) := ⟨⟨_, rfl, e ▸ Sub.refl _⟩, rfl⟩
theorem wrap_ok {x : Int} (h : -9223372036854775808 ≤ x ∧ x ≤ 9223372036854775807) : IntKind.i64.wrap x = x := by rw [IntKind.wrap_i64]; omega
theorem hid {p : Prop} (h : p) : Hid p := h
theorem same_ne {xs ys : List Int} {k : Nat} {x y : Int} (hx : xs[k]? = some x) (hy : ys[k]? = some y) (h : x ≠ y) : decide (xs = ys) = false := by
  simp
  rintro rfl
  rw [hx] at hy
  cases hy
  exact h rfl
theorem equal_int' (xs ys : List Int) (hlen : xs.length ≤ maxLen) : C Tryz.prog 39 [.lst false 1 (I xs), .lst false 1 (I ys)] (.at (.bool (decide (xs = ys)))) [] := by
  unfold maxLen at hlen
  refine C_inline [] Tryz.func39 (fun _ _ => by kernel_rfl) rfl (by kernel_rfl) (by rfl) (by decide) (by rfl) (by rfl) (by rfl) ?_
  simp -dsimp -implicitDefEqProofs [initT]
  refine brA_split (fun h1 => ?_) (fun h1 => ?_) <;> simp -dsimp -implicitDefEqProofs [*]
  rotate_left
  · refine ends_bool ?_
    simp at h1
    simp
    intro e; subst e; simp at h1
  simp at h1
  have hl : xs.length = ys.length := by omega
  refine loop_count 13 xs.length (fun k h _ _ => h = _ ∧ Hid (∀ j, j < k → xs[j]? = ys[j]?)) _ rfl (by rfl) ⟨rfl, by intro j hj; omega⟩ ?_ ?_
  · rintro k t h m hk hci hs ⟨rfl, hb⟩
    have e0 := hs 0 rfl
    have e1 := hs 1 rfl
    have e12 := hs 12 rfl
    clear hs
    simp -dsimp -implicitDefEqProofs at e0 e1 e12
    have hw : IntKind.i64.wrap ((k : Int) + 1) = (k : Int) + 1 := wrap_ok (by omega)
    have hlt : decide (k < xs.length) = true := by simp; exact hk
    have hlt2 : decide (k < ys.length) = true := by simp; omega
    obtain ⟨x, hx⟩ : ∃ x, xs[k]? = some x := ⟨xs[k], by simp⟩
    obtain ⟨y, hy⟩ : ∃ y, ys[k]? = some y := ⟨ys[k]'(by omega), by simp⟩
    replace hk := hid hk
    replace hl := hid hl
    simp -dsimp -implicitDefEqProofs [*]
    refine brA_split (fun g1 => ?_) (fun g1 => ?_) <;> simp -dsimp -implicitDefEqProofs [*]
    rotate_left
    · exact ends_bool (same_ne hx hy (by simpa using g1)).symm
    refine hid fun j hj => ?_
    rcases Nat.lt_or_ge j k with g | g
    · exact hb.out j g
    · have : j = k := by omega
      subst this
      simp at g1
      rw [hx, hy, g1]
  · rintro t h m hci hs ⟨rfl, hb⟩
    have e0 := hs 0 rfl
    have e1 := hs 1 rfl
    have e12 := hs 12 rfl
    clear hs
    simp -dsimp -implicitDefEqProofs at e0 e1 e12
    simp -dsimp -implicitDefEqProofs [*]
    refine ends_bool ?_
    symm
    simp
    apply List.ext_getElem?
    intro j
    rcases Nat.lt_or_ge j xs.length with g | g
    · exact hb.out j g
    · rw [List.getElem?_eq_none g, List.getElem?_eq_none (by omega)]
theorem plain_I (xs : List Int) {el : TypeId} {s : Nat} : plainNews [⟨el, s, I xs⟩] = true := by
  simp [plainNews, I, plainCell]
end Go.Proofs.YtadmfokicjjglaaGreatDoor.E
namespace Go.Proofs.YtadmfokicjjglaaGreatDoor.E
open Go.RowKit Go.Proofs
set_option maxRecDepth 100000
set_option maxHeartbeats 1000000
set_option linter.unusedSimpArgs false
abbrev Int' (x : Int) : AV := .at (.int .i64 x)
abbrev Bool' (x : Bool) : AV := .at (.bool x)
theorem below_succ {p : Int → Bool} {xs : List Int} {k : Nat} {b : Bool} {x : Int} (h : ∀ j, j < k → p (xs.getD j 0) = b) (hx : xs[k]? = some x) (hp : p x = b) : ∀ j, j < k + 1 → p (xs.getD j 0) = b := by
  intro j hj
  rcases Nat.lt_or_ge j k with g | g
  · exact h j g
  · have : j = k := by omega
    subst this
    simp [hx, hp]
theorem any_of {p : Int → Bool} {xs : List Int} {k : Nat} {x : Int} (hx : xs[k]? = some x) (hp : p x = true) : xs.any p = true := List.any_eq_true.2 ⟨x, List.mem_of_getElem? hx, hp⟩
theorem any_none {p : Int → Bool} {xs : List Int} (h : ∀ j, j < xs.length → p (xs.getD j 0) = false) : xs.any p = false := by
  rw [List.any_eq_false]
  intro x hx
  obtain ⟨j, hj⟩ := List.mem_iff_getElem?.1 hx
  have := h j (List.getElem?_eq_some_iff.1 hj).1
  simp [hj] at this
  simp [this]
end Go.Proofs.YtadmfokicjjglaaGreatDoor.E
