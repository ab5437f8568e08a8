/- A1: La: slices.Equal and slices.Clone on numbers, by the engine. Lb: books, by the engine. -/
import Derived.Test.YtadmfokicjjglaaGreatDoorX3
import Derived.Test.YtadmfokicjjglaaGreatDoorEngT
import Derived.Test.YtadmfokicjjglaaGreatDoorSp
namespace Go.Proofs.YtadmfokicjjglaaGreatDoor.E
open Go.RowKit Go.Proofs
set_option maxRecDepth 100000
set_option maxHeartbeats 1000000
set_option linter.unusedSimpArgs false
theorem ends_int {k : IntKind} {a b : Int} {h : Heap} {n : Nat} (e : b = a) : Ends [] (.at (.int k a)) [] h n (.at (.int k b)) := ⟨⟨_, rfl, e ▸ Sub.refl _⟩, rfl⟩
theorem ends_bool {a b : Bool} {h : Heap} {n : Nat} (e : b = a) : Ends [] (.at (.bool a)) [] h n (.at (.bool b)) := ⟨⟨_, rfl, e ▸ Sub.refl _⟩, rfl⟩
theorem wrap_ok {x : Int} (h : -9223372036854775808 <= x /\ x <= 9223372036854775807) : IntKind.i64.wrap x = x := by rw [IntKind.wrap_i64]; omega
theorem hid {p : Prop} (h : p) : Hid p := h
theorem same_ne {xs ys : List Int} {k : Nat} {x y : Int} (hx : xs[k]? = some x) (hy : ys[k]? = some y) (h : x ≠ y) : decide (xs = ys) = false := by
 simp;rintro rfl;rw [hx] at hy;cases hy;exact h rfl
theorem equal_int' (xs ys : List Int) (hlen : xs.length <= maxLen) : C Tryz.prog 39 [.lst false 1 (I xs), .lst false 1 (I ys)] (.at (.bool (decide (xs = ys)))) [] := by
 unfold maxLen at hlen;refine CI Tryz.func39 ?_;simp -dsimp -implicitDefEqProofs [initT];refine brA_split (fun h1 => ?_) (fun h1 => ?_) <;> simp -dsimp -implicitDefEqProofs [*]
 rotate_left
 ·refine ends_bool ?_;simp at h1;simp;intro e; subst e; simp at h1
 simp at h1;have hl : xs.length = ys.length := by omega
 refine loop_count 13 xs.length (fun k h _ _ => h = _ /\ Hid (∀ j, j < k -> xs[j]? = ys[j]?)) _ rfl (by rfl) ⟨rfl, by intro j hj; omega⟩ ?_ ?_
 ·rintro k t h m hk hci hs ⟨rfl, hb⟩;have e0 := hs 0 rfl;have e1 := hs 1 rfl;have e12 := hs 12 rfl;clear hs;simp -dsimp -implicitDefEqProofs at e0 e1 e12;have hw : IntKind.i64.wrap ((k : Int) + 1) = (k : Int) + 1 := wrap_ok (by omega);have hlt : decide (k < xs.length) = true := by simp; exact hk
  have hlt2 : decide (k < ys.length) = true := by simp; omega
  obtain ⟨x, hx⟩ : ∃ x, xs[k]? = some x := ⟨xs[k], by simp⟩;obtain ⟨y, hy⟩ : ∃ y, ys[k]? = some y := ⟨ys[k]'(by omega), by simp⟩;replace hk := hid hk;replace hl := hid hl;simp -dsimp -implicitDefEqProofs [*];refine brA_split (fun g1 => ?_) (fun g1 => ?_) <;> simp -dsimp -implicitDefEqProofs [*]
  rotate_left
  ·exact ends_bool (same_ne hx hy (by simpa using g1)).symm
  refine hid fun j hj => ?_
  rcases Nat.lt_or_ge j k with g | g
  ·exact hb.out j g
  ·have : j = k := by omega
   subst this;simp at g1;rw [hx, hy, g1]
 ·rintro t h m hci hs ⟨rfl, hb⟩;have e0 := hs 0 rfl;have e1 := hs 1 rfl;have e12 := hs 12 rfl;clear hs;simp -dsimp -implicitDefEqProofs at e0 e1 e12;simp -dsimp -implicitDefEqProofs [*];refine ends_bool ?_;symm
  simp;apply List.ext_getElem?;intro j;rcases Nat.lt_or_ge j xs.length with g | g
  ·exact hb.out j g
  ·rw [List.getElem?_eq_none g, List.getElem?_eq_none (by omega)]
theorem equal_int (xs ys : List Int) (hlen : xs.length <= 100000000) : C Tryz.prog 39 [.lst false 1 (I xs), .lst false 1 (I ys)] (.at (.bool (decide (xs = ys)))) [] := equal_int' xs ys (by unfold maxLen; omega)
theorem plain_I (xs : List Int) {el : TypeId} {s : Nat} : plainNews [⟨el, s, I xs⟩] = true := by
 simp [plainNews, I, plainCell]
theorem clone_int_rows (rows : List (List AV)) (hlen : rows.length <= 100000000) (hp : plainNews [⟨3, 1, rows⟩] = true) : C Tryz.prog 112 [.lst false 1 rows] (.own 0 0 rows.length) [⟨3, 1, rows⟩] := by
 cases rows with
 | nil =>
  have h1 : C Tryz.prog 112 [.nilv] .nl [] := by
   refine CI Tryz.func112 ?_;simp -dsimp -implicitDefEqProofs [initT];exact ⟨⟨_, rfl, Sub.refl _⟩, rfl⟩
  have h2 : C Tryz.prog 112 [.nn] (.own 0 0 0) [⟨3, 1, []⟩] := by
   refine C_inline [20] Tryz.func112 (fun _ _ => by kernel_rfl) rfl (by kernel_rfl) (by rfl) (by decide) (by rfl) (by rfl) (by first | rfl | exact plain_I _ | exact plain_map (fun _ => rfl) _) ?_;simp -dsimp -implicitDefEqProofs [initT];exact ⟨⟨_, rfl, Sub.refl _⟩, rfl⟩
  exact C_empty (C_nl_own h1) h2
 | cons x xs =>
  refine C_inline [20] Tryz.func112 (fun _ _ => by kernel_rfl) rfl (by kernel_rfl) (by rfl) (by decide) (by rfl) (by rfl) hp ?_;have hw : decide (100000000 < xs.length + 1) = false := by simp at hlen ⊢; omega
  simp -dsimp -implicitDefEqProofs [initT];simp only [hw];simp -dsimp -implicitDefEqProofs;exact ⟨⟨_, rfl, Sub.refl _⟩, rfl⟩
theorem clone_zones (rows : List (List AV)) (hlen : rows.length <= 100000000) (hp : plainNews [⟨91, 2, rows⟩] = true) : C Tryz.prog 168 [.lst false 2 rows] (.own 0 0 rows.length) [⟨91, 2, rows⟩] := by
 cases rows with
 | nil =>
  have h1 : C Tryz.prog 168 [.nilv] .nl [] := by
   refine CI Tryz.func168 ?_;simp -dsimp -implicitDefEqProofs [initT];exact ⟨⟨_, rfl, Sub.refl _⟩, rfl⟩
  have h2 : C Tryz.prog 168 [.nn] (.own 0 0 0) [⟨91, 2, []⟩] := by
   refine C_inline [20] Tryz.func168 (fun _ _ => by kernel_rfl) rfl (by kernel_rfl) (by rfl) (by decide) (by rfl) (by rfl) (by first | rfl | exact plain_I _ | exact plain_map (fun _ => rfl) _) ?_;simp -dsimp -implicitDefEqProofs [initT];exact ⟨⟨_, rfl, Sub.refl _⟩, rfl⟩
  exact C_empty (C_nl_own h1) h2
 | cons x xs =>
  refine C_inline [20] Tryz.func168 (fun _ _ => by kernel_rfl) rfl (by kernel_rfl) (by rfl) (by decide) (by rfl) (by rfl) hp ?_;have hw : decide (100000000 < xs.length + 1) = false := by simp at hlen ⊢; omega
  simp -dsimp -implicitDefEqProofs [initT];simp only [hw];simp -dsimp -implicitDefEqProofs;exact ⟨⟨_, rfl, Sub.refl _⟩, rfl⟩
theorem clone_answers (rows : List (List AV)) (hlen : rows.length <= 100000000) (hp : plainNews [⟨76, 3, rows⟩] = true) : C Tryz.prog 98 [.lst false 3 rows] (.own 0 0 rows.length) [⟨76, 3, rows⟩] := by
 cases rows with
 | nil =>
  have h1 : C Tryz.prog 98 [.nilv] .nl [] := by
   refine CI Tryz.func98 ?_;simp -dsimp -implicitDefEqProofs [initT];exact ⟨⟨_, rfl, Sub.refl _⟩, rfl⟩
  have h2 : C Tryz.prog 98 [.nn] (.own 0 0 0) [⟨76, 3, []⟩] := by
   refine C_inline [20] Tryz.func98 (fun _ _ => by kernel_rfl) rfl (by kernel_rfl) (by rfl) (by decide) (by rfl) (by rfl) (by first | rfl | exact plain_I _ | exact plain_map (fun _ => rfl) _) ?_;simp -dsimp -implicitDefEqProofs [initT];exact ⟨⟨_, rfl, Sub.refl _⟩, rfl⟩
  exact C_empty (C_nl_own h1) h2
 | cons x xs =>
  refine C_inline [20] Tryz.func98 (fun _ _ => by kernel_rfl) rfl (by kernel_rfl) (by rfl) (by decide) (by rfl) (by rfl) hp ?_;have hw : decide (100000000 < xs.length + 1) = false := by simp at hlen ⊢; omega
  simp -dsimp -implicitDefEqProofs [initT];simp only [hw];simp -dsimp -implicitDefEqProofs;exact ⟨⟨_, rfl, Sub.refl _⟩, rfl⟩
theorem clone_lasts (rows : List (List AV)) (hlen : rows.length <= 100000000) (hp : plainNews [⟨111, 4, rows⟩] = true) : C Tryz.prog 100 [.lst false 4 rows] (.own 0 0 rows.length) [⟨111, 4, rows⟩] := by
 cases rows with
 | nil =>
  have h1 : C Tryz.prog 100 [.nilv] .nl [] := by
   refine CI Tryz.func100 ?_;simp -dsimp -implicitDefEqProofs [initT];exact ⟨⟨_, rfl, Sub.refl _⟩, rfl⟩
  have h2 : C Tryz.prog 100 [.nn] (.own 0 0 0) [⟨111, 4, []⟩] := by
   refine C_inline [20] Tryz.func100 (fun _ _ => by kernel_rfl) rfl (by kernel_rfl) (by rfl) (by decide) (by rfl) (by rfl) (by first | rfl | exact plain_I _ | exact plain_map (fun _ => rfl) _) ?_;simp -dsimp -implicitDefEqProofs [initT];exact ⟨⟨_, rfl, Sub.refl _⟩, rfl⟩
  exact C_empty (C_nl_own h1) h2
 | cons x xs =>
  refine C_inline [20] Tryz.func100 (fun _ _ => by kernel_rfl) rfl (by kernel_rfl) (by rfl) (by decide) (by rfl) (by rfl) hp ?_;have hw : decide (100000000 < xs.length + 1) = false := by simp at hlen ⊢; omega
  simp -dsimp -implicitDefEqProofs [initT];simp only [hw];simp -dsimp -implicitDefEqProofs;exact ⟨⟨_, rfl, Sub.refl _⟩, rfl⟩
theorem clone_int (xs : List Int) (hlen : xs.length <= 100000000) : C Tryz.prog 112 [.lst false 1 (I xs)] (.own 0 0 xs.length) [⟨3, 1, I xs⟩] := by
 have := clone_int_rows (I xs) (by simpa using hlen) (plain_I xs);simpa only [I_length] using this
abbrev Bk (b : S.Book) : AV := .agg [.lst false 1 (I b.k), .at (.int .i64 b.h), .at (.int .i64 b.t)]
abbrev BkN (b : S.Book) : AV := .agg [.lst true 1 (I b.k), .at (.int .i64 b.h), .at (.int .i64 b.t)]
abbrev Int' (x : Int) : AV := .at (.int .i64 x)
abbrev Bool' (x : Bool) : AV := .at (.bool x)
theorem below_succ {p : Int -> Bool} {xs : List Int} {k : Nat} {b : Bool} {x : Int} (h : ∀ j, j < k -> p (xs.getD j 0) = b) (hx : xs[k]? = some x) (hp : p x = b) : ∀ j, j < k + 1 -> p (xs.getD j 0) = b := by
 intro j hj;rcases Nat.lt_or_ge j k with g | g
 ·exact h j g
 ·have : j = k := by omega
  subst this;simp [hx, hp]
theorem any_of {p : Int -> Bool} {xs : List Int} {k : Nat} {x : Int} (hx : xs[k]? = some x) (hp : p x = true) : xs.any p = true := List.any_eq_true.2 ⟨x, List.mem_of_getElem? hx, hp⟩
theorem any_none {p : Int -> Bool} {xs : List Int} (h : ∀ j, j < xs.length -> p (xs.getD j 0) = false) : xs.any p = false := by
 rw [List.any_eq_false];intro x hx;obtain ⟨j, hj⟩ := List.mem_iff_getElem?.1 hx;have := h j (List.getElem?_eq_some_iff.1 hj).1;simp [hj] at this;simp [this]
theorem book_Check (b : S.Book) : C Tryz.prog 183 [Bk b] (Int' (S.checkBook b)) [] := by
 obtain ⟨xs, bh, bt⟩ := b;refine CI Tryz.func183 ?_;simp -dsimp -implicitDefEqProofs [initT];refine brA_split (fun h1 => ?_) (fun h1 => ?_) <;> simp -dsimp -implicitDefEqProofs [*]
 rotate_left
 ·refine ends_int ?_;simp at h1;unfold S.checkBook;rw [if_pos (by simp; omega)]
 simp at h1
 replace h1 : xs.length = 3 := by omega
 refine loop_count 12 3 (fun k h _ _ => h = _ /\ Hid (∀ j, j < k -> S.badKey (xs.getD j 0) = false)) _ rfl (by rfl) ⟨rfl, by intro j hj; omega⟩ ?_ ?_
 ·rintro k t h m hk hci hs ⟨rfl, hb⟩;have e1 := hs 1 rfl;have e10 := hs 10 rfl;have e11 := hs 11 rfl;clear hs;simp -dsimp -implicitDefEqProofs at e1 e10 e11;have hw : IntKind.i64.wrap ((k : Int) + 1) = (k : Int) + 1 := wrap_ok (by omega);have hlt : decide (k < xs.length) = true := by simp; omega
  obtain ⟨x, hx⟩ : ∃ x, xs[k]? = some x := ⟨xs[k]'(by omega), by simp⟩;replace hk := hid hk;replace h1 := hid h1;simp -dsimp -implicitDefEqProofs [*];refine brA_split (fun g1 => ?_) (fun g1 => ?_) <;> simp -dsimp -implicitDefEqProofs [*]
  ·refine ends_int ?_;simp at g1;unfold S.checkBook;rw [if_neg (by have := h1.out; simp [this]), if_pos (any_of hx (by simp [S.badKey, g1]))]
  refine brA_split (fun g2 => ?_) (fun g2 => ?_) <;> simp -dsimp -implicitDefEqProofs [*]
  ·refine ends_int ?_;simp at g2;unfold S.checkBook;rw [if_neg (by have := h1.out; simp [this]), if_pos (any_of hx (by simp [S.badKey, g2]))]
  exact hid (below_succ hb.out hx (by simp at g1 g2; simp [S.badKey]; omega))
 ·rintro t h m hci hs ⟨rfl, hb⟩;have e1 := hs 1 rfl;have e10 := hs 10 rfl;have e11 := hs 11 rfl;clear hs;simp -dsimp -implicitDefEqProofs at e1 e10 e11;have hba := any_none (p := S.badKey) (xs := xs) (by rw [h1]; exact hb.out);have hlen : (xs.length : Int) = 3 := by omega
  have key : S.checkBook ⟨xs, bh, bt⟩ = if bh < -1 \/ 3 <= bh \/ bt < 0 \/ 4 < bt then 3 else if (bh < 0 /\ bt ≠ 0) \/ (0 <= bh /\ (bt = 0 \/ xs.getD bh.toNat 0 = 0)) then 4 else 0 := by
   unfold S.checkBook;rw [if_neg (by simp [h1]), if_neg (by simp [hba])];rfl
  replace key := hid key
  have cs : (decide (bh < -1) = true) \/ (decide (bh < -1) = false /\ decide (3 <= bh) = true) \/ bh = -1 \/ ∃ n z, bh = ((n : Nat) : Int) /\ n < 3 /\ xs[n]? = some z := by
   by_cases c1 : bh < -1
   ·simp [c1]
   by_cases c2 : 3 <= bh
   ·simp [c1, c2]
   by_cases c3 : bh = -1
   ·simp [c3]
   exact Or.inr (Or.inr (Or.inr ⟨bh.toNat, xs[bh.toNat]'(by omega), by omega, by omega, by simp⟩))
  clear h1;rcases cs with c | ⟨c, d⟩ | rfl | ⟨n, z, rfl, hn, hz⟩
  ·simp -dsimp -implicitDefEqProofs [*];refine ends_int ?_;rw [key.out]; try (clear key; grind)
  ·simp -dsimp -implicitDefEqProofs [*];refine ends_int ?_;rw [key.out]; try (clear key; grind)
  ·simp -dsimp -implicitDefEqProofs [*];repeat' (refine brA_split (fun g => ?_) (fun g => ?_) <;> simp -dsimp -implicitDefEqProofs [*])
   all_goals
    refine ends_int ?_;rw [key.out]; try (clear key hb hba hci e1 e10 e11; grind)
  ·have d : decide ((3 : Int) <= (n : Int)) = false := decide_eq_false (by omega);have d2 : decide ((n : Int) < 0) = false := decide_eq_false (by omega);have d3 : decide ((n : Int) < -1) = false := decide_eq_false (by omega);simp -dsimp -implicitDefEqProofs [*];repeat' (refine brA_split (fun g => ?_) (fun g => ?_) <;> simp -dsimp -implicitDefEqProofs [*])
   all_goals
    refine ends_int ?_;rw [key.out]; try (clear key hb hba hci e1 e10 e11; clear hlen; grind)
end Go.Proofs.YtadmfokicjjglaaGreatDoor.E
