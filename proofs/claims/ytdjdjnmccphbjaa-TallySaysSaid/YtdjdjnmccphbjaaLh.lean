/- Lh: law.booked, by the engine. -/
import Derived.Test.YtdjdjnmccphbjaaL1
namespace Go.Proofs.Ytdjdjnmccphbjaa.E
open Go.RowKit Go.Proofs
set_option maxRecDepth 100000
set_option maxHeartbeats 1000000
set_option linter.unusedSimpArgs false

abbrev B1 : S.Book := ⟨[5, 0, 0], -1, 0⟩
abbrev B2 : S.Book := ⟨[5, 6, 0], -1, 0⟩
abbrev B3 : S.Book := ⟨[5, 6, 0], 0, 1⟩
abbrev B5 : S.Book := ⟨[0, 6, 0], 1, 1⟩
abbrev B6 : S.Book := ⟨[0, 6, 0], -1, 0⟩

theorem reg_eq {b : S.Book} {w k : Int} {r : S.Book × Int} (h : S.register b w k = r) : C Try.prog 22 [Bk b, Int' w, Int' k] (.tup [BkN r.1, Int' r.2]) [] := h ▸ book_Register b w k
theorem res_eq {b : S.Book} {w k : Int} {r : S.Book × Int} (h : S.reserve b w k = r) : C Try.prog 23 [Bk b, Int' w, Int' k] (.tup [BkN r.1, Int' r.2]) [] := h ▸ book_Reserve b w k
theorem pre_eq {b : S.Book} {w k : Int} {r : S.Book × Int} (h : S.preempt b w k = r) : C Try.prog 25 [Bk b, Int' w, Int' k] (.tup [BkN r.1, Int' r.2]) [] := h ▸ book_Preempt b w k
theorem rel_eq {b : S.Book} {w : Int} {r : S.Book × Int} (h : S.release b w = r) : C Try.prog 24 [Bk b, Int' w] (.tup [BkN r.1, Int' r.2]) [] := h ▸ book_Release b w
theorem clr_eq {b : S.Book} {w : Int} {r : S.Book × Int} (h : S.clear b w = r) : C Try.prog 26 [Bk b, Int' w] (.tup [BkN r.1, Int' r.2]) [] := h ▸ book_Clear b w
theorem may_eq {b : S.Book} {w : Int} {x : Bool} {r : Bool × Int} (h : S.may b w x = r) : C Try.prog 29 [Bk b, Int' w, Bool' x] (.tup [Bool' r.1, Int' r.2]) [] := h ▸ book_May b w x
theorem chk_eq {b : S.Book} {r : Int} (h : S.checkBook b = r) : C Try.prog 32 [Bk b] (Int' r) [] := h ▸ book_Check b
theorem same_eq {a b : S.Book} {r : Bool} (h : S.same a b = r) (hl : a.k.length ≤ 100000000) : C Try.prog 33 [Bk a, Bk b] (Bool' r) [] := h ▸ book_Same a b hl

theorem law_booked : C Try.prog 31 [] (Bool' true) [] := by
  refine C_inline [] Try.func31 (fun _ _ => by kernel_rfl) rfl (by kernel_rfl) (by rfl) (by decide) (by rfl) (by rfl) (by rfl) ?_
  simp -dsimp -implicitDefEqProofs [initT]
  refine call_CC (book_New) ?_
  simp -dsimp -implicitDefEqProofs
  refine call_CC ((reg_eq (b := S.Book.new) (w := 0) (k := 5) (r := (B1, 0)) (by decide))) ?_
  simp -dsimp -implicitDefEqProofs
  refine call_CC ((reg_eq (b := B1) (w := 1) (k := 6) (r := (B2, 0)) (by decide))) ?_
  simp -dsimp -implicitDefEqProofs
  refine call_CC ((res_eq (b := B2) (w := 0) (k := 1) (r := (B3, 0)) (by decide))) ?_
  simp -dsimp -implicitDefEqProofs
  refine call_CC ((res_eq (b := B3) (w := 1) (k := 1) (r := (S.Book.zero, 8)) (by decide))) ?_
  simp -dsimp -implicitDefEqProofs
  refine call_CC ((may_eq (b := B3) (w := 1) (x := true) (r := (false, 0)) (by decide))) ?_
  simp -dsimp -implicitDefEqProofs
  refine call_CC ((may_eq (b := B3) (w := 2) (x := false) (r := (true, 0)) (by decide))) ?_
  simp -dsimp -implicitDefEqProofs
  refine call_CC ((pre_eq (b := B3) (w := 1) (k := 5) (r := (B5, 0)) (by decide))) ?_
  simp -dsimp -implicitDefEqProofs
  refine call_CC ((rel_eq (b := B5) (w := 1) (r := (B6, 0)) (by decide))) ?_
  simp -dsimp -implicitDefEqProofs
  refine call_CC ((clr_eq (b := B5) (w := 1) (r := (S.Book.new, 0)) (by decide))) ?_
  simp -dsimp -implicitDefEqProofs
  refine call_CC (book_New) ?_
  simp -dsimp -implicitDefEqProofs
  refine call_CC ((same_eq (a := S.Book.new) (b := S.Book.new) (r := true) (by decide) (by decide))) ?_
  simp -dsimp -implicitDefEqProofs
  refine call_CC ((chk_eq (b := B5) (r := 0) (by decide))) ?_
  simp -dsimp -implicitDefEqProofs
  exact ends_bool rfl

end Go.Proofs.Ytdjdjnmccphbjaa.E
