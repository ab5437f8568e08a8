
/- Lh: law.booked, by the engine. -/
import Derived.Test.YtallmebpmoaopaaGreatDoorL1
namespace Go.Proofs.YtallmebpmoaopaaGreatDoor.E
open Go.RowKit Go.Proofs
set_option maxRecDepth 100000
set_option maxHeartbeats 1000000
set_option linter.unusedSimpArgs false

abbrev B1 : S.Book := ⟨[5, 0, 0], -1, 0⟩
abbrev B2 : S.Book := ⟨[5, 6, 0], -1, 0⟩
abbrev B3 : S.Book := ⟨[5, 6, 0], 0, 1⟩
abbrev B5 : S.Book := ⟨[0, 6, 0], 1, 1⟩
abbrev B6 : S.Book := ⟨[0, 6, 0], -1, 0⟩

theorem reg_eq {b : S.Book} {w k : Int} {r : S.Book × Int} (h : S.register b w k = r) : C Tryz.prog 66 [Bk b, Int' w, Int' k] (.tup [BkN r.1, Int' r.2]) [] := h ▸ book_Register b w k
theorem res_eq {b : S.Book} {w k : Int} {r : S.Book × Int} (h : S.reserve b w k = r) : C Tryz.prog 67 [Bk b, Int' w, Int' k] (.tup [BkN r.1, Int' r.2]) [] := h ▸ book_Reserve b w k
theorem pre_eq {b : S.Book} {w k : Int} {r : S.Book × Int} (h : S.preempt b w k = r) : C Tryz.prog 69 [Bk b, Int' w, Int' k] (.tup [BkN r.1, Int' r.2]) [] := h ▸ book_Preempt b w k
theorem rel_eq {b : S.Book} {w : Int} {r : S.Book × Int} (h : S.release b w = r) : C Tryz.prog 68 [Bk b, Int' w] (.tup [BkN r.1, Int' r.2]) [] := h ▸ book_Release b w
theorem clr_eq {b : S.Book} {w : Int} {r : S.Book × Int} (h : S.clear b w = r) : C Tryz.prog 70 [Bk b, Int' w] (.tup [BkN r.1, Int' r.2]) [] := h ▸ book_Clear b w
theorem may_eq {b : S.Book} {w : Int} {x : Bool} {r : Bool × Int} (h : S.may b w x = r) : C Tryz.prog 71 [Bk b, Int' w, Bool' x] (.tup [Bool' r.1, Int' r.2]) [] := h ▸ book_May b w x
theorem chk_eq {b : S.Book} {r : Int} (h : S.checkBook b = r) : C Tryz.prog 94 [Bk b] (Int' r) [] := h ▸ book_Check b
theorem same_eq {a b : S.Book} {r : Bool} (h : S.same a b = r) (hl : a.k.length ≤ 100000000) : C Tryz.prog 74 [Bk a, Bk b] (Bool' r) [] := h ▸ book_Same a b hl

end Go.Proofs.YtallmebpmoaopaaGreatDoor.E
