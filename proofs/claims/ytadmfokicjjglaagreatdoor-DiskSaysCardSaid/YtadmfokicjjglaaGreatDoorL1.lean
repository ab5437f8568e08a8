/- L1: Lc: the book's moves, by the engine. Ld: the book's moves, by the engine. Le: more of the book, by the engine. Lf: more of the book, by the engine. Lg: more of the book, by the engine. Lh: law.booked, by the engine. Li: the reference's reading of a book, by the engine. Lj: ref.CheckBook, by the engine. Lk: law.BookAlone, by the engine. Ll: law.BookHolds, by the engine. -/
import Derived.Test.YtadmfokicjjglaaGreatDoorA1
namespace Go.Proofs.YtadmfokicjjglaaGreatDoor.E
open Go.RowKit Go.Proofs
set_option maxRecDepth 100000
set_option maxHeartbeats 1000000
set_option linter.unusedSimpArgs false
end Go.Proofs.YtadmfokicjjglaaGreatDoor.E
namespace Go.Proofs.YtadmfokicjjglaaGreatDoor.E
open Go.RowKit Go.Proofs
set_option maxRecDepth 100000
set_option maxHeartbeats 1000000
set_option linter.unusedSimpArgs false
@[simp] theorem I_cons (x : Int) (xs : List Int) : I (x :: xs) = [.at (.int .i64 x)] :: I xs := rfl
@[simp] theorem I_nil : I [] = [] := rfl
end Go.Proofs.YtadmfokicjjglaaGreatDoor.E
namespace Go.Proofs.YtadmfokicjjglaaGreatDoor.E
open Go.RowKit Go.Proofs
set_option maxRecDepth 100000
set_option maxHeartbeats 1000000
set_option linter.unusedSimpArgs false
end Go.Proofs.YtadmfokicjjglaaGreatDoor.E
namespace Go.Proofs.YtadmfokicjjglaaGreatDoor.E
open Go.RowKit Go.Proofs
set_option maxRecDepth 100000
set_option maxHeartbeats 1000000
set_option linter.unusedSimpArgs false
theorem ref_in (x lo hi : Int) : C Tryz.prog 63 [Int' x, Int' lo, Int' hi] (Bool' (decide (lo ≤ x) && decide (x ≤ hi))) [] := by
  refine C_inline [] Tryz.func63 (fun _ _ => by kernel_rfl) rfl (by kernel_rfl) (by rfl) (by decide) (by rfl) (by rfl) (by rfl) ?_
  simp -dsimp -implicitDefEqProofs [initT]
  repeat' (refine brA_split (fun g => ?_) (fun g => ?_) <;> simp -dsimp -implicitDefEqProofs [*])
  all_goals
    refine ends_bool ?_
    simp at *
    try simp [*]
    try omega
end Go.Proofs.YtadmfokicjjglaaGreatDoor.E
namespace Go.Proofs.YtadmfokicjjglaaGreatDoor.E
open Go.RowKit Go.Proofs
set_option maxRecDepth 100000
set_option maxHeartbeats 1000000
set_option linter.unusedSimpArgs false
@[simp] theorem wrap_1 : IntKind.i64.wrap 1 = 1 := wrap_ok (by omega)
@[simp] theorem wrap_2 : IntKind.i64.wrap 2 = 2 := wrap_ok (by omega)
@[simp] theorem wrap_3 : IntKind.i64.wrap 3 = 3 := wrap_ok (by omega)
end Go.Proofs.YtadmfokicjjglaaGreatDoor.E
namespace Go.Proofs.YtadmfokicjjglaaGreatDoor.E
open Go.RowKit Go.Proofs
set_option maxRecDepth 100000
set_option maxHeartbeats 1000000
set_option linter.unusedSimpArgs false
end Go.Proofs.YtadmfokicjjglaaGreatDoor.E
namespace Go.Proofs.YtadmfokicjjglaaGreatDoor.E
open Go.RowKit Go.Proofs
set_option maxRecDepth 100000
set_option maxHeartbeats 1000000
set_option linter.unusedSimpArgs false
abbrev within (lo hi x : Int) : Bool := decide (lo ≤ x) && decide (x ≤ hi)
theorem ref_all (xs : List Int) (lo hi : Int) (hlen : xs.length ≤ 100000000) : C Tryz.prog 116 [.lst false 1 (I xs), Int' lo, Int' hi] (Bool' (xs.all (within lo hi))) [] := by
  refine C_inline [] Tryz.func116 (fun _ _ => by kernel_rfl) rfl (by kernel_rfl) (by rfl) (by decide) (by rfl) (by rfl) (by rfl) ?_
  simp -dsimp -implicitDefEqProofs [initT]
  refine loop_count 11 xs.length (fun k h _ _ => h = _ ∧ Hid (∀ j, j < k → (!within lo hi (xs.getD j 0)) = false)) _ rfl (by rfl) ⟨rfl, by intro j hj; omega⟩ ?_ ?_
  · rintro k t h m hk hci hs ⟨rfl, hb⟩
    have e1 := hs 1 rfl
    have e2 := hs 2 rfl
    have e9 := hs 9 rfl
    have e10 := hs 10 rfl
    clear hs
    simp -dsimp -implicitDefEqProofs at e1 e2 e9 e10
    have hw : IntKind.i64.wrap ((k : Int) + 1) = (k : Int) + 1 := wrap_ok (by omega)
    have hlt : decide (k < xs.length) = true := by simp; exact hk
    obtain ⟨x, hx⟩ : ∃ x, xs[k]? = some x := ⟨xs[k], by simp⟩
    replace hk := hid hk
    simp -dsimp -implicitDefEqProofs [*]
    refine call_CC ((ref_in x lo hi)) ?_
    by_cases g : within lo hi x = true
    · simp -dsimp -implicitDefEqProofs [*]
      exact hid fun j hj => by
        have := below_succ (p := fun x => !within lo hi x) (b := false) hb.out hx (by show (!within lo hi x) = false; rw [g]; rfl) j hj
        simpa using this
    · have g' : within lo hi x = false := by simpa using g
      simp -dsimp -implicitDefEqProofs [*]
      refine ends_bool ?_
      symm
      rw [List.all_eq_false]
      exact ⟨x, List.mem_of_getElem? hx, g⟩
  · rintro t h m hci hs ⟨rfl, hb⟩
    have e9 := hs 9 rfl
    have e10 := hs 10 rfl
    clear hs
    simp -dsimp -implicitDefEqProofs at e9 e10
    simp -dsimp -implicitDefEqProofs [*]
    refine ends_bool ?_
    symm
    rw [List.all_eq_true]
    intro x hx
    obtain ⟨j, hj⟩ := List.mem_iff_getElem?.1 hx
    have := hb.out j (List.getElem?_eq_some_iff.1 hj).1
    simpa [hj] using this
end Go.Proofs.YtadmfokicjjglaaGreatDoor.E
namespace Go.Proofs.YtadmfokicjjglaaGreatDoor.E
open Go.RowKit Go.Proofs
set_option maxRecDepth 100000
set_option maxHeartbeats 1000000
set_option linter.unusedSimpArgs false
end Go.Proofs.YtadmfokicjjglaaGreatDoor.E
namespace Go.Proofs.YtadmfokicjjglaaGreatDoor.E
open Go.RowKit Go.Proofs
set_option maxRecDepth 100000
set_option maxHeartbeats 1000000
set_option linter.unusedSimpArgs false
end Go.Proofs.YtadmfokicjjglaaGreatDoor.E
namespace Go.Proofs.YtadmfokicjjglaaGreatDoor.E
open Go.RowKit Go.Proofs
set_option maxRecDepth 100000
set_option maxHeartbeats 1000000
set_option linter.unusedSimpArgs false
def S.move (q : Int) (b : S.Book) (w n : Int) : S.Book × Int :=
  if q = 0 then S.register b w n else if q = 1 then S.reserve b w n else if q = 2 then S.release b w else if q = 3 then S.preempt b w n else S.clear b w
end Go.Proofs.YtadmfokicjjglaaGreatDoor.E
