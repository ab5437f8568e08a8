
/- SpecCmd: commands as texts, in plain Lean; no program is named here. -/
import Derived.Test.YtallmebpmoaopaaDoorSpecText
namespace Go.Proofs.YtallmebpmoaopaaDoor.S
open Go

/-- words of the kinds -/
def words : List (List UInt8) := [[], [111, 112, 101, 110], [99, 108, 111, 115, 101], [102, 105, 110, 105, 115, 104], [114, 101, 115, 101, 116], [97, 112, 112, 101, 110, 100], [119, 114, 105, 116, 101], [114, 101, 97, 100], [114, 101, 103, 105, 115, 116, 101, 114], [114, 101, 115, 101, 114, 118, 101], [114, 101, 108, 101, 97, 115, 101], [112, 114, 101, 101, 109, 112, 116], [99, 108, 101, 97, 114]]
def wordOf (k : Int) : List UInt8 := words.getD k.toNat []
/-- the place of a word -/
def idxOf (w : List UInt8) : List (List UInt8) → Int
  | [] => -1
  | x :: xs => if x = w then 0 else if idxOf w xs = -1 then -1 else idxOf w xs + 1

/-- the numbers of a command, as they are written -/
def heads (c : Cmd) : List Int := (if uZ c.kind = true then [c.z] else []) ++ (if uA c.kind = true then [c.pos] else []) ++ (if uN c.kind = true then [c.n] else [])
def withNums (s : List UInt8) : List Int → List UInt8
  | [] => s
  | n :: ns => withNums (s ++ 32 :: Lib.itoa n) ns
def cmdText (c : Cmd) : List UInt8 := withNums (wordOf c.kind) (heads c ++ c.d)
def cmdPrint (c : Cmd) : List UInt8 × Int := if checkCmd c ≠ 0 then ([], checkCmd c) else (cmdText c, 0)

def takeIf (b : Bool) (ns : List Int) : Option (Int × List Int) := match b, ns with
  | true, [] => none
  | true, x :: xs => some (x, xs)
  | false, ns => some (0, ns)
/-- a command of a kind, out of numbers -/
def cmdOf (k : Int) (ns : List Int) : Option Cmd := (takeIf (uZ k) ns).bind fun a => (takeIf (uA k) a.2).bind fun b => (takeIf (uN k) b.2).bind fun c =>
  if uD k = decide (0 < c.2.length) then some ⟨k, a.1, c.1, b.1, c.2⟩ else none
/-- all numbers, or none -/
def numsOf : List (List UInt8) → Option (List Int)
  | [] => some []
  | l :: ls => match numOf l with
    | none => none
    | some n => (numsOf ls).map (n :: ·)
def cmdWords : List (List UInt8) → Cmd × Int
  | [] => (Cmd.zero, 1)
  | w :: ts => if idxOf w words < 1 then (Cmd.zero, 1) else match numsOf ts with
    | none => (Cmd.zero, 1)
    | some ns => match cmdOf (idxOf w words) ns with
      | none => (Cmd.zero, 1)
      | some c => if checkCmd c ≠ 0 then (Cmd.zero, checkCmd c) else (c, 0)
def cmdRead (l : List UInt8) : Cmd × Int := cmdWords (pieces 32 l)
def cmdParse (l : List UInt8) : Cmd × Int := if 60000 < l.length then (Cmd.zero, 2) else cmdRead l

theorem withNums_app (s : List UInt8) : ∀ (a b : List Int), withNums s (a ++ b) = withNums (withNums s a) b
  | [], b => rfl
  | n :: a, b => withNums_app _ a b
theorem idxOf_range (w : List UInt8) : ∀ xs : List (List UInt8), -1 ≤ idxOf w xs ∧ idxOf w xs < xs.length
  | [] => by simp [idxOf]
  | x :: xs => by
    have ih := idxOf_range w xs
    unfold idxOf
    split
    · simp
    · split
      · simp; omega
      · simp; omega
theorem idxOf_none {w : List UInt8} : ∀ {xs : List (List UInt8)}, idxOf w xs = -1 → ∀ (j : Nat) (x : List UInt8), xs[j]? = some x → x ≠ w
  | x :: xs, h, j, y, hj => by
    unfold idxOf at h
    split at h
    · cases h
    · rename_i hx
      have ih := idxOf_range w xs
      split at h
      · rename_i h1
        cases j with
        | zero => cases hj; exact hx
        | succ j => exact idxOf_none h1 j y (by simpa using hj)
      · omega
theorem idxOf_at {w : List UInt8} : ∀ {xs : List (List UInt8)} {k : Nat}, idxOf w xs = k → xs[k]? = some w
  | [], k, h => by simp [idxOf] at h
  | x :: xs, k, h => by
    unfold idxOf at h
    split at h
    · rename_i hx
      have : k = 0 := by omega
      subst this
      simp [hx]
    · have ih := idxOf_range w xs
      split at h
      · omega
      · obtain ⟨m, rfl⟩ : ∃ m, k = m + 1 := ⟨k - 1, by omega⟩
        simp only [List.getElem?_cons_succ]
        exact idxOf_at (by omega)
/-- the first place -/
theorem idxOf_first {w : List UInt8} : ∀ {xs : List (List UInt8)} {k : Nat}, xs[k]? = some w → (∀ j, j < k → xs[j]? ≠ some w) → idxOf w xs = k
  | [], k, h, _ => by simp at h
  | x :: xs, k, h, g => by
    unfold idxOf
    cases k with
    | zero => simp at h; rw [if_pos h]; rfl
    | succ k =>
      have hx : x ≠ w := fun e => g 0 (by omega) (by simp [e])
      have ih := idxOf_first (xs := xs) (k := k) (by simpa using h) (fun j hj => by simpa using g (j + 1) (by omega))
      rw [if_neg hx, if_neg (by omega), ih]
      simp

theorem numsOf_app : ∀ (a b : List (List UInt8)), numsOf (a ++ b) = match numsOf a with | none => none | some x => (numsOf b).map (x ++ ·)
  | [], b => by simp [numsOf]
  | l :: a, b => by
    rw [List.cons_append, numsOf, numsOf, numsOf_app a b]
    cases numOf l with
    | none => rfl
    | some n =>
      cases numsOf a with
      | none => rfl
      | some x => cases numsOf b <;> simp
theorem numsOf_len : ∀ {ls : List (List UInt8)} {ns : List Int}, numsOf ls = some ns → ns.length = ls.length
  | [], ns, h => by cases h; rfl
  | l :: ls, ns, h => by
    unfold numsOf at h
    split at h
    · cases h
    · cases hr : numsOf ls with
      | none => rw [hr] at h; cases h
      | some x => rw [hr] at h; cases h; simp [numsOf_len hr]

theorem numsOf_bad : ∀ {ls : List (List UInt8)} {k : Nat} {x : List UInt8}, ls[k]? = some x → numOf x = none → numsOf ls = none
  | [], k, x, h, _ => by simp at h
  | l :: ls, 0, x, h, g => by
    simp at h
    subst h
    rw [numsOf, g]
  | l :: ls, k + 1, x, h, g => by
    rw [numsOf, numsOf_bad (by simpa using h) g]
    cases numOf l <;> rfl
theorem numsOf_take {ls : List (List UInt8)} {k : Nat} {x : List UInt8} {ns : List Int} {n : Int} (h : ls[k]? = some x) (g : numsOf (ls.take k) = some ns) (e : numOf x = some n) : numsOf (ls.take (k + 1)) = some (ns ++ [n]) := by
  have : ls.take (k + 1) = ls.take k ++ [x] := by
    obtain ⟨h1, h2⟩ := List.getElem?_eq_some_iff.1 h
    rw [List.take_succ_eq_append_getElem h1, h2]
  rw [this, numsOf_app, g]
  simp [numsOf, e]

/-! what is printed is read -/
theorem withNums_joined (s : List UInt8) : ∀ ns : List Int, withNums s ns = joined 32 (s :: ns.map Lib.itoa)
  | [] => rfl
  | n :: ns => by
    rw [withNums, withNums_joined _ ns]
    cases ns with
    | nil => rfl
    | cons m ns => simp [joined]
theorem bad_iff {n : Int} : bad n = false ↔ 0 ≤ n ∧ n ≤ 999 := by simp [bad]
theorem word_no_blank : ∀ w, w ∈ words → (32 : UInt8) ∉ w := by decide
theorem checkCmd_ok {c : Cmd} (h : checkCmd c = 0) : 1 ≤ c.kind ∧ c.kind ≤ 12 ∧ misused c = false ∧ c.d.length ≤ 8 ∧ (0 ≤ c.z ∧ c.z ≤ 999) ∧ (0 ≤ c.pos ∧ c.pos ≤ 999) ∧ (0 ≤ c.n ∧ c.n ≤ 999) ∧ ∀ x, x ∈ c.d → 0 ≤ x ∧ x ≤ 999 := by
  unfold checkCmd at h
  split at h
  · cases h
  · split at h
    · cases h
    · split at h
      · cases h
      · split at h
        · cases h
        · rename_i h1 h2 h3 h4
          simp only [List.any_cons, Bool.or_eq_true, not_or, Bool.not_eq_true] at h4
          obtain ⟨a, b, e, d⟩ := h4
          refine ⟨by omega, by omega, by simpa using h2, by omega, bad_iff.1 a, bad_iff.1 b, bad_iff.1 e, fun x hx => bad_iff.1 ?_⟩
          have := List.any_eq_false.1 d x hx
          simpa using this
theorem kinds12 {k : Int} (h1 : 1 ≤ k) (h2 : k ≤ 12) : k = 1 ∨ k = 2 ∨ k = 3 ∨ k = 4 ∨ k = 5 ∨ k = 6 ∨ k = 7 ∨ k = 8 ∨ k = 9 ∨ k = 10 ∨ k = 11 ∨ k = 12 := by omega

end Go.Proofs.YtallmebpmoaopaaDoor.S
