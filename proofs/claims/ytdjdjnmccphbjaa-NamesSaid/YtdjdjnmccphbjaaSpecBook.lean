/- SpecBook: books, as plain functions on plain data. -/
import Derived.Test.YtdjdjnmccphbjaaSpec
namespace Go.Proofs.Ytdjdjnmccphbjaa.S

/-! ### books -/
structure Book where
  k : List Int
  h : Int
  t : Int
deriving DecidableEq, Inhabited

def Book.zero : Book := ⟨[], 0, 0⟩
def Book.new : Book := ⟨[0, 0, 0], -1, 0⟩
/-- the key of a hand -/
def Book.key (b : Book) (i : Int) : Int := b.k.getD i.toNat 0
def badKey (n : Int) : Bool := decide (n < 0) || decide (9 < n)

def checkBook (b : Book) : Int :=
  if b.k.length ≠ 3 then 4
  else if b.k.any badKey = true then 3
  else if b.h < -1 ∨ 3 ≤ b.h ∨ b.t < 0 ∨ 4 < b.t then 3
  else if (b.h < 0 ∧ b.t ≠ 0) ∨ (0 ≤ b.h ∧ (b.t = 0 ∨ b.key b.h = 0)) then 4
  else 0

def ready (b : Book) (who : Int) : Int := if checkBook b ≠ 0 then checkBook b else if who < 0 ∨ 3 ≤ who then 5 else 0

def register (b : Book) (who key : Int) : Book × Int :=
  if ready b who ≠ 0 then (Book.zero, ready b who)
  else if key < 0 ∨ 9 < key then (Book.zero, 3)
  else if key = 0 ∧ b.h = who then (⟨b.k.set who.toNat key, -1, 0⟩, 0)
  else (⟨b.k.set who.toNat key, b.h, b.t⟩, 0)

def reserve (b : Book) (who kind : Int) : Book × Int :=
  if ready b who ≠ 0 then (Book.zero, ready b who)
  else if kind < 1 ∨ 4 < kind then (Book.zero, 3)
  else if b.key who = 0 ∨ (0 ≤ b.h ∧ (b.h ≠ who ∨ b.t ≠ kind)) then (Book.zero, 8)
  else (⟨b.k, who, kind⟩, 0)

def release (b : Book) (who : Int) : Book × Int :=
  if ready b who ≠ 0 then (Book.zero, ready b who)
  else if b.key who = 0 then (Book.zero, 8)
  else if b.h = who then (⟨b.k, -1, 0⟩, 0) else (b, 0)

/-- the keys of all others that are this one are 0 -/
def struck (k : List Int) (who key : Int) : List Int := k.mapIdx fun i x => if (i : Int) ≠ who ∧ x = key then 0 else x

def preempt (b : Book) (who key : Int) : Book × Int :=
  if ready b who ≠ 0 then (Book.zero, ready b who)
  else if key < 1 ∨ 9 < key then (Book.zero, 3)
  else if b.key who = 0 then (Book.zero, 8)
  else (⟨struck b.k who key, if 0 ≤ b.h ∧ b.h ≠ who ∧ b.key b.h = key then who else b.h, b.t⟩, 0)

def clear (b : Book) (who : Int) : Book × Int :=
  if ready b who ≠ 0 then (Book.zero, ready b who)
  else if b.key who = 0 then (Book.zero, 8)
  else (Book.new, 0)

def might (b : Book) (who : Int) (write : Bool) : Bool :=
  if b.h < 0 ∨ b.h = who then true
  else if write = false ∧ (b.t = 1 ∨ b.t = 3) then true
  else decide ((b.t = 3 ∨ b.t = 4) ∧ b.key who ≠ 0)

def may (b : Book) (who : Int) (write : Bool) : Bool × Int :=
  if ready b who ≠ 0 then (false, ready b who) else (might b who write, 0)

end Go.Proofs.Ytdjdjnmccphbjaa.S
