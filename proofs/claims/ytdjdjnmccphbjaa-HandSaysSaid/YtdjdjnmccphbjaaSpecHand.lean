/- SpecHand: commands, answers, hands, as plain functions on plain data. -/
import Derived.Test.YtdjdjnmccphbjaaSpecBook
namespace Go.Proofs.Ytdjdjnmccphbjaa.S

structure Cmd where
  kind : Int
  z : Int
  n : Int
  pos : Int
  d : List Int
deriving DecidableEq, Inhabited
def Cmd.zero : Cmd := ⟨0, 0, 0, 0, []⟩

structure Answer where
  e : Int
  pos : Int
  d : List Int
deriving DecidableEq, Inhabited
def Answer.zero : Answer := ⟨0, 0, []⟩

structure Hand where
  seq : Int
  waits : Bool
  c : Cmd
  got : List Answer
deriving DecidableEq, Inhabited
def Hand.zero : Hand := ⟨0, false, Cmd.zero, []⟩

/-- which numbers a kind has -/
def uZ (k : Int) : Bool := decide (k ≤ 7)
def uA (k : Int) : Bool := decide (k = 6) || decide (k = 7)
def uN (k : Int) : Bool := decide (k = 7) || (decide (8 ≤ k) && (!decide (k = 10) && !decide (k = 12)))
def uD (k : Int) : Bool := decide (k = 5) || decide (k = 6)

/-- a command has what its kind has no use for, or lacks data -/
def misused (c : Cmd) : Bool := (((!uZ c.kind && !decide (c.z = 0)) || (!uA c.kind && !decide (c.pos = 0))) || (!uN c.kind && !decide (c.n = 0))) || !(uD c.kind == decide (0 < c.d.length))

def checkCmd (c : Cmd) : Int :=
  if c.kind < 1 ∨ 12 < c.kind then 4
  else if misused c = true then 4
  else if 8 < c.d.length then 2
  else if (c.z :: c.pos :: c.n :: c.d).any bad = true then 3
  else 0

def checkAnswer (a : Answer) : Int :=
  if a.e < 0 ∨ 9 < a.e ∨ a.pos < 0 ∨ 8 ≤ a.pos then 3
  else if 8 < a.d.length then 2
  else if a.d.any bad = true then 3
  else if a.e ≠ 0 ∧ (a.pos ≠ 0 ∨ 0 < a.d.length) then 4
  else 0

/-- the first of some that isn't 0 -/
def firstBad {α : Type} (f : α → Int) : List α → Int
  | [] => 0
  | x :: xs => if f x ≠ 0 then f x else firstBad f xs

def checkHand (h : Hand) : Int :=
  if h.seq < 0 ∨ 40 < h.seq then 3
  else if firstBad checkAnswer h.got ≠ 0 then firstBad checkAnswer h.got
  else if (h.got.length : Int) + (if h.waits = true then 1 else 0) ≠ h.seq ∨ (h.waits = false ∧ h.c ≠ Cmd.zero) then 4
  else if h.waits = true then checkCmd h.c
  else 0

def ask (h : Hand) (c : Cmd) : Hand × Int :=
  if checkHand h ≠ 0 then (Hand.zero, checkHand h)
  else if checkCmd c ≠ 0 then (Hand.zero, checkCmd c)
  else if h.waits = true then (Hand.zero, 6)
  else if h.seq = 40 then (Hand.zero, 2)
  else (⟨h.seq + 1, true, c, h.got⟩, 0)

def hear (h : Hand) (seq : Int) (a : Answer) : Hand × Int :=
  if checkHand h ≠ 0 then (Hand.zero, checkHand h)
  else if checkAnswer a ≠ 0 then (Hand.zero, checkAnswer a)
  else if h.waits = true ∧ seq = h.seq then (⟨h.seq, false, Cmd.zero, h.got ++ [a]⟩, 0)
  else (h, 0)

end Go.Proofs.Ytdjdjnmccphbjaa.S
