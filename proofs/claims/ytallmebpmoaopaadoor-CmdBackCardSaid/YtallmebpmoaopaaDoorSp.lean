/- Sp: Spec: what the program and the reference compute, as plain functions on plain data. SpecBook: books, as plain functions on plain data. SpecHand: commands, answers, hands, as plain functions on plain data. -/
namespace Go.Proofs.YtallmebpmoaopaaDoor.S

structure Zone where
  st : Int
  d : List Int
deriving DecidableEq, Inhabited

def Zone.zero : Zone := ⟨0, []⟩

/-- not from 0 to 999 -/
def bad (n : Int) : Bool := decide (n < 0) || decide (999 < n)

def checkZone (z : Zone) : Int :=
  if z.st < 0 ∨ 4 < z.st then 4
  else if 8 < z.d.length then 2
  else if z.d.any bad = true then 3
  else if (z.st = 0 ∧ 0 < z.d.length) ∨ (z.d.length = 8 ∧ z.st ≠ 4) ∨ (z.st = 3 ∧ z.d.length = 0) then 4
  else 0

def writeZone (z : Zone) (l : List Int) : Zone × Int :=
  if checkZone z ≠ 0 then (Zone.zero, checkZone z)
  else if l.length = 0 ∨ 8 < l.length then (Zone.zero, 2)
  else if l.any bad = true then (Zone.zero, 3)
  else if z.st = 4 ∨ 8 < z.d.length + l.length then (Zone.zero, 7)
  else (⟨if z.d.length + l.length = 8 then 4 else if z.st = 2 then 2 else 1, z.d ++ l⟩, 0)

def readZone (z : Zone) (a n : Int) : List Int × Int :=
  if checkZone z ≠ 0 then ([], checkZone z)
  else if a < 0 ∨ 8 < a ∨ n < 0 ∨ 8 - a < n then ([], 3)
  else if (z.d.length : Int) < a + n then ([], 6)
  else ((z.d.drop a.toNat).take n.toNat, 0)

/-- a number brought within bounds -/
def at_ (k n : Int) : Int := if k.tmod n < 0 then k.tmod n + n else k.tmod n

end Go.Proofs.YtallmebpmoaopaaDoor.S
namespace Go.Proofs.YtallmebpmoaopaaDoor.S

/-! ### books -/
structure Book where
  k : List Int
  h : Int
  t : Int
deriving DecidableEq, Inhabited

def Book.zero : Book := ⟨[], 0, 0⟩
def Book.new : Book := ⟨[0, 0, 0], -1, 0⟩
/-- the key of a hand -/
def Book.key (b : Book) (i : Int) : Int := b.k.getD i.toNat 0
def badKey (n : Int) : Bool := decide (n < 0) || decide (9 < n)

def checkBook (b : Book) : Int :=
  if b.k.length ≠ 3 then 4
  else if b.k.any badKey = true then 3
  else if b.h < -1 ∨ 3 ≤ b.h ∨ b.t < 0 ∨ 4 < b.t then 3
  else if (b.h < 0 ∧ b.t ≠ 0) ∨ (0 ≤ b.h ∧ (b.t = 0 ∨ b.key b.h = 0)) then 4
  else 0

def ready (b : Book) (who : Int) : Int := if checkBook b ≠ 0 then checkBook b else if who < 0 ∨ 3 ≤ who then 5 else 0

def register (b : Book) (who key : Int) : Book × Int :=
  if ready b who ≠ 0 then (Book.zero, ready b who)
  else if key < 0 ∨ 9 < key then (Book.zero, 3)
  else if key = 0 ∧ b.h = who then (⟨b.k.set who.toNat key, -1, 0⟩, 0)
  else (⟨b.k.set who.toNat key, b.h, b.t⟩, 0)

def reserve (b : Book) (who kind : Int) : Book × Int :=
  if ready b who ≠ 0 then (Book.zero, ready b who)
  else if kind < 1 ∨ 4 < kind then (Book.zero, 3)
  else if b.key who = 0 ∨ (0 ≤ b.h ∧ (b.h ≠ who ∨ b.t ≠ kind)) then (Book.zero, 8)
  else (⟨b.k, who, kind⟩, 0)

def release (b : Book) (who : Int) : Book × Int :=
  if ready b who ≠ 0 then (Book.zero, ready b who)
  else if b.key who = 0 then (Book.zero, 8)
  else if b.h = who then (⟨b.k, -1, 0⟩, 0) else (b, 0)

/-- the keys of all others that are this one are 0 -/
def struck (k : List Int) (who key : Int) : List Int := k.mapIdx fun i x => if (i : Int) ≠ who ∧ x = key then 0 else x

def preempt (b : Book) (who key : Int) : Book × Int :=
  if ready b who ≠ 0 then (Book.zero, ready b who)
  else if key < 1 ∨ 9 < key then (Book.zero, 3)
  else if b.key who = 0 then (Book.zero, 8)
  else (⟨struck b.k who key, if 0 ≤ b.h ∧ b.h ≠ who ∧ b.key b.h = key then who else b.h, b.t⟩, 0)

def clear (b : Book) (who : Int) : Book × Int :=
  if ready b who ≠ 0 then (Book.zero, ready b who)
  else if b.key who = 0 then (Book.zero, 8)
  else (Book.new, 0)

def might (b : Book) (who : Int) (write : Bool) : Bool :=
  if b.h < 0 ∨ b.h = who then true
  else if write = false ∧ (b.t = 1 ∨ b.t = 3) then true
  else decide ((b.t = 3 ∨ b.t = 4) ∧ b.key who ≠ 0)

def may (b : Book) (who : Int) (write : Bool) : Bool × Int :=
  if ready b who ≠ 0 then (false, ready b who) else (might b who write, 0)

end Go.Proofs.YtallmebpmoaopaaDoor.S
namespace Go.Proofs.YtallmebpmoaopaaDoor.S

structure Cmd where
  kind : Int
  z : Int
  n : Int
  pos : Int
  d : List Int
deriving DecidableEq, Inhabited
def Cmd.zero : Cmd := ⟨0, 0, 0, 0, []⟩

structure Answer where
  e : Int
  pos : Int
  d : List Int
deriving DecidableEq, Inhabited
def Answer.zero : Answer := ⟨0, 0, []⟩

structure Hand where
  seq : Int
  waits : Bool
  c : Cmd
  got : List Answer
deriving DecidableEq, Inhabited
def Hand.zero : Hand := ⟨0, false, Cmd.zero, []⟩

/-- which numbers a kind has -/
def uZ (k : Int) : Bool := decide (k ≤ 7)
def uA (k : Int) : Bool := decide (k = 6) || decide (k = 7)
def uN (k : Int) : Bool := decide (k = 7) || (decide (8 ≤ k) && (!decide (k = 10) && !decide (k = 12)))
def uD (k : Int) : Bool := decide (k = 5) || decide (k = 6)

/-- a command has what its kind has no use for, or lacks data -/
def misused (c : Cmd) : Bool := (((!uZ c.kind && !decide (c.z = 0)) || (!uA c.kind && !decide (c.pos = 0))) || (!uN c.kind && !decide (c.n = 0))) || !(uD c.kind == decide (0 < c.d.length))

def checkCmd (c : Cmd) : Int :=
  if c.kind < 1 ∨ 12 < c.kind then 4
  else if misused c = true then 4
  else if 8 < c.d.length then 2
  else if (c.z :: c.pos :: c.n :: c.d).any bad = true then 3
  else 0

def checkAnswer (a : Answer) : Int :=
  if a.e < 0 ∨ 9 < a.e ∨ a.pos < 0 ∨ 8 ≤ a.pos then 3
  else if 8 < a.d.length then 2
  else if a.d.any bad = true then 3
  else if a.e ≠ 0 ∧ (a.pos ≠ 0 ∨ 0 < a.d.length) then 4
  else 0

/-- the first of some that isn't 0 -/
def firstBad {α : Type} (f : α → Int) : List α → Int
  | [] => 0
  | x :: xs => if f x ≠ 0 then f x else firstBad f xs

def checkHand (h : Hand) : Int :=
  if h.seq < 0 ∨ 40 < h.seq then 3
  else if firstBad checkAnswer h.got ≠ 0 then firstBad checkAnswer h.got
  else if (h.got.length : Int) + (if h.waits = true then 1 else 0) ≠ h.seq ∨ (h.waits = false ∧ h.c ≠ Cmd.zero) then 4
  else if h.waits = true then checkCmd h.c
  else 0

def ask (h : Hand) (c : Cmd) : Hand × Int :=
  if checkHand h ≠ 0 then (Hand.zero, checkHand h)
  else if checkCmd c ≠ 0 then (Hand.zero, checkCmd c)
  else if h.waits = true then (Hand.zero, 6)
  else if h.seq = 40 then (Hand.zero, 2)
  else (⟨h.seq + 1, true, c, h.got⟩, 0)

def hear (h : Hand) (seq : Int) (a : Answer) : Hand × Int :=
  if checkHand h ≠ 0 then (Hand.zero, checkHand h)
  else if checkAnswer a ≠ 0 then (Hand.zero, checkAnswer a)
  else if h.waits = true ∧ seq = h.seq then (⟨h.seq, false, Cmd.zero, h.got ++ [a]⟩, 0)
  else (h, 0)

end Go.Proofs.YtallmebpmoaopaaDoor.S
