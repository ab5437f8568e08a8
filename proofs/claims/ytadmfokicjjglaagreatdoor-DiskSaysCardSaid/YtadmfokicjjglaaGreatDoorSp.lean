/- Sp: Spec: what the program and the reference compute, as plain functions on plain data. SpecBook: books, as plain functions on plain data. SpecHand: commands, answers, hands, as plain functions on plain data. SpecYard: zones of which few may be open, as plain functions on plain data. SpecDesk: desks, as plain functions on plain data. SpecHall: desks that do, halls, records, owners, as plain functions on plain data. -/
namespace Go.Proofs.YtadmfokicjjglaaGreatDoor.S
structure Zone where
  st : Int
  d : List Int
deriving DecidableEq, Inhabited
def Zone.zero : Zone := ⟨0, []⟩
def bad (n : Int) : Bool := decide (n < 0) || decide (999 < n)
end Go.Proofs.YtadmfokicjjglaaGreatDoor.S
namespace Go.Proofs.YtadmfokicjjglaaGreatDoor.S
/-! ### books -/
structure Book where
  k : List Int
  h : Int
  t : Int
deriving DecidableEq, Inhabited
def Book.zero : Book := ⟨[], 0, 0⟩
def Book.new : Book := ⟨[0, 0, 0], -1, 0⟩
def Book.key (b : Book) (i : Int) : Int := b.k.getD i.toNat 0
def badKey (n : Int) : Bool := decide (n < 0) || decide (9 < n)
def checkBook (b : Book) : Int :=
  if b.k.length ≠ 3 then 4
  else if b.k.any badKey = true then 3
  else if b.h < -1 ∨ 3 ≤ b.h ∨ b.t < 0 ∨ 4 < b.t then 3
  else if (b.h < 0 ∧ b.t ≠ 0) ∨ (0 ≤ b.h ∧ (b.t = 0 ∨ b.key b.h = 0)) then 4
  else 0
def ready (b : Book) (who : Int) : Int := if checkBook b ≠ 0 then checkBook b else if who < 0 ∨ 3 ≤ who then 5 else 0
def register (b : Book) (who key : Int) : Book × Int :=
  if ready b who ≠ 0 then (Book.zero, ready b who)
  else if key < 0 ∨ 9 < key then (Book.zero, 3)
  else if key = 0 ∧ b.h = who then (⟨b.k.set who.toNat key, -1, 0⟩, 0)
  else (⟨b.k.set who.toNat key, b.h, b.t⟩, 0)
def reserve (b : Book) (who kind : Int) : Book × Int :=
  if ready b who ≠ 0 then (Book.zero, ready b who)
  else if kind < 1 ∨ 4 < kind then (Book.zero, 3)
  else if b.key who = 0 ∨ (0 ≤ b.h ∧ (b.h ≠ who ∨ b.t ≠ kind)) then (Book.zero, 8)
  else (⟨b.k, who, kind⟩, 0)
def release (b : Book) (who : Int) : Book × Int :=
  if ready b who ≠ 0 then (Book.zero, ready b who)
  else if b.key who = 0 then (Book.zero, 8)
  else if b.h = who then (⟨b.k, -1, 0⟩, 0) else (b, 0)
def struck (k : List Int) (who key : Int) : List Int := k.mapIdx fun i x => if (i : Int) ≠ who ∧ x = key then 0 else x
def preempt (b : Book) (who key : Int) : Book × Int :=
  if ready b who ≠ 0 then (Book.zero, ready b who)
  else if key < 1 ∨ 9 < key then (Book.zero, 3)
  else if b.key who = 0 then (Book.zero, 8)
  else (⟨struck b.k who key, if 0 ≤ b.h ∧ b.h ≠ who ∧ b.key b.h = key then who else b.h, b.t⟩, 0)
def clear (b : Book) (who : Int) : Book × Int :=
  if ready b who ≠ 0 then (Book.zero, ready b who)
  else if b.key who = 0 then (Book.zero, 8)
  else (Book.new, 0)
def might (b : Book) (who : Int) (write : Bool) : Bool :=
  if b.h < 0 ∨ b.h = who then true
  else if write = false ∧ (b.t = 1 ∨ b.t = 3) then true
  else decide ((b.t = 3 ∨ b.t = 4) ∧ b.key who ≠ 0)
def may (b : Book) (who : Int) (write : Bool) : Bool × Int :=
  if ready b who ≠ 0 then (false, ready b who) else (might b who write, 0)
end Go.Proofs.YtadmfokicjjglaaGreatDoor.S
namespace Go.Proofs.YtadmfokicjjglaaGreatDoor.S
structure Cmd where
  kind : Int
  z : Int
  n : Int
  pos : Int
  d : List Int
deriving DecidableEq, Inhabited
def Cmd.zero : Cmd := ⟨0, 0, 0, 0, []⟩
structure Answer where
  e : Int
  pos : Int
  d : List Int
deriving DecidableEq, Inhabited
def Answer.zero : Answer := ⟨0, 0, []⟩
structure Hand where
  seq : Int
  waits : Bool
  c : Cmd
  got : List Answer
deriving DecidableEq, Inhabited
def Hand.zero : Hand := ⟨0, false, Cmd.zero, []⟩
def uZ (k : Int) : Bool := decide (k ≤ 7)
def uA (k : Int) : Bool := decide (k = 6) || decide (k = 7)
def uN (k : Int) : Bool := decide (k = 7) || (decide (8 ≤ k) && (!decide (k = 10) && !decide (k = 12)))
def uD (k : Int) : Bool := decide (k = 5) || decide (k = 6)
def misused (c : Cmd) : Bool := (((!uZ c.kind && !decide (c.z = 0)) || (!uA c.kind && !decide (c.pos = 0))) || (!uN c.kind && !decide (c.n = 0))) || !(uD c.kind == decide (0 < c.d.length))
def checkCmd (c : Cmd) : Int :=
  if c.kind < 1 ∨ 12 < c.kind then 4
  else if misused c = true then 4
  else if 8 < c.d.length then 2
  else if (c.z :: c.pos :: c.n :: c.d).any bad = true then 3
  else 0
end Go.Proofs.YtadmfokicjjglaaGreatDoor.S
namespace Go.Proofs.YtadmfokicjjglaaGreatDoor.S
def idx {α : Type} (p : α → Bool) : List α → Int
  | [] => -1
  | x :: xs => if p x = true then 0 else if idx p xs < 0 then -1 else idx p xs + 1
def isOpen (z : Zone) : Bool := decide (z.st = 1) || decide (z.st = 2)
def isActive (z : Zone) : Bool := decide (z.st = 1) || (decide (z.st = 2) || decide (z.st = 3))
def shutZ (z : Zone) : Zone := ⟨if z.d.length = 0 then 0 else 3, z.d⟩
def room (l : List Zone) (n : Nat) : List Zone × Int :=
  let z := l.getD n Zone.zero
  if isOpen z = true then (l, 0)
  else if z.st = 4 then (l, 7)
  else if z.st = 0 ∧ l.countP isActive = 3 then (l, 7)
  else if l.countP isOpen < 2 then (l, 0)
  else if idx (fun z => decide (z.st = 1)) l < 0 then (l, 7)
  else (l.set (idx (fun z => decide (z.st = 1)) l).toNat (shutZ (l.getD (idx (fun z => decide (z.st = 1)) l).toNat Zone.zero)), 0)
end Go.Proofs.YtadmfokicjjglaaGreatDoor.S
namespace Go.Proofs.YtadmfokicjjglaaGreatDoor.S
structure Desk where
  zs : List Zone
  b : Book
deriving DecidableEq, Inhabited
def Desk.zero : Desk := ⟨[], Book.zero⟩
def Desk.new : Desk := ⟨[Zone.zero, Zone.zero, Zone.zero, Zone.zero], Book.new⟩
end Go.Proofs.YtadmfokicjjglaaGreatDoor.S
namespace Go.Proofs.YtadmfokicjjglaaGreatDoor.S
structure Last where
  seq : Int
  a : Answer
deriving DecidableEq, Inhabited
def Last.zero : Last := ⟨0, Answer.zero⟩
structure Hall where
  d : Desk
  last : List Last
deriving DecidableEq, Inhabited
def Hall.zero : Hall := ⟨Desk.zero, []⟩
def Hall.new : Hall := ⟨Desk.new, [Last.zero, Last.zero, Last.zero]⟩
structure Rec where
  who : Int
  seq : Int
  c : Cmd
deriving DecidableEq, Inhabited
def Rec.zero : Rec := ⟨0, 0, Cmd.zero⟩
def checkRec (r : Rec) : Int := if r.who < 0 ∨ 3 ≤ r.who ∨ r.seq < 1 ∨ 40 < r.seq then 3 else checkCmd r.c
end Go.Proofs.YtadmfokicjjglaaGreatDoor.S
