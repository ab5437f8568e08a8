/- Spec: what the program and the reference compute, as plain functions on plain data. -/
namespace Go.Proofs.Ytdjdjnmccphbjaa.S

structure Zone where
  st : Int
  d : List Int
deriving DecidableEq, Inhabited

def Zone.zero : Zone := ⟨0, []⟩

/-- not from 0 to 999 -/
def bad (n : Int) : Bool := decide (n < 0) || decide (999 < n)

def checkZone (z : Zone) : Int :=
  if z.st < 0 ∨ 4 < z.st then 4
  else if 8 < z.d.length then 2
  else if z.d.any bad = true then 3
  else if (z.st = 0 ∧ 0 < z.d.length) ∨ (z.d.length = 8 ∧ z.st ≠ 4) ∨ (z.st = 3 ∧ z.d.length = 0) then 4
  else 0

def writeZone (z : Zone) (l : List Int) : Zone × Int :=
  if checkZone z ≠ 0 then (Zone.zero, checkZone z)
  else if l.length = 0 ∨ 8 < l.length then (Zone.zero, 2)
  else if l.any bad = true then (Zone.zero, 3)
  else if z.st = 4 ∨ 8 < z.d.length + l.length then (Zone.zero, 7)
  else (⟨if z.d.length + l.length = 8 then 4 else if z.st = 2 then 2 else 1, z.d ++ l⟩, 0)

def readZone (z : Zone) (a n : Int) : List Int × Int :=
  if checkZone z ≠ 0 then ([], checkZone z)
  else if a < 0 ∨ 8 < a ∨ n < 0 ∨ 8 - a < n then ([], 3)
  else if (z.d.length : Int) < a + n then ([], 6)
  else ((z.d.drop a.toNat).take n.toNat, 0)

/-- a number brought within bounds -/
def at_ (k n : Int) : Int := if k.tmod n < 0 then k.tmod n + n else k.tmod n

end Go.Proofs.Ytdjdjnmccphbjaa.S
