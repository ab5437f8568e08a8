/- SpecYard: zones of which few may be open, as plain functions on plain data. -/
import Derived.Test.YtdjdjnmccphbjaaSpecHand
namespace Go.Proofs.Ytdjdjnmccphbjaa.S

/-- the first place where it is so, -1 where there is none -/
def idx {α : Type} (p : α → Bool) : List α → Int
  | [] => -1
  | x :: xs => if p x = true then 0 else if idx p xs < 0 then -1 else idx p xs + 1

def isOpen (z : Zone) : Bool := decide (z.st = 1) || decide (z.st = 2)
def isActive (z : Zone) : Bool := decide (z.st = 1) || (decide (z.st = 2) || decide (z.st = 3))

def checkZones (l : List Zone) : Int :=
  if l.length ≠ 4 then 4
  else if firstBad checkZone l ≠ 0 then firstBad checkZone l
  else if 2 < l.countP isOpen ∨ 3 < l.countP isActive then 7
  else 0

def readyZ (l : List Zone) (k : Int) : Int := if checkZones l ≠ 0 then checkZones l else if k < 0 ∨ 4 ≤ k then 5 else 0

def shutZ (z : Zone) : Zone := ⟨if z.d.length = 0 then 0 else 3, z.d⟩

/-- room for zone n, of right zones -/
def room (l : List Zone) (n : Nat) : List Zone × Int :=
  let z := l.getD n Zone.zero
  if isOpen z = true then (l, 0)
  else if z.st = 4 then (l, 7)
  else if z.st = 0 ∧ l.countP isActive = 3 then (l, 7)
  else if l.countP isOpen < 2 then (l, 0)
  else if idx (fun z => decide (z.st = 1)) l < 0 then (l, 7)
  else (l.set (idx (fun z => decide (z.st = 1)) l).toNat (shutZ (l.getD (idx (fun z => decide (z.st = 1)) l).toNat Zone.zero)), 0)

def holdZ (l : List Zone) (k : Int) : List Zone × Int :=
  if readyZ l k ≠ 0 then ([], readyZ l k)
  else if (room l k.toNat).2 ≠ 0 then ([], (room l k.toNat).2)
  else ((room l k.toNat).1.set k.toNat ⟨2, ((room l k.toNat).1.getD k.toNat Zone.zero).d⟩, 0)

def closeZ (l : List Zone) (k : Int) : List Zone × Int :=
  if readyZ l k ≠ 0 then ([], readyZ l k)
  else if isOpen (l.getD k.toNat Zone.zero) = false then ([], 6)
  else (l.set k.toNat (shutZ (l.getD k.toNat Zone.zero)), 0)

def finishZ (l : List Zone) (k : Int) : List Zone × Int :=
  if readyZ l k ≠ 0 then ([], readyZ l k)
  else (l.set k.toNat ⟨4, (l.getD k.toNat Zone.zero).d⟩, 0)

def resetZ (l : List Zone) (k : Int) : List Zone × Int :=
  if readyZ l k ≠ 0 then ([], readyZ l k)
  else (l.set k.toNat Zone.zero, 0)

def writeZ (l : List Zone) (k : Int) (data : List Int) : List Zone × Int × Int :=
  if readyZ l k ≠ 0 then ([], 0, readyZ l k)
  else
    let z := l.getD k.toNat Zone.zero
    if (writeZone z data).2 ≠ 0 then ([], 0, (writeZone z data).2)
    else if (room l k.toNat).2 ≠ 0 then ([], 0, (room l k.toNat).2)
    else ((room l k.toNat).1.set k.toNat (writeZone z data).1, z.d.length, 0)

end Go.Proofs.Ytdjdjnmccphbjaa.S
