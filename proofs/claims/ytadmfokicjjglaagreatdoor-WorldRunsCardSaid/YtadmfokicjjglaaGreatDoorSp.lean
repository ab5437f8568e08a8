/- Sp: Spec: what the program and the reference compute, as plain functions on plain data. SpecBook: books, as plain functions on plain data. SpecHand: commands, answers, hands, as plain functions on plain data. SpecYard: zones of which few may be open, as plain functions on plain data. SpecDesk: desks, as plain functions on plain data. SpecHall: desks that do, halls, records, owners, as plain functions on plain data. -/
namespace Go.Proofs.YtadmfokicjjglaaGreatDoor.S
structure Zone where
 st : Int
 d : List Int
deriving DecidableEq, Inhabited
def Zone.zero : Zone := ⟨0, []⟩
def bad (n : Int) : Bool := decide (n < 0) || decide (999 < n)
def checkZone (z : Zone) : Int :=
 if z.st < 0 \/ 4 < z.st then 4
 else if 8 < z.d.length then 2
 else if z.d.any bad = true then 3
 else if (z.st = 0 /\ 0 < z.d.length) \/ (z.d.length = 8 /\ z.st ≠ 4) \/ (z.st = 3 /\ z.d.length = 0) then 4
 else 0
def writeZone (z : Zone) (l : List Int) : Zone × Int :=
 if checkZone z ≠ 0 then (Zone.zero, checkZone z)
 else if l.length = 0 \/ 8 < l.length then (Zone.zero, 2)
 else if l.any bad = true then (Zone.zero, 3)
 else if z.st = 4 \/ 8 < z.d.length + l.length then (Zone.zero, 7)
 else (⟨if z.d.length + l.length = 8 then 4 else if z.st = 2 then 2 else 1, z.d ++ l⟩, 0)
def readZone (z : Zone) (a n : Int) : List Int × Int :=
 if checkZone z ≠ 0 then ([], checkZone z)
 else if a < 0 \/ 8 < a \/ n < 0 \/ 8 - a < n then ([], 3)
 else if (z.d.length : Int) < a + n then ([], 6)
 else ((z.d.drop a.toNat).take n.toNat, 0)
structure Book where
 k : List Int
 h : Int
 t : Int
deriving DecidableEq, Inhabited
def Book.zero : Book := ⟨[], 0, 0⟩
def Book.new : Book := ⟨[0, 0, 0], -1, 0⟩
def Book.key (b : Book) (i : Int) : Int := b.k.getD i.toNat 0
def badKey (n : Int) : Bool := decide (n < 0) || decide (9 < n)
def checkBook (b : Book) : Int :=
 if b.k.length ≠ 3 then 4
 else if b.k.any badKey = true then 3
 else if b.h < -1 \/ 3 <= b.h \/ b.t < 0 \/ 4 < b.t then 3
 else if (b.h < 0 /\ b.t ≠ 0) \/ (0 <= b.h /\ (b.t = 0 \/ b.key b.h = 0)) then 4
 else 0
def ready (b : Book) (who : Int) : Int := if checkBook b ≠ 0 then checkBook b else if who < 0 \/ 3 <= who then 5 else 0
def register (b : Book) (who key : Int) : Book × Int :=
 if ready b who ≠ 0 then (Book.zero, ready b who)
 else if key < 0 \/ 9 < key then (Book.zero, 3)
 else if key = 0 /\ b.h = who then (⟨b.k.set who.toNat key, -1, 0⟩, 0)
 else (⟨b.k.set who.toNat key, b.h, b.t⟩, 0)
def reserve (b : Book) (who kind : Int) : Book × Int :=
 if ready b who ≠ 0 then (Book.zero, ready b who)
 else if kind < 1 \/ 4 < kind then (Book.zero, 3)
 else if b.key who = 0 \/ (0 <= b.h /\ (b.h ≠ who \/ b.t ≠ kind)) then (Book.zero, 8)
 else (⟨b.k, who, kind⟩, 0)
def release (b : Book) (who : Int) : Book × Int :=
 if ready b who ≠ 0 then (Book.zero, ready b who)
 else if b.key who = 0 then (Book.zero, 8)
 else if b.h = who then (⟨b.k, -1, 0⟩, 0) else (b, 0)
def struck (k : List Int) (who key : Int) : List Int := k.mapIdx fun i x => if (i : Int) ≠ who /\ x = key then 0 else x
def preempt (b : Book) (who key : Int) : Book × Int :=
 if ready b who ≠ 0 then (Book.zero, ready b who)
 else if key < 1 \/ 9 < key then (Book.zero, 3)
 else if b.key who = 0 then (Book.zero, 8)
 else (⟨struck b.k who key, if 0 <= b.h /\ b.h ≠ who /\ b.key b.h = key then who else b.h, b.t⟩, 0)
def clear (b : Book) (who : Int) : Book × Int :=
 if ready b who ≠ 0 then (Book.zero, ready b who)
 else if b.key who = 0 then (Book.zero, 8)
 else (Book.new, 0)
def might (b : Book) (who : Int) (write : Bool) : Bool :=
 if b.h < 0 \/ b.h = who then true
 else if write = false /\ (b.t = 1 \/ b.t = 3) then true
 else decide ((b.t = 3 \/ b.t = 4) /\ b.key who ≠ 0)
def may (b : Book) (who : Int) (write : Bool) : Bool × Int :=
 if ready b who ≠ 0 then (false, ready b who) else (might b who write, 0)
structure Cmd where
 kind : Int
 z : Int
 n : Int
 pos : Int
 d : List Int
deriving DecidableEq, Inhabited
def Cmd.zero : Cmd := ⟨0, 0, 0, 0, []⟩
structure Answer where
 e : Int
 pos : Int
 d : List Int
deriving DecidableEq, Inhabited
def Answer.zero : Answer := ⟨0, 0, []⟩
structure Hand where
 seq : Int
 waits : Bool
 c : Cmd
 got : List Answer
deriving DecidableEq, Inhabited
def Hand.zero : Hand := ⟨0, false, Cmd.zero, []⟩
def uZ (k : Int) : Bool := decide (k <= 7)
def uA (k : Int) : Bool := decide (k = 6) || decide (k = 7)
def uN (k : Int) : Bool := decide (k = 7) || (decide (8 <= k) && (!decide (k = 10) && !decide (k = 12)))
def uD (k : Int) : Bool := decide (k = 5) || decide (k = 6)
def misused (c : Cmd) : Bool := (((!uZ c.kind && !decide (c.z = 0)) || (!uA c.kind && !decide (c.pos = 0))) || (!uN c.kind && !decide (c.n = 0))) || !(uD c.kind == decide (0 < c.d.length))
def checkCmd (c : Cmd) : Int :=
 if c.kind < 1 \/ 12 < c.kind then 4
 else if misused c = true then 4
 else if 8 < c.d.length then 2
 else if (c.z :: c.pos :: c.n :: c.d).any bad = true then 3
 else 0
def checkAnswer (a : Answer) : Int :=
 if a.e < 0 \/ 9 < a.e \/ a.pos < 0 \/ 8 <= a.pos then 3
 else if 8 < a.d.length then 2
 else if a.d.any bad = true then 3
 else if a.e ≠ 0 /\ (a.pos ≠ 0 \/ 0 < a.d.length) then 4
 else 0
def firstBad {α : Type} (f : α -> Int) : List α -> Int
 | [] => 0
 | x :: xs => if f x ≠ 0 then f x else firstBad f xs
def checkHand (h : Hand) : Int :=
 if h.seq < 0 \/ 40 < h.seq then 3
 else if firstBad checkAnswer h.got ≠ 0 then firstBad checkAnswer h.got
 else if (h.got.length : Int) + (if h.waits = true then 1 else 0) ≠ h.seq \/ (h.waits = false /\ h.c ≠ Cmd.zero) then 4
 else if h.waits = true then checkCmd h.c
 else 0
def ask (h : Hand) (c : Cmd) : Hand × Int :=
 if checkHand h ≠ 0 then (Hand.zero, checkHand h)
 else if checkCmd c ≠ 0 then (Hand.zero, checkCmd c)
 else if h.waits = true then (Hand.zero, 6)
 else if h.seq = 40 then (Hand.zero, 2)
 else (⟨h.seq + 1, true, c, h.got⟩, 0)
def hear (h : Hand) (seq : Int) (a : Answer) : Hand × Int :=
 if checkHand h ≠ 0 then (Hand.zero, checkHand h)
 else if checkAnswer a ≠ 0 then (Hand.zero, checkAnswer a)
 else if h.waits = true /\ seq = h.seq then (⟨h.seq, false, Cmd.zero, h.got ++ [a]⟩, 0)
 else (h, 0)
def idx {α : Type} (p : α -> Bool) : List α -> Int
 | [] => -1
 | x :: xs => if p x = true then 0 else if idx p xs < 0 then -1 else idx p xs + 1
def isOpen (z : Zone) : Bool := decide (z.st = 1) || decide (z.st = 2)
def isActive (z : Zone) : Bool := decide (z.st = 1) || (decide (z.st = 2) || decide (z.st = 3))
def checkZones (l : List Zone) : Int :=
 if l.length ≠ 4 then 4
 else if firstBad checkZone l ≠ 0 then firstBad checkZone l
 else if 2 < l.countP isOpen \/ 3 < l.countP isActive then 7
 else 0
def readyZ (l : List Zone) (k : Int) : Int := if checkZones l ≠ 0 then checkZones l else if k < 0 \/ 4 <= k then 5 else 0
def shutZ (z : Zone) : Zone := ⟨if z.d.length = 0 then 0 else 3, z.d⟩
def room (l : List Zone) (n : Nat) : List Zone × Int :=
 let z := l.getD n Zone.zero
 if isOpen z = true then (l, 0)
 else if z.st = 4 then (l, 7)
 else if z.st = 0 /\ l.countP isActive = 3 then (l, 7)
 else if l.countP isOpen < 2 then (l, 0)
 else if idx (fun z => decide (z.st = 1)) l < 0 then (l, 7)
 else (l.set (idx (fun z => decide (z.st = 1)) l).toNat (shutZ (l.getD (idx (fun z => decide (z.st = 1)) l).toNat Zone.zero)), 0)
def holdZ (l : List Zone) (k : Int) : List Zone × Int :=
 if readyZ l k ≠ 0 then ([], readyZ l k)
 else if (room l k.toNat).2 ≠ 0 then ([], (room l k.toNat).2)
 else ((room l k.toNat).1.set k.toNat ⟨2, ((room l k.toNat).1.getD k.toNat Zone.zero).d⟩, 0)
def closeZ (l : List Zone) (k : Int) : List Zone × Int :=
 if readyZ l k ≠ 0 then ([], readyZ l k)
 else if isOpen (l.getD k.toNat Zone.zero) = false then ([], 6)
 else (l.set k.toNat (shutZ (l.getD k.toNat Zone.zero)), 0)
def finishZ (l : List Zone) (k : Int) : List Zone × Int :=
 if readyZ l k ≠ 0 then ([], readyZ l k)
 else (l.set k.toNat ⟨4, (l.getD k.toNat Zone.zero).d⟩, 0)
def resetZ (l : List Zone) (k : Int) : List Zone × Int :=
 if readyZ l k ≠ 0 then ([], readyZ l k)
 else (l.set k.toNat Zone.zero, 0)
def writeZ (l : List Zone) (k : Int) (data : List Int) : List Zone × Int × Int :=
 if readyZ l k ≠ 0 then ([], 0, readyZ l k)
 else
  let z := l.getD k.toNat Zone.zero
  if (writeZone z data).2 ≠ 0 then ([], 0, (writeZone z data).2)
  else if (room l k.toNat).2 ≠ 0 then ([], 0, (room l k.toNat).2)
  else ((room l k.toNat).1.set k.toNat (writeZone z data).1, z.d.length, 0)
structure Desk where
 zs : List Zone
 b : Book
deriving DecidableEq, Inhabited
def Desk.zero : Desk := ⟨[], Book.zero⟩
def Desk.new : Desk := ⟨[Zone.zero, Zone.zero, Zone.zero, Zone.zero], Book.new⟩
def checkDesk (d : Desk) : Int := if checkZones d.zs ≠ 0 then checkZones d.zs else checkBook d.b
def deskZones (zs : List Zone) (c : Cmd) : List Zone × Answer :=
 if c.kind = 1 then ((holdZ zs c.z).1, ⟨(holdZ zs c.z).2, 0, []⟩)
 else if c.kind = 2 then ((closeZ zs c.z).1, ⟨(closeZ zs c.z).2, 0, []⟩)
 else if c.kind = 3 then ((finishZ zs c.z).1, ⟨(finishZ zs c.z).2, 0, []⟩)
 else if c.kind = 4 then ((resetZ zs c.z).1, ⟨(resetZ zs c.z).2, 0, []⟩)
 else if c.kind = 6 /\ c.z < zs.length /\ c.pos ≠ (zs.getD c.z.toNat Zone.zero).d.length then ([], ⟨6, 0, []⟩)
 else if c.kind = 5 \/ c.kind = 6 then ((writeZ zs c.z c.d).1, ⟨(writeZ zs c.z c.d).2.2, (writeZ zs c.z c.d).2.1, []⟩)
 else if (zs.length : Int) <= c.z then ([], ⟨5, 0, []⟩)
 else (zs, ⟨(readZone (zs.getD c.z.toNat Zone.zero) c.pos c.n).2, 0, (readZone (zs.getD c.z.toNat Zone.zero) c.pos c.n).1⟩)
def onBook (b : Book) (kind who n : Int) : Book × Int :=
 if kind = 8 then register b who n
 else if kind = 9 then reserve b who n
 else if kind = 10 then release b who
 else if kind = 11 then preempt b who n
 else clear b who
def doneDesk (d : Desk) (who : Int) (c : Cmd) : Desk × Answer :=
 if 8 <= c.kind then (if (onBook d.b c.kind who c.n).2 = 0 then ⟨d.zs, (onBook d.b c.kind who c.n).1⟩ else d, ⟨(onBook d.b c.kind who c.n).2, 0, []⟩)
 else if might d.b who (!decide (c.kind = 7)) = false then (d, ⟨8, 0, []⟩)
 else (if (deskZones d.zs c).2.e = 0 then ⟨(deskZones d.zs c).1, d.b⟩ else d, (deskZones d.zs c).2)
def doDesk (d : Desk) (who : Int) (c : Cmd) : Desk × Answer × Int :=
 if checkDesk d ≠ 0 then (Desk.zero, Answer.zero, checkDesk d)
 else if who < 0 \/ 3 <= who then (Desk.zero, Answer.zero, 5)
 else if checkCmd c ≠ 0 then (Desk.zero, Answer.zero, checkCmd c)
 else ((doneDesk d who c).1, (doneDesk d who c).2, 0)
structure Last where
 seq : Int
 a : Answer
deriving DecidableEq, Inhabited
def Last.zero : Last := ⟨0, Answer.zero⟩
structure Hall where
 d : Desk
 last : List Last
deriving DecidableEq, Inhabited
def Hall.zero : Hall := ⟨Desk.zero, []⟩
def Hall.new : Hall := ⟨Desk.new, [Last.zero, Last.zero, Last.zero]⟩
structure Rec where
 who : Int
 seq : Int
 c : Cmd
deriving DecidableEq, Inhabited
def Rec.zero : Rec := ⟨0, 0, Cmd.zero⟩
def checkLast (x : Last) : Int :=
 if x.seq < 0 \/ 40 < x.seq then 3
 else if checkAnswer x.a ≠ 0 then checkAnswer x.a
 else if x.seq = 0 /\ x.a ≠ Answer.zero then 4
 else 0
def checkHall (h : Hall) : Int :=
 if checkDesk h.d ≠ 0 then checkDesk h.d
 else if h.last.length ≠ 3 then 4
 else firstBad checkLast h.last
def checkRec (r : Rec) : Int := if r.who < 0 \/ 3 <= r.who \/ r.seq < 1 \/ 40 < r.seq then 3 else checkCmd r.c
def nextedHall (h : Hall) (r : Rec) : Hall × Answer × Int :=
 if r.seq = (h.last.getD r.who.toNat Last.zero).seq then (h, (h.last.getD r.who.toNat Last.zero).a, 0)
 else if r.seq ≠ (h.last.getD r.who.toNat Last.zero).seq + 1 then (Hall.zero, Answer.zero, 6)
 else (⟨(doneDesk h.d r.who r.c).1, h.last.set r.who.toNat ⟨r.seq, (doneDesk h.d r.who r.c).2⟩⟩, (doneDesk h.d r.who r.c).2, 0)
def nextHall (h : Hall) (r : Rec) : Hall × Answer × Int :=
 if checkHall h ≠ 0 then (Hall.zero, Answer.zero, checkHall h)
 else if checkRec r ≠ 0 then (Hall.zero, Answer.zero, checkRec r)
 else nextedHall h r
def replayFrom (h : Hall) : List Rec -> Hall × Int
 | [] => (h, 0)
 | r :: l => if (nextHall h r).2.2 ≠ 0 then (Hall.zero, (nextHall h r).2.2) else replayFrom (nextHall h r).1 l
def replay (l : List Rec) : Hall × Int := if 80 < l.length then (Hall.zero, 2) else replayFrom Hall.new l
end Go.Proofs.YtadmfokicjjglaaGreatDoor.S
