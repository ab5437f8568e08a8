/-
  DERIVED. GIVEN WITH THE SEED: THE CARDS: each row of YtallmebpmoaopaaGreatDoorRows.lean that lists a variable, with what it lists TIED to the program's text (the seventh form; the later family's looks); each row that meets fmt, with fmt's text TOLD by the authors' own Lean function (tested against real Go, not proved from fmt's source: count such statements apart). THE CARD IS WHAT COUNTS. Prove the row's statement (the work); the ties are given (YtallmebpmoaopaaGreatDoorTie.lean); close each card by the builder's one call (the guide's Derived/Test/ToyasCard.lean, 'card_holds'). Laid BY PROGRAM, IN A SANDBOX (cutbox-door.mjs). By AI agents, Wed Nov 11 2026. No macro, syntax, notation, axiom, sorry.
-/
import Derived.Test.YtallmebpmoaopaaGreatDoorRows
import GoSem.ClaimSeven
namespace Go.Proofs.YtallmebpmoaopaaGreatDoor
namespace Rows

/-- THE TIED CARD OF 'quayhandlaw.DiskSays'. -/
def diskSaysCard : Claim7 := { stood := { row := diskSaysRow, standIns := [], harness := (true, "a00547d1952124e8eed343bde6526780beeb9b4ef6db8bb84ec0ed338afd8218"), looks := true }, kinds := [], alts := [], laidByText := true, laidKinds := [.data, .data, .data, .data, .sentinel, .sentinel, .pinned], laidTests := true, laidLooks := .later }
def DiskSaysCardSaid : Prop := Claim7.holds Tryz.pinned (.plain (OpenSpec.ofChange diskSaysSpec)) diskSaysCard

/-- THE TIED CARD OF 'quayhandlaw.HallParts'. -/
def hallPartsCard : Claim7 := { stood := { row := hallPartsRow, standIns := [], harness := (true, "a00547d1952124e8eed343bde6526780beeb9b4ef6db8bb84ec0ed338afd8218"), looks := true }, kinds := [], alts := [], laidByText := true, laidKinds := [.data, .data, .data, .data, .sentinel, .sentinel, .pinned], laidTests := true, laidLooks := .later }
def HallPartsCardSaid : Prop := Claim7.holds Tryz.pinned (.plain (OpenSpec.ofChange hallPartsSpec)) hallPartsCard

/-- THE SECOND FORM's CARD OF 'quayhandlaw.DiskSays'. -/
def diskSaysUptoCard : Claim7 := { stood := { row := diskSaysUptoRow, standIns := [], harness := (true, "a00547d1952124e8eed343bde6526780beeb9b4ef6db8bb84ec0ed338afd8218"), looks := true }, kinds := [], alts := [], laidByText := true, laidKinds := [.data, .data, .data, .data, .sentinel, .sentinel, .pinned], laidTests := true, laidLooks := .later }
def DiskSaysUptoCardSaid : Prop := Claim7.holds Tryz.pinned (.plain (OpenSpec.upto diskSaysSpec)) diskSaysUptoCard

/-- THE SECOND FORM's CARD OF 'quayhandlaw.HallParts'. -/
def hallPartsUptoCard : Claim7 := { stood := { row := hallPartsUptoRow, standIns := [], harness := (true, "a00547d1952124e8eed343bde6526780beeb9b4ef6db8bb84ec0ed338afd8218"), looks := true }, kinds := [], alts := [], laidByText := true, laidKinds := [.data, .data, .data, .data, .sentinel, .sentinel, .pinned], laidTests := true, laidLooks := .later }
def HallPartsUptoCardSaid : Prop := Claim7.holds Tryz.pinned (.plain (OpenSpec.upto hallPartsSpec)) hallPartsUptoCard
end Rows
end Go.Proofs.YtallmebpmoaopaaGreatDoor
