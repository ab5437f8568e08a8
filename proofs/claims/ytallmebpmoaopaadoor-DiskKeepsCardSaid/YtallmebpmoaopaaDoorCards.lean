/-
  DERIVED. GIVEN WITH THE SEED: THE CARDS: each row of YtallmebpmoaopaaDoorRows.lean that lists a variable, with what it lists TIED to the program's text (the seventh form; the later family's looks); each row that meets fmt, with fmt's text TOLD by the authors' own Lean function (tested against real Go, not proved from fmt's source: count such statements apart). THE CARD IS WHAT COUNTS. Prove the row's statement (the work); the ties are given (YtallmebpmoaopaaDoorTie.lean); close each card by the builder's one call (the guide's Derived/Test/ToyasCard.lean, 'card_holds'). Laid BY PROGRAM, IN A SANDBOX (cutbox-door.mjs). By AI agents, Wed Nov 11 2026. No macro, syntax, notation, axiom, sorry.
-/
import Derived.Test.YtallmebpmoaopaaDoorRows
import GoSem.ClaimSeven
namespace Go.Proofs.YtallmebpmoaopaaDoor
namespace Rows

/-- THE TIED CARD OF 'quayhandlaw.CmdBack'. -/
def cmdBackCard : Claim7 := { stood := { row := cmdBackRow, standIns := [], harness := (true, "f5b1256ddc25032d9fa33dc090e1438cf6755c4c34a3162960d6fff564ff180a"), looks := true }, kinds := [], alts := [], laidByText := true, laidKinds := [.data, .data, .data, .data, .sentinel, .sentinel, .pinned], laidTests := true, laidLooks := .later }
def CmdBackCardSaid : Prop := Claim7.holds Tryd.pinned (.plain (OpenSpec.ofChange cmdBackSpec)) cmdBackCard

/-- THE TIED CARD OF 'quayhandlaw.CmdSays'. -/
def cmdSaysCard : Claim7 := { stood := { row := cmdSaysRow, standIns := [], harness := (true, "f5b1256ddc25032d9fa33dc090e1438cf6755c4c34a3162960d6fff564ff180a"), looks := true }, kinds := [], alts := [], laidByText := true, laidKinds := [.data, .data, .data, .data, .sentinel, .sentinel, .pinned], laidTests := true, laidLooks := .later }
def CmdSaysCardSaid : Prop := Claim7.holds Tryd.pinned (.plain (OpenSpec.ofChange cmdSaysSpec)) cmdSaysCard

/-- THE TIED CARD OF 'quayhandlaw.NoteBack'. -/
def noteBackCard : Claim7 := { stood := { row := noteBackRow, standIns := [], harness := (true, "f5b1256ddc25032d9fa33dc090e1438cf6755c4c34a3162960d6fff564ff180a"), looks := true }, kinds := [], alts := [], laidByText := true, laidKinds := [.data, .data, .data, .data, .sentinel, .sentinel, .pinned], laidTests := true, laidLooks := .later }
def NoteBackCardSaid : Prop := Claim7.holds Tryd.pinned (.plain (OpenSpec.ofChange noteBackSpec)) noteBackCard

/-- THE TIED CARD OF 'quayhandlaw.NoteSays'. -/
def noteSaysCard : Claim7 := { stood := { row := noteSaysRow, standIns := [], harness := (true, "f5b1256ddc25032d9fa33dc090e1438cf6755c4c34a3162960d6fff564ff180a"), looks := true }, kinds := [], alts := [], laidByText := true, laidKinds := [.data, .data, .data, .data, .sentinel, .sentinel, .pinned], laidTests := true, laidLooks := .later }
def NoteSaysCardSaid : Prop := Claim7.holds Tryd.pinned (.plain (OpenSpec.ofChange noteSaysSpec)) noteSaysCard

/-- THE TIED CARD OF 'quayhandlaw.DiskKeeps'. -/
def diskKeepsCard : Claim7 := { stood := { row := diskKeepsRow, standIns := [], harness := (true, "f5b1256ddc25032d9fa33dc090e1438cf6755c4c34a3162960d6fff564ff180a"), looks := true }, kinds := [], alts := [], laidByText := true, laidKinds := [.data, .data, .data, .data, .sentinel, .sentinel, .pinned], laidTests := true, laidLooks := .later }
def DiskKeepsCardSaid : Prop := Claim7.holds Tryd.pinned (.plain (OpenSpec.ofChange diskKeepsSpec)) diskKeepsCard

/-- THE SECOND FORM's CARD OF 'quayhandlaw.CmdBack'. -/
def cmdBackUptoCard : Claim7 := { stood := { row := cmdBackUptoRow, standIns := [], harness := (true, "f5b1256ddc25032d9fa33dc090e1438cf6755c4c34a3162960d6fff564ff180a"), looks := true }, kinds := [], alts := [], laidByText := true, laidKinds := [.data, .data, .data, .data, .sentinel, .sentinel, .pinned], laidTests := true, laidLooks := .later }
def CmdBackUptoCardSaid : Prop := Claim7.holds Tryd.pinned (.plain (OpenSpec.upto cmdBackSpec)) cmdBackUptoCard

/-- THE SECOND FORM's CARD OF 'quayhandlaw.CmdSays'. -/
def cmdSaysUptoCard : Claim7 := { stood := { row := cmdSaysUptoRow, standIns := [], harness := (true, "f5b1256ddc25032d9fa33dc090e1438cf6755c4c34a3162960d6fff564ff180a"), looks := true }, kinds := [], alts := [], laidByText := true, laidKinds := [.data, .data, .data, .data, .sentinel, .sentinel, .pinned], laidTests := true, laidLooks := .later }
def CmdSaysUptoCardSaid : Prop := Claim7.holds Tryd.pinned (.plain (OpenSpec.upto cmdSaysSpec)) cmdSaysUptoCard

/-- THE SECOND FORM's CARD OF 'quayhandlaw.NoteBack'. -/
def noteBackUptoCard : Claim7 := { stood := { row := noteBackUptoRow, standIns := [], harness := (true, "f5b1256ddc25032d9fa33dc090e1438cf6755c4c34a3162960d6fff564ff180a"), looks := true }, kinds := [], alts := [], laidByText := true, laidKinds := [.data, .data, .data, .data, .sentinel, .sentinel, .pinned], laidTests := true, laidLooks := .later }
def NoteBackUptoCardSaid : Prop := Claim7.holds Tryd.pinned (.plain (OpenSpec.upto noteBackSpec)) noteBackUptoCard

/-- THE SECOND FORM's CARD OF 'quayhandlaw.NoteSays'. -/
def noteSaysUptoCard : Claim7 := { stood := { row := noteSaysUptoRow, standIns := [], harness := (true, "f5b1256ddc25032d9fa33dc090e1438cf6755c4c34a3162960d6fff564ff180a"), looks := true }, kinds := [], alts := [], laidByText := true, laidKinds := [.data, .data, .data, .data, .sentinel, .sentinel, .pinned], laidTests := true, laidLooks := .later }
def NoteSaysUptoCardSaid : Prop := Claim7.holds Tryd.pinned (.plain (OpenSpec.upto noteSaysSpec)) noteSaysUptoCard

/-- THE SECOND FORM's CARD OF 'quayhandlaw.DiskKeeps'. -/
def diskKeepsUptoCard : Claim7 := { stood := { row := diskKeepsUptoRow, standIns := [], harness := (true, "f5b1256ddc25032d9fa33dc090e1438cf6755c4c34a3162960d6fff564ff180a"), looks := true }, kinds := [], alts := [], laidByText := true, laidKinds := [.data, .data, .data, .data, .sentinel, .sentinel, .pinned], laidTests := true, laidLooks := .later }
def DiskKeepsUptoCardSaid : Prop := Claim7.holds Tryd.pinned (.plain (OpenSpec.upto diskKeepsSpec)) diskKeepsUptoCard
end Rows
end Go.Proofs.YtallmebpmoaopaaDoor
