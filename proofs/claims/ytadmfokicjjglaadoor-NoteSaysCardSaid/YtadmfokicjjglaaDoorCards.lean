/-
  DERIVED. GIVEN WITH THE SEED: THE CARDS: each row of YtadmfokicjjglaaDoorRows.lean that lists a variable, with what it lists TIED to the program's text (the seventh form; the later family's looks); each row that meets fmt, with fmt's text TOLD by the authors' own Lean function (tested against real Go, not proved from fmt's source: count such statements apart). THE CARD IS WHAT COUNTS. Prove the row's statement (the work); the ties are given (YtadmfokicjjglaaDoorTie.lean); close each card by the builder's one call (the guide's Derived/Test/ToyasCard.lean, 'card_holds'). Laid BY PROGRAM, IN A SANDBOX (cutbox-door.mjs). By AI agents, Wed Nov 11 2026. No macro, syntax, notation, axiom, sorry.
-/
import Derived.Test.YtadmfokicjjglaaDoorRows
import GoSem.ClaimSeven
namespace Go.Proofs.YtadmfokicjjglaaDoor
namespace Rows

/-- THE TIED CARD OF 'quayhandlaw.CmdSays'. -/
def cmdSaysCard : Claim7 := { stood := { row := cmdSaysRow, standIns := [], harness := (true, "0e3e96b0e877283ae47e95438ac5caf04d64eaaba23b59f208b0f376e3ab1f15"), looks := true }, kinds := [], alts := [], laidByText := true, laidKinds := [.data, .data, .data, .data, .sentinel, .sentinel, .pinned], laidTests := true, laidLooks := .later }
def CmdSaysCardSaid : Prop := Claim7.holds Tryd.pinned (.plain (OpenSpec.ofChange cmdSaysSpec)) cmdSaysCard

/-- THE TIED CARD OF 'quayhandlaw.NoteSays'. -/
def noteSaysCard : Claim7 := { stood := { row := noteSaysRow, standIns := [], harness := (true, "0e3e96b0e877283ae47e95438ac5caf04d64eaaba23b59f208b0f376e3ab1f15"), looks := true }, kinds := [], alts := [], laidByText := true, laidKinds := [.data, .data, .data, .data, .sentinel, .sentinel, .pinned], laidTests := true, laidLooks := .later }
def NoteSaysCardSaid : Prop := Claim7.holds Tryd.pinned (.plain (OpenSpec.ofChange noteSaysSpec)) noteSaysCard

/-- THE SECOND FORM's CARD OF 'quayhandlaw.CmdSays'. -/
def cmdSaysUptoCard : Claim7 := { stood := { row := cmdSaysUptoRow, standIns := [], harness := (true, "0e3e96b0e877283ae47e95438ac5caf04d64eaaba23b59f208b0f376e3ab1f15"), looks := true }, kinds := [], alts := [], laidByText := true, laidKinds := [.data, .data, .data, .data, .sentinel, .sentinel, .pinned], laidTests := true, laidLooks := .later }
def CmdSaysUptoCardSaid : Prop := Claim7.holds Tryd.pinned (.plain (OpenSpec.upto cmdSaysSpec)) cmdSaysUptoCard

/-- THE SECOND FORM's CARD OF 'quayhandlaw.NoteSays'. -/
def noteSaysUptoCard : Claim7 := { stood := { row := noteSaysUptoRow, standIns := [], harness := (true, "0e3e96b0e877283ae47e95438ac5caf04d64eaaba23b59f208b0f376e3ab1f15"), looks := true }, kinds := [], alts := [], laidByText := true, laidKinds := [.data, .data, .data, .data, .sentinel, .sentinel, .pinned], laidTests := true, laidLooks := .later }
def NoteSaysUptoCardSaid : Prop := Claim7.holds Tryd.pinned (.plain (OpenSpec.upto noteSaysSpec)) noteSaysUptoCard
end Rows
end Go.Proofs.YtadmfokicjjglaaDoor
