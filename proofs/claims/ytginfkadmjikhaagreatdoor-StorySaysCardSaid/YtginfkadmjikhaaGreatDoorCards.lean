/-
  DERIVED. GIVEN WITH THE SEED: THE CARDS: each row of YtginfkadmjikhaaGreatDoorRows.lean that lists a variable, with what it lists TIED to the program's text (the seventh form; the later family's looks); each row that meets fmt, with fmt's text TOLD by the authors' own Lean function (tested against real Go, not proved from fmt's source: count such statements apart). THE CARD IS WHAT COUNTS. Prove the row's statement (the work); the ties are given (YtginfkadmjikhaaGreatDoorTie.lean); close each card by the builder's one call (the guide's Derived/Test/ToyasCard.lean, 'card_holds'). Laid BY PROGRAM, IN A SANDBOX (cutbox-door.mjs). By AI agents, Wed Nov 11 2026. No macro, syntax, notation, axiom, sorry.
-/
import Derived.Test.YtginfkadmjikhaaGreatDoorRows
import GoSem.ClaimSeven
namespace Go.Proofs.YtginfkadmjikhaaGreatDoor
namespace Rows

/-- THE TIED CARD OF 'quayhandlaw.WorldDoes'. -/
def worldDoesCard : Claim7 := { stood := { row := worldDoesRow, standIns := [], harness := (true, "86a21a9a9f757274e33db40126e0f344fce4325e8aeaa586140384b382f71a33"), looks := true }, kinds := [], alts := [], laidByText := true, laidKinds := [.data, .data, .data, .data, .sentinel, .sentinel, .pinned], laidTests := true, laidLooks := .later }
def WorldDoesCardSaid : Prop := Claim7.holds Tryz.pinned (.plain (OpenSpec.ofChange worldDoesSpec)) worldDoesCard

/-- THE TIED CARD OF 'quayhandlaw.StorySays'. -/
def storySaysCard : Claim7 := { stood := { row := storySaysRow, standIns := [], harness := (true, "86a21a9a9f757274e33db40126e0f344fce4325e8aeaa586140384b382f71a33"), looks := true }, kinds := [], alts := [], laidByText := true, laidKinds := [.data, .data, .data, .data, .sentinel, .sentinel, .pinned], laidTests := true, laidLooks := .later }
def StorySaysCardSaid : Prop := Claim7.holds Tryz.pinned (.plain (OpenSpec.ofChange storySaysSpec)) storySaysCard

/-- THE TIED CARD OF 'quayhandlaw.WorldParts'. -/
def worldPartsCard : Claim7 := { stood := { row := worldPartsRow, standIns := [], harness := (true, "86a21a9a9f757274e33db40126e0f344fce4325e8aeaa586140384b382f71a33"), looks := true }, kinds := [], alts := [], laidByText := true, laidKinds := [.data, .data, .data, .data, .sentinel, .sentinel, .pinned], laidTests := true, laidLooks := .later }
def WorldPartsCardSaid : Prop := Claim7.holds Tryz.pinned (.plain (OpenSpec.ofChange worldPartsSpec)) worldPartsCard

/-- THE TIED CARD OF 'quayhandlaw.WorldKeeps'. -/
def worldKeepsCard : Claim7 := { stood := { row := worldKeepsRow, standIns := [], harness := (true, "86a21a9a9f757274e33db40126e0f344fce4325e8aeaa586140384b382f71a33"), looks := true }, kinds := [], alts := [], laidByText := true, laidKinds := [.data, .data, .data, .data, .sentinel, .sentinel, .pinned], laidTests := true, laidLooks := .later }
def WorldKeepsCardSaid : Prop := Claim7.holds Tryz.pinned (.plain (OpenSpec.ofChange worldKeepsSpec)) worldKeepsCard

/-- THE TIED CARD OF 'quayhandlaw.WorldTwice'. -/
def worldTwiceCard : Claim7 := { stood := { row := worldTwiceRow, standIns := [], harness := (true, "86a21a9a9f757274e33db40126e0f344fce4325e8aeaa586140384b382f71a33"), looks := true }, kinds := [], alts := [], laidByText := true, laidKinds := [.data, .data, .data, .data, .sentinel, .sentinel, .pinned], laidTests := true, laidLooks := .later }
def WorldTwiceCardSaid : Prop := Claim7.holds Tryz.pinned (.plain (OpenSpec.ofChange worldTwiceSpec)) worldTwiceCard

/-- THE TIED CARD OF 'quayhandlaw.WorldStands'. -/
def worldStandsCard : Claim7 := { stood := { row := worldStandsRow, standIns := [], harness := (true, "86a21a9a9f757274e33db40126e0f344fce4325e8aeaa586140384b382f71a33"), looks := true }, kinds := [], alts := [], laidByText := true, laidKinds := [.data, .data, .data, .data, .sentinel, .sentinel, .pinned], laidTests := true, laidLooks := .later }
def WorldStandsCardSaid : Prop := Claim7.holds Tryz.pinned (.plain (OpenSpec.ofChange worldStandsSpec)) worldStandsCard

/-- THE TIED CARD OF 'quayhandlaw.StoryOnce'. -/
def storyOnceCard : Claim7 := { stood := { row := storyOnceRow, standIns := [], harness := (true, "86a21a9a9f757274e33db40126e0f344fce4325e8aeaa586140384b382f71a33"), looks := true }, kinds := [], alts := [], laidByText := true, laidKinds := [.data, .data, .data, .data, .sentinel, .sentinel, .pinned], laidTests := true, laidLooks := .later }
def StoryOnceCardSaid : Prop := Claim7.holds Tryz.pinned (.plain (OpenSpec.ofChange storyOnceSpec)) storyOnceCard

/-- THE TIED CARD OF 'quayhandlaw.StoryStands'. -/
def storyStandsCard : Claim7 := { stood := { row := storyStandsRow, standIns := [], harness := (true, "86a21a9a9f757274e33db40126e0f344fce4325e8aeaa586140384b382f71a33"), looks := true }, kinds := [], alts := [], laidByText := true, laidKinds := [.data, .data, .data, .data, .sentinel, .sentinel, .pinned], laidTests := true, laidLooks := .later }
def StoryStandsCardSaid : Prop := Claim7.holds Tryz.pinned (.plain (OpenSpec.ofChange storyStandsSpec)) storyStandsCard

/-- THE TIED CARD OF 'quayhandlaw.StoryKeys'. -/
def storyKeysCard : Claim7 := { stood := { row := storyKeysRow, standIns := [], harness := (true, "86a21a9a9f757274e33db40126e0f344fce4325e8aeaa586140384b382f71a33"), looks := true }, kinds := [], alts := [], laidByText := true, laidKinds := [.data, .data, .data, .data, .sentinel, .sentinel, .pinned], laidTests := true, laidLooks := .later }
def StoryKeysCardSaid : Prop := Claim7.holds Tryz.pinned (.plain (OpenSpec.ofChange storyKeysSpec)) storyKeysCard

/-- THE TIED CARD OF 'quayhandlaw.StoryCalm'. -/
def storyCalmCard : Claim7 := { stood := { row := storyCalmRow, standIns := [], harness := (true, "86a21a9a9f757274e33db40126e0f344fce4325e8aeaa586140384b382f71a33"), looks := true }, kinds := [], alts := [], laidByText := true, laidKinds := [.data, .data, .data, .data, .sentinel, .sentinel, .pinned], laidTests := true, laidLooks := .later }
def StoryCalmCardSaid : Prop := Claim7.holds Tryz.pinned (.plain (OpenSpec.ofChange storyCalmSpec)) storyCalmCard

/-- THE TIED CARD OF 'quayhandlaw.WorldRuns'. -/
def worldRunsCard : Claim7 := { stood := { row := worldRunsRow, standIns := [], harness := (true, "86a21a9a9f757274e33db40126e0f344fce4325e8aeaa586140384b382f71a33"), looks := true }, kinds := [], alts := [], laidByText := true, laidKinds := [.data, .data, .data, .data, .sentinel, .sentinel, .pinned], laidTests := true, laidLooks := .later }
def WorldRunsCardSaid : Prop := Claim7.holds Tryz.pinned (.plain (OpenSpec.ofChange worldRunsSpec)) worldRunsCard

/-- THE TIED CARD OF 'quayhandlaw.StoryGrows'. -/
def storyGrowsCard : Claim7 := { stood := { row := storyGrowsRow, standIns := [], harness := (true, "86a21a9a9f757274e33db40126e0f344fce4325e8aeaa586140384b382f71a33"), looks := true }, kinds := [], alts := [], laidByText := true, laidKinds := [.data, .data, .data, .data, .sentinel, .sentinel, .pinned], laidTests := true, laidLooks := .later }
def StoryGrowsCardSaid : Prop := Claim7.holds Tryz.pinned (.plain (OpenSpec.ofChange storyGrowsSpec)) storyGrowsCard

/-- THE SECOND FORM's CARD OF 'quayhandlaw.WorldDoes'. -/
def worldDoesUptoCard : Claim7 := { stood := { row := worldDoesUptoRow, standIns := [], harness := (true, "86a21a9a9f757274e33db40126e0f344fce4325e8aeaa586140384b382f71a33"), looks := true }, kinds := [], alts := [], laidByText := true, laidKinds := [.data, .data, .data, .data, .sentinel, .sentinel, .pinned], laidTests := true, laidLooks := .later }
def WorldDoesUptoCardSaid : Prop := Claim7.holds Tryz.pinned (.plain (OpenSpec.upto worldDoesSpec)) worldDoesUptoCard

/-- THE SECOND FORM's CARD OF 'quayhandlaw.StorySays'. -/
def storySaysUptoCard : Claim7 := { stood := { row := storySaysUptoRow, standIns := [], harness := (true, "86a21a9a9f757274e33db40126e0f344fce4325e8aeaa586140384b382f71a33"), looks := true }, kinds := [], alts := [], laidByText := true, laidKinds := [.data, .data, .data, .data, .sentinel, .sentinel, .pinned], laidTests := true, laidLooks := .later }
def StorySaysUptoCardSaid : Prop := Claim7.holds Tryz.pinned (.plain (OpenSpec.upto storySaysSpec)) storySaysUptoCard

/-- THE SECOND FORM's CARD OF 'quayhandlaw.WorldParts'. -/
def worldPartsUptoCard : Claim7 := { stood := { row := worldPartsUptoRow, standIns := [], harness := (true, "86a21a9a9f757274e33db40126e0f344fce4325e8aeaa586140384b382f71a33"), looks := true }, kinds := [], alts := [], laidByText := true, laidKinds := [.data, .data, .data, .data, .sentinel, .sentinel, .pinned], laidTests := true, laidLooks := .later }
def WorldPartsUptoCardSaid : Prop := Claim7.holds Tryz.pinned (.plain (OpenSpec.upto worldPartsSpec)) worldPartsUptoCard

/-- THE SECOND FORM's CARD OF 'quayhandlaw.WorldKeeps'. -/
def worldKeepsUptoCard : Claim7 := { stood := { row := worldKeepsUptoRow, standIns := [], harness := (true, "86a21a9a9f757274e33db40126e0f344fce4325e8aeaa586140384b382f71a33"), looks := true }, kinds := [], alts := [], laidByText := true, laidKinds := [.data, .data, .data, .data, .sentinel, .sentinel, .pinned], laidTests := true, laidLooks := .later }
def WorldKeepsUptoCardSaid : Prop := Claim7.holds Tryz.pinned (.plain (OpenSpec.upto worldKeepsSpec)) worldKeepsUptoCard

/-- THE SECOND FORM's CARD OF 'quayhandlaw.WorldTwice'. -/
def worldTwiceUptoCard : Claim7 := { stood := { row := worldTwiceUptoRow, standIns := [], harness := (true, "86a21a9a9f757274e33db40126e0f344fce4325e8aeaa586140384b382f71a33"), looks := true }, kinds := [], alts := [], laidByText := true, laidKinds := [.data, .data, .data, .data, .sentinel, .sentinel, .pinned], laidTests := true, laidLooks := .later }
def WorldTwiceUptoCardSaid : Prop := Claim7.holds Tryz.pinned (.plain (OpenSpec.upto worldTwiceSpec)) worldTwiceUptoCard

/-- THE SECOND FORM's CARD OF 'quayhandlaw.WorldStands'. -/
def worldStandsUptoCard : Claim7 := { stood := { row := worldStandsUptoRow, standIns := [], harness := (true, "86a21a9a9f757274e33db40126e0f344fce4325e8aeaa586140384b382f71a33"), looks := true }, kinds := [], alts := [], laidByText := true, laidKinds := [.data, .data, .data, .data, .sentinel, .sentinel, .pinned], laidTests := true, laidLooks := .later }
def WorldStandsUptoCardSaid : Prop := Claim7.holds Tryz.pinned (.plain (OpenSpec.upto worldStandsSpec)) worldStandsUptoCard

/-- THE SECOND FORM's CARD OF 'quayhandlaw.StoryOnce'. -/
def storyOnceUptoCard : Claim7 := { stood := { row := storyOnceUptoRow, standIns := [], harness := (true, "86a21a9a9f757274e33db40126e0f344fce4325e8aeaa586140384b382f71a33"), looks := true }, kinds := [], alts := [], laidByText := true, laidKinds := [.data, .data, .data, .data, .sentinel, .sentinel, .pinned], laidTests := true, laidLooks := .later }
def StoryOnceUptoCardSaid : Prop := Claim7.holds Tryz.pinned (.plain (OpenSpec.upto storyOnceSpec)) storyOnceUptoCard

/-- THE SECOND FORM's CARD OF 'quayhandlaw.StoryStands'. -/
def storyStandsUptoCard : Claim7 := { stood := { row := storyStandsUptoRow, standIns := [], harness := (true, "86a21a9a9f757274e33db40126e0f344fce4325e8aeaa586140384b382f71a33"), looks := true }, kinds := [], alts := [], laidByText := true, laidKinds := [.data, .data, .data, .data, .sentinel, .sentinel, .pinned], laidTests := true, laidLooks := .later }
def StoryStandsUptoCardSaid : Prop := Claim7.holds Tryz.pinned (.plain (OpenSpec.upto storyStandsSpec)) storyStandsUptoCard

/-- THE SECOND FORM's CARD OF 'quayhandlaw.StoryKeys'. -/
def storyKeysUptoCard : Claim7 := { stood := { row := storyKeysUptoRow, standIns := [], harness := (true, "86a21a9a9f757274e33db40126e0f344fce4325e8aeaa586140384b382f71a33"), looks := true }, kinds := [], alts := [], laidByText := true, laidKinds := [.data, .data, .data, .data, .sentinel, .sentinel, .pinned], laidTests := true, laidLooks := .later }
def StoryKeysUptoCardSaid : Prop := Claim7.holds Tryz.pinned (.plain (OpenSpec.upto storyKeysSpec)) storyKeysUptoCard

/-- THE SECOND FORM's CARD OF 'quayhandlaw.StoryCalm'. -/
def storyCalmUptoCard : Claim7 := { stood := { row := storyCalmUptoRow, standIns := [], harness := (true, "86a21a9a9f757274e33db40126e0f344fce4325e8aeaa586140384b382f71a33"), looks := true }, kinds := [], alts := [], laidByText := true, laidKinds := [.data, .data, .data, .data, .sentinel, .sentinel, .pinned], laidTests := true, laidLooks := .later }
def StoryCalmUptoCardSaid : Prop := Claim7.holds Tryz.pinned (.plain (OpenSpec.upto storyCalmSpec)) storyCalmUptoCard

/-- THE SECOND FORM's CARD OF 'quayhandlaw.WorldRuns'. -/
def worldRunsUptoCard : Claim7 := { stood := { row := worldRunsUptoRow, standIns := [], harness := (true, "86a21a9a9f757274e33db40126e0f344fce4325e8aeaa586140384b382f71a33"), looks := true }, kinds := [], alts := [], laidByText := true, laidKinds := [.data, .data, .data, .data, .sentinel, .sentinel, .pinned], laidTests := true, laidLooks := .later }
def WorldRunsUptoCardSaid : Prop := Claim7.holds Tryz.pinned (.plain (OpenSpec.upto worldRunsSpec)) worldRunsUptoCard

/-- THE SECOND FORM's CARD OF 'quayhandlaw.StoryGrows'. -/
def storyGrowsUptoCard : Claim7 := { stood := { row := storyGrowsUptoRow, standIns := [], harness := (true, "86a21a9a9f757274e33db40126e0f344fce4325e8aeaa586140384b382f71a33"), looks := true }, kinds := [], alts := [], laidByText := true, laidKinds := [.data, .data, .data, .data, .sentinel, .sentinel, .pinned], laidTests := true, laidLooks := .later }
def StoryGrowsUptoCardSaid : Prop := Claim7.holds Tryz.pinned (.plain (OpenSpec.upto storyGrowsSpec)) storyGrowsUptoCard
end Rows
end Go.Proofs.YtginfkadmjikhaaGreatDoor
