/-
  No cell of these rows narrows 'for every input' (looked for: loops, veiled, ifaces, maps, wideKeys, modest, calm, conditions, laid).
  DERIVED. THE GIVEN ROWS OF THIS SEAT. 18 by the template 'for every input the law returns true; each argument reads behind the call as it read before'; 0 by the template 'total and deterministic' (their statements: YtdjdjnmccphbjaaTotals.lean).
  GIVEN WITH THE SEED: the statements are not yours to turn. If you find one false, say at which input.
  Laid BY PROGRAM, IN A SANDBOX (cutbox-rows.mjs): the forced cells as the released guide's own fill.sh prints them over the translation 14604879a8da57ee… (all of the seat's roots in one cut). By AI agents, Wed Nov 11 2026. No macro, syntax, notation, axiom, sorry.
-/
import Derived.Test.YtdjdjnmccphbjaaChecked
import GoSem.Claim
import GoSem.ClaimJoined
import GoSem.ClaimMapViews
import Derived.JoinedTies
import Derived.KernelRfl
namespace Go.Proofs.Ytdjdjnmccphbjaa
/- THE CELL 'sum', in the pinned program and in every row, IS THE sha256 OF THE DUMP (.gsa) THAT YtdjdjnmccphbjaaProg.lean LOADS. Nothing in Lean hashes anything: it is a label: what it is worth is what the hold of that sum in a sandbox is worth. -/
noncomputable def Try.pinned : Pinned := { name := "ytdjdjnmccphbjaa", sum := "14604879a8da57eea4d33b383fa2973908d4909a7048452b2735e6c5d429e461", checked := Try.checked }
namespace Rows
def none {H : Type} : Left H := { results := [], args := [] }

/-- 'quayhandlaw.Names': WHATEVER THE INPUT: true; the input reads as it did. -/
def namesSpec : ChangeSpec := { name := "names", fn := fun _ => fun
  | [] => { results := [.lit (.bool true)], args := [] }
  | _ => none }
def namesRow : OpenClaim := { program := "ytdjdjnmccphbjaa", sum := "14604879a8da57eea4d33b383fa2973908d4909a7048452b2735e6c5d429e461", func := "quayhand/quayhandlaw.Names", spec := "names", apart := false }
def NamesSaid : Prop := namesRow.holds Try.pinned (OpenSpec.ofChange namesSpec)

/-- ITS FALSE NEIGHBOUR: 'it returns false'. Refute it at one input. -/
def namesWrong : ChangeSpec := { name := "names", fn := fun _ => fun
  | [] => { results := [.lit (.bool false)], args := [] }
  | _ => none }
def NamesWrongFalsely : Prop := namesRow.holds Try.pinned (OpenSpec.ofChange namesWrong)

/-- 'quayhandlaw.BookSays': WHATEVER THE INPUT: true; the input reads as it did. -/
def bookSaysSpec : ChangeSpec := { name := "bookSays", fn := fun _ => fun
  | [d1, d2, d3, d4, d5] => { results := [.lit (.bool true)], args := [d1, d2, d3, d4, d5] }
  | _ => none }
def bookSaysRow : OpenClaim := { program := "ytdjdjnmccphbjaa", sum := "14604879a8da57eea4d33b383fa2973908d4909a7048452b2735e6c5d429e461", func := "quayhand/quayhandlaw.BookSays", spec := "bookSays", unfollowed := true, recurses := true, apart := false }
def BookSaysSaid : Prop := bookSaysRow.holds Try.pinned (OpenSpec.ofChange bookSaysSpec)

/-- ITS FALSE NEIGHBOUR: 'it returns false'. Refute it at one input. -/
def bookSaysWrong : ChangeSpec := { name := "bookSays", fn := fun _ => fun
  | [d1, d2, d3, d4, d5] => { results := [.lit (.bool false)], args := [d1, d2, d3, d4, d5] }
  | _ => none }
def BookSaysWrongFalsely : Prop := bookSaysRow.holds Try.pinned (OpenSpec.ofChange bookSaysWrong)

/-- 'quayhandlaw.BookHolds': WHATEVER THE INPUT: true; the input reads as it did. -/
def bookHoldsSpec : ChangeSpec := { name := "bookHolds", fn := fun _ => fun
  | [d1, d2, d3, d4] => { results := [.lit (.bool true)], args := [d1, d2, d3, d4] }
  | _ => none }
def bookHoldsRow : OpenClaim := { program := "ytdjdjnmccphbjaa", sum := "14604879a8da57eea4d33b383fa2973908d4909a7048452b2735e6c5d429e461", func := "quayhand/quayhandlaw.BookHolds", spec := "bookHolds", apart := false }
def BookHoldsSaid : Prop := bookHoldsRow.holds Try.pinned (OpenSpec.ofChange bookHoldsSpec)

/-- ITS FALSE NEIGHBOUR: 'it returns false'. Refute it at one input. -/
def bookHoldsWrong : ChangeSpec := { name := "bookHolds", fn := fun _ => fun
  | [d1, d2, d3, d4] => { results := [.lit (.bool false)], args := [d1, d2, d3, d4] }
  | _ => none }
def BookHoldsWrongFalsely : Prop := bookHoldsRow.holds Try.pinned (OpenSpec.ofChange bookHoldsWrong)

/-- 'quayhandlaw.BookAlone': WHATEVER THE INPUT: true; the input reads as it did. -/
def bookAloneSpec : ChangeSpec := { name := "bookAlone", fn := fun _ => fun
  | [d1, d2, d3, d4] => { results := [.lit (.bool true)], args := [d1, d2, d3, d4] }
  | _ => none }
def bookAloneRow : OpenClaim := { program := "ytdjdjnmccphbjaa", sum := "14604879a8da57eea4d33b383fa2973908d4909a7048452b2735e6c5d429e461", func := "quayhand/quayhandlaw.BookAlone", spec := "bookAlone", apart := false }
def BookAloneSaid : Prop := bookAloneRow.holds Try.pinned (OpenSpec.ofChange bookAloneSpec)

/-- ITS FALSE NEIGHBOUR: 'it returns false'. Refute it at one input. -/
def bookAloneWrong : ChangeSpec := { name := "bookAlone", fn := fun _ => fun
  | [d1, d2, d3, d4] => { results := [.lit (.bool false)], args := [d1, d2, d3, d4] }
  | _ => none }
def BookAloneWrongFalsely : Prop := bookAloneRow.holds Try.pinned (OpenSpec.ofChange bookAloneWrong)

/-- 'quayhandlaw.HandTurns': WHATEVER THE INPUT: true; the input reads as it did. -/
def handTurnsSpec : ChangeSpec := { name := "handTurns", fn := fun _ => fun
  | [d1, d2, d3] => { results := [.lit (.bool true)], args := [d1, d2, d3] }
  | _ => none }
def handTurnsRow : OpenClaim := { program := "ytdjdjnmccphbjaa", sum := "14604879a8da57eea4d33b383fa2973908d4909a7048452b2735e6c5d429e461", func := "quayhand/quayhandlaw.HandTurns", spec := "handTurns", unfollowed := true, recurses := true, apart := false }
def HandTurnsSaid : Prop := handTurnsRow.holds Try.pinned (OpenSpec.ofChange handTurnsSpec)

/-- ITS FALSE NEIGHBOUR: 'it returns false'. Refute it at one input. -/
def handTurnsWrong : ChangeSpec := { name := "handTurns", fn := fun _ => fun
  | [d1, d2, d3] => { results := [.lit (.bool false)], args := [d1, d2, d3] }
  | _ => none }
def HandTurnsWrongFalsely : Prop := handTurnsRow.holds Try.pinned (OpenSpec.ofChange handTurnsWrong)

/-- 'quayhandlaw.HandWaits': WHATEVER THE INPUT: true; the input reads as it did. -/
def handWaitsSpec : ChangeSpec := { name := "handWaits", fn := fun _ => fun
  | [d1, d2, d3] => { results := [.lit (.bool true)], args := [d1, d2, d3] }
  | _ => none }
def handWaitsRow : OpenClaim := { program := "ytdjdjnmccphbjaa", sum := "14604879a8da57eea4d33b383fa2973908d4909a7048452b2735e6c5d429e461", func := "quayhand/quayhandlaw.HandWaits", spec := "handWaits", unfollowed := true, recurses := true, apart := false }
def HandWaitsSaid : Prop := handWaitsRow.holds Try.pinned (OpenSpec.ofChange handWaitsSpec)

/-- ITS FALSE NEIGHBOUR: 'it returns false'. Refute it at one input. -/
def handWaitsWrong : ChangeSpec := { name := "handWaits", fn := fun _ => fun
  | [d1, d2, d3] => { results := [.lit (.bool false)], args := [d1, d2, d3] }
  | _ => none }
def HandWaitsWrongFalsely : Prop := handWaitsRow.holds Try.pinned (OpenSpec.ofChange handWaitsWrong)

/-- 'quayhandlaw.YardFew': WHATEVER THE INPUT: true; the input reads as it did. -/
def yardFewSpec : ChangeSpec := { name := "yardFew", fn := fun _ => fun
  | [d1, d2, d3, d4] => { results := [.lit (.bool true)], args := [d1, d2, d3, d4] }
  | _ => none }
def yardFewRow : OpenClaim := { program := "ytdjdjnmccphbjaa", sum := "14604879a8da57eea4d33b383fa2973908d4909a7048452b2735e6c5d429e461", func := "quayhand/quayhandlaw.YardFew", spec := "yardFew", unfollowed := true, recurses := true, apart := false }
def YardFewSaid : Prop := yardFewRow.holds Try.pinned (OpenSpec.ofChange yardFewSpec)

/-- ITS FALSE NEIGHBOUR: 'it returns false'. Refute it at one input. -/
def yardFewWrong : ChangeSpec := { name := "yardFew", fn := fun _ => fun
  | [d1, d2, d3, d4] => { results := [.lit (.bool false)], args := [d1, d2, d3, d4] }
  | _ => none }
def YardFewWrongFalsely : Prop := yardFewRow.holds Try.pinned (OpenSpec.ofChange yardFewWrong)

/-- 'quayhandlaw.YardOthers': WHATEVER THE INPUT: true; the input reads as it did. -/
def yardOthersSpec : ChangeSpec := { name := "yardOthers", fn := fun _ => fun
  | [d1, d2, d3, d4] => { results := [.lit (.bool true)], args := [d1, d2, d3, d4] }
  | _ => none }
def yardOthersRow : OpenClaim := { program := "ytdjdjnmccphbjaa", sum := "14604879a8da57eea4d33b383fa2973908d4909a7048452b2735e6c5d429e461", func := "quayhand/quayhandlaw.YardOthers", spec := "yardOthers", unfollowed := true, recurses := true, apart := false }
def YardOthersSaid : Prop := yardOthersRow.holds Try.pinned (OpenSpec.ofChange yardOthersSpec)

/-- ITS FALSE NEIGHBOUR: 'it returns false'. Refute it at one input. -/
def yardOthersWrong : ChangeSpec := { name := "yardOthers", fn := fun _ => fun
  | [d1, d2, d3, d4] => { results := [.lit (.bool false)], args := [d1, d2, d3, d4] }
  | _ => none }
def YardOthersWrongFalsely : Prop := yardOthersRow.holds Try.pinned (OpenSpec.ofChange yardOthersWrong)

/-- 'quayhandlaw.YardWrites': WHATEVER THE INPUT: true; the input reads as it did. -/
def yardWritesSpec : ChangeSpec := { name := "yardWrites", fn := fun _ => fun
  | [d1, d2, d3] => { results := [.lit (.bool true)], args := [d1, d2, d3] }
  | _ => none }
def yardWritesRow : OpenClaim := { program := "ytdjdjnmccphbjaa", sum := "14604879a8da57eea4d33b383fa2973908d4909a7048452b2735e6c5d429e461", func := "quayhand/quayhandlaw.YardWrites", spec := "yardWrites", unfollowed := true, recurses := true, apart := false }
def YardWritesSaid : Prop := yardWritesRow.holds Try.pinned (OpenSpec.ofChange yardWritesSpec)

/-- ITS FALSE NEIGHBOUR: 'it returns false'. Refute it at one input. -/
def yardWritesWrong : ChangeSpec := { name := "yardWrites", fn := fun _ => fun
  | [d1, d2, d3] => { results := [.lit (.bool false)], args := [d1, d2, d3] }
  | _ => none }
def YardWritesWrongFalsely : Prop := yardWritesRow.holds Try.pinned (OpenSpec.ofChange yardWritesWrong)

/-- 'quayhandlaw.YardSays': WHATEVER THE INPUT: true; the input reads as it did. -/
def yardSaysSpec : ChangeSpec := { name := "yardSays", fn := fun _ => fun
  | [d1, d2, d3, d4] => { results := [.lit (.bool true)], args := [d1, d2, d3, d4] }
  | _ => none }
def yardSaysRow : OpenClaim := { program := "ytdjdjnmccphbjaa", sum := "14604879a8da57eea4d33b383fa2973908d4909a7048452b2735e6c5d429e461", func := "quayhand/quayhandlaw.YardSays", spec := "yardSays", unfollowed := true, recurses := true, apart := false }
def YardSaysSaid : Prop := yardSaysRow.holds Try.pinned (OpenSpec.ofChange yardSaysSpec)

/-- ITS FALSE NEIGHBOUR: 'it returns false'. Refute it at one input. -/
def yardSaysWrong : ChangeSpec := { name := "yardSays", fn := fun _ => fun
  | [d1, d2, d3, d4] => { results := [.lit (.bool false)], args := [d1, d2, d3, d4] }
  | _ => none }
def YardSaysWrongFalsely : Prop := yardSaysRow.holds Try.pinned (OpenSpec.ofChange yardSaysWrong)

/-- 'quayhandlaw.HandSays': WHATEVER THE INPUT: true; the input reads as it did. -/
def handSaysSpec : ChangeSpec := { name := "handSays", fn := fun _ => fun
  | [d1, d2, d3, d4, d5] => { results := [.lit (.bool true)], args := [d1, d2, d3, d4, d5] }
  | _ => none }
def handSaysRow : OpenClaim := { program := "ytdjdjnmccphbjaa", sum := "14604879a8da57eea4d33b383fa2973908d4909a7048452b2735e6c5d429e461", func := "quayhand/quayhandlaw.HandSays", spec := "handSays", inPlace := ["internal/bytealg.IndexByteString", "internal/bytealg.IndexString"], unfollowed := true, recurses := true, named := ["internal/bytealg.MaxLen"], apart := false }
def HandSaysSaid : Prop := handSaysRow.holds Try.pinned (OpenSpec.ofChange handSaysSpec)

/-- ITS FALSE NEIGHBOUR: 'it returns false'. Refute it at one input. -/
def handSaysWrong : ChangeSpec := { name := "handSays", fn := fun _ => fun
  | [d1, d2, d3, d4, d5] => { results := [.lit (.bool false)], args := [d1, d2, d3, d4, d5] }
  | _ => none }
def HandSaysWrongFalsely : Prop := handSaysRow.holds Try.pinned (OpenSpec.ofChange handSaysWrong)

/-- 'quayhandlaw.DeskMay': WHATEVER THE INPUT: true; the input reads as it did. -/
def deskMaySpec : ChangeSpec := { name := "deskMay", fn := fun _ => fun
  | [d1, d2, d3, d4] => { results := [.lit (.bool true)], args := [d1, d2, d3, d4] }
  | _ => none }
def deskMayRow : OpenClaim := { program := "ytdjdjnmccphbjaa", sum := "14604879a8da57eea4d33b383fa2973908d4909a7048452b2735e6c5d429e461", func := "quayhand/quayhandlaw.DeskMay", spec := "deskMay", unfollowed := true, recurses := true, apart := false }
def DeskMaySaid : Prop := deskMayRow.holds Try.pinned (OpenSpec.ofChange deskMaySpec)

/-- ITS FALSE NEIGHBOUR: 'it returns false'. Refute it at one input. -/
def deskMayWrong : ChangeSpec := { name := "deskMay", fn := fun _ => fun
  | [d1, d2, d3, d4] => { results := [.lit (.bool false)], args := [d1, d2, d3, d4] }
  | _ => none }
def DeskMayWrongFalsely : Prop := deskMayRow.holds Try.pinned (OpenSpec.ofChange deskMayWrong)

/-- 'quayhandlaw.DeskReads': WHATEVER THE INPUT: true; the input reads as it did. -/
def deskReadsSpec : ChangeSpec := { name := "deskReads", fn := fun _ => fun
  | [d1, d2, d3, d4, d5, d6] => { results := [.lit (.bool true)], args := [d1, d2, d3, d4, d5, d6] }
  | _ => none }
def deskReadsRow : OpenClaim := { program := "ytdjdjnmccphbjaa", sum := "14604879a8da57eea4d33b383fa2973908d4909a7048452b2735e6c5d429e461", func := "quayhand/quayhandlaw.DeskReads", spec := "deskReads", unfollowed := true, recurses := true, apart := false }
def DeskReadsSaid : Prop := deskReadsRow.holds Try.pinned (OpenSpec.ofChange deskReadsSpec)

/-- ITS FALSE NEIGHBOUR: 'it returns false'. Refute it at one input. -/
def deskReadsWrong : ChangeSpec := { name := "deskReads", fn := fun _ => fun
  | [d1, d2, d3, d4, d5, d6] => { results := [.lit (.bool false)], args := [d1, d2, d3, d4, d5, d6] }
  | _ => none }
def DeskReadsWrongFalsely : Prop := deskReadsRow.holds Try.pinned (OpenSpec.ofChange deskReadsWrong)

/-- 'quayhandlaw.HallOnce': WHATEVER THE INPUT: true; the input reads as it did. -/
def hallOnceSpec : ChangeSpec := { name := "hallOnce", fn := fun _ => fun
  | [d1, d2, d3] => { results := [.lit (.bool true)], args := [d1, d2, d3] }
  | _ => none }
def hallOnceRow : OpenClaim := { program := "ytdjdjnmccphbjaa", sum := "14604879a8da57eea4d33b383fa2973908d4909a7048452b2735e6c5d429e461", func := "quayhand/quayhandlaw.HallOnce", spec := "hallOnce", unfollowed := true, recurses := true, apart := false }
def HallOnceSaid : Prop := hallOnceRow.holds Try.pinned (OpenSpec.ofChange hallOnceSpec)

/-- ITS FALSE NEIGHBOUR: 'it returns false'. Refute it at one input. -/
def hallOnceWrong : ChangeSpec := { name := "hallOnce", fn := fun _ => fun
  | [d1, d2, d3] => { results := [.lit (.bool false)], args := [d1, d2, d3] }
  | _ => none }
def HallOnceWrongFalsely : Prop := hallOnceRow.holds Try.pinned (OpenSpec.ofChange hallOnceWrong)

/-- 'quayhandlaw.HallOthers': WHATEVER THE INPUT: true; the input reads as it did. -/
def hallOthersSpec : ChangeSpec := { name := "hallOthers", fn := fun _ => fun
  | [d1, d2] => { results := [.lit (.bool true)], args := [d1, d2] }
  | _ => none }
def hallOthersRow : OpenClaim := { program := "ytdjdjnmccphbjaa", sum := "14604879a8da57eea4d33b383fa2973908d4909a7048452b2735e6c5d429e461", func := "quayhand/quayhandlaw.HallOthers", spec := "hallOthers", unfollowed := true, recurses := true, apart := false }
def HallOthersSaid : Prop := hallOthersRow.holds Try.pinned (OpenSpec.ofChange hallOthersSpec)

/-- ITS FALSE NEIGHBOUR: 'it returns false'. Refute it at one input. -/
def hallOthersWrong : ChangeSpec := { name := "hallOthers", fn := fun _ => fun
  | [d1, d2] => { results := [.lit (.bool false)], args := [d1, d2] }
  | _ => none }
def HallOthersWrongFalsely : Prop := hallOthersRow.holds Try.pinned (OpenSpec.ofChange hallOthersWrong)

/-- 'quayhandlaw.TallyAll': WHATEVER THE INPUT: true; the input reads as it did. -/
def tallyAllSpec : ChangeSpec := { name := "tallyAll", fn := fun _ => fun
  | [d1, d2, d3] => { results := [.lit (.bool true)], args := [d1, d2, d3] }
  | _ => none }
def tallyAllRow : OpenClaim := { program := "ytdjdjnmccphbjaa", sum := "14604879a8da57eea4d33b383fa2973908d4909a7048452b2735e6c5d429e461", func := "quayhand/quayhandlaw.TallyAll", spec := "tallyAll", unfollowed := true, recurses := true, apart := false }
def TallyAllSaid : Prop := tallyAllRow.holds Try.pinned (OpenSpec.ofChange tallyAllSpec)

/-- ITS FALSE NEIGHBOUR: 'it returns false'. Refute it at one input. -/
def tallyAllWrong : ChangeSpec := { name := "tallyAll", fn := fun _ => fun
  | [d1, d2, d3] => { results := [.lit (.bool false)], args := [d1, d2, d3] }
  | _ => none }
def TallyAllWrongFalsely : Prop := tallyAllRow.holds Try.pinned (OpenSpec.ofChange tallyAllWrong)

/-- 'quayhandlaw.DeskSays': WHATEVER THE INPUT: true; the input reads as it did. -/
def deskSaysSpec : ChangeSpec := { name := "deskSays", fn := fun _ => fun
  | [d1, d2, d3, d4, d5] => { results := [.lit (.bool true)], args := [d1, d2, d3, d4, d5] }
  | _ => none }
def deskSaysRow : OpenClaim := { program := "ytdjdjnmccphbjaa", sum := "14604879a8da57eea4d33b383fa2973908d4909a7048452b2735e6c5d429e461", func := "quayhand/quayhandlaw.DeskSays", spec := "deskSays", inPlace := ["internal/bytealg.IndexByteString", "internal/bytealg.IndexString"], unfollowed := true, recurses := true, named := ["internal/bytealg.MaxLen"], apart := false }
def DeskSaysSaid : Prop := deskSaysRow.holds Try.pinned (OpenSpec.ofChange deskSaysSpec)

/-- ITS FALSE NEIGHBOUR: 'it returns false'. Refute it at one input. -/
def deskSaysWrong : ChangeSpec := { name := "deskSays", fn := fun _ => fun
  | [d1, d2, d3, d4, d5] => { results := [.lit (.bool false)], args := [d1, d2, d3, d4, d5] }
  | _ => none }
def DeskSaysWrongFalsely : Prop := deskSaysRow.holds Try.pinned (OpenSpec.ofChange deskSaysWrong)

/-- 'quayhandlaw.TallySays': WHATEVER THE INPUT: true; the input reads as it did. -/
def tallySaysSpec : ChangeSpec := { name := "tallySays", fn := fun _ => fun
  | [d1, d2] => { results := [.lit (.bool true)], args := [d1, d2] }
  | _ => none }
def tallySaysRow : OpenClaim := { program := "ytdjdjnmccphbjaa", sum := "14604879a8da57eea4d33b383fa2973908d4909a7048452b2735e6c5d429e461", func := "quayhand/quayhandlaw.TallySays", spec := "tallySays", inPlace := ["internal/bytealg.IndexByteString", "internal/bytealg.IndexString"], unfollowed := true, recurses := true, named := ["internal/bytealg.MaxLen"], apart := false }
def TallySaysSaid : Prop := tallySaysRow.holds Try.pinned (OpenSpec.ofChange tallySaysSpec)

/-- ITS FALSE NEIGHBOUR: 'it returns false'. Refute it at one input. -/
def tallySaysWrong : ChangeSpec := { name := "tallySays", fn := fun _ => fun
  | [d1, d2] => { results := [.lit (.bool false)], args := [d1, d2] }
  | _ => none }
def TallySaysWrongFalsely : Prop := tallySaysRow.holds Try.pinned (OpenSpec.ofChange tallySaysWrong)

/- THE SECOND FORM. 'bulk': how many values and letters a reading holds, each counted each time it is reached (what is shared counts as often as it is met; a slice's spare places count too). A statement '..UptoSaid' is the law's where the arguments, and the package variables that the reading takes, are together of bulk at most 1048576: NARROWER than '..Said'. Prove '..Said' where nothing that the law and all that it calls make is longer than what came in: it says more and counts as full. Else prove '..UptoSaid'. A law counts once. -/
mutual
def uptoBulk {H : Type} : DataW H → Nat
  | .lit (.string bytes) => bytes.length + 1
  | .lit _ => 1
  | .nil => 1
  | .ptr d => uptoBulk d + 1
  | .slice elems spare => uptoBulkAll elems + uptoBulkAll spare + 1
  | .agg parts => uptoBulkAll parts + 1
  | .iface _ d => uptoBulk d + 1
  | .map entries => uptoBulkEntries entries + 1
  | .held _ => 1
def uptoBulkAll {H : Type} : List (DataW H) → Nat
  | [] => 0
  | d :: r => uptoBulk d + uptoBulkAll r
def uptoBulkEntries {H : Type} : List (Lit × DataW H) → Nat
  | [] => 0
  | x :: r => uptoBulkEntry x + uptoBulkEntries r
def uptoBulkEntry {H : Type} : Lit × DataW H → Nat
  | (.string bytes, d) => bytes.length + uptoBulk d + 1
  | (_, d) => uptoBulk d + 1
 end
def uptoSmall : (H : Type) → List (DataW H) → Bool := fun _ ds => decide (uptoBulkAll ds ≤ 1048576)
def OpenSpec.upto (s : _root_.Go.ChangeSpec) : _root_.Go.OpenSpec := { _root_.Go.OpenSpec.ofChange s with cond := some uptoSmall }

/-- 'quayhandlaw.Names', WHERE WHAT IT READS IS OF BULK AT MOST 1048576: true; the input reads as it did. -/
def namesUptoRow : OpenClaim := { program := "ytdjdjnmccphbjaa", sum := "14604879a8da57eea4d33b383fa2973908d4909a7048452b2735e6c5d429e461", func := "quayhand/quayhandlaw.Names", spec := "names", apart := false, narrowed := true }
def NamesUptoSaid : Prop := namesUptoRow.holds Try.pinned (OpenSpec.upto namesSpec)

/-- 'quayhandlaw.BookSays', WHERE WHAT IT READS IS OF BULK AT MOST 1048576: true; the input reads as it did. -/
def bookSaysUptoRow : OpenClaim := { program := "ytdjdjnmccphbjaa", sum := "14604879a8da57eea4d33b383fa2973908d4909a7048452b2735e6c5d429e461", func := "quayhand/quayhandlaw.BookSays", spec := "bookSays", unfollowed := true, recurses := true, apart := false, narrowed := true }
def BookSaysUptoSaid : Prop := bookSaysUptoRow.holds Try.pinned (OpenSpec.upto bookSaysSpec)

/-- 'quayhandlaw.BookHolds', WHERE WHAT IT READS IS OF BULK AT MOST 1048576: true; the input reads as it did. -/
def bookHoldsUptoRow : OpenClaim := { program := "ytdjdjnmccphbjaa", sum := "14604879a8da57eea4d33b383fa2973908d4909a7048452b2735e6c5d429e461", func := "quayhand/quayhandlaw.BookHolds", spec := "bookHolds", apart := false, narrowed := true }
def BookHoldsUptoSaid : Prop := bookHoldsUptoRow.holds Try.pinned (OpenSpec.upto bookHoldsSpec)

/-- 'quayhandlaw.BookAlone', WHERE WHAT IT READS IS OF BULK AT MOST 1048576: true; the input reads as it did. -/
def bookAloneUptoRow : OpenClaim := { program := "ytdjdjnmccphbjaa", sum := "14604879a8da57eea4d33b383fa2973908d4909a7048452b2735e6c5d429e461", func := "quayhand/quayhandlaw.BookAlone", spec := "bookAlone", apart := false, narrowed := true }
def BookAloneUptoSaid : Prop := bookAloneUptoRow.holds Try.pinned (OpenSpec.upto bookAloneSpec)

/-- 'quayhandlaw.HandTurns', WHERE WHAT IT READS IS OF BULK AT MOST 1048576: true; the input reads as it did. -/
def handTurnsUptoRow : OpenClaim := { program := "ytdjdjnmccphbjaa", sum := "14604879a8da57eea4d33b383fa2973908d4909a7048452b2735e6c5d429e461", func := "quayhand/quayhandlaw.HandTurns", spec := "handTurns", unfollowed := true, recurses := true, apart := false, narrowed := true }
def HandTurnsUptoSaid : Prop := handTurnsUptoRow.holds Try.pinned (OpenSpec.upto handTurnsSpec)

/-- 'quayhandlaw.HandWaits', WHERE WHAT IT READS IS OF BULK AT MOST 1048576: true; the input reads as it did. -/
def handWaitsUptoRow : OpenClaim := { program := "ytdjdjnmccphbjaa", sum := "14604879a8da57eea4d33b383fa2973908d4909a7048452b2735e6c5d429e461", func := "quayhand/quayhandlaw.HandWaits", spec := "handWaits", unfollowed := true, recurses := true, apart := false, narrowed := true }
def HandWaitsUptoSaid : Prop := handWaitsUptoRow.holds Try.pinned (OpenSpec.upto handWaitsSpec)

/-- 'quayhandlaw.YardFew', WHERE WHAT IT READS IS OF BULK AT MOST 1048576: true; the input reads as it did. -/
def yardFewUptoRow : OpenClaim := { program := "ytdjdjnmccphbjaa", sum := "14604879a8da57eea4d33b383fa2973908d4909a7048452b2735e6c5d429e461", func := "quayhand/quayhandlaw.YardFew", spec := "yardFew", unfollowed := true, recurses := true, apart := false, narrowed := true }
def YardFewUptoSaid : Prop := yardFewUptoRow.holds Try.pinned (OpenSpec.upto yardFewSpec)

/-- 'quayhandlaw.YardOthers', WHERE WHAT IT READS IS OF BULK AT MOST 1048576: true; the input reads as it did. -/
def yardOthersUptoRow : OpenClaim := { program := "ytdjdjnmccphbjaa", sum := "14604879a8da57eea4d33b383fa2973908d4909a7048452b2735e6c5d429e461", func := "quayhand/quayhandlaw.YardOthers", spec := "yardOthers", unfollowed := true, recurses := true, apart := false, narrowed := true }
def YardOthersUptoSaid : Prop := yardOthersUptoRow.holds Try.pinned (OpenSpec.upto yardOthersSpec)

/-- 'quayhandlaw.YardWrites', WHERE WHAT IT READS IS OF BULK AT MOST 1048576: true; the input reads as it did. -/
def yardWritesUptoRow : OpenClaim := { program := "ytdjdjnmccphbjaa", sum := "14604879a8da57eea4d33b383fa2973908d4909a7048452b2735e6c5d429e461", func := "quayhand/quayhandlaw.YardWrites", spec := "yardWrites", unfollowed := true, recurses := true, apart := false, narrowed := true }
def YardWritesUptoSaid : Prop := yardWritesUptoRow.holds Try.pinned (OpenSpec.upto yardWritesSpec)

/-- 'quayhandlaw.YardSays', WHERE WHAT IT READS IS OF BULK AT MOST 1048576: true; the input reads as it did. -/
def yardSaysUptoRow : OpenClaim := { program := "ytdjdjnmccphbjaa", sum := "14604879a8da57eea4d33b383fa2973908d4909a7048452b2735e6c5d429e461", func := "quayhand/quayhandlaw.YardSays", spec := "yardSays", unfollowed := true, recurses := true, apart := false, narrowed := true }
def YardSaysUptoSaid : Prop := yardSaysUptoRow.holds Try.pinned (OpenSpec.upto yardSaysSpec)

/-- 'quayhandlaw.HandSays', WHERE WHAT IT READS IS OF BULK AT MOST 1048576: true; the input reads as it did. -/
def handSaysUptoRow : OpenClaim := { program := "ytdjdjnmccphbjaa", sum := "14604879a8da57eea4d33b383fa2973908d4909a7048452b2735e6c5d429e461", func := "quayhand/quayhandlaw.HandSays", spec := "handSays", inPlace := ["internal/bytealg.IndexByteString", "internal/bytealg.IndexString"], unfollowed := true, recurses := true, named := ["internal/bytealg.MaxLen"], apart := false, narrowed := true }
def HandSaysUptoSaid : Prop := handSaysUptoRow.holds Try.pinned (OpenSpec.upto handSaysSpec)

/-- 'quayhandlaw.DeskMay', WHERE WHAT IT READS IS OF BULK AT MOST 1048576: true; the input reads as it did. -/
def deskMayUptoRow : OpenClaim := { program := "ytdjdjnmccphbjaa", sum := "14604879a8da57eea4d33b383fa2973908d4909a7048452b2735e6c5d429e461", func := "quayhand/quayhandlaw.DeskMay", spec := "deskMay", unfollowed := true, recurses := true, apart := false, narrowed := true }
def DeskMayUptoSaid : Prop := deskMayUptoRow.holds Try.pinned (OpenSpec.upto deskMaySpec)

/-- 'quayhandlaw.DeskReads', WHERE WHAT IT READS IS OF BULK AT MOST 1048576: true; the input reads as it did. -/
def deskReadsUptoRow : OpenClaim := { program := "ytdjdjnmccphbjaa", sum := "14604879a8da57eea4d33b383fa2973908d4909a7048452b2735e6c5d429e461", func := "quayhand/quayhandlaw.DeskReads", spec := "deskReads", unfollowed := true, recurses := true, apart := false, narrowed := true }
def DeskReadsUptoSaid : Prop := deskReadsUptoRow.holds Try.pinned (OpenSpec.upto deskReadsSpec)

/-- 'quayhandlaw.HallOnce', WHERE WHAT IT READS IS OF BULK AT MOST 1048576: true; the input reads as it did. -/
def hallOnceUptoRow : OpenClaim := { program := "ytdjdjnmccphbjaa", sum := "14604879a8da57eea4d33b383fa2973908d4909a7048452b2735e6c5d429e461", func := "quayhand/quayhandlaw.HallOnce", spec := "hallOnce", unfollowed := true, recurses := true, apart := false, narrowed := true }
def HallOnceUptoSaid : Prop := hallOnceUptoRow.holds Try.pinned (OpenSpec.upto hallOnceSpec)

/-- 'quayhandlaw.HallOthers', WHERE WHAT IT READS IS OF BULK AT MOST 1048576: true; the input reads as it did. -/
def hallOthersUptoRow : OpenClaim := { program := "ytdjdjnmccphbjaa", sum := "14604879a8da57eea4d33b383fa2973908d4909a7048452b2735e6c5d429e461", func := "quayhand/quayhandlaw.HallOthers", spec := "hallOthers", unfollowed := true, recurses := true, apart := false, narrowed := true }
def HallOthersUptoSaid : Prop := hallOthersUptoRow.holds Try.pinned (OpenSpec.upto hallOthersSpec)

/-- 'quayhandlaw.TallyAll', WHERE WHAT IT READS IS OF BULK AT MOST 1048576: true; the input reads as it did. -/
def tallyAllUptoRow : OpenClaim := { program := "ytdjdjnmccphbjaa", sum := "14604879a8da57eea4d33b383fa2973908d4909a7048452b2735e6c5d429e461", func := "quayhand/quayhandlaw.TallyAll", spec := "tallyAll", unfollowed := true, recurses := true, apart := false, narrowed := true }
def TallyAllUptoSaid : Prop := tallyAllUptoRow.holds Try.pinned (OpenSpec.upto tallyAllSpec)

/-- 'quayhandlaw.DeskSays', WHERE WHAT IT READS IS OF BULK AT MOST 1048576: true; the input reads as it did. -/
def deskSaysUptoRow : OpenClaim := { program := "ytdjdjnmccphbjaa", sum := "14604879a8da57eea4d33b383fa2973908d4909a7048452b2735e6c5d429e461", func := "quayhand/quayhandlaw.DeskSays", spec := "deskSays", inPlace := ["internal/bytealg.IndexByteString", "internal/bytealg.IndexString"], unfollowed := true, recurses := true, named := ["internal/bytealg.MaxLen"], apart := false, narrowed := true }
def DeskSaysUptoSaid : Prop := deskSaysUptoRow.holds Try.pinned (OpenSpec.upto deskSaysSpec)

/-- 'quayhandlaw.TallySays', WHERE WHAT IT READS IS OF BULK AT MOST 1048576: true; the input reads as it did. -/
def tallySaysUptoRow : OpenClaim := { program := "ytdjdjnmccphbjaa", sum := "14604879a8da57eea4d33b383fa2973908d4909a7048452b2735e6c5d429e461", func := "quayhand/quayhandlaw.TallySays", spec := "tallySays", inPlace := ["internal/bytealg.IndexByteString", "internal/bytealg.IndexString"], unfollowed := true, recurses := true, named := ["internal/bytealg.MaxLen"], apart := false, narrowed := true }
def TallySaysUptoSaid : Prop := tallySaysUptoRow.holds Try.pinned (OpenSpec.upto tallySaysSpec)

end Rows
end Go.Proofs.Ytdjdjnmccphbjaa
