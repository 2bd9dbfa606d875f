/-
  DERIVED. GIVEN WITH THE SEED: THE CARDS: each row of YtlfnihnegheaaaaDoorRows.lean that lists a variable, with what it lists TIED to the program's text (the seventh form; the later family's looks); each row that meets fmt, with fmt's text TOLD by the authors' own Lean function (tested against real Go, not proved from fmt's source: count such statements apart). THE CARD IS WHAT COUNTS. Prove the row's statement (the work); the ties are given (YtlfnihnegheaaaaDoorTie.lean); close each card by the builder's one call (the guide's Derived/Test/ToyasCard.lean, 'card_holds'). Laid BY PROGRAM, IN A SANDBOX (cutbox-door.mjs). By AI agents, Wed Nov 11 2026. No macro, syntax, notation, axiom, sorry.
-/
import Derived.Test.YtlfnihnegheaaaaDoorRows
import GoSem.ClaimSeven
namespace Go.Proofs.YtlfnihnegheaaaaDoor
namespace Rows

/-- THE TIED CARD OF 'chandlerylaw08.RichNames'. -/
def richNamesCard : Claim7 := { stood := { row := richNamesRow, standIns := [], harness := (true, "47fa72e22b208cd5e80d0592d435950afdec98d744623e0956f1c746f6473597"), looks := true }, kinds := [], alts := [], laidByText := true, laidKinds := [.data, .data, .data, .sentinel, .sentinel, .mapped, .data, .data], laidTests := true, laidLooks := .later }
def RichNamesCardSaid : Prop := Claim7.holds Tryd.pinned (.plain (OpenSpec.ofChange richNamesSpec)) richNamesCard

/-- THE TIED CARD OF 'chandlerylaw08.RichBack'. -/
def richBackCard : Claim7 := { stood := { row := richBackRow, standIns := [], harness := (true, "47fa72e22b208cd5e80d0592d435950afdec98d744623e0956f1c746f6473597"), looks := true }, kinds := [], alts := [], laidByText := true, laidKinds := [.data, .data, .data, .sentinel, .sentinel, .mapped, .data, .data], laidTests := true, laidLooks := .later }
def RichBackCardSaid : Prop := Claim7.holds Tryd.pinned (.plain (OpenSpec.ofChange richBackSpec)) richBackCard

/-- THE TIED CARD OF 'chandlerylaw08.RichWhole'. -/
def richWholeCard : Claim7 := { stood := { row := richWholeRow, standIns := [], harness := (true, "47fa72e22b208cd5e80d0592d435950afdec98d744623e0956f1c746f6473597"), looks := true }, kinds := [], alts := [], laidByText := true, laidKinds := [.data, .data, .data, .sentinel, .sentinel, .mapped, .data, .data], laidTests := true, laidLooks := .later }
def RichWholeCardSaid : Prop := Claim7.holds Tryd.pinned (.plain (OpenSpec.ofChange richWholeSpec)) richWholeCard

/-- THE TIED CARD OF 'chandlerylaw08.RichParts'. -/
def richPartsCard : Claim7 := { stood := { row := richPartsRow, standIns := [], harness := (true, "47fa72e22b208cd5e80d0592d435950afdec98d744623e0956f1c746f6473597"), looks := true }, kinds := [], alts := [], laidByText := true, laidKinds := [.data, .data, .data, .sentinel, .sentinel, .mapped, .data, .data], laidTests := true, laidLooks := .later }
def RichPartsCardSaid : Prop := Claim7.holds Tryd.pinned (.plain (OpenSpec.ofChange richPartsSpec)) richPartsCard

/-- THE TIED CARD OF 'chandlerylaw08.RichUnlike'. -/
def richUnlikeCard : Claim7 := { stood := { row := richUnlikeRow, standIns := [], harness := (true, "47fa72e22b208cd5e80d0592d435950afdec98d744623e0956f1c746f6473597"), looks := true }, kinds := [], alts := [], laidByText := true, laidKinds := [.data, .data, .data, .sentinel, .sentinel, .mapped, .data, .data], laidTests := true, laidLooks := .later }
def RichUnlikeCardSaid : Prop := Claim7.holds Tryd.pinned (.plain (OpenSpec.ofChange richUnlikeSpec)) richUnlikeCard

/-- THE SECOND FORM's CARD OF 'chandlerylaw08.RichNames'. -/
def richNamesUptoCard : Claim7 := { stood := { row := richNamesUptoRow, standIns := [], harness := (true, "47fa72e22b208cd5e80d0592d435950afdec98d744623e0956f1c746f6473597"), looks := true }, kinds := [], alts := [], laidByText := true, laidKinds := [.data, .data, .data, .sentinel, .sentinel, .mapped, .data, .data], laidTests := true, laidLooks := .later }
def RichNamesUptoCardSaid : Prop := Claim7.holds Tryd.pinned (.plain (OpenSpec.upto richNamesSpec)) richNamesUptoCard

/-- THE SECOND FORM's CARD OF 'chandlerylaw08.RichBack'. -/
def richBackUptoCard : Claim7 := { stood := { row := richBackUptoRow, standIns := [], harness := (true, "47fa72e22b208cd5e80d0592d435950afdec98d744623e0956f1c746f6473597"), looks := true }, kinds := [], alts := [], laidByText := true, laidKinds := [.data, .data, .data, .sentinel, .sentinel, .mapped, .data, .data], laidTests := true, laidLooks := .later }
def RichBackUptoCardSaid : Prop := Claim7.holds Tryd.pinned (.plain (OpenSpec.upto richBackSpec)) richBackUptoCard

/-- THE SECOND FORM's CARD OF 'chandlerylaw08.RichWhole'. -/
def richWholeUptoCard : Claim7 := { stood := { row := richWholeUptoRow, standIns := [], harness := (true, "47fa72e22b208cd5e80d0592d435950afdec98d744623e0956f1c746f6473597"), looks := true }, kinds := [], alts := [], laidByText := true, laidKinds := [.data, .data, .data, .sentinel, .sentinel, .mapped, .data, .data], laidTests := true, laidLooks := .later }
def RichWholeUptoCardSaid : Prop := Claim7.holds Tryd.pinned (.plain (OpenSpec.upto richWholeSpec)) richWholeUptoCard

/-- THE SECOND FORM's CARD OF 'chandlerylaw08.RichParts'. -/
def richPartsUptoCard : Claim7 := { stood := { row := richPartsUptoRow, standIns := [], harness := (true, "47fa72e22b208cd5e80d0592d435950afdec98d744623e0956f1c746f6473597"), looks := true }, kinds := [], alts := [], laidByText := true, laidKinds := [.data, .data, .data, .sentinel, .sentinel, .mapped, .data, .data], laidTests := true, laidLooks := .later }
def RichPartsUptoCardSaid : Prop := Claim7.holds Tryd.pinned (.plain (OpenSpec.upto richPartsSpec)) richPartsUptoCard

/-- THE SECOND FORM's CARD OF 'chandlerylaw08.RichUnlike'. -/
def richUnlikeUptoCard : Claim7 := { stood := { row := richUnlikeUptoRow, standIns := [], harness := (true, "47fa72e22b208cd5e80d0592d435950afdec98d744623e0956f1c746f6473597"), looks := true }, kinds := [], alts := [], laidByText := true, laidKinds := [.data, .data, .data, .sentinel, .sentinel, .mapped, .data, .data], laidTests := true, laidLooks := .later }
def RichUnlikeUptoCardSaid : Prop := Claim7.holds Tryd.pinned (.plain (OpenSpec.upto richUnlikeSpec)) richUnlikeUptoCard
end Rows
end Go.Proofs.YtlfnihnegheaaaaDoor
