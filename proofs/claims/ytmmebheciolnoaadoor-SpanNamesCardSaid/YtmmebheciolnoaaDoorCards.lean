/-
  DERIVED. GIVEN WITH THE SEED: THE CARDS: each row of YtmmebheciolnoaaDoorRows.lean that lists a variable, with what it lists TIED to the program's text (the seventh form; the later family's looks); each row that meets fmt, with fmt's text TOLD by the authors' own Lean function (tested against real Go, not proved from fmt's source: count such statements apart). THE CARD IS WHAT COUNTS. Prove the row's statement (the work); the ties are given (YtmmebheciolnoaaDoorTie.lean); close each card by the builder's one call (the guide's Derived/Test/ToyasCard.lean, 'card_holds'). Laid BY PROGRAM, IN A SANDBOX (cutbox-door.mjs). By AI agents, Wed Nov 11 2026. No macro, syntax, notation, axiom, sorry.
-/
import Derived.Test.YtmmebheciolnoaaDoorRows
import GoSem.ClaimSeven
namespace Go.Proofs.YtmmebheciolnoaaDoor
namespace Rows

/-- THE TIED CARD OF 'chandlerylaw02.VercmpSorts'. -/
def vercmpSortsCard : Claim7 := { stood := { row := vercmpSortsRow, standIns := [], harness := (true, "323c0f3e99b9c8940fa53843815257b6c1e123b2dc7b5828e043786aa597c32d"), looks := true }, kinds := [], alts := [], laidByText := true, laidKinds := [.data, .pinned], laidTests := true, laidLooks := .later }
def VercmpSortsCardSaid : Prop := Claim7.holds Tryd.pinned (.plain (OpenSpec.ofChange vercmpSortsSpec)) vercmpSortsCard

/-- THE TIED CARD OF 'chandlerylaw02.VercmpNames'. -/
def vercmpNamesCard : Claim7 := { stood := { row := vercmpNamesRow, standIns := [], harness := (true, "323c0f3e99b9c8940fa53843815257b6c1e123b2dc7b5828e043786aa597c32d"), looks := true }, kinds := [], alts := [], laidByText := true, laidKinds := [.data, .pinned], laidTests := true, laidLooks := .later }
def VercmpNamesCardSaid : Prop := Claim7.holds Tryd.pinned (.plain (OpenSpec.ofChange vercmpNamesSpec)) vercmpNamesCard

/-- THE TIED CARD OF 'chandlerylaw04.SpanNames'. -/
def spanNamesCard : Claim7 := { stood := { row := spanNamesRow, standIns := [], harness := (true, "323c0f3e99b9c8940fa53843815257b6c1e123b2dc7b5828e043786aa597c32d"), looks := true }, kinds := [], alts := [], laidByText := true, laidKinds := [.data, .mapped, .pinned], laidTests := true, laidLooks := .later }
def SpanNamesCardSaid : Prop := Claim7.holds Tryd.pinned (.plain (OpenSpec.ofChange spanNamesSpec)) spanNamesCard

/-- THE TIED CARD OF 'chandlerylaw06.DepReads'. -/
def depReadsCard : Claim7 := { stood := { row := depReadsRow, standIns := [], harness := (true, "323c0f3e99b9c8940fa53843815257b6c1e123b2dc7b5828e043786aa597c32d"), looks := true }, kinds := [], alts := [], laidByText := true, laidKinds := [.data, .data, .data, .data, .sentinel, .sentinel, .mapped, .data, .pinned], laidTests := true, laidLooks := .later }
def DepReadsCardSaid : Prop := Claim7.holds Tryd.pinned (.plain (OpenSpec.ofChange depReadsSpec)) depReadsCard

/-- THE TIED CARD OF 'chandlerylaw06.DepParts'. -/
def depPartsCard : Claim7 := { stood := { row := depPartsRow, standIns := [], harness := (true, "323c0f3e99b9c8940fa53843815257b6c1e123b2dc7b5828e043786aa597c32d"), looks := true }, kinds := [], alts := [], laidByText := true, laidKinds := [.data, .data, .data, .data, .sentinel, .sentinel, .mapped, .data, .pinned], laidTests := true, laidLooks := .later }
def DepPartsCardSaid : Prop := Claim7.holds Tryd.pinned (.plain (OpenSpec.ofChange depPartsSpec)) depPartsCard

/-- THE TIED CARD OF 'chandlerylaw06.DepBack'. -/
def depBackCard : Claim7 := { stood := { row := depBackRow, standIns := [], harness := (true, "323c0f3e99b9c8940fa53843815257b6c1e123b2dc7b5828e043786aa597c32d"), looks := true }, kinds := [], alts := [], laidByText := true, laidKinds := [.data, .data, .data, .data, .sentinel, .sentinel, .mapped, .data, .pinned], laidTests := true, laidLooks := .later }
def DepBackCardSaid : Prop := Claim7.holds Tryd.pinned (.plain (OpenSpec.ofChange depBackSpec)) depBackCard

/-- THE TIED CARD OF 'chandlerylaw06.DepSpace'. -/
def depSpaceCard : Claim7 := { stood := { row := depSpaceRow, standIns := [], harness := (true, "323c0f3e99b9c8940fa53843815257b6c1e123b2dc7b5828e043786aa597c32d"), looks := true }, kinds := [], alts := [], laidByText := true, laidKinds := [.data, .data, .data, .data, .sentinel, .sentinel, .mapped, .data, .pinned], laidTests := true, laidLooks := .later }
def DepSpaceCardSaid : Prop := Claim7.holds Tryd.pinned (.plain (OpenSpec.ofChange depSpaceSpec)) depSpaceCard

/-- THE TIED CARD OF 'chandlerylaw06.DepTells'. -/
def depTellsCard : Claim7 := { stood := { row := depTellsRow, standIns := [], harness := (true, "323c0f3e99b9c8940fa53843815257b6c1e123b2dc7b5828e043786aa597c32d"), looks := true }, kinds := [], alts := [], laidByText := true, laidKinds := [.data, .data, .data, .data, .sentinel, .sentinel, .mapped, .data, .pinned], laidTests := true, laidLooks := .later }
def DepTellsCardSaid : Prop := Claim7.holds Tryd.pinned (.plain (OpenSpec.ofChange depTellsSpec)) depTellsCard

/-- THE TIED CARD OF 'chandlerylaw06.DepNames'. -/
def depNamesCard : Claim7 := { stood := { row := depNamesRow, standIns := [], harness := (true, "323c0f3e99b9c8940fa53843815257b6c1e123b2dc7b5828e043786aa597c32d"), looks := true }, kinds := [], alts := [], laidByText := true, laidKinds := [.data, .data, .data, .data, .sentinel, .sentinel, .mapped, .data, .pinned], laidTests := true, laidLooks := .later }
def DepNamesCardSaid : Prop := Claim7.holds Tryd.pinned (.plain (OpenSpec.ofChange depNamesSpec)) depNamesCard

/-- THE TIED CARD OF 'chandlerylaw08.RichNames'. -/
def richNamesCard : Claim7 := { stood := { row := richNamesRow, standIns := [], harness := (true, "323c0f3e99b9c8940fa53843815257b6c1e123b2dc7b5828e043786aa597c32d"), looks := true }, kinds := [], alts := [], laidByText := true, laidKinds := [.data, .data, .data, .sentinel, .sentinel, .mapped, .data, .data], laidTests := true, laidLooks := .later }
def RichNamesCardSaid : Prop := Claim7.holds Tryd.pinned (.plain (OpenSpec.ofChange richNamesSpec)) richNamesCard

/-- THE TIED CARD OF 'chandlerylaw08.RichBack'. -/
def richBackCard : Claim7 := { stood := { row := richBackRow, standIns := [], harness := (true, "323c0f3e99b9c8940fa53843815257b6c1e123b2dc7b5828e043786aa597c32d"), looks := true }, kinds := [], alts := [], laidByText := true, laidKinds := [.data, .data, .data, .sentinel, .sentinel, .mapped, .data, .data], laidTests := true, laidLooks := .later }
def RichBackCardSaid : Prop := Claim7.holds Tryd.pinned (.plain (OpenSpec.ofChange richBackSpec)) richBackCard

/-- THE TIED CARD OF 'chandlerylaw08.RichWhole'. -/
def richWholeCard : Claim7 := { stood := { row := richWholeRow, standIns := [], harness := (true, "323c0f3e99b9c8940fa53843815257b6c1e123b2dc7b5828e043786aa597c32d"), looks := true }, kinds := [], alts := [], laidByText := true, laidKinds := [.data, .data, .data, .sentinel, .sentinel, .mapped, .data, .data], laidTests := true, laidLooks := .later }
def RichWholeCardSaid : Prop := Claim7.holds Tryd.pinned (.plain (OpenSpec.ofChange richWholeSpec)) richWholeCard

/-- THE TIED CARD OF 'chandlerylaw08.RichParts'. -/
def richPartsCard : Claim7 := { stood := { row := richPartsRow, standIns := [], harness := (true, "323c0f3e99b9c8940fa53843815257b6c1e123b2dc7b5828e043786aa597c32d"), looks := true }, kinds := [], alts := [], laidByText := true, laidKinds := [.data, .data, .data, .sentinel, .sentinel, .mapped, .data, .data], laidTests := true, laidLooks := .later }
def RichPartsCardSaid : Prop := Claim7.holds Tryd.pinned (.plain (OpenSpec.ofChange richPartsSpec)) richPartsCard

/-- THE TIED CARD OF 'chandlerylaw08.RichUnlike'. -/
def richUnlikeCard : Claim7 := { stood := { row := richUnlikeRow, standIns := [], harness := (true, "323c0f3e99b9c8940fa53843815257b6c1e123b2dc7b5828e043786aa597c32d"), looks := true }, kinds := [], alts := [], laidByText := true, laidKinds := [.data, .data, .data, .sentinel, .sentinel, .mapped, .data, .data], laidTests := true, laidLooks := .later }
def RichUnlikeCardSaid : Prop := Claim7.holds Tryd.pinned (.plain (OpenSpec.ofChange richUnlikeSpec)) richUnlikeCard

/-- THE SECOND FORM's CARD OF 'chandlerylaw02.VercmpSorts'. -/
def vercmpSortsUptoCard : Claim7 := { stood := { row := vercmpSortsUptoRow, standIns := [], harness := (true, "323c0f3e99b9c8940fa53843815257b6c1e123b2dc7b5828e043786aa597c32d"), looks := true }, kinds := [], alts := [], laidByText := true, laidKinds := [.data, .pinned], laidTests := true, laidLooks := .later }
def VercmpSortsUptoCardSaid : Prop := Claim7.holds Tryd.pinned (.plain (OpenSpec.upto vercmpSortsSpec)) vercmpSortsUptoCard

/-- THE SECOND FORM's CARD OF 'chandlerylaw02.VercmpNames'. -/
def vercmpNamesUptoCard : Claim7 := { stood := { row := vercmpNamesUptoRow, standIns := [], harness := (true, "323c0f3e99b9c8940fa53843815257b6c1e123b2dc7b5828e043786aa597c32d"), looks := true }, kinds := [], alts := [], laidByText := true, laidKinds := [.data, .pinned], laidTests := true, laidLooks := .later }
def VercmpNamesUptoCardSaid : Prop := Claim7.holds Tryd.pinned (.plain (OpenSpec.upto vercmpNamesSpec)) vercmpNamesUptoCard

/-- THE SECOND FORM's CARD OF 'chandlerylaw04.SpanNames'. -/
def spanNamesUptoCard : Claim7 := { stood := { row := spanNamesUptoRow, standIns := [], harness := (true, "323c0f3e99b9c8940fa53843815257b6c1e123b2dc7b5828e043786aa597c32d"), looks := true }, kinds := [], alts := [], laidByText := true, laidKinds := [.data, .mapped, .pinned], laidTests := true, laidLooks := .later }
def SpanNamesUptoCardSaid : Prop := Claim7.holds Tryd.pinned (.plain (OpenSpec.upto spanNamesSpec)) spanNamesUptoCard

/-- THE SECOND FORM's CARD OF 'chandlerylaw06.DepReads'. -/
def depReadsUptoCard : Claim7 := { stood := { row := depReadsUptoRow, standIns := [], harness := (true, "323c0f3e99b9c8940fa53843815257b6c1e123b2dc7b5828e043786aa597c32d"), looks := true }, kinds := [], alts := [], laidByText := true, laidKinds := [.data, .data, .data, .data, .sentinel, .sentinel, .mapped, .data, .pinned], laidTests := true, laidLooks := .later }
def DepReadsUptoCardSaid : Prop := Claim7.holds Tryd.pinned (.plain (OpenSpec.upto depReadsSpec)) depReadsUptoCard

/-- THE SECOND FORM's CARD OF 'chandlerylaw06.DepParts'. -/
def depPartsUptoCard : Claim7 := { stood := { row := depPartsUptoRow, standIns := [], harness := (true, "323c0f3e99b9c8940fa53843815257b6c1e123b2dc7b5828e043786aa597c32d"), looks := true }, kinds := [], alts := [], laidByText := true, laidKinds := [.data, .data, .data, .data, .sentinel, .sentinel, .mapped, .data, .pinned], laidTests := true, laidLooks := .later }
def DepPartsUptoCardSaid : Prop := Claim7.holds Tryd.pinned (.plain (OpenSpec.upto depPartsSpec)) depPartsUptoCard

/-- THE SECOND FORM's CARD OF 'chandlerylaw06.DepBack'. -/
def depBackUptoCard : Claim7 := { stood := { row := depBackUptoRow, standIns := [], harness := (true, "323c0f3e99b9c8940fa53843815257b6c1e123b2dc7b5828e043786aa597c32d"), looks := true }, kinds := [], alts := [], laidByText := true, laidKinds := [.data, .data, .data, .data, .sentinel, .sentinel, .mapped, .data, .pinned], laidTests := true, laidLooks := .later }
def DepBackUptoCardSaid : Prop := Claim7.holds Tryd.pinned (.plain (OpenSpec.upto depBackSpec)) depBackUptoCard

/-- THE SECOND FORM's CARD OF 'chandlerylaw06.DepSpace'. -/
def depSpaceUptoCard : Claim7 := { stood := { row := depSpaceUptoRow, standIns := [], harness := (true, "323c0f3e99b9c8940fa53843815257b6c1e123b2dc7b5828e043786aa597c32d"), looks := true }, kinds := [], alts := [], laidByText := true, laidKinds := [.data, .data, .data, .data, .sentinel, .sentinel, .mapped, .data, .pinned], laidTests := true, laidLooks := .later }
def DepSpaceUptoCardSaid : Prop := Claim7.holds Tryd.pinned (.plain (OpenSpec.upto depSpaceSpec)) depSpaceUptoCard

/-- THE SECOND FORM's CARD OF 'chandlerylaw06.DepTells'. -/
def depTellsUptoCard : Claim7 := { stood := { row := depTellsUptoRow, standIns := [], harness := (true, "323c0f3e99b9c8940fa53843815257b6c1e123b2dc7b5828e043786aa597c32d"), looks := true }, kinds := [], alts := [], laidByText := true, laidKinds := [.data, .data, .data, .data, .sentinel, .sentinel, .mapped, .data, .pinned], laidTests := true, laidLooks := .later }
def DepTellsUptoCardSaid : Prop := Claim7.holds Tryd.pinned (.plain (OpenSpec.upto depTellsSpec)) depTellsUptoCard

/-- THE SECOND FORM's CARD OF 'chandlerylaw06.DepNames'. -/
def depNamesUptoCard : Claim7 := { stood := { row := depNamesUptoRow, standIns := [], harness := (true, "323c0f3e99b9c8940fa53843815257b6c1e123b2dc7b5828e043786aa597c32d"), looks := true }, kinds := [], alts := [], laidByText := true, laidKinds := [.data, .data, .data, .data, .sentinel, .sentinel, .mapped, .data, .pinned], laidTests := true, laidLooks := .later }
def DepNamesUptoCardSaid : Prop := Claim7.holds Tryd.pinned (.plain (OpenSpec.upto depNamesSpec)) depNamesUptoCard

/-- THE SECOND FORM's CARD OF 'chandlerylaw08.RichNames'. -/
def richNamesUptoCard : Claim7 := { stood := { row := richNamesUptoRow, standIns := [], harness := (true, "323c0f3e99b9c8940fa53843815257b6c1e123b2dc7b5828e043786aa597c32d"), looks := true }, kinds := [], alts := [], laidByText := true, laidKinds := [.data, .data, .data, .sentinel, .sentinel, .mapped, .data, .data], laidTests := true, laidLooks := .later }
def RichNamesUptoCardSaid : Prop := Claim7.holds Tryd.pinned (.plain (OpenSpec.upto richNamesSpec)) richNamesUptoCard

/-- THE SECOND FORM's CARD OF 'chandlerylaw08.RichBack'. -/
def richBackUptoCard : Claim7 := { stood := { row := richBackUptoRow, standIns := [], harness := (true, "323c0f3e99b9c8940fa53843815257b6c1e123b2dc7b5828e043786aa597c32d"), looks := true }, kinds := [], alts := [], laidByText := true, laidKinds := [.data, .data, .data, .sentinel, .sentinel, .mapped, .data, .data], laidTests := true, laidLooks := .later }
def RichBackUptoCardSaid : Prop := Claim7.holds Tryd.pinned (.plain (OpenSpec.upto richBackSpec)) richBackUptoCard

/-- THE SECOND FORM's CARD OF 'chandlerylaw08.RichWhole'. -/
def richWholeUptoCard : Claim7 := { stood := { row := richWholeUptoRow, standIns := [], harness := (true, "323c0f3e99b9c8940fa53843815257b6c1e123b2dc7b5828e043786aa597c32d"), looks := true }, kinds := [], alts := [], laidByText := true, laidKinds := [.data, .data, .data, .sentinel, .sentinel, .mapped, .data, .data], laidTests := true, laidLooks := .later }
def RichWholeUptoCardSaid : Prop := Claim7.holds Tryd.pinned (.plain (OpenSpec.upto richWholeSpec)) richWholeUptoCard

/-- THE SECOND FORM's CARD OF 'chandlerylaw08.RichParts'. -/
def richPartsUptoCard : Claim7 := { stood := { row := richPartsUptoRow, standIns := [], harness := (true, "323c0f3e99b9c8940fa53843815257b6c1e123b2dc7b5828e043786aa597c32d"), looks := true }, kinds := [], alts := [], laidByText := true, laidKinds := [.data, .data, .data, .sentinel, .sentinel, .mapped, .data, .data], laidTests := true, laidLooks := .later }
def RichPartsUptoCardSaid : Prop := Claim7.holds Tryd.pinned (.plain (OpenSpec.upto richPartsSpec)) richPartsUptoCard

/-- THE SECOND FORM's CARD OF 'chandlerylaw08.RichUnlike'. -/
def richUnlikeUptoCard : Claim7 := { stood := { row := richUnlikeUptoRow, standIns := [], harness := (true, "323c0f3e99b9c8940fa53843815257b6c1e123b2dc7b5828e043786aa597c32d"), looks := true }, kinds := [], alts := [], laidByText := true, laidKinds := [.data, .data, .data, .sentinel, .sentinel, .mapped, .data, .data], laidTests := true, laidLooks := .later }
def RichUnlikeUptoCardSaid : Prop := Claim7.holds Tryd.pinned (.plain (OpenSpec.upto richUnlikeSpec)) richUnlikeUptoCard
end Rows
end Go.Proofs.YtmmebheciolnoaaDoor
