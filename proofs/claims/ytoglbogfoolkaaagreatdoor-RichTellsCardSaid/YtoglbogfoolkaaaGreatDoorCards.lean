/-
  DERIVED. GIVEN WITH THE SEED: THE CARDS: each row of YtoglbogfoolkaaaGreatDoorRows.lean that lists a variable, with what it lists TIED to the program's text (the seventh form; the later family's looks); each row that meets fmt, with fmt's text TOLD by the authors' own Lean function (tested against real Go, not proved from fmt's source: count such statements apart). THE CARD IS WHAT COUNTS. Prove the row's statement (the work); the ties are given (YtoglbogfoolkaaaGreatDoorTie.lean); close each card by the builder's one call (the guide's Derived/Test/ToyasCard.lean, 'card_holds'). Laid BY PROGRAM, IN A SANDBOX (cutbox-door.mjs). By AI agents, Wed Nov 11 2026. No macro, syntax, notation, axiom, sorry.
-/
import Derived.Test.YtoglbogfoolkaaaGreatDoorRows
import GoSem.ClaimSeven
namespace Go.Proofs.YtoglbogfoolkaaaGreatDoor
namespace Rows

/-- THE TIED CARD OF 'chandlerylaw10.PkgCopies'. -/
def pkgCopiesCard : Claim7 := { stood := { row := pkgCopiesRow, standIns := [], harness := (true, "00e9949769c321e21343859d75dd8f509037228fef319c2f2321ff4a32b14a96"), looks := true }, kinds := [], alts := [], laidByText := true, laidKinds := [.data, .mapped, .data, .pinned], laidTests := true, laidLooks := .later }
def PkgCopiesCardSaid : Prop := Claim7.holds Tryz.pinned (.plain (OpenSpec.ofChange pkgCopiesSpec)) pkgCopiesCard

/-- THE TIED CARD OF 'chandlerylaw08.RichTells'. -/
def richTellsCard : Claim7 := { stood := { row := richTellsRow, standIns := [], harness := (true, "00e9949769c321e21343859d75dd8f509037228fef319c2f2321ff4a32b14a96"), looks := true }, kinds := [], alts := [], laidByText := true, laidKinds := [.data, .data, .data, .sentinel, .sentinel, .mapped, .data, .data], laidTests := true, laidLooks := .later }
def RichTellsCardSaid : Prop := Claim7.holds Tryz.pinned (.plain (OpenSpec.ofChange richTellsSpec)) richTellsCard

/-- THE TIED CARD OF 'chandlerylaw08.RichReads'. -/
def richReadsCard : Claim7 := { stood := { row := richReadsRow, standIns := [], harness := (true, "00e9949769c321e21343859d75dd8f509037228fef319c2f2321ff4a32b14a96"), looks := true }, kinds := [], alts := [], laidByText := true, laidKinds := [.data, .data, .data, .sentinel, .sentinel, .mapped, .data, .data], laidTests := true, laidLooks := .later }
def RichReadsCardSaid : Prop := Claim7.holds Tryz.pinned (.plain (OpenSpec.ofChange richReadsSpec)) richReadsCard

/-- THE TIED CARD OF 'chandlerylaw30.StepsTells'. -/
def stepsTellsCard : Claim7 := { stood := { row := stepsTellsRow, standIns := [], harness := (true, "00e9949769c321e21343859d75dd8f509037228fef319c2f2321ff4a32b14a96"), looks := true }, kinds := [], alts := [], laidByText := true, laidKinds := [.data, .mapped, .data, .pinned], laidTests := true, laidLooks := .later }
def StepsTellsCardSaid : Prop := Claim7.holds Tryz.pinned (.plain (OpenSpec.ofChange stepsTellsSpec)) stepsTellsCard

/-- THE TIED CARD OF 'chandlerylaw30.StepsNames'. -/
def stepsNamesCard : Claim7 := { stood := { row := stepsNamesRow, standIns := [], harness := (true, "00e9949769c321e21343859d75dd8f509037228fef319c2f2321ff4a32b14a96"), looks := true }, kinds := [], alts := [], laidByText := true, laidKinds := [.data, .mapped, .data, .pinned], laidTests := true, laidLooks := .later }
def StepsNamesCardSaid : Prop := Claim7.holds Tryz.pinned (.plain (OpenSpec.ofChange stepsNamesSpec)) stepsNamesCard

/-- THE TIED CARD OF 'chandlerylaw30.StepsThere'. -/
def stepsThereCard : Claim7 := { stood := { row := stepsThereRow, standIns := [], harness := (true, "00e9949769c321e21343859d75dd8f509037228fef319c2f2321ff4a32b14a96"), looks := true }, kinds := [], alts := [], laidByText := true, laidKinds := [.data, .mapped, .data, .pinned], laidTests := true, laidLooks := .later }
def StepsThereCardSaid : Prop := Claim7.holds Tryz.pinned (.plain (OpenSpec.ofChange stepsThereSpec)) stepsThereCard

/-- THE TIED CARD OF 'chandlerylaw30.StepsLabels'. -/
def stepsLabelsCard : Claim7 := { stood := { row := stepsLabelsRow, standIns := [], harness := (true, "00e9949769c321e21343859d75dd8f509037228fef319c2f2321ff4a32b14a96"), looks := true }, kinds := [], alts := [], laidByText := true, laidKinds := [.data, .mapped, .data, .pinned], laidTests := true, laidLooks := .later }
def StepsLabelsCardSaid : Prop := Claim7.holds Tryz.pinned (.plain (OpenSpec.ofChange stepsLabelsSpec)) stepsLabelsCard

/-- THE TIED CARD OF 'chandlerylaw30.StepsMore'. -/
def stepsMoreCard : Claim7 := { stood := { row := stepsMoreRow, standIns := [], harness := (true, "00e9949769c321e21343859d75dd8f509037228fef319c2f2321ff4a32b14a96"), looks := true }, kinds := [], alts := [], laidByText := true, laidKinds := [.data, .mapped, .data, .pinned], laidTests := true, laidLooks := .later }
def StepsMoreCardSaid : Prop := Claim7.holds Tryz.pinned (.plain (OpenSpec.ofChange stepsMoreSpec)) stepsMoreCard

/-- THE TIED CARD OF 'chandlerylaw14.TruthMore'. -/
def truthMoreCard : Claim7 := { stood := { row := truthMoreRow, standIns := [], harness := (true, "00e9949769c321e21343859d75dd8f509037228fef319c2f2321ff4a32b14a96"), looks := true }, kinds := [], alts := [], laidByText := true, laidKinds := [.data, .mapped, .data, .data, .pinned], laidTests := true, laidLooks := .later }
def TruthMoreCardSaid : Prop := Claim7.holds Tryz.pinned (.plain (OpenSpec.ofChange truthMoreSpec)) truthMoreCard

/-- THE TIED CARD OF 'chandlerylaw14.TruthTurned'. -/
def truthTurnedCard : Claim7 := { stood := { row := truthTurnedRow, standIns := [], harness := (true, "00e9949769c321e21343859d75dd8f509037228fef319c2f2321ff4a32b14a96"), looks := true }, kinds := [], alts := [], laidByText := true, laidKinds := [.data, .mapped, .data, .data, .pinned], laidTests := true, laidLooks := .later }
def TruthTurnedCardSaid : Prop := Claim7.holds Tryz.pinned (.plain (OpenSpec.ofChange truthTurnedSpec)) truthTurnedCard

/-- THE TIED CARD OF 'chandlerylaw14.TruthProviders'. -/
def truthProvidersCard : Claim7 := { stood := { row := truthProvidersRow, standIns := [], harness := (true, "00e9949769c321e21343859d75dd8f509037228fef319c2f2321ff4a32b14a96"), looks := true }, kinds := [], alts := [], laidByText := true, laidKinds := [.data, .mapped, .data, .data, .pinned], laidTests := true, laidLooks := .later }
def TruthProvidersCardSaid : Prop := Claim7.holds Tryz.pinned (.plain (OpenSpec.ofChange truthProvidersSpec)) truthProvidersCard

/-- THE TIED CARD OF 'chandlerylaw14.TruthTells'. -/
def truthTellsCard : Claim7 := { stood := { row := truthTellsRow, standIns := [], harness := (true, "00e9949769c321e21343859d75dd8f509037228fef319c2f2321ff4a32b14a96"), looks := true }, kinds := [], alts := [], laidByText := true, laidKinds := [.data, .mapped, .data, .data, .pinned], laidTests := true, laidLooks := .later }
def TruthTellsCardSaid : Prop := Claim7.holds Tryz.pinned (.plain (OpenSpec.ofChange truthTellsSpec)) truthTellsCard

/-- THE TIED CARD OF 'chandlerylaw14.TruthNames'. -/
def truthNamesCard : Claim7 := { stood := { row := truthNamesRow, standIns := [], harness := (true, "00e9949769c321e21343859d75dd8f509037228fef319c2f2321ff4a32b14a96"), looks := true }, kinds := [], alts := [], laidByText := true, laidKinds := [.data, .mapped, .data, .data, .pinned], laidTests := true, laidLooks := .later }
def TruthNamesCardSaid : Prop := Claim7.holds Tryz.pinned (.plain (OpenSpec.ofChange truthNamesSpec)) truthNamesCard

/-- THE TIED CARD OF 'chandlerylaw14.TruthOne'. -/
def truthOneCard : Claim7 := { stood := { row := truthOneRow, standIns := [], harness := (true, "00e9949769c321e21343859d75dd8f509037228fef319c2f2321ff4a32b14a96"), looks := true }, kinds := [], alts := [], laidByText := true, laidKinds := [.data, .mapped, .data, .data, .pinned], laidTests := true, laidLooks := .later }
def TruthOneCardSaid : Prop := Claim7.holds Tryz.pinned (.plain (OpenSpec.ofChange truthOneSpec)) truthOneCard

/-- THE SECOND FORM's CARD OF 'chandlerylaw10.PkgCopies'. -/
def pkgCopiesUptoCard : Claim7 := { stood := { row := pkgCopiesUptoRow, standIns := [], harness := (true, "00e9949769c321e21343859d75dd8f509037228fef319c2f2321ff4a32b14a96"), looks := true }, kinds := [], alts := [], laidByText := true, laidKinds := [.data, .mapped, .data, .pinned], laidTests := true, laidLooks := .later }
def PkgCopiesUptoCardSaid : Prop := Claim7.holds Tryz.pinned (.plain (OpenSpec.upto pkgCopiesSpec)) pkgCopiesUptoCard

/-- THE SECOND FORM's CARD OF 'chandlerylaw08.RichTells'. -/
def richTellsUptoCard : Claim7 := { stood := { row := richTellsUptoRow, standIns := [], harness := (true, "00e9949769c321e21343859d75dd8f509037228fef319c2f2321ff4a32b14a96"), looks := true }, kinds := [], alts := [], laidByText := true, laidKinds := [.data, .data, .data, .sentinel, .sentinel, .mapped, .data, .data], laidTests := true, laidLooks := .later }
def RichTellsUptoCardSaid : Prop := Claim7.holds Tryz.pinned (.plain (OpenSpec.upto richTellsSpec)) richTellsUptoCard

/-- THE SECOND FORM's CARD OF 'chandlerylaw08.RichReads'. -/
def richReadsUptoCard : Claim7 := { stood := { row := richReadsUptoRow, standIns := [], harness := (true, "00e9949769c321e21343859d75dd8f509037228fef319c2f2321ff4a32b14a96"), looks := true }, kinds := [], alts := [], laidByText := true, laidKinds := [.data, .data, .data, .sentinel, .sentinel, .mapped, .data, .data], laidTests := true, laidLooks := .later }
def RichReadsUptoCardSaid : Prop := Claim7.holds Tryz.pinned (.plain (OpenSpec.upto richReadsSpec)) richReadsUptoCard

/-- THE SECOND FORM's CARD OF 'chandlerylaw30.StepsTells'. -/
def stepsTellsUptoCard : Claim7 := { stood := { row := stepsTellsUptoRow, standIns := [], harness := (true, "00e9949769c321e21343859d75dd8f509037228fef319c2f2321ff4a32b14a96"), looks := true }, kinds := [], alts := [], laidByText := true, laidKinds := [.data, .mapped, .data, .pinned], laidTests := true, laidLooks := .later }
def StepsTellsUptoCardSaid : Prop := Claim7.holds Tryz.pinned (.plain (OpenSpec.upto stepsTellsSpec)) stepsTellsUptoCard

/-- THE SECOND FORM's CARD OF 'chandlerylaw30.StepsNames'. -/
def stepsNamesUptoCard : Claim7 := { stood := { row := stepsNamesUptoRow, standIns := [], harness := (true, "00e9949769c321e21343859d75dd8f509037228fef319c2f2321ff4a32b14a96"), looks := true }, kinds := [], alts := [], laidByText := true, laidKinds := [.data, .mapped, .data, .pinned], laidTests := true, laidLooks := .later }
def StepsNamesUptoCardSaid : Prop := Claim7.holds Tryz.pinned (.plain (OpenSpec.upto stepsNamesSpec)) stepsNamesUptoCard

/-- THE SECOND FORM's CARD OF 'chandlerylaw30.StepsThere'. -/
def stepsThereUptoCard : Claim7 := { stood := { row := stepsThereUptoRow, standIns := [], harness := (true, "00e9949769c321e21343859d75dd8f509037228fef319c2f2321ff4a32b14a96"), looks := true }, kinds := [], alts := [], laidByText := true, laidKinds := [.data, .mapped, .data, .pinned], laidTests := true, laidLooks := .later }
def StepsThereUptoCardSaid : Prop := Claim7.holds Tryz.pinned (.plain (OpenSpec.upto stepsThereSpec)) stepsThereUptoCard

/-- THE SECOND FORM's CARD OF 'chandlerylaw30.StepsLabels'. -/
def stepsLabelsUptoCard : Claim7 := { stood := { row := stepsLabelsUptoRow, standIns := [], harness := (true, "00e9949769c321e21343859d75dd8f509037228fef319c2f2321ff4a32b14a96"), looks := true }, kinds := [], alts := [], laidByText := true, laidKinds := [.data, .mapped, .data, .pinned], laidTests := true, laidLooks := .later }
def StepsLabelsUptoCardSaid : Prop := Claim7.holds Tryz.pinned (.plain (OpenSpec.upto stepsLabelsSpec)) stepsLabelsUptoCard

/-- THE SECOND FORM's CARD OF 'chandlerylaw30.StepsMore'. -/
def stepsMoreUptoCard : Claim7 := { stood := { row := stepsMoreUptoRow, standIns := [], harness := (true, "00e9949769c321e21343859d75dd8f509037228fef319c2f2321ff4a32b14a96"), looks := true }, kinds := [], alts := [], laidByText := true, laidKinds := [.data, .mapped, .data, .pinned], laidTests := true, laidLooks := .later }
def StepsMoreUptoCardSaid : Prop := Claim7.holds Tryz.pinned (.plain (OpenSpec.upto stepsMoreSpec)) stepsMoreUptoCard

/-- THE SECOND FORM's CARD OF 'chandlerylaw14.TruthMore'. -/
def truthMoreUptoCard : Claim7 := { stood := { row := truthMoreUptoRow, standIns := [], harness := (true, "00e9949769c321e21343859d75dd8f509037228fef319c2f2321ff4a32b14a96"), looks := true }, kinds := [], alts := [], laidByText := true, laidKinds := [.data, .mapped, .data, .data, .pinned], laidTests := true, laidLooks := .later }
def TruthMoreUptoCardSaid : Prop := Claim7.holds Tryz.pinned (.plain (OpenSpec.upto truthMoreSpec)) truthMoreUptoCard

/-- THE SECOND FORM's CARD OF 'chandlerylaw14.TruthTurned'. -/
def truthTurnedUptoCard : Claim7 := { stood := { row := truthTurnedUptoRow, standIns := [], harness := (true, "00e9949769c321e21343859d75dd8f509037228fef319c2f2321ff4a32b14a96"), looks := true }, kinds := [], alts := [], laidByText := true, laidKinds := [.data, .mapped, .data, .data, .pinned], laidTests := true, laidLooks := .later }
def TruthTurnedUptoCardSaid : Prop := Claim7.holds Tryz.pinned (.plain (OpenSpec.upto truthTurnedSpec)) truthTurnedUptoCard

/-- THE SECOND FORM's CARD OF 'chandlerylaw14.TruthProviders'. -/
def truthProvidersUptoCard : Claim7 := { stood := { row := truthProvidersUptoRow, standIns := [], harness := (true, "00e9949769c321e21343859d75dd8f509037228fef319c2f2321ff4a32b14a96"), looks := true }, kinds := [], alts := [], laidByText := true, laidKinds := [.data, .mapped, .data, .data, .pinned], laidTests := true, laidLooks := .later }
def TruthProvidersUptoCardSaid : Prop := Claim7.holds Tryz.pinned (.plain (OpenSpec.upto truthProvidersSpec)) truthProvidersUptoCard

/-- THE SECOND FORM's CARD OF 'chandlerylaw14.TruthTells'. -/
def truthTellsUptoCard : Claim7 := { stood := { row := truthTellsUptoRow, standIns := [], harness := (true, "00e9949769c321e21343859d75dd8f509037228fef319c2f2321ff4a32b14a96"), looks := true }, kinds := [], alts := [], laidByText := true, laidKinds := [.data, .mapped, .data, .data, .pinned], laidTests := true, laidLooks := .later }
def TruthTellsUptoCardSaid : Prop := Claim7.holds Tryz.pinned (.plain (OpenSpec.upto truthTellsSpec)) truthTellsUptoCard

/-- THE SECOND FORM's CARD OF 'chandlerylaw14.TruthNames'. -/
def truthNamesUptoCard : Claim7 := { stood := { row := truthNamesUptoRow, standIns := [], harness := (true, "00e9949769c321e21343859d75dd8f509037228fef319c2f2321ff4a32b14a96"), looks := true }, kinds := [], alts := [], laidByText := true, laidKinds := [.data, .mapped, .data, .data, .pinned], laidTests := true, laidLooks := .later }
def TruthNamesUptoCardSaid : Prop := Claim7.holds Tryz.pinned (.plain (OpenSpec.upto truthNamesSpec)) truthNamesUptoCard

/-- THE SECOND FORM's CARD OF 'chandlerylaw14.TruthOne'. -/
def truthOneUptoCard : Claim7 := { stood := { row := truthOneUptoRow, standIns := [], harness := (true, "00e9949769c321e21343859d75dd8f509037228fef319c2f2321ff4a32b14a96"), looks := true }, kinds := [], alts := [], laidByText := true, laidKinds := [.data, .mapped, .data, .data, .pinned], laidTests := true, laidLooks := .later }
def TruthOneUptoCardSaid : Prop := Claim7.holds Tryz.pinned (.plain (OpenSpec.upto truthOneSpec)) truthOneUptoCard
end Rows
end Go.Proofs.YtoglbogfoolkaaaGreatDoor
