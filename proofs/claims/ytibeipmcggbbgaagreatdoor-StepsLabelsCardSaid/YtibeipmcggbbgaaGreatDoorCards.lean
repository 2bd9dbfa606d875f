/-
  DERIVED. GIVEN WITH THE SEED: THE CARDS: each row of YtibeipmcggbbgaaGreatDoorRows.lean that lists a variable, with what it lists TIED to the program's text (the seventh form; the later family's looks); each row that meets fmt, with fmt's text TOLD by the authors' own Lean function (tested against real Go, not proved from fmt's source: count such statements apart). THE CARD IS WHAT COUNTS. Prove the row's statement (the work); the ties are given (YtibeipmcggbbgaaGreatDoorTie.lean); close each card by the builder's one call (the guide's Derived/Test/ToyasCard.lean, 'card_holds'). Laid BY PROGRAM, IN A SANDBOX (cutbox-door.mjs). By AI agents, Wed Nov 11 2026. No macro, syntax, notation, axiom, sorry.
-/
import Derived.Test.YtibeipmcggbbgaaGreatDoorRows
import GoSem.ClaimSeven
namespace Go.Proofs.YtibeipmcggbbgaaGreatDoor
namespace Rows

/-- THE TIED CARD OF 'chandlerylaw10.PkgCopies'. -/
def pkgCopiesCard : Claim7 := { stood := { row := pkgCopiesRow, standIns := [], harness := (true, "d4eceb6fa7bb9e58a742d24b1ff899562eed3e554a4f452410aa1ca7596a3f78"), looks := false }, kinds := [], alts := [], laidByText := true, laidKinds := [.data, .mapped, .data, .pinned], laidTests := true, laidLooks := .later }
def PkgCopiesCardSaid : Prop := Claim7.holds Tryz.pinned (.plain (OpenSpec.ofChange pkgCopiesSpec)) pkgCopiesCard

/-- THE TIED CARD OF 'chandlerylaw30.StepsTells'. -/
def stepsTellsCard : Claim7 := { stood := { row := stepsTellsRow, standIns := [], harness := (true, "d4eceb6fa7bb9e58a742d24b1ff899562eed3e554a4f452410aa1ca7596a3f78"), looks := false }, kinds := [], alts := [], laidByText := true, laidKinds := [.data, .mapped, .data, .pinned], laidTests := true, laidLooks := .later }
def StepsTellsCardSaid : Prop := Claim7.holds Tryz.pinned (.plain (OpenSpec.ofChange stepsTellsSpec)) stepsTellsCard

/-- THE TIED CARD OF 'chandlerylaw30.StepsNames'. -/
def stepsNamesCard : Claim7 := { stood := { row := stepsNamesRow, standIns := [], harness := (true, "d4eceb6fa7bb9e58a742d24b1ff899562eed3e554a4f452410aa1ca7596a3f78"), looks := false }, kinds := [], alts := [], laidByText := true, laidKinds := [.data, .mapped, .data, .pinned], laidTests := true, laidLooks := .later }
def StepsNamesCardSaid : Prop := Claim7.holds Tryz.pinned (.plain (OpenSpec.ofChange stepsNamesSpec)) stepsNamesCard

/-- THE TIED CARD OF 'chandlerylaw30.StepsThere'. -/
def stepsThereCard : Claim7 := { stood := { row := stepsThereRow, standIns := [], harness := (true, "d4eceb6fa7bb9e58a742d24b1ff899562eed3e554a4f452410aa1ca7596a3f78"), looks := false }, kinds := [], alts := [], laidByText := true, laidKinds := [.data, .mapped, .data, .pinned], laidTests := true, laidLooks := .later }
def StepsThereCardSaid : Prop := Claim7.holds Tryz.pinned (.plain (OpenSpec.ofChange stepsThereSpec)) stepsThereCard

/-- THE TIED CARD OF 'chandlerylaw30.StepsLabels'. -/
def stepsLabelsCard : Claim7 := { stood := { row := stepsLabelsRow, standIns := [], harness := (true, "d4eceb6fa7bb9e58a742d24b1ff899562eed3e554a4f452410aa1ca7596a3f78"), looks := false }, kinds := [], alts := [], laidByText := true, laidKinds := [.data, .mapped, .data, .pinned], laidTests := true, laidLooks := .later }
def StepsLabelsCardSaid : Prop := Claim7.holds Tryz.pinned (.plain (OpenSpec.ofChange stepsLabelsSpec)) stepsLabelsCard

/-- THE TIED CARD OF 'chandlerylaw30.StepsMore'. -/
def stepsMoreCard : Claim7 := { stood := { row := stepsMoreRow, standIns := [], harness := (true, "d4eceb6fa7bb9e58a742d24b1ff899562eed3e554a4f452410aa1ca7596a3f78"), looks := false }, kinds := [], alts := [], laidByText := true, laidKinds := [.data, .mapped, .data, .pinned], laidTests := true, laidLooks := .later }
def StepsMoreCardSaid : Prop := Claim7.holds Tryz.pinned (.plain (OpenSpec.ofChange stepsMoreSpec)) stepsMoreCard

/-- THE SECOND FORM's CARD OF 'chandlerylaw10.PkgCopies'. -/
def pkgCopiesUptoCard : Claim7 := { stood := { row := pkgCopiesUptoRow, standIns := [], harness := (true, "d4eceb6fa7bb9e58a742d24b1ff899562eed3e554a4f452410aa1ca7596a3f78"), looks := false }, kinds := [], alts := [], laidByText := true, laidKinds := [.data, .mapped, .data, .pinned], laidTests := true, laidLooks := .later }
def PkgCopiesUptoCardSaid : Prop := Claim7.holds Tryz.pinned (.plain (OpenSpec.upto pkgCopiesSpec)) pkgCopiesUptoCard

/-- THE SECOND FORM's CARD OF 'chandlerylaw30.StepsTells'. -/
def stepsTellsUptoCard : Claim7 := { stood := { row := stepsTellsUptoRow, standIns := [], harness := (true, "d4eceb6fa7bb9e58a742d24b1ff899562eed3e554a4f452410aa1ca7596a3f78"), looks := false }, kinds := [], alts := [], laidByText := true, laidKinds := [.data, .mapped, .data, .pinned], laidTests := true, laidLooks := .later }
def StepsTellsUptoCardSaid : Prop := Claim7.holds Tryz.pinned (.plain (OpenSpec.upto stepsTellsSpec)) stepsTellsUptoCard

/-- THE SECOND FORM's CARD OF 'chandlerylaw30.StepsNames'. -/
def stepsNamesUptoCard : Claim7 := { stood := { row := stepsNamesUptoRow, standIns := [], harness := (true, "d4eceb6fa7bb9e58a742d24b1ff899562eed3e554a4f452410aa1ca7596a3f78"), looks := false }, kinds := [], alts := [], laidByText := true, laidKinds := [.data, .mapped, .data, .pinned], laidTests := true, laidLooks := .later }
def StepsNamesUptoCardSaid : Prop := Claim7.holds Tryz.pinned (.plain (OpenSpec.upto stepsNamesSpec)) stepsNamesUptoCard

/-- THE SECOND FORM's CARD OF 'chandlerylaw30.StepsThere'. -/
def stepsThereUptoCard : Claim7 := { stood := { row := stepsThereUptoRow, standIns := [], harness := (true, "d4eceb6fa7bb9e58a742d24b1ff899562eed3e554a4f452410aa1ca7596a3f78"), looks := false }, kinds := [], alts := [], laidByText := true, laidKinds := [.data, .mapped, .data, .pinned], laidTests := true, laidLooks := .later }
def StepsThereUptoCardSaid : Prop := Claim7.holds Tryz.pinned (.plain (OpenSpec.upto stepsThereSpec)) stepsThereUptoCard

/-- THE SECOND FORM's CARD OF 'chandlerylaw30.StepsLabels'. -/
def stepsLabelsUptoCard : Claim7 := { stood := { row := stepsLabelsUptoRow, standIns := [], harness := (true, "d4eceb6fa7bb9e58a742d24b1ff899562eed3e554a4f452410aa1ca7596a3f78"), looks := false }, kinds := [], alts := [], laidByText := true, laidKinds := [.data, .mapped, .data, .pinned], laidTests := true, laidLooks := .later }
def StepsLabelsUptoCardSaid : Prop := Claim7.holds Tryz.pinned (.plain (OpenSpec.upto stepsLabelsSpec)) stepsLabelsUptoCard

/-- THE SECOND FORM's CARD OF 'chandlerylaw30.StepsMore'. -/
def stepsMoreUptoCard : Claim7 := { stood := { row := stepsMoreUptoRow, standIns := [], harness := (true, "d4eceb6fa7bb9e58a742d24b1ff899562eed3e554a4f452410aa1ca7596a3f78"), looks := false }, kinds := [], alts := [], laidByText := true, laidKinds := [.data, .mapped, .data, .pinned], laidTests := true, laidLooks := .later }
def StepsMoreUptoCardSaid : Prop := Claim7.holds Tryz.pinned (.plain (OpenSpec.upto stepsMoreSpec)) stepsMoreUptoCard
end Rows
end Go.Proofs.YtibeipmcggbbgaaGreatDoor
