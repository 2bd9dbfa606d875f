/-
  DERIVED. GIVEN WITH THE SEED: THE CARDS: each row of YteobmfpbgnmffaaGreatDoorRows.lean that lists a variable, with what it lists TIED to the program's text (the seventh form; the later family's looks); each row that meets fmt, with fmt's text TOLD by the authors' own Lean function (tested against real Go, not proved from fmt's source: count such statements apart). THE CARD IS WHAT COUNTS. Prove the row's statement (the work); the ties are given (YteobmfpbgnmffaaGreatDoorTie.lean); close each card by the builder's one call (the guide's Derived/Test/ToyasCard.lean, 'card_holds'). Laid BY PROGRAM, IN A SANDBOX (cutbox-door.mjs). By AI agents, Wed Nov 11 2026. No macro, syntax, notation, axiom, sorry.
-/
import Derived.Test.YteobmfpbgnmffaaGreatDoorRows
import GoSem.ClaimSeven
namespace Go.Proofs.YteobmfpbgnmffaaGreatDoor
namespace Rows

/-- THE TIED CARD OF 'chandlerylaw10.PkgCopies'. -/
def pkgCopiesCard : Claim7 := { stood := { row := pkgCopiesRow, standIns := [], harness := (true, "52927ef8bf7375c98618743f0cb36f205c5866e0edd5ba0d0345835765c00efd"), looks := false }, kinds := [], alts := [], laidByText := true, laidKinds := [.data, .mapped, .data, .pinned], laidTests := true, laidLooks := .later }
def PkgCopiesCardSaid : Prop := Claim7.holds Tryz.pinned (.plain (OpenSpec.ofChange pkgCopiesSpec)) pkgCopiesCard

/-- THE TIED CARD OF 'chandlerylaw30.StepsTells'. -/
def stepsTellsCard : Claim7 := { stood := { row := stepsTellsRow, standIns := [], harness := (true, "52927ef8bf7375c98618743f0cb36f205c5866e0edd5ba0d0345835765c00efd"), looks := false }, kinds := [], alts := [], laidByText := true, laidKinds := [.data, .mapped, .data, .pinned], laidTests := true, laidLooks := .later }
def StepsTellsCardSaid : Prop := Claim7.holds Tryz.pinned (.plain (OpenSpec.ofChange stepsTellsSpec)) stepsTellsCard

/-- THE TIED CARD OF 'chandlerylaw30.StepsNames'. -/
def stepsNamesCard : Claim7 := { stood := { row := stepsNamesRow, standIns := [], harness := (true, "52927ef8bf7375c98618743f0cb36f205c5866e0edd5ba0d0345835765c00efd"), looks := false }, kinds := [], alts := [], laidByText := true, laidKinds := [.data, .mapped, .data, .pinned], laidTests := true, laidLooks := .later }
def StepsNamesCardSaid : Prop := Claim7.holds Tryz.pinned (.plain (OpenSpec.ofChange stepsNamesSpec)) stepsNamesCard

/-- THE TIED CARD OF 'chandlerylaw14.TruthMore'. -/
def truthMoreCard : Claim7 := { stood := { row := truthMoreRow, standIns := [], harness := (true, "52927ef8bf7375c98618743f0cb36f205c5866e0edd5ba0d0345835765c00efd"), looks := false }, kinds := [], alts := [], laidByText := true, laidKinds := [.data, .mapped, .data, .data, .pinned], laidTests := true, laidLooks := .later }
def TruthMoreCardSaid : Prop := Claim7.holds Tryz.pinned (.plain (OpenSpec.ofChange truthMoreSpec)) truthMoreCard

/-- THE TIED CARD OF 'chandlerylaw14.TruthTurned'. -/
def truthTurnedCard : Claim7 := { stood := { row := truthTurnedRow, standIns := [], harness := (true, "52927ef8bf7375c98618743f0cb36f205c5866e0edd5ba0d0345835765c00efd"), looks := false }, kinds := [], alts := [], laidByText := true, laidKinds := [.data, .mapped, .data, .data, .pinned], laidTests := true, laidLooks := .later }
def TruthTurnedCardSaid : Prop := Claim7.holds Tryz.pinned (.plain (OpenSpec.ofChange truthTurnedSpec)) truthTurnedCard

/-- THE TIED CARD OF 'chandlerylaw14.TruthProviders'. -/
def truthProvidersCard : Claim7 := { stood := { row := truthProvidersRow, standIns := [], harness := (true, "52927ef8bf7375c98618743f0cb36f205c5866e0edd5ba0d0345835765c00efd"), looks := false }, kinds := [], alts := [], laidByText := true, laidKinds := [.data, .mapped, .data, .data, .pinned], laidTests := true, laidLooks := .later }
def TruthProvidersCardSaid : Prop := Claim7.holds Tryz.pinned (.plain (OpenSpec.ofChange truthProvidersSpec)) truthProvidersCard

/-- THE TIED CARD OF 'chandlerylaw14.TruthTells'. -/
def truthTellsCard : Claim7 := { stood := { row := truthTellsRow, standIns := [], harness := (true, "52927ef8bf7375c98618743f0cb36f205c5866e0edd5ba0d0345835765c00efd"), looks := false }, kinds := [], alts := [], laidByText := true, laidKinds := [.data, .mapped, .data, .data, .pinned], laidTests := true, laidLooks := .later }
def TruthTellsCardSaid : Prop := Claim7.holds Tryz.pinned (.plain (OpenSpec.ofChange truthTellsSpec)) truthTellsCard

/-- THE TIED CARD OF 'chandlerylaw14.TruthNames'. -/
def truthNamesCard : Claim7 := { stood := { row := truthNamesRow, standIns := [], harness := (true, "52927ef8bf7375c98618743f0cb36f205c5866e0edd5ba0d0345835765c00efd"), looks := false }, kinds := [], alts := [], laidByText := true, laidKinds := [.data, .mapped, .data, .data, .pinned], laidTests := true, laidLooks := .later }
def TruthNamesCardSaid : Prop := Claim7.holds Tryz.pinned (.plain (OpenSpec.ofChange truthNamesSpec)) truthNamesCard

/-- THE TIED CARD OF 'chandlerylaw14.TruthOne'. -/
def truthOneCard : Claim7 := { stood := { row := truthOneRow, standIns := [], harness := (true, "52927ef8bf7375c98618743f0cb36f205c5866e0edd5ba0d0345835765c00efd"), looks := false }, kinds := [], alts := [], laidByText := true, laidKinds := [.data, .mapped, .data, .data, .pinned], laidTests := true, laidLooks := .later }
def TruthOneCardSaid : Prop := Claim7.holds Tryz.pinned (.plain (OpenSpec.ofChange truthOneSpec)) truthOneCard

/-- THE SECOND FORM's CARD OF 'chandlerylaw10.PkgCopies'. -/
def pkgCopiesUptoCard : Claim7 := { stood := { row := pkgCopiesUptoRow, standIns := [], harness := (true, "52927ef8bf7375c98618743f0cb36f205c5866e0edd5ba0d0345835765c00efd"), looks := false }, kinds := [], alts := [], laidByText := true, laidKinds := [.data, .mapped, .data, .pinned], laidTests := true, laidLooks := .later }
def PkgCopiesUptoCardSaid : Prop := Claim7.holds Tryz.pinned (.plain (OpenSpec.upto pkgCopiesSpec)) pkgCopiesUptoCard

/-- THE SECOND FORM's CARD OF 'chandlerylaw30.StepsTells'. -/
def stepsTellsUptoCard : Claim7 := { stood := { row := stepsTellsUptoRow, standIns := [], harness := (true, "52927ef8bf7375c98618743f0cb36f205c5866e0edd5ba0d0345835765c00efd"), looks := false }, kinds := [], alts := [], laidByText := true, laidKinds := [.data, .mapped, .data, .pinned], laidTests := true, laidLooks := .later }
def StepsTellsUptoCardSaid : Prop := Claim7.holds Tryz.pinned (.plain (OpenSpec.upto stepsTellsSpec)) stepsTellsUptoCard

/-- THE SECOND FORM's CARD OF 'chandlerylaw30.StepsNames'. -/
def stepsNamesUptoCard : Claim7 := { stood := { row := stepsNamesUptoRow, standIns := [], harness := (true, "52927ef8bf7375c98618743f0cb36f205c5866e0edd5ba0d0345835765c00efd"), looks := false }, kinds := [], alts := [], laidByText := true, laidKinds := [.data, .mapped, .data, .pinned], laidTests := true, laidLooks := .later }
def StepsNamesUptoCardSaid : Prop := Claim7.holds Tryz.pinned (.plain (OpenSpec.upto stepsNamesSpec)) stepsNamesUptoCard

/-- THE SECOND FORM's CARD OF 'chandlerylaw14.TruthMore'. -/
def truthMoreUptoCard : Claim7 := { stood := { row := truthMoreUptoRow, standIns := [], harness := (true, "52927ef8bf7375c98618743f0cb36f205c5866e0edd5ba0d0345835765c00efd"), looks := false }, kinds := [], alts := [], laidByText := true, laidKinds := [.data, .mapped, .data, .data, .pinned], laidTests := true, laidLooks := .later }
def TruthMoreUptoCardSaid : Prop := Claim7.holds Tryz.pinned (.plain (OpenSpec.upto truthMoreSpec)) truthMoreUptoCard

/-- THE SECOND FORM's CARD OF 'chandlerylaw14.TruthTurned'. -/
def truthTurnedUptoCard : Claim7 := { stood := { row := truthTurnedUptoRow, standIns := [], harness := (true, "52927ef8bf7375c98618743f0cb36f205c5866e0edd5ba0d0345835765c00efd"), looks := false }, kinds := [], alts := [], laidByText := true, laidKinds := [.data, .mapped, .data, .data, .pinned], laidTests := true, laidLooks := .later }
def TruthTurnedUptoCardSaid : Prop := Claim7.holds Tryz.pinned (.plain (OpenSpec.upto truthTurnedSpec)) truthTurnedUptoCard

/-- THE SECOND FORM's CARD OF 'chandlerylaw14.TruthProviders'. -/
def truthProvidersUptoCard : Claim7 := { stood := { row := truthProvidersUptoRow, standIns := [], harness := (true, "52927ef8bf7375c98618743f0cb36f205c5866e0edd5ba0d0345835765c00efd"), looks := false }, kinds := [], alts := [], laidByText := true, laidKinds := [.data, .mapped, .data, .data, .pinned], laidTests := true, laidLooks := .later }
def TruthProvidersUptoCardSaid : Prop := Claim7.holds Tryz.pinned (.plain (OpenSpec.upto truthProvidersSpec)) truthProvidersUptoCard

/-- THE SECOND FORM's CARD OF 'chandlerylaw14.TruthTells'. -/
def truthTellsUptoCard : Claim7 := { stood := { row := truthTellsUptoRow, standIns := [], harness := (true, "52927ef8bf7375c98618743f0cb36f205c5866e0edd5ba0d0345835765c00efd"), looks := false }, kinds := [], alts := [], laidByText := true, laidKinds := [.data, .mapped, .data, .data, .pinned], laidTests := true, laidLooks := .later }
def TruthTellsUptoCardSaid : Prop := Claim7.holds Tryz.pinned (.plain (OpenSpec.upto truthTellsSpec)) truthTellsUptoCard

/-- THE SECOND FORM's CARD OF 'chandlerylaw14.TruthNames'. -/
def truthNamesUptoCard : Claim7 := { stood := { row := truthNamesUptoRow, standIns := [], harness := (true, "52927ef8bf7375c98618743f0cb36f205c5866e0edd5ba0d0345835765c00efd"), looks := false }, kinds := [], alts := [], laidByText := true, laidKinds := [.data, .mapped, .data, .data, .pinned], laidTests := true, laidLooks := .later }
def TruthNamesUptoCardSaid : Prop := Claim7.holds Tryz.pinned (.plain (OpenSpec.upto truthNamesSpec)) truthNamesUptoCard

/-- THE SECOND FORM's CARD OF 'chandlerylaw14.TruthOne'. -/
def truthOneUptoCard : Claim7 := { stood := { row := truthOneUptoRow, standIns := [], harness := (true, "52927ef8bf7375c98618743f0cb36f205c5866e0edd5ba0d0345835765c00efd"), looks := false }, kinds := [], alts := [], laidByText := true, laidKinds := [.data, .mapped, .data, .data, .pinned], laidTests := true, laidLooks := .later }
def TruthOneUptoCardSaid : Prop := Claim7.holds Tryz.pinned (.plain (OpenSpec.upto truthOneSpec)) truthOneUptoCard
end Rows
end Go.Proofs.YteobmfpbgnmffaaGreatDoor
