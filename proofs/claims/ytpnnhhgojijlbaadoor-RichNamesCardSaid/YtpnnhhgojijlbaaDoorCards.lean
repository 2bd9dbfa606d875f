/-
  DERIVED. GIVEN WITH THE SEED: THE CARDS: each row of YtpnnhhgojijlbaaDoorRows.lean that lists a variable, with what it lists TIED to the program's text (the seventh form; the later family's looks); each row that meets fmt, with fmt's text TOLD by the authors' own Lean function (tested against real Go, not proved from fmt's source: count such statements apart). THE CARD IS WHAT COUNTS. Prove the row's statement (the work); the ties are given (YtpnnhhgojijlbaaDoorTie.lean); close each card by the builder's one call (the guide's Derived/Test/ToyasCard.lean, 'card_holds'). Laid BY PROGRAM, IN A SANDBOX (cutbox-door.mjs). By AI agents, Wed Nov 11 2026. No macro, syntax, notation, axiom, sorry.
-/
import Derived.Test.YtpnnhhgojijlbaaDoorRows
import GoSem.ClaimSeven
namespace Go.Proofs.YtpnnhhgojijlbaaDoor
namespace Rows

/-- THE TIED CARD OF 'chandlerylaw08.RichNames'. -/
def richNamesCard : Claim7 := { stood := { row := richNamesRow, standIns := [], harness := (true, "654c4a07f10caeed7e80321564d606e2124c165910f66c0d7740d65b4cafbec8"), looks := true }, kinds := [], alts := [], laidByText := true, laidKinds := [.data, .data, .data, .sentinel, .sentinel, .mapped, .data, .data], laidTests := true, laidLooks := .later }
def RichNamesCardSaid : Prop := Claim7.holds Tryd.pinned (.plain (OpenSpec.ofChange richNamesSpec)) richNamesCard

/-- THE TIED CARD OF 'chandlerylaw08.RichParts'. -/
def richPartsCard : Claim7 := { stood := { row := richPartsRow, standIns := [], harness := (true, "654c4a07f10caeed7e80321564d606e2124c165910f66c0d7740d65b4cafbec8"), looks := true }, kinds := [], alts := [], laidByText := true, laidKinds := [.data, .data, .data, .sentinel, .sentinel, .mapped, .data, .data], laidTests := true, laidLooks := .later }
def RichPartsCardSaid : Prop := Claim7.holds Tryd.pinned (.plain (OpenSpec.ofChange richPartsSpec)) richPartsCard

/-- THE TIED CARD OF 'chandlerylaw10.PkgLess'. -/
def pkgLessCard : Claim7 := { stood := { row := pkgLessRow, standIns := [], harness := (true, "654c4a07f10caeed7e80321564d606e2124c165910f66c0d7740d65b4cafbec8"), looks := true }, kinds := [], alts := [], laidByText := true, laidKinds := [.data, .mapped, .data, .pinned], laidTests := true, laidLooks := .later }
def PkgLessCardSaid : Prop := Claim7.holds Tryd.pinned (.plain (OpenSpec.ofChange pkgLessSpec)) pkgLessCard

/-- THE TIED CARD OF 'chandlerylaw10.PkgNames'. -/
def pkgNamesCard : Claim7 := { stood := { row := pkgNamesRow, standIns := [], harness := (true, "654c4a07f10caeed7e80321564d606e2124c165910f66c0d7740d65b4cafbec8"), looks := true }, kinds := [], alts := [], laidByText := true, laidKinds := [.data, .mapped, .data, .pinned], laidTests := true, laidLooks := .later }
def PkgNamesCardSaid : Prop := Claim7.holds Tryd.pinned (.plain (OpenSpec.ofChange pkgNamesSpec)) pkgNamesCard

/-- THE SECOND FORM's CARD OF 'chandlerylaw08.RichNames'. -/
def richNamesUptoCard : Claim7 := { stood := { row := richNamesUptoRow, standIns := [], harness := (true, "654c4a07f10caeed7e80321564d606e2124c165910f66c0d7740d65b4cafbec8"), looks := true }, kinds := [], alts := [], laidByText := true, laidKinds := [.data, .data, .data, .sentinel, .sentinel, .mapped, .data, .data], laidTests := true, laidLooks := .later }
def RichNamesUptoCardSaid : Prop := Claim7.holds Tryd.pinned (.plain (OpenSpec.upto richNamesSpec)) richNamesUptoCard

/-- THE SECOND FORM's CARD OF 'chandlerylaw08.RichParts'. -/
def richPartsUptoCard : Claim7 := { stood := { row := richPartsUptoRow, standIns := [], harness := (true, "654c4a07f10caeed7e80321564d606e2124c165910f66c0d7740d65b4cafbec8"), looks := true }, kinds := [], alts := [], laidByText := true, laidKinds := [.data, .data, .data, .sentinel, .sentinel, .mapped, .data, .data], laidTests := true, laidLooks := .later }
def RichPartsUptoCardSaid : Prop := Claim7.holds Tryd.pinned (.plain (OpenSpec.upto richPartsSpec)) richPartsUptoCard

/-- THE SECOND FORM's CARD OF 'chandlerylaw10.PkgLess'. -/
def pkgLessUptoCard : Claim7 := { stood := { row := pkgLessUptoRow, standIns := [], harness := (true, "654c4a07f10caeed7e80321564d606e2124c165910f66c0d7740d65b4cafbec8"), looks := true }, kinds := [], alts := [], laidByText := true, laidKinds := [.data, .mapped, .data, .pinned], laidTests := true, laidLooks := .later }
def PkgLessUptoCardSaid : Prop := Claim7.holds Tryd.pinned (.plain (OpenSpec.upto pkgLessSpec)) pkgLessUptoCard

/-- THE SECOND FORM's CARD OF 'chandlerylaw10.PkgNames'. -/
def pkgNamesUptoCard : Claim7 := { stood := { row := pkgNamesUptoRow, standIns := [], harness := (true, "654c4a07f10caeed7e80321564d606e2124c165910f66c0d7740d65b4cafbec8"), looks := true }, kinds := [], alts := [], laidByText := true, laidKinds := [.data, .mapped, .data, .pinned], laidTests := true, laidLooks := .later }
def PkgNamesUptoCardSaid : Prop := Claim7.holds Tryd.pinned (.plain (OpenSpec.upto pkgNamesSpec)) pkgNamesUptoCard
end Rows
end Go.Proofs.YtpnnhhgojijlbaaDoor
