/-
  DERIVED. GIVEN WITH THE SEED: THE CARDS: each row of YtoglbogfoolkaaaDoorRows.lean that lists a variable, with what it lists TIED to the program's text (the seventh form; the later family's looks); each row that meets fmt, with fmt's text TOLD by the authors' own Lean function (tested against real Go, not proved from fmt's source: count such statements apart). THE CARD IS WHAT COUNTS. Prove the row's statement (the work); the ties are given (YtoglbogfoolkaaaDoorTie.lean); close each card by the builder's one call (the guide's Derived/Test/ToyasCard.lean, 'card_holds'). Laid BY PROGRAM, IN A SANDBOX (cutbox-door.mjs). By AI agents, Wed Nov 11 2026. No macro, syntax, notation, axiom, sorry.
-/
import Derived.Test.YtoglbogfoolkaaaDoorRows
import GoSem.ClaimSeven
namespace Go.Proofs.YtoglbogfoolkaaaDoor
namespace Rows

/-- THE TIED CARD OF 'chandlerylaw10.PkgLess'. -/
def pkgLessCard : Claim7 := { stood := { row := pkgLessRow, standIns := [], harness := (true, "930253b291703cdc73fc1b23b160b5499196ddda49264632c0dcb4f950ce31c9"), looks := false }, kinds := [], alts := [], laidByText := true, laidKinds := [.data, .mapped, .data, .pinned], laidTests := true, laidLooks := .later }
def PkgLessCardSaid : Prop := Claim7.holds Tryd.pinned (.plain (OpenSpec.ofChange pkgLessSpec)) pkgLessCard

/-- THE TIED CARD OF 'chandlerylaw10.PkgNames'. -/
def pkgNamesCard : Claim7 := { stood := { row := pkgNamesRow, standIns := [], harness := (true, "930253b291703cdc73fc1b23b160b5499196ddda49264632c0dcb4f950ce31c9"), looks := false }, kinds := [], alts := [], laidByText := true, laidKinds := [.data, .mapped, .data, .pinned], laidTests := true, laidLooks := .later }
def PkgNamesCardSaid : Prop := Claim7.holds Tryd.pinned (.plain (OpenSpec.ofChange pkgNamesSpec)) pkgNamesCard

/-- THE SECOND FORM's CARD OF 'chandlerylaw10.PkgLess'. -/
def pkgLessUptoCard : Claim7 := { stood := { row := pkgLessUptoRow, standIns := [], harness := (true, "930253b291703cdc73fc1b23b160b5499196ddda49264632c0dcb4f950ce31c9"), looks := false }, kinds := [], alts := [], laidByText := true, laidKinds := [.data, .mapped, .data, .pinned], laidTests := true, laidLooks := .later }
def PkgLessUptoCardSaid : Prop := Claim7.holds Tryd.pinned (.plain (OpenSpec.upto pkgLessSpec)) pkgLessUptoCard

/-- THE SECOND FORM's CARD OF 'chandlerylaw10.PkgNames'. -/
def pkgNamesUptoCard : Claim7 := { stood := { row := pkgNamesUptoRow, standIns := [], harness := (true, "930253b291703cdc73fc1b23b160b5499196ddda49264632c0dcb4f950ce31c9"), looks := false }, kinds := [], alts := [], laidByText := true, laidKinds := [.data, .mapped, .data, .pinned], laidTests := true, laidLooks := .later }
def PkgNamesUptoCardSaid : Prop := Claim7.holds Tryd.pinned (.plain (OpenSpec.upto pkgNamesSpec)) pkgNamesUptoCard
end Rows
end Go.Proofs.YtoglbogfoolkaaaDoor
