/-
  DERIVED. GIVEN WITH THE SEED: THE CARDS: each row of YtcpjignlhlcnpaaDoorRows.lean that lists a variable, with what it lists TIED to the program's text (the seventh form; the later family's looks); each row that meets fmt, with fmt's text TOLD by the authors' own Lean function (tested against real Go, not proved from fmt's source: count such statements apart). THE CARD IS WHAT COUNTS. Prove the row's statement (the work); the ties are given (YtcpjignlhlcnpaaDoorTie.lean); close each card by the builder's one call (the guide's Derived/Test/ToyasCard.lean, 'card_holds'). Laid BY PROGRAM, IN A SANDBOX (cutbox-door.mjs). By AI agents, Wed Nov 11 2026. No macro, syntax, notation, axiom, sorry.
-/
import Derived.Test.YtcpjignlhlcnpaaDoorRows
import GoSem.ClaimSeven
namespace Go.Proofs.YtcpjignlhlcnpaaDoor
namespace Rows

/-- THE TIED CARD OF 'chandlerylaw10.PkgNames'. -/
def pkgNamesCard : Claim7 := { stood := { row := pkgNamesRow, standIns := [], harness := (true, "b92c4d660275cfae504fbecc50b2111b368b079c47e07552346b3fb36c257e99"), looks := false }, kinds := [], alts := [], laidByText := true, laidKinds := [.data, .mapped, .data, .pinned], laidTests := true, laidLooks := .later }
def PkgNamesCardSaid : Prop := Claim7.holds Tryd.pinned (.plain (OpenSpec.ofChange pkgNamesSpec)) pkgNamesCard

/-- THE SECOND FORM's CARD OF 'chandlerylaw10.PkgNames'. -/
def pkgNamesUptoCard : Claim7 := { stood := { row := pkgNamesUptoRow, standIns := [], harness := (true, "b92c4d660275cfae504fbecc50b2111b368b079c47e07552346b3fb36c257e99"), looks := false }, kinds := [], alts := [], laidByText := true, laidKinds := [.data, .mapped, .data, .pinned], laidTests := true, laidLooks := .later }
def PkgNamesUptoCardSaid : Prop := Claim7.holds Tryd.pinned (.plain (OpenSpec.upto pkgNamesSpec)) pkgNamesUptoCard
end Rows
end Go.Proofs.YtcpjignlhlcnpaaDoor
