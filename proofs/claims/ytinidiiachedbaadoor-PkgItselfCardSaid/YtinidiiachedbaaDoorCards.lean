/-
  DERIVED. GIVEN WITH THE SEED: THE CARDS: each row of YtinidiiachedbaaDoorRows.lean that lists a variable, with what it lists TIED to the program's text (the seventh form; the later family's looks); each row that meets fmt, with fmt's text TOLD by the authors' own Lean function (tested against real Go, not proved from fmt's source: count such statements apart). THE CARD IS WHAT COUNTS. Prove the row's statement (the work); the ties are given (YtinidiiachedbaaDoorTie.lean); close each card by the builder's one call (the guide's Derived/Test/ToyasCard.lean, 'card_holds'). Laid BY PROGRAM, IN A SANDBOX (cutbox-door.mjs). By AI agents, Wed Nov 11 2026. No macro, syntax, notation, axiom, sorry.
-/
import Derived.Test.YtinidiiachedbaaDoorRows
import GoSem.ClaimSeven
namespace Go.Proofs.YtinidiiachedbaaDoor
namespace Rows

/-- THE TIED CARD OF 'chandlerylaw02.VercmpSorts'. -/
def vercmpSortsCard : Claim7 := { stood := { row := vercmpSortsRow, standIns := [], harness := (true, "1811f8f73a5454afa819e20ebf613cb9fb20f0589898b1ed1f04275aa8956ef1"), looks := true }, kinds := [], alts := [], laidByText := true, laidKinds := [.data, .pinned], laidTests := true, laidLooks := .later }
def VercmpSortsCardSaid : Prop := Claim7.holds Tryd.pinned (.plain (OpenSpec.ofChange vercmpSortsSpec)) vercmpSortsCard

/-- THE TIED CARD OF 'chandlerylaw02.VercmpNames'. -/
def vercmpNamesCard : Claim7 := { stood := { row := vercmpNamesRow, standIns := [], harness := (true, "1811f8f73a5454afa819e20ebf613cb9fb20f0589898b1ed1f04275aa8956ef1"), looks := true }, kinds := [], alts := [], laidByText := true, laidKinds := [.data, .pinned], laidTests := true, laidLooks := .later }
def VercmpNamesCardSaid : Prop := Claim7.holds Tryd.pinned (.plain (OpenSpec.ofChange vercmpNamesSpec)) vercmpNamesCard

/-- THE TIED CARD OF 'chandlerylaw06.DepNames'. -/
def depNamesCard : Claim7 := { stood := { row := depNamesRow, standIns := [], harness := (true, "1811f8f73a5454afa819e20ebf613cb9fb20f0589898b1ed1f04275aa8956ef1"), looks := true }, kinds := [], alts := [], laidByText := true, laidKinds := [.data, .data, .data, .data, .sentinel, .sentinel, .mapped, .data, .pinned], laidTests := true, laidLooks := .later }
def DepNamesCardSaid : Prop := Claim7.holds Tryd.pinned (.plain (OpenSpec.ofChange depNamesSpec)) depNamesCard

/-- THE TIED CARD OF 'chandlerylaw10.PkgLess'. -/
def pkgLessCard : Claim7 := { stood := { row := pkgLessRow, standIns := [], harness := (true, "1811f8f73a5454afa819e20ebf613cb9fb20f0589898b1ed1f04275aa8956ef1"), looks := true }, kinds := [], alts := [], laidByText := true, laidKinds := [.data, .mapped, .data, .pinned], laidTests := true, laidLooks := .later }
def PkgLessCardSaid : Prop := Claim7.holds Tryd.pinned (.plain (OpenSpec.ofChange pkgLessSpec)) pkgLessCard

/-- THE TIED CARD OF 'chandlerylaw10.PkgNames'. -/
def pkgNamesCard : Claim7 := { stood := { row := pkgNamesRow, standIns := [], harness := (true, "1811f8f73a5454afa819e20ebf613cb9fb20f0589898b1ed1f04275aa8956ef1"), looks := true }, kinds := [], alts := [], laidByText := true, laidKinds := [.data, .mapped, .data, .pinned], laidTests := true, laidLooks := .later }
def PkgNamesCardSaid : Prop := Claim7.holds Tryd.pinned (.plain (OpenSpec.ofChange pkgNamesSpec)) pkgNamesCard

/-- THE TIED CARD OF 'chandlerylaw10.PkgItself'. -/
def pkgItselfCard : Claim7 := { stood := { row := pkgItselfRow, standIns := [], harness := (true, "1811f8f73a5454afa819e20ebf613cb9fb20f0589898b1ed1f04275aa8956ef1"), looks := true }, kinds := [], alts := [], laidByText := true, laidKinds := [.data, .mapped, .data, .pinned], laidTests := true, laidLooks := .later }
def PkgItselfCardSaid : Prop := Claim7.holds Tryd.pinned (.plain (OpenSpec.ofChange pkgItselfSpec)) pkgItselfCard

/-- THE TIED CARD OF 'chandlerylaw10.PkgByName'. -/
def pkgByNameCard : Claim7 := { stood := { row := pkgByNameRow, standIns := [], harness := (true, "1811f8f73a5454afa819e20ebf613cb9fb20f0589898b1ed1f04275aa8956ef1"), looks := true }, kinds := [], alts := [], laidByText := true, laidKinds := [.data, .mapped, .data, .pinned], laidTests := true, laidLooks := .later }
def PkgByNameCardSaid : Prop := Claim7.holds Tryd.pinned (.plain (OpenSpec.ofChange pkgByNameSpec)) pkgByNameCard

/-- THE SECOND FORM's CARD OF 'chandlerylaw02.VercmpSorts'. -/
def vercmpSortsUptoCard : Claim7 := { stood := { row := vercmpSortsUptoRow, standIns := [], harness := (true, "1811f8f73a5454afa819e20ebf613cb9fb20f0589898b1ed1f04275aa8956ef1"), looks := true }, kinds := [], alts := [], laidByText := true, laidKinds := [.data, .pinned], laidTests := true, laidLooks := .later }
def VercmpSortsUptoCardSaid : Prop := Claim7.holds Tryd.pinned (.plain (OpenSpec.upto vercmpSortsSpec)) vercmpSortsUptoCard

/-- THE SECOND FORM's CARD OF 'chandlerylaw02.VercmpNames'. -/
def vercmpNamesUptoCard : Claim7 := { stood := { row := vercmpNamesUptoRow, standIns := [], harness := (true, "1811f8f73a5454afa819e20ebf613cb9fb20f0589898b1ed1f04275aa8956ef1"), looks := true }, kinds := [], alts := [], laidByText := true, laidKinds := [.data, .pinned], laidTests := true, laidLooks := .later }
def VercmpNamesUptoCardSaid : Prop := Claim7.holds Tryd.pinned (.plain (OpenSpec.upto vercmpNamesSpec)) vercmpNamesUptoCard

/-- THE SECOND FORM's CARD OF 'chandlerylaw06.DepNames'. -/
def depNamesUptoCard : Claim7 := { stood := { row := depNamesUptoRow, standIns := [], harness := (true, "1811f8f73a5454afa819e20ebf613cb9fb20f0589898b1ed1f04275aa8956ef1"), looks := true }, kinds := [], alts := [], laidByText := true, laidKinds := [.data, .data, .data, .data, .sentinel, .sentinel, .mapped, .data, .pinned], laidTests := true, laidLooks := .later }
def DepNamesUptoCardSaid : Prop := Claim7.holds Tryd.pinned (.plain (OpenSpec.upto depNamesSpec)) depNamesUptoCard

/-- THE SECOND FORM's CARD OF 'chandlerylaw10.PkgLess'. -/
def pkgLessUptoCard : Claim7 := { stood := { row := pkgLessUptoRow, standIns := [], harness := (true, "1811f8f73a5454afa819e20ebf613cb9fb20f0589898b1ed1f04275aa8956ef1"), looks := true }, kinds := [], alts := [], laidByText := true, laidKinds := [.data, .mapped, .data, .pinned], laidTests := true, laidLooks := .later }
def PkgLessUptoCardSaid : Prop := Claim7.holds Tryd.pinned (.plain (OpenSpec.upto pkgLessSpec)) pkgLessUptoCard

/-- THE SECOND FORM's CARD OF 'chandlerylaw10.PkgNames'. -/
def pkgNamesUptoCard : Claim7 := { stood := { row := pkgNamesUptoRow, standIns := [], harness := (true, "1811f8f73a5454afa819e20ebf613cb9fb20f0589898b1ed1f04275aa8956ef1"), looks := true }, kinds := [], alts := [], laidByText := true, laidKinds := [.data, .mapped, .data, .pinned], laidTests := true, laidLooks := .later }
def PkgNamesUptoCardSaid : Prop := Claim7.holds Tryd.pinned (.plain (OpenSpec.upto pkgNamesSpec)) pkgNamesUptoCard

/-- THE SECOND FORM's CARD OF 'chandlerylaw10.PkgItself'. -/
def pkgItselfUptoCard : Claim7 := { stood := { row := pkgItselfUptoRow, standIns := [], harness := (true, "1811f8f73a5454afa819e20ebf613cb9fb20f0589898b1ed1f04275aa8956ef1"), looks := true }, kinds := [], alts := [], laidByText := true, laidKinds := [.data, .mapped, .data, .pinned], laidTests := true, laidLooks := .later }
def PkgItselfUptoCardSaid : Prop := Claim7.holds Tryd.pinned (.plain (OpenSpec.upto pkgItselfSpec)) pkgItselfUptoCard

/-- THE SECOND FORM's CARD OF 'chandlerylaw10.PkgByName'. -/
def pkgByNameUptoCard : Claim7 := { stood := { row := pkgByNameUptoRow, standIns := [], harness := (true, "1811f8f73a5454afa819e20ebf613cb9fb20f0589898b1ed1f04275aa8956ef1"), looks := true }, kinds := [], alts := [], laidByText := true, laidKinds := [.data, .mapped, .data, .pinned], laidTests := true, laidLooks := .later }
def PkgByNameUptoCardSaid : Prop := Claim7.holds Tryd.pinned (.plain (OpenSpec.upto pkgByNameSpec)) pkgByNameUptoCard
end Rows
end Go.Proofs.YtinidiiachedbaaDoor
