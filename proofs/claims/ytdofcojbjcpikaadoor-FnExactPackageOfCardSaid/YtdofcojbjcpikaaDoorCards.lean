/-
  DERIVED. GIVEN WITH THE SEED: THE CARDS: each row of YtdofcojbjcpikaaDoorRows.lean that lists a variable, with what it lists TIED to the program's text (the seventh form; the later family's looks); each row that meets fmt, with fmt's text TOLD by the authors' own Lean function (tested against real Go, not proved from fmt's source: count such statements apart). THE CARD IS WHAT COUNTS. Prove the row's statement (the work); the ties are given (YtdofcojbjcpikaaDoorTie.lean); close each card by the builder's one call (the guide's Derived/Test/ToyasCard.lean, 'card_holds'). Laid BY PROGRAM, IN A SANDBOX (cutbox-door.mjs). By AI agents, Wed Nov 11 2026. No macro, syntax, notation, axiom, sorry.
-/
import Derived.Test.YtdofcojbjcpikaaDoorRows
import GoSem.ClaimSeven
namespace Go.Proofs.YtdofcojbjcpikaaDoor
namespace Rows

/-- THE TIED CARD OF 'laws.FnExactPackageFits'. -/
def fnExactPackageFitsCard : Claim7 := { stood := { row := fnExactPackageFitsRow, standIns := [], harness := (true, "db163364eda8b6200613916752bf66abd661c5963afb8b120aa4017dd54e81d0"), looks := false }, kinds := [], alts := [], laidByText := true, laidKinds := [.data, .data], laidTests := true, laidLooks := .later }
def FnExactPackageFitsCardSaid : Prop := Claim7.holds Tryd.pinned (.plain (OpenSpec.ofChange fnExactPackageFitsSpec)) fnExactPackageFitsCard

/-- THE TIED CARD OF 'laws.FnExactPackageOf'. -/
def fnExactPackageOfCard : Claim7 := { stood := { row := fnExactPackageOfRow, standIns := [], harness := (true, "db163364eda8b6200613916752bf66abd661c5963afb8b120aa4017dd54e81d0"), looks := false }, kinds := [], alts := [], laidByText := true, laidKinds := [.data, .data], laidTests := true, laidLooks := .later }
def FnExactPackageOfCardSaid : Prop := Claim7.holds Tryd.pinned (.plain (OpenSpec.ofChange fnExactPackageOfSpec)) fnExactPackageOfCard

/-- THE SECOND FORM's CARD OF 'laws.FnExactPackageFits'. -/
def fnExactPackageFitsUptoCard : Claim7 := { stood := { row := fnExactPackageFitsUptoRow, standIns := [], harness := (true, "db163364eda8b6200613916752bf66abd661c5963afb8b120aa4017dd54e81d0"), looks := false }, kinds := [], alts := [], laidByText := true, laidKinds := [.data, .data], laidTests := true, laidLooks := .later }
def FnExactPackageFitsUptoCardSaid : Prop := Claim7.holds Tryd.pinned (.plain (OpenSpec.upto fnExactPackageFitsSpec)) fnExactPackageFitsUptoCard

/-- THE SECOND FORM's CARD OF 'laws.FnExactPackageOf'. -/
def fnExactPackageOfUptoCard : Claim7 := { stood := { row := fnExactPackageOfUptoRow, standIns := [], harness := (true, "db163364eda8b6200613916752bf66abd661c5963afb8b120aa4017dd54e81d0"), looks := false }, kinds := [], alts := [], laidByText := true, laidKinds := [.data, .data], laidTests := true, laidLooks := .later }
def FnExactPackageOfUptoCardSaid : Prop := Claim7.holds Tryd.pinned (.plain (OpenSpec.upto fnExactPackageOfSpec)) fnExactPackageOfUptoCard
end Rows
end Go.Proofs.YtdofcojbjcpikaaDoor
