/-
  DERIVED. GIVEN WITH THE SEED: THE CARDS: each row of YtdofcojbjcpikaaGreatDoorRows.lean that lists a variable, with what it lists TIED to the program's text (the seventh form; the later family's looks); each row that meets fmt, with fmt's text TOLD by the authors' own Lean function (tested against real Go, not proved from fmt's source: count such statements apart). THE CARD IS WHAT COUNTS. Prove the row's statement (the work); the ties are given (YtdofcojbjcpikaaGreatDoorTie.lean); close each card by the builder's one call (the guide's Derived/Test/ToyasCard.lean, 'card_holds'). Laid BY PROGRAM, IN A SANDBOX (cutbox-door.mjs). By AI agents, Wed Nov 11 2026. No macro, syntax, notation, axiom, sorry.
-/
import Derived.Test.YtdofcojbjcpikaaGreatDoorRows
import GoSem.ClaimSeven
namespace Go.Proofs.YtdofcojbjcpikaaGreatDoor
namespace Rows

/-- THE TIED CARD OF 'laws.FnExactIdealDo'. -/
def fnExactIdealDoCard : Claim7 := { stood := { row := fnExactIdealDoRow, standIns := [], harness := (true, "f9b17d439206114b4fcc229702d241d03a989c0fafd9e3a1d096da3e7edddfe7"), looks := false }, kinds := [], alts := [], laidByText := true, laidKinds := [.data, .data], laidTests := true, laidLooks := .later }
def FnExactIdealDoCardSaid : Prop := Claim7.holds Tryz.pinned (.plain (OpenSpec.ofChange fnExactIdealDoSpec)) fnExactIdealDoCard

/-- THE TIED CARD OF 'laws.FnPackage'. -/
def fnPackageCard : Claim7 := { stood := { row := fnPackageRow, standIns := [], harness := (true, "f9b17d439206114b4fcc229702d241d03a989c0fafd9e3a1d096da3e7edddfe7"), looks := false }, kinds := [], alts := [], laidByText := true, laidKinds := [.data, .data], laidTests := true, laidLooks := .later }
def FnPackageCardSaid : Prop := Claim7.holds Tryz.pinned (.plain (OpenSpec.ofChange fnPackageSpec)) fnPackageCard

/-- THE TIED CARD OF 'laws.FnRefused'. -/
def fnRefusedCard : Claim7 := { stood := { row := fnRefusedRow, standIns := [], harness := (true, "f9b17d439206114b4fcc229702d241d03a989c0fafd9e3a1d096da3e7edddfe7"), looks := false }, kinds := [], alts := [], laidByText := true, laidKinds := [.data, .data], laidTests := true, laidLooks := .later }
def FnRefusedCardSaid : Prop := Claim7.holds Tryz.pinned (.plain (OpenSpec.ofChange fnRefusedSpec)) fnRefusedCard

/-- THE TIED CARD OF 'laws.FnResume'. -/
def fnResumeCard : Claim7 := { stood := { row := fnResumeRow, standIns := [], harness := (true, "f9b17d439206114b4fcc229702d241d03a989c0fafd9e3a1d096da3e7edddfe7"), looks := false }, kinds := [], alts := [], laidByText := true, laidKinds := [.data, .data], laidTests := true, laidLooks := .later }
def FnResumeCardSaid : Prop := Claim7.holds Tryz.pinned (.plain (OpenSpec.ofChange fnResumeSpec)) fnResumeCard

/-- THE SECOND FORM's CARD OF 'laws.FnExactIdealDo'. -/
def fnExactIdealDoUptoCard : Claim7 := { stood := { row := fnExactIdealDoUptoRow, standIns := [], harness := (true, "f9b17d439206114b4fcc229702d241d03a989c0fafd9e3a1d096da3e7edddfe7"), looks := false }, kinds := [], alts := [], laidByText := true, laidKinds := [.data, .data], laidTests := true, laidLooks := .later }
def FnExactIdealDoUptoCardSaid : Prop := Claim7.holds Tryz.pinned (.plain (OpenSpec.upto fnExactIdealDoSpec)) fnExactIdealDoUptoCard

/-- THE SECOND FORM's CARD OF 'laws.FnPackage'. -/
def fnPackageUptoCard : Claim7 := { stood := { row := fnPackageUptoRow, standIns := [], harness := (true, "f9b17d439206114b4fcc229702d241d03a989c0fafd9e3a1d096da3e7edddfe7"), looks := false }, kinds := [], alts := [], laidByText := true, laidKinds := [.data, .data], laidTests := true, laidLooks := .later }
def FnPackageUptoCardSaid : Prop := Claim7.holds Tryz.pinned (.plain (OpenSpec.upto fnPackageSpec)) fnPackageUptoCard

/-- THE SECOND FORM's CARD OF 'laws.FnRefused'. -/
def fnRefusedUptoCard : Claim7 := { stood := { row := fnRefusedUptoRow, standIns := [], harness := (true, "f9b17d439206114b4fcc229702d241d03a989c0fafd9e3a1d096da3e7edddfe7"), looks := false }, kinds := [], alts := [], laidByText := true, laidKinds := [.data, .data], laidTests := true, laidLooks := .later }
def FnRefusedUptoCardSaid : Prop := Claim7.holds Tryz.pinned (.plain (OpenSpec.upto fnRefusedSpec)) fnRefusedUptoCard

/-- THE SECOND FORM's CARD OF 'laws.FnResume'. -/
def fnResumeUptoCard : Claim7 := { stood := { row := fnResumeUptoRow, standIns := [], harness := (true, "f9b17d439206114b4fcc229702d241d03a989c0fafd9e3a1d096da3e7edddfe7"), looks := false }, kinds := [], alts := [], laidByText := true, laidKinds := [.data, .data], laidTests := true, laidLooks := .later }
def FnResumeUptoCardSaid : Prop := Claim7.holds Tryz.pinned (.plain (OpenSpec.upto fnResumeSpec)) fnResumeUptoCard
end Rows
end Go.Proofs.YtdofcojbjcpikaaGreatDoor
