/-
  DERIVED. GIVEN WITH THE SEED: THE CARDS: each row of YthjbhdmjfakfaaaGreatDoorRows.lean that lists a variable, with what it lists TIED to the program's text (the seventh form; the later family's looks); each row that meets fmt, with fmt's text TOLD by the authors' own Lean function (tested against real Go, not proved from fmt's source: count such statements apart). THE CARD IS WHAT COUNTS. Prove the row's statement (the work); the ties are given (YthjbhdmjfakfaaaGreatDoorTie.lean); close each card by the builder's one call (the guide's Derived/Test/ToyasCard.lean, 'card_holds'). Laid BY PROGRAM, IN A SANDBOX (cutbox-door.mjs). By AI agents, Wed Nov 11 2026. No macro, syntax, notation, axiom, sorry.
-/
import Derived.Test.YthjbhdmjfakfaaaGreatDoorRows
import GoSem.ClaimSeven
namespace Go.Proofs.YthjbhdmjfakfaaaGreatDoor
namespace Rows

/-- THE TIED CARD OF 'laws.FnPackage'. -/
def fnPackageCard : Claim7 := { stood := { row := fnPackageRow, standIns := [], harness := (true, "68bc4b5e9496981d9c766f49fbb7ad9e96819613147a8f0d4dbbcb4254e8c4ec"), looks := false }, kinds := [], alts := [], laidByText := true, laidKinds := [.data, .data], laidTests := true, laidLooks := .later }
def FnPackageCardSaid : Prop := Claim7.holds Tryz.pinned (.plain (OpenSpec.ofChange fnPackageSpec)) fnPackageCard

/-- THE TIED CARD OF 'laws.FnRefused'. -/
def fnRefusedCard : Claim7 := { stood := { row := fnRefusedRow, standIns := [], harness := (true, "68bc4b5e9496981d9c766f49fbb7ad9e96819613147a8f0d4dbbcb4254e8c4ec"), looks := false }, kinds := [], alts := [], laidByText := true, laidKinds := [.data, .data], laidTests := true, laidLooks := .later }
def FnRefusedCardSaid : Prop := Claim7.holds Tryz.pinned (.plain (OpenSpec.ofChange fnRefusedSpec)) fnRefusedCard

/-- THE TIED CARD OF 'laws.FnResume'. -/
def fnResumeCard : Claim7 := { stood := { row := fnResumeRow, standIns := [], harness := (true, "68bc4b5e9496981d9c766f49fbb7ad9e96819613147a8f0d4dbbcb4254e8c4ec"), looks := false }, kinds := [], alts := [], laidByText := true, laidKinds := [.data, .data], laidTests := true, laidLooks := .later }
def FnResumeCardSaid : Prop := Claim7.holds Tryz.pinned (.plain (OpenSpec.ofChange fnResumeSpec)) fnResumeCard

/-- THE SECOND FORM's CARD OF 'laws.FnPackage'. -/
def fnPackageUptoCard : Claim7 := { stood := { row := fnPackageUptoRow, standIns := [], harness := (true, "68bc4b5e9496981d9c766f49fbb7ad9e96819613147a8f0d4dbbcb4254e8c4ec"), looks := false }, kinds := [], alts := [], laidByText := true, laidKinds := [.data, .data], laidTests := true, laidLooks := .later }
def FnPackageUptoCardSaid : Prop := Claim7.holds Tryz.pinned (.plain (OpenSpec.upto fnPackageSpec)) fnPackageUptoCard

/-- THE SECOND FORM's CARD OF 'laws.FnRefused'. -/
def fnRefusedUptoCard : Claim7 := { stood := { row := fnRefusedUptoRow, standIns := [], harness := (true, "68bc4b5e9496981d9c766f49fbb7ad9e96819613147a8f0d4dbbcb4254e8c4ec"), looks := false }, kinds := [], alts := [], laidByText := true, laidKinds := [.data, .data], laidTests := true, laidLooks := .later }
def FnRefusedUptoCardSaid : Prop := Claim7.holds Tryz.pinned (.plain (OpenSpec.upto fnRefusedSpec)) fnRefusedUptoCard

/-- THE SECOND FORM's CARD OF 'laws.FnResume'. -/
def fnResumeUptoCard : Claim7 := { stood := { row := fnResumeUptoRow, standIns := [], harness := (true, "68bc4b5e9496981d9c766f49fbb7ad9e96819613147a8f0d4dbbcb4254e8c4ec"), looks := false }, kinds := [], alts := [], laidByText := true, laidKinds := [.data, .data], laidTests := true, laidLooks := .later }
def FnResumeUptoCardSaid : Prop := Claim7.holds Tryz.pinned (.plain (OpenSpec.upto fnResumeSpec)) fnResumeUptoCard
end Rows
end Go.Proofs.YthjbhdmjfakfaaaGreatDoor
