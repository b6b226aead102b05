/-
  DERIVED. GIVEN WITH THE SEED: THE CARDS: each row of YtfkeceggiddlbaaGreatDoorRows.lean that lists a variable, with what it lists TIED to the program's text (the seventh form; the later family's looks); each row that meets fmt, with fmt's text TOLD by the authors' own Lean function (tested against real Go, not proved from fmt's source: count such statements apart). THE CARD IS WHAT COUNTS. Prove the row's statement (the work); the ties are given (YtfkeceggiddlbaaGreatDoorTie.lean); close each card by the builder's one call (the guide's Derived/Test/ToyasCard.lean, 'card_holds'). Laid BY PROGRAM, IN A SANDBOX (cutbox-door.mjs). By AI agents, Wed Nov 11 2026. No macro, syntax, notation, axiom, sorry.
-/
import Derived.Test.YtfkeceggiddlbaaGreatDoorRows
import GoSem.ClaimSeven
namespace Go.Proofs.YtfkeceggiddlbaaGreatDoor
namespace Rows

/-- THE TIED CARD OF 'narthexlaw26.MeterCounts'. -/
def meterCountsCard : Claim7 := { stood := { row := meterCountsRow, standIns := [], harness := (true, "03b060458062c0e20bf38cc234c1f108c22dc8c02abec8664495a74ca62be91d"), looks := false }, kinds := [], alts := [], laidByText := true, laidKinds := [.data, .pinned, .pinned], laidTests := true, laidLooks := .later }
def MeterCountsCardSaid : Prop := Claim7.holds Tryz.pinned (.plain (OpenSpec.ofChange meterCountsSpec)) meterCountsCard

/-- THE TIED CARD OF 'narthexlaw26.MeterChecks'. -/
def meterChecksCard : Claim7 := { stood := { row := meterChecksRow, standIns := [], harness := (true, "03b060458062c0e20bf38cc234c1f108c22dc8c02abec8664495a74ca62be91d"), looks := false }, kinds := [], alts := [], laidByText := true, laidKinds := [.data, .pinned, .pinned], laidTests := true, laidLooks := .later }
def MeterChecksCardSaid : Prop := Claim7.holds Tryz.pinned (.plain (OpenSpec.ofChange meterChecksSpec)) meterChecksCard

/-- THE SECOND FORM's CARD OF 'narthexlaw26.MeterCounts'. -/
def meterCountsUptoCard : Claim7 := { stood := { row := meterCountsUptoRow, standIns := [], harness := (true, "03b060458062c0e20bf38cc234c1f108c22dc8c02abec8664495a74ca62be91d"), looks := false }, kinds := [], alts := [], laidByText := true, laidKinds := [.data, .pinned, .pinned], laidTests := true, laidLooks := .later }
def MeterCountsUptoCardSaid : Prop := Claim7.holds Tryz.pinned (.plain (OpenSpec.upto meterCountsSpec)) meterCountsUptoCard

/-- THE SECOND FORM's CARD OF 'narthexlaw26.MeterChecks'. -/
def meterChecksUptoCard : Claim7 := { stood := { row := meterChecksUptoRow, standIns := [], harness := (true, "03b060458062c0e20bf38cc234c1f108c22dc8c02abec8664495a74ca62be91d"), looks := false }, kinds := [], alts := [], laidByText := true, laidKinds := [.data, .pinned, .pinned], laidTests := true, laidLooks := .later }
def MeterChecksUptoCardSaid : Prop := Claim7.holds Tryz.pinned (.plain (OpenSpec.upto meterChecksSpec)) meterChecksUptoCard
end Rows
end Go.Proofs.YtfkeceggiddlbaaGreatDoor
