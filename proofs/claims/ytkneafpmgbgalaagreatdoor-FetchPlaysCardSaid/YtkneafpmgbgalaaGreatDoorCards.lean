/-
  DERIVED. GIVEN WITH THE SEED: THE CARDS: each row of YtkneafpmgbgalaaGreatDoorRows.lean that lists a variable, with what it lists TIED to the program's text (the seventh form; the later family's looks); each row that meets fmt, with fmt's text TOLD by the authors' own Lean function (tested against real Go, not proved from fmt's source: count such statements apart). THE CARD IS WHAT COUNTS. Prove the row's statement (the work); the ties are given (YtkneafpmgbgalaaGreatDoorTie.lean); close each card by the builder's one call (the guide's Derived/Test/ToyasCard.lean, 'card_holds'). Laid BY PROGRAM, IN A SANDBOX (cutbox-door.mjs). By AI agents, Wed Nov 11 2026. No macro, syntax, notation, axiom, sorry.
-/
import Derived.Test.YtkneafpmgbgalaaGreatDoorRows
import GoSem.ClaimSeven
namespace Go.Proofs.YtkneafpmgbgalaaGreatDoor
namespace Rows

/-- THE TIED CARD OF 'narthexlaw24.FetchAgrees'. -/
def fetchAgreesCard : Claim7 := { stood := { row := fetchAgreesRow, standIns := [], harness := (true, "f83b6f2bb8105874e04d1d88a34e95b44962933b56674232b80bca285a7ae16f"), looks := false }, kinds := [], alts := [], laidByText := true, laidKinds := [.data, .pinned, .pinned], laidTests := true, laidLooks := .later }
def FetchAgreesCardSaid : Prop := Claim7.holds Tryz.pinned (.plain (OpenSpec.ofChange fetchAgreesSpec)) fetchAgreesCard

/-- THE TIED CARD OF 'narthexlaw24.FetchPlays'. -/
def fetchPlaysCard : Claim7 := { stood := { row := fetchPlaysRow, standIns := [], harness := (true, "f83b6f2bb8105874e04d1d88a34e95b44962933b56674232b80bca285a7ae16f"), looks := false }, kinds := [], alts := [], laidByText := true, laidKinds := [.data, .pinned, .pinned], laidTests := true, laidLooks := .later }
def FetchPlaysCardSaid : Prop := Claim7.holds Tryz.pinned (.plain (OpenSpec.ofChange fetchPlaysSpec)) fetchPlaysCard

/-- THE TIED CARD OF 'narthexlaw24.FetchKeeps'. -/
def fetchKeepsCard : Claim7 := { stood := { row := fetchKeepsRow, standIns := [], harness := (true, "f83b6f2bb8105874e04d1d88a34e95b44962933b56674232b80bca285a7ae16f"), looks := false }, kinds := [], alts := [], laidByText := true, laidKinds := [.data, .pinned, .pinned], laidTests := true, laidLooks := .later }
def FetchKeepsCardSaid : Prop := Claim7.holds Tryz.pinned (.plain (OpenSpec.ofChange fetchKeepsSpec)) fetchKeepsCard

/-- THE SECOND FORM's CARD OF 'narthexlaw24.FetchAgrees'. -/
def fetchAgreesUptoCard : Claim7 := { stood := { row := fetchAgreesUptoRow, standIns := [], harness := (true, "f83b6f2bb8105874e04d1d88a34e95b44962933b56674232b80bca285a7ae16f"), looks := false }, kinds := [], alts := [], laidByText := true, laidKinds := [.data, .pinned, .pinned], laidTests := true, laidLooks := .later }
def FetchAgreesUptoCardSaid : Prop := Claim7.holds Tryz.pinned (.plain (OpenSpec.upto fetchAgreesSpec)) fetchAgreesUptoCard

/-- THE SECOND FORM's CARD OF 'narthexlaw24.FetchPlays'. -/
def fetchPlaysUptoCard : Claim7 := { stood := { row := fetchPlaysUptoRow, standIns := [], harness := (true, "f83b6f2bb8105874e04d1d88a34e95b44962933b56674232b80bca285a7ae16f"), looks := false }, kinds := [], alts := [], laidByText := true, laidKinds := [.data, .pinned, .pinned], laidTests := true, laidLooks := .later }
def FetchPlaysUptoCardSaid : Prop := Claim7.holds Tryz.pinned (.plain (OpenSpec.upto fetchPlaysSpec)) fetchPlaysUptoCard

/-- THE SECOND FORM's CARD OF 'narthexlaw24.FetchKeeps'. -/
def fetchKeepsUptoCard : Claim7 := { stood := { row := fetchKeepsUptoRow, standIns := [], harness := (true, "f83b6f2bb8105874e04d1d88a34e95b44962933b56674232b80bca285a7ae16f"), looks := false }, kinds := [], alts := [], laidByText := true, laidKinds := [.data, .pinned, .pinned], laidTests := true, laidLooks := .later }
def FetchKeepsUptoCardSaid : Prop := Claim7.holds Tryz.pinned (.plain (OpenSpec.upto fetchKeepsSpec)) fetchKeepsUptoCard
end Rows
end Go.Proofs.YtkneafpmgbgalaaGreatDoor
