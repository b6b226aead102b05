/-
  DERIVED. GIVEN WITH THE SEED: THE CARDS: each row of YtkpefendeonemaaDoorRows.lean that lists a variable, with what it lists TIED to the program's text (the seventh form; the later family's looks); each row that meets fmt, with fmt's text TOLD by the authors' own Lean function (tested against real Go, not proved from fmt's source: count such statements apart). THE CARD IS WHAT COUNTS. Prove the row's statement (the work); the ties are given (YtkpefendeonemaaDoorTie.lean); close each card by the builder's one call (the guide's Derived/Test/ToyasCard.lean, 'card_holds'). Laid BY PROGRAM, IN A SANDBOX (cutbox-door.mjs). By AI agents, Wed Nov 11 2026. No macro, syntax, notation, axiom, sorry.
-/
import Derived.Test.YtkpefendeonemaaDoorRows
import GoSem.ClaimSeven
namespace Go.Proofs.YtkpefendeonemaaDoor
namespace Rows

/-- THE TIED CARD OF 'narthexlaw23.OracleFinds'. -/
def oracleFindsCard : Claim7 := { stood := { row := oracleFindsRow, standIns := [], harness := (true, "c126115e2861b9351bd952c4fc5e5df7d994f618872840196905695f5dd8a3b6"), looks := false }, kinds := [], alts := [], laidByText := true, laidKinds := [.data, .pinned, .pinned], laidTests := true, laidLooks := .later }
def OracleFindsCardSaid : Prop := Claim7.holds Tryd.pinned (.plain (OpenSpec.ofChange oracleFindsSpec)) oracleFindsCard

/-- THE TIED CARD OF 'narthexlaw23.OracleOnly'. -/
def oracleOnlyCard : Claim7 := { stood := { row := oracleOnlyRow, standIns := [], harness := (true, "c126115e2861b9351bd952c4fc5e5df7d994f618872840196905695f5dd8a3b6"), looks := false }, kinds := [], alts := [], laidByText := true, laidKinds := [.data, .pinned, .pinned], laidTests := true, laidLooks := .later }
def OracleOnlyCardSaid : Prop := Claim7.holds Tryd.pinned (.plain (OpenSpec.ofChange oracleOnlySpec)) oracleOnlyCard

/-- THE SECOND FORM's CARD OF 'narthexlaw23.OracleFinds'. -/
def oracleFindsUptoCard : Claim7 := { stood := { row := oracleFindsUptoRow, standIns := [], harness := (true, "c126115e2861b9351bd952c4fc5e5df7d994f618872840196905695f5dd8a3b6"), looks := false }, kinds := [], alts := [], laidByText := true, laidKinds := [.data, .pinned, .pinned], laidTests := true, laidLooks := .later }
def OracleFindsUptoCardSaid : Prop := Claim7.holds Tryd.pinned (.plain (OpenSpec.upto oracleFindsSpec)) oracleFindsUptoCard

/-- THE SECOND FORM's CARD OF 'narthexlaw23.OracleOnly'. -/
def oracleOnlyUptoCard : Claim7 := { stood := { row := oracleOnlyUptoRow, standIns := [], harness := (true, "c126115e2861b9351bd952c4fc5e5df7d994f618872840196905695f5dd8a3b6"), looks := false }, kinds := [], alts := [], laidByText := true, laidKinds := [.data, .pinned, .pinned], laidTests := true, laidLooks := .later }
def OracleOnlyUptoCardSaid : Prop := Claim7.holds Tryd.pinned (.plain (OpenSpec.upto oracleOnlySpec)) oracleOnlyUptoCard
end Rows
end Go.Proofs.YtkpefendeonemaaDoor
