/-
  DERIVED. GIVEN WITH THE SEED: THE CARDS: each row of YtbklopnpehafpaaDoorRows.lean that lists a variable, with what it lists TIED to the program's text (the seventh form; the later family's looks); each row that meets fmt, with fmt's text TOLD by the authors' own Lean function (tested against real Go, not proved from fmt's source: count such statements apart). THE CARD IS WHAT COUNTS. Prove the row's statement (the work); the ties are given (YtbklopnpehafpaaDoorTie.lean); close each card by the builder's one call (the guide's Derived/Test/ToyasCard.lean, 'card_holds'). Laid BY PROGRAM, IN A SANDBOX (cutbox-door.mjs). By AI agents, Wed Nov 11 2026. No macro, syntax, notation, axiom, sorry.
-/
import Derived.Test.YtbklopnpehafpaaDoorRows
import GoSem.ClaimSeven
namespace Go.Proofs.YtbklopnpehafpaaDoor
namespace Rows

/-- THE TIED CARD OF 'narthexlaw13.ExtidHeads'. -/
def extidHeadsCard : Claim7 := { stood := { row := extidHeadsRow, standIns := [], harness := (true, "ba44df4cb2ca582635a8fc796d65a9e7d141ba54ec4d8b4f3ea3b05b8a528ca1"), looks := false }, kinds := [], alts := [], laidByText := true, laidKinds := [.data, .widerDeep, .widerDeep], laidTests := true, laidLooks := .later }
def ExtidHeadsCardSaid : Prop := Claim7.holds Tryd.pinned (.plain (OpenSpec.ofChange extidHeadsSpec)) extidHeadsCard

/-- THE TIED CARD OF 'narthexlaw13.ExtidPuts'. -/
def extidPutsCard : Claim7 := { stood := { row := extidPutsRow, standIns := [], harness := (true, "ba44df4cb2ca582635a8fc796d65a9e7d141ba54ec4d8b4f3ea3b05b8a528ca1"), looks := false }, kinds := [], alts := [], laidByText := true, laidKinds := [.data, .widerDeep, .widerDeep], laidTests := true, laidLooks := .later }
def ExtidPutsCardSaid : Prop := Claim7.holds Tryd.pinned (.plain (OpenSpec.ofChange extidPutsSpec)) extidPutsCard

/-- THE SECOND FORM's CARD OF 'narthexlaw13.ExtidHeads'. -/
def extidHeadsUptoCard : Claim7 := { stood := { row := extidHeadsUptoRow, standIns := [], harness := (true, "ba44df4cb2ca582635a8fc796d65a9e7d141ba54ec4d8b4f3ea3b05b8a528ca1"), looks := false }, kinds := [], alts := [], laidByText := true, laidKinds := [.data, .widerDeep, .widerDeep], laidTests := true, laidLooks := .later }
def ExtidHeadsUptoCardSaid : Prop := Claim7.holds Tryd.pinned (.plain (OpenSpec.upto extidHeadsSpec)) extidHeadsUptoCard

/-- THE SECOND FORM's CARD OF 'narthexlaw13.ExtidPuts'. -/
def extidPutsUptoCard : Claim7 := { stood := { row := extidPutsUptoRow, standIns := [], harness := (true, "ba44df4cb2ca582635a8fc796d65a9e7d141ba54ec4d8b4f3ea3b05b8a528ca1"), looks := false }, kinds := [], alts := [], laidByText := true, laidKinds := [.data, .widerDeep, .widerDeep], laidTests := true, laidLooks := .later }
def ExtidPutsUptoCardSaid : Prop := Claim7.holds Tryd.pinned (.plain (OpenSpec.upto extidPutsSpec)) extidPutsUptoCard
end Rows
end Go.Proofs.YtbklopnpehafpaaDoor
