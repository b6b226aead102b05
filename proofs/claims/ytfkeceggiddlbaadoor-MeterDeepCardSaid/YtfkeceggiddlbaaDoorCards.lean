/-
  DERIVED. GIVEN WITH THE SEED: THE CARDS: each row of YtfkeceggiddlbaaDoorRows.lean that lists a variable, with what it lists TIED to the program's text (the seventh form; the later family's looks); each row that meets fmt, with fmt's text TOLD by the authors' own Lean function (tested against real Go, not proved from fmt's source: count such statements apart). THE CARD IS WHAT COUNTS. Prove the row's statement (the work); the ties are given (YtfkeceggiddlbaaDoorTie.lean); close each card by the builder's one call (the guide's Derived/Test/ToyasCard.lean, 'card_holds'). Laid BY PROGRAM, IN A SANDBOX (cutbox-door.mjs). By AI agents, Wed Nov 11 2026. No macro, syntax, notation, axiom, sorry.
-/
import Derived.Test.YtfkeceggiddlbaaDoorRows
import GoSem.ClaimSeven
namespace Go.Proofs.YtfkeceggiddlbaaDoor
namespace Rows

/-- THE TIED CARD OF 'narthexlaw26.MeterDeep'. -/
def meterDeepCard : Claim7 := { stood := { row := meterDeepRow, standIns := [], harness := (true, "fa76316301d16716738752b7ad8b965a37090ed37575bcdfbac4e017c5163e33"), looks := false }, kinds := [], alts := [], laidByText := true, laidKinds := [.data, .pinned, .pinned], laidTests := true, laidLooks := .later }
def MeterDeepCardSaid : Prop := Claim7.holds Tryd.pinned (.plain (OpenSpec.ofChange meterDeepSpec)) meterDeepCard

/-- THE SECOND FORM's CARD OF 'narthexlaw26.MeterDeep'. -/
def meterDeepUptoCard : Claim7 := { stood := { row := meterDeepUptoRow, standIns := [], harness := (true, "fa76316301d16716738752b7ad8b965a37090ed37575bcdfbac4e017c5163e33"), looks := false }, kinds := [], alts := [], laidByText := true, laidKinds := [.data, .pinned, .pinned], laidTests := true, laidLooks := .later }
def MeterDeepUptoCardSaid : Prop := Claim7.holds Tryd.pinned (.plain (OpenSpec.upto meterDeepSpec)) meterDeepUptoCard
end Rows
end Go.Proofs.YtfkeceggiddlbaaDoor
