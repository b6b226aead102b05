/-
  DERIVED. GIVEN WITH THE SEED: THE CARDS: each row of YtkeclfhhilphpaaDoorRows.lean that lists a variable, with what it lists TIED to the program's text (the seventh form; the later family's looks); each row that meets fmt, with fmt's text TOLD by the authors' own Lean function (tested against real Go, not proved from fmt's source: count such statements apart). THE CARD IS WHAT COUNTS. Prove the row's statement (the work); the ties are given (YtkeclfhhilphpaaDoorTie.lean); close each card by the builder's one call (the guide's Derived/Test/ToyasCard.lean, 'card_holds'). Laid BY PROGRAM, IN A SANDBOX (cutbox-door.mjs). By AI agents, Wed Nov 11 2026. No macro, syntax, notation, axiom, sorry.
-/
import Derived.Test.YtkeclfhhilphpaaDoorRows
import GoSem.ClaimSeven
namespace Go.Proofs.YtkeclfhhilphpaaDoor
namespace Rows

/-- THE TIED CARD OF 'narthexlaw20.CostSums'. -/
def costSumsCard : Claim7 := { stood := { row := costSumsRow, standIns := [], harness := (true, "de0373a8d92109e7b1bcc003c65b7f012eb1252e3d900451a74087711dd58796"), looks := false }, kinds := [], alts := [], laidByText := true, laidKinds := [.data, .widerDeep, .widerDeep, .data], laidTests := true, laidLooks := .later }
def CostSumsCardSaid : Prop := Claim7.holds Tryd.pinned (.plain (OpenSpec.ofChange costSumsSpec)) costSumsCard

/-- THE TIED CARD OF 'narthexlaw20.CostSizes'. -/
def costSizesCard : Claim7 := { stood := { row := costSizesRow, standIns := [], harness := (true, "de0373a8d92109e7b1bcc003c65b7f012eb1252e3d900451a74087711dd58796"), looks := false }, kinds := [], alts := [], laidByText := true, laidKinds := [.data, .widerDeep, .widerDeep, .data], laidTests := true, laidLooks := .later }
def CostSizesCardSaid : Prop := Claim7.holds Tryd.pinned (.plain (OpenSpec.ofChange costSizesSpec)) costSizesCard

/-- THE SECOND FORM's CARD OF 'narthexlaw20.CostSums'. -/
def costSumsUptoCard : Claim7 := { stood := { row := costSumsUptoRow, standIns := [], harness := (true, "de0373a8d92109e7b1bcc003c65b7f012eb1252e3d900451a74087711dd58796"), looks := false }, kinds := [], alts := [], laidByText := true, laidKinds := [.data, .widerDeep, .widerDeep, .data], laidTests := true, laidLooks := .later }
def CostSumsUptoCardSaid : Prop := Claim7.holds Tryd.pinned (.plain (OpenSpec.upto costSumsSpec)) costSumsUptoCard

/-- THE SECOND FORM's CARD OF 'narthexlaw20.CostSizes'. -/
def costSizesUptoCard : Claim7 := { stood := { row := costSizesUptoRow, standIns := [], harness := (true, "de0373a8d92109e7b1bcc003c65b7f012eb1252e3d900451a74087711dd58796"), looks := false }, kinds := [], alts := [], laidByText := true, laidKinds := [.data, .widerDeep, .widerDeep, .data], laidTests := true, laidLooks := .later }
def CostSizesUptoCardSaid : Prop := Claim7.holds Tryd.pinned (.plain (OpenSpec.upto costSizesSpec)) costSizesUptoCard
end Rows
end Go.Proofs.YtkeclfhhilphpaaDoor
