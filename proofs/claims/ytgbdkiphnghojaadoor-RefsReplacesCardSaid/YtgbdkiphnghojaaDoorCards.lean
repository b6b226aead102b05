/-
  DERIVED. GIVEN WITH THE SEED: THE CARDS: each row of YtgbdkiphnghojaaDoorRows.lean that lists a variable, with what it lists TIED to the program's text (the seventh form; the later family's looks); each row that meets fmt, with fmt's text TOLD by the authors' own Lean function (tested against real Go, not proved from fmt's source: count such statements apart). THE CARD IS WHAT COUNTS. Prove the row's statement (the work); the ties are given (YtgbdkiphnghojaaDoorTie.lean); close each card by the builder's one call (the guide's Derived/Test/ToyasCard.lean, 'card_holds'). Laid BY PROGRAM, IN A SANDBOX (cutbox-door.mjs). By AI agents, Wed Nov 11 2026. No macro, syntax, notation, axiom, sorry.
-/
import Derived.Test.YtgbdkiphnghojaaDoorRows
import GoSem.ClaimSeven
namespace Go.Proofs.YtgbdkiphnghojaaDoor
namespace Rows

/-- THE TIED CARD OF 'narthexlaw18.RefsCuts'. -/
def refsCutsCard : Claim7 := { stood := { row := refsCutsRow, standIns := [], harness := (true, "3c2a70ba7aae47c925bd7dd85d464e4163c414b77a847d4b82d133c6099ded08"), looks := false }, kinds := [], alts := [], laidByText := true, laidKinds := [.data, .widerDeep, .widerDeep], laidTests := true, laidLooks := .later }
def RefsCutsCardSaid : Prop := Claim7.holds Tryd.pinned (.plain (OpenSpec.ofChange refsCutsSpec)) refsCutsCard

/-- THE TIED CARD OF 'narthexlaw18.RefsFinds'. -/
def refsFindsCard : Claim7 := { stood := { row := refsFindsRow, standIns := [], harness := (true, "3c2a70ba7aae47c925bd7dd85d464e4163c414b77a847d4b82d133c6099ded08"), looks := false }, kinds := [], alts := [], laidByText := true, laidKinds := [.data, .widerDeep, .widerDeep], laidTests := true, laidLooks := .later }
def RefsFindsCardSaid : Prop := Claim7.holds Tryd.pinned (.plain (OpenSpec.ofChange refsFindsSpec)) refsFindsCard

/-- THE TIED CARD OF 'narthexlaw18.RefsReplaces'. -/
def refsReplacesCard : Claim7 := { stood := { row := refsReplacesRow, standIns := [], harness := (true, "3c2a70ba7aae47c925bd7dd85d464e4163c414b77a847d4b82d133c6099ded08"), looks := false }, kinds := [], alts := [], laidByText := true, laidKinds := [.data, .widerDeep, .widerDeep], laidTests := true, laidLooks := .later }
def RefsReplacesCardSaid : Prop := Claim7.holds Tryd.pinned (.plain (OpenSpec.ofChange refsReplacesSpec)) refsReplacesCard

/-- THE SECOND FORM's CARD OF 'narthexlaw18.RefsCuts'. -/
def refsCutsUptoCard : Claim7 := { stood := { row := refsCutsUptoRow, standIns := [], harness := (true, "3c2a70ba7aae47c925bd7dd85d464e4163c414b77a847d4b82d133c6099ded08"), looks := false }, kinds := [], alts := [], laidByText := true, laidKinds := [.data, .widerDeep, .widerDeep], laidTests := true, laidLooks := .later }
def RefsCutsUptoCardSaid : Prop := Claim7.holds Tryd.pinned (.plain (OpenSpec.upto refsCutsSpec)) refsCutsUptoCard

/-- THE SECOND FORM's CARD OF 'narthexlaw18.RefsFinds'. -/
def refsFindsUptoCard : Claim7 := { stood := { row := refsFindsUptoRow, standIns := [], harness := (true, "3c2a70ba7aae47c925bd7dd85d464e4163c414b77a847d4b82d133c6099ded08"), looks := false }, kinds := [], alts := [], laidByText := true, laidKinds := [.data, .widerDeep, .widerDeep], laidTests := true, laidLooks := .later }
def RefsFindsUptoCardSaid : Prop := Claim7.holds Tryd.pinned (.plain (OpenSpec.upto refsFindsSpec)) refsFindsUptoCard

/-- THE SECOND FORM's CARD OF 'narthexlaw18.RefsReplaces'. -/
def refsReplacesUptoCard : Claim7 := { stood := { row := refsReplacesUptoRow, standIns := [], harness := (true, "3c2a70ba7aae47c925bd7dd85d464e4163c414b77a847d4b82d133c6099ded08"), looks := false }, kinds := [], alts := [], laidByText := true, laidKinds := [.data, .widerDeep, .widerDeep], laidTests := true, laidLooks := .later }
def RefsReplacesUptoCardSaid : Prop := Claim7.holds Tryd.pinned (.plain (OpenSpec.upto refsReplacesSpec)) refsReplacesUptoCard
end Rows
end Go.Proofs.YtgbdkiphnghojaaDoor
