/-
  DERIVED. GIVEN WITH THE SEED: THE CARDS: each row of YtjohlopcknofcaaDoorRows.lean that lists a variable, with what it lists TIED to the program's text (the seventh form; the later family's looks); each row that meets fmt, with fmt's text TOLD by the authors' own Lean function (tested against real Go, not proved from fmt's source: count such statements apart). THE CARD IS WHAT COUNTS. Prove the row's statement (the work); the ties are given (YtjohlopcknofcaaDoorTie.lean); close each card by the builder's one call (the guide's Derived/Test/ToyasCard.lean, 'card_holds'). Laid BY PROGRAM, IN A SANDBOX (cutbox-door.mjs). By AI agents, Wed Nov 11 2026. No macro, syntax, notation, axiom, sorry.
-/
import Derived.Test.YtjohlopcknofcaaDoorRows
import GoSem.ClaimSeven
namespace Go.Proofs.YtjohlopcknofcaaDoor
namespace Rows

/-- THE TIED CARD OF 'narthexlaw22.AllowMatches'. -/
def allowMatchesCard : Claim7 := { stood := { row := allowMatchesRow, standIns := [], harness := (true, "e1b9c005f2b450f12d9063662533140d2224da3ff6979a29a6b2ba440fc12b7b"), looks := false }, kinds := [], alts := [], laidByText := true, laidKinds := [.data, .pinned, .pinned], laidTests := true, laidLooks := .later }
def AllowMatchesCardSaid : Prop := Claim7.holds Tryd.pinned (.plain (OpenSpec.ofChange allowMatchesSpec)) allowMatchesCard

/-- THE TIED CARD OF 'narthexlaw22.AllowSame'. -/
def allowSameCard : Claim7 := { stood := { row := allowSameRow, standIns := [], harness := (true, "e1b9c005f2b450f12d9063662533140d2224da3ff6979a29a6b2ba440fc12b7b"), looks := false }, kinds := [], alts := [], laidByText := true, laidKinds := [.data, .pinned, .pinned], laidTests := true, laidLooks := .later }
def AllowSameCardSaid : Prop := Claim7.holds Tryd.pinned (.plain (OpenSpec.ofChange allowSameSpec)) allowSameCard

/-- THE TIED CARD OF 'narthexlaw22.AllowFinds'. -/
def allowFindsCard : Claim7 := { stood := { row := allowFindsRow, standIns := [], harness := (true, "e1b9c005f2b450f12d9063662533140d2224da3ff6979a29a6b2ba440fc12b7b"), looks := false }, kinds := [], alts := [], laidByText := true, laidKinds := [.data, .pinned, .pinned], laidTests := true, laidLooks := .later }
def AllowFindsCardSaid : Prop := Claim7.holds Tryd.pinned (.plain (OpenSpec.ofChange allowFindsSpec)) allowFindsCard

/-- THE SECOND FORM's CARD OF 'narthexlaw22.AllowMatches'. -/
def allowMatchesUptoCard : Claim7 := { stood := { row := allowMatchesUptoRow, standIns := [], harness := (true, "e1b9c005f2b450f12d9063662533140d2224da3ff6979a29a6b2ba440fc12b7b"), looks := false }, kinds := [], alts := [], laidByText := true, laidKinds := [.data, .pinned, .pinned], laidTests := true, laidLooks := .later }
def AllowMatchesUptoCardSaid : Prop := Claim7.holds Tryd.pinned (.plain (OpenSpec.upto allowMatchesSpec)) allowMatchesUptoCard

/-- THE SECOND FORM's CARD OF 'narthexlaw22.AllowSame'. -/
def allowSameUptoCard : Claim7 := { stood := { row := allowSameUptoRow, standIns := [], harness := (true, "e1b9c005f2b450f12d9063662533140d2224da3ff6979a29a6b2ba440fc12b7b"), looks := false }, kinds := [], alts := [], laidByText := true, laidKinds := [.data, .pinned, .pinned], laidTests := true, laidLooks := .later }
def AllowSameUptoCardSaid : Prop := Claim7.holds Tryd.pinned (.plain (OpenSpec.upto allowSameSpec)) allowSameUptoCard

/-- THE SECOND FORM's CARD OF 'narthexlaw22.AllowFinds'. -/
def allowFindsUptoCard : Claim7 := { stood := { row := allowFindsUptoRow, standIns := [], harness := (true, "e1b9c005f2b450f12d9063662533140d2224da3ff6979a29a6b2ba440fc12b7b"), looks := false }, kinds := [], alts := [], laidByText := true, laidKinds := [.data, .pinned, .pinned], laidTests := true, laidLooks := .later }
def AllowFindsUptoCardSaid : Prop := Claim7.holds Tryd.pinned (.plain (OpenSpec.upto allowFindsSpec)) allowFindsUptoCard
end Rows
end Go.Proofs.YtjohlopcknofcaaDoor
