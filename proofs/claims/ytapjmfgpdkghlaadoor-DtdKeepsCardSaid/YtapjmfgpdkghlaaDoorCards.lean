/-
  DERIVED. GIVEN WITH THE SEED: THE CARDS: each row of YtapjmfgpdkghlaaDoorRows.lean that lists a variable, with what it lists TIED to the program's text (the seventh form; the later family's looks); each row that meets fmt, with fmt's text TOLD by the authors' own Lean function (tested against real Go, not proved from fmt's source: count such statements apart). THE CARD IS WHAT COUNTS. Prove the row's statement (the work); the ties are given (YtapjmfgpdkghlaaDoorTie.lean); close each card by the builder's one call (the guide's Derived/Test/ToyasCard.lean, 'card_holds'). Laid BY PROGRAM, IN A SANDBOX (cutbox-door.mjs). By AI agents, Wed Nov 11 2026. No macro, syntax, notation, axiom, sorry.
-/
import Derived.Test.YtapjmfgpdkghlaaDoorRows
import GoSem.ClaimSeven
namespace Go.Proofs.YtapjmfgpdkghlaaDoor
namespace Rows

/-- THE TIED CARD OF 'narthexlaw17.DtdLists'. -/
def dtdListsCard : Claim7 := { stood := { row := dtdListsRow, standIns := [], harness := (true, "04e83638f3b47bb9943105854348c78993b7c0a96aaf39707994f218ae9d0f21"), looks := false }, kinds := [], alts := [], laidByText := true, laidKinds := [.data], laidTests := true, laidLooks := .later }
def DtdListsCardSaid : Prop := Claim7.holds Tryd.pinned (.plain (OpenSpec.ofChange dtdListsSpec)) dtdListsCard

/-- THE TIED CARD OF 'narthexlaw17.DtdKeeps'. -/
def dtdKeepsCard : Claim7 := { stood := { row := dtdKeepsRow, standIns := [], harness := (true, "04e83638f3b47bb9943105854348c78993b7c0a96aaf39707994f218ae9d0f21"), looks := false }, kinds := [], alts := [], laidByText := true, laidKinds := [.data], laidTests := true, laidLooks := .later }
def DtdKeepsCardSaid : Prop := Claim7.holds Tryd.pinned (.plain (OpenSpec.ofChange dtdKeepsSpec)) dtdKeepsCard

/-- THE TIED CARD OF 'narthexlaw17.DtdStays'. -/
def dtdStaysCard : Claim7 := { stood := { row := dtdStaysRow, standIns := [], harness := (true, "04e83638f3b47bb9943105854348c78993b7c0a96aaf39707994f218ae9d0f21"), looks := false }, kinds := [], alts := [], laidByText := true, laidKinds := [.data], laidTests := true, laidLooks := .later }
def DtdStaysCardSaid : Prop := Claim7.holds Tryd.pinned (.plain (OpenSpec.ofChange dtdStaysSpec)) dtdStaysCard

/-- THE SECOND FORM's CARD OF 'narthexlaw17.DtdLists'. -/
def dtdListsUptoCard : Claim7 := { stood := { row := dtdListsUptoRow, standIns := [], harness := (true, "04e83638f3b47bb9943105854348c78993b7c0a96aaf39707994f218ae9d0f21"), looks := false }, kinds := [], alts := [], laidByText := true, laidKinds := [.data], laidTests := true, laidLooks := .later }
def DtdListsUptoCardSaid : Prop := Claim7.holds Tryd.pinned (.plain (OpenSpec.upto dtdListsSpec)) dtdListsUptoCard

/-- THE SECOND FORM's CARD OF 'narthexlaw17.DtdKeeps'. -/
def dtdKeepsUptoCard : Claim7 := { stood := { row := dtdKeepsUptoRow, standIns := [], harness := (true, "04e83638f3b47bb9943105854348c78993b7c0a96aaf39707994f218ae9d0f21"), looks := false }, kinds := [], alts := [], laidByText := true, laidKinds := [.data], laidTests := true, laidLooks := .later }
def DtdKeepsUptoCardSaid : Prop := Claim7.holds Tryd.pinned (.plain (OpenSpec.upto dtdKeepsSpec)) dtdKeepsUptoCard

/-- THE SECOND FORM's CARD OF 'narthexlaw17.DtdStays'. -/
def dtdStaysUptoCard : Claim7 := { stood := { row := dtdStaysUptoRow, standIns := [], harness := (true, "04e83638f3b47bb9943105854348c78993b7c0a96aaf39707994f218ae9d0f21"), looks := false }, kinds := [], alts := [], laidByText := true, laidKinds := [.data], laidTests := true, laidLooks := .later }
def DtdStaysUptoCardSaid : Prop := Claim7.holds Tryd.pinned (.plain (OpenSpec.upto dtdStaysSpec)) dtdStaysUptoCard
end Rows
end Go.Proofs.YtapjmfgpdkghlaaDoor
