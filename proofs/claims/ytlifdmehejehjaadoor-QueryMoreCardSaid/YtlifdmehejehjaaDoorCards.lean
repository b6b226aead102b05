/-
  DERIVED. GIVEN WITH THE SEED: THE CARDS: each row of YtlifdmehejehjaaDoorRows.lean that lists a variable, with what it lists TIED to the program's text (the seventh form; the later family's looks); each row that meets fmt, with fmt's text TOLD by the authors' own Lean function (tested against real Go, not proved from fmt's source: count such statements apart). THE CARD IS WHAT COUNTS. Prove the row's statement (the work); the ties are given (YtlifdmehejehjaaDoorTie.lean); close each card by the builder's one call (the guide's Derived/Test/ToyasCard.lean, 'card_holds'). Laid BY PROGRAM, IN A SANDBOX (cutbox-door.mjs). By AI agents, Wed Nov 11 2026. No macro, syntax, notation, axiom, sorry.
-/
import Derived.Test.YtlifdmehejehjaaDoorRows
import GoSem.ClaimSeven
namespace Go.Proofs.YtlifdmehejehjaaDoor
namespace Rows

/-- THE TIED CARD OF 'narthexlaw47.QueryMatches'. -/
def queryMatchesCard : Claim7 := { stood := { row := queryMatchesRow, standIns := [], harness := (true, "fbfbbad38342dfaae75754ae78235b78b0e952ec59b845d3c924685ab0966ca5"), looks := false }, kinds := [], alts := [], laidByText := true, laidKinds := [.data, .data, .widerDeep, .widerDeep, .pinned], laidTests := true, laidLooks := .later }
def QueryMatchesCardSaid : Prop := Claim7.holds Tryd.pinned (.plain (OpenSpec.ofChange queryMatchesSpec)) queryMatchesCard

/-- THE TIED CARD OF 'narthexlaw47.QueryMore'. -/
def queryMoreCard : Claim7 := { stood := { row := queryMoreRow, standIns := [], harness := (true, "fbfbbad38342dfaae75754ae78235b78b0e952ec59b845d3c924685ab0966ca5"), looks := false }, kinds := [], alts := [], laidByText := true, laidKinds := [.data, .data, .widerDeep, .widerDeep, .pinned], laidTests := true, laidLooks := .later }
def QueryMoreCardSaid : Prop := Claim7.holds Tryd.pinned (.plain (OpenSpec.ofChange queryMoreSpec)) queryMoreCard

/-- THE TIED CARD OF 'narthexlaw47.QueryReads'. -/
def queryReadsCard : Claim7 := { stood := { row := queryReadsRow, standIns := [], harness := (true, "fbfbbad38342dfaae75754ae78235b78b0e952ec59b845d3c924685ab0966ca5"), looks := false }, kinds := [], alts := [], laidByText := true, laidKinds := [.data, .data, .widerDeep, .widerDeep, .pinned], laidTests := true, laidLooks := .later }
def QueryReadsCardSaid : Prop := Claim7.holds Tryd.pinned (.plain (OpenSpec.ofChange queryReadsSpec)) queryReadsCard

/-- THE TIED CARD OF 'narthexlaw47.QueryFinds'. -/
def queryFindsCard : Claim7 := { stood := { row := queryFindsRow, standIns := [], harness := (true, "fbfbbad38342dfaae75754ae78235b78b0e952ec59b845d3c924685ab0966ca5"), looks := false }, kinds := [], alts := [], laidByText := true, laidKinds := [.data, .data, .widerDeep, .widerDeep, .pinned], laidTests := true, laidLooks := .later }
def QueryFindsCardSaid : Prop := Claim7.holds Tryd.pinned (.plain (OpenSpec.ofChange queryFindsSpec)) queryFindsCard

/-- THE SECOND FORM's CARD OF 'narthexlaw47.QueryMatches'. -/
def queryMatchesUptoCard : Claim7 := { stood := { row := queryMatchesUptoRow, standIns := [], harness := (true, "fbfbbad38342dfaae75754ae78235b78b0e952ec59b845d3c924685ab0966ca5"), looks := false }, kinds := [], alts := [], laidByText := true, laidKinds := [.data, .data, .widerDeep, .widerDeep, .pinned], laidTests := true, laidLooks := .later }
def QueryMatchesUptoCardSaid : Prop := Claim7.holds Tryd.pinned (.plain (OpenSpec.upto queryMatchesSpec)) queryMatchesUptoCard

/-- THE SECOND FORM's CARD OF 'narthexlaw47.QueryMore'. -/
def queryMoreUptoCard : Claim7 := { stood := { row := queryMoreUptoRow, standIns := [], harness := (true, "fbfbbad38342dfaae75754ae78235b78b0e952ec59b845d3c924685ab0966ca5"), looks := false }, kinds := [], alts := [], laidByText := true, laidKinds := [.data, .data, .widerDeep, .widerDeep, .pinned], laidTests := true, laidLooks := .later }
def QueryMoreUptoCardSaid : Prop := Claim7.holds Tryd.pinned (.plain (OpenSpec.upto queryMoreSpec)) queryMoreUptoCard

/-- THE SECOND FORM's CARD OF 'narthexlaw47.QueryReads'. -/
def queryReadsUptoCard : Claim7 := { stood := { row := queryReadsUptoRow, standIns := [], harness := (true, "fbfbbad38342dfaae75754ae78235b78b0e952ec59b845d3c924685ab0966ca5"), looks := false }, kinds := [], alts := [], laidByText := true, laidKinds := [.data, .data, .widerDeep, .widerDeep, .pinned], laidTests := true, laidLooks := .later }
def QueryReadsUptoCardSaid : Prop := Claim7.holds Tryd.pinned (.plain (OpenSpec.upto queryReadsSpec)) queryReadsUptoCard

/-- THE SECOND FORM's CARD OF 'narthexlaw47.QueryFinds'. -/
def queryFindsUptoCard : Claim7 := { stood := { row := queryFindsUptoRow, standIns := [], harness := (true, "fbfbbad38342dfaae75754ae78235b78b0e952ec59b845d3c924685ab0966ca5"), looks := false }, kinds := [], alts := [], laidByText := true, laidKinds := [.data, .data, .widerDeep, .widerDeep, .pinned], laidTests := true, laidLooks := .later }
def QueryFindsUptoCardSaid : Prop := Claim7.holds Tryd.pinned (.plain (OpenSpec.upto queryFindsSpec)) queryFindsUptoCard
end Rows
end Go.Proofs.YtlifdmehejehjaaDoor
