/-
  DERIVED. GIVEN WITH THE SEED: THE CARDS: each row of YtflljhlbnaeebaaDoorRows.lean that lists a variable, with what it lists TIED to the program's text (the seventh form; the later family's looks); each row that meets fmt, with fmt's text TOLD by the authors' own Lean function (tested against real Go, not proved from fmt's source: count such statements apart). THE CARD IS WHAT COUNTS. Prove the row's statement (the work); the ties are given (YtflljhlbnaeebaaDoorTie.lean); close each card by the builder's one call (the guide's Derived/Test/ToyasCard.lean, 'card_holds'). Laid BY PROGRAM, IN A SANDBOX (cutbox-door.mjs). By AI agents, Wed Nov 11 2026. No macro, syntax, notation, axiom, sorry.
-/
import Derived.Test.YtflljhlbnaeebaaDoorRows
import GoSem.ClaimSeven
namespace Go.Proofs.YtflljhlbnaeebaaDoor
namespace Rows

/-- THE TIED CARD OF 'narthexlaw02.UtfWrites'. -/
def utfWritesCard : Claim7 := { stood := { row := utfWritesRow, standIns := [], harness := (true, "5279d285f6aa3cf7d93618b3485046f869966ec7cede987baf539a34ec9be314"), looks := false }, kinds := [], alts := [], laidByText := true, laidKinds := [.data], laidTests := true, laidLooks := .later }
def UtfWritesCardSaid : Prop := Claim7.holds Tryd.pinned (.plain (OpenSpec.ofChange utfWritesSpec)) utfWritesCard

/-- THE TIED CARD OF 'narthexlaw02.UtfReads'. -/
def utfReadsCard : Claim7 := { stood := { row := utfReadsRow, standIns := [], harness := (true, "5279d285f6aa3cf7d93618b3485046f869966ec7cede987baf539a34ec9be314"), looks := false }, kinds := [], alts := [], laidByText := true, laidKinds := [.data], laidTests := true, laidLooks := .later }
def UtfReadsCardSaid : Prop := Claim7.holds Tryd.pinned (.plain (OpenSpec.ofChange utfReadsSpec)) utfReadsCard

/-- THE TIED CARD OF 'narthexlaw02.UtfTexts'. -/
def utfTextsCard : Claim7 := { stood := { row := utfTextsRow, standIns := [], harness := (true, "5279d285f6aa3cf7d93618b3485046f869966ec7cede987baf539a34ec9be314"), looks := false }, kinds := [], alts := [], laidByText := true, laidKinds := [.data], laidTests := true, laidLooks := .later }
def UtfTextsCardSaid : Prop := Claim7.holds Tryd.pinned (.plain (OpenSpec.ofChange utfTextsSpec)) utfTextsCard

/-- THE TIED CARD OF 'narthexlaw03.CharsTells'. -/
def charsTellsCard : Claim7 := { stood := { row := charsTellsRow, standIns := [], harness := (true, "5279d285f6aa3cf7d93618b3485046f869966ec7cede987baf539a34ec9be314"), looks := false }, kinds := [], alts := [], laidByText := true, laidKinds := [.widerDeep, .widerDeep, .widerDeep], laidTests := true, laidLooks := .later }
def CharsTellsCardSaid : Prop := Claim7.holds Tryd.pinned (.plain (OpenSpec.ofChange charsTellsSpec)) charsTellsCard

/-- THE TIED CARD OF 'narthexlaw03.CharsRanges'. -/
def charsRangesCard : Claim7 := { stood := { row := charsRangesRow, standIns := [], harness := (true, "5279d285f6aa3cf7d93618b3485046f869966ec7cede987baf539a34ec9be314"), looks := false }, kinds := [], alts := [], laidByText := true, laidKinds := [.widerDeep, .widerDeep, .widerDeep], laidTests := true, laidLooks := .later }
def CharsRangesCardSaid : Prop := Claim7.holds Tryd.pinned (.plain (OpenSpec.ofChange charsRangesSpec)) charsRangesCard

/-- THE TIED CARD OF 'narthexlaw03.CharsAll'. -/
def charsAllCard : Claim7 := { stood := { row := charsAllRow, standIns := [], harness := (true, "5279d285f6aa3cf7d93618b3485046f869966ec7cede987baf539a34ec9be314"), looks := false }, kinds := [], alts := [], laidByText := true, laidKinds := [.data, .widerDeep, .widerDeep, .widerDeep], laidTests := true, laidLooks := .later }
def CharsAllCardSaid : Prop := Claim7.holds Tryd.pinned (.plain (OpenSpec.ofChange charsAllSpec)) charsAllCard

/-- THE SECOND FORM's CARD OF 'narthexlaw02.UtfWrites'. -/
def utfWritesUptoCard : Claim7 := { stood := { row := utfWritesUptoRow, standIns := [], harness := (true, "5279d285f6aa3cf7d93618b3485046f869966ec7cede987baf539a34ec9be314"), looks := false }, kinds := [], alts := [], laidByText := true, laidKinds := [.data], laidTests := true, laidLooks := .later }
def UtfWritesUptoCardSaid : Prop := Claim7.holds Tryd.pinned (.plain (OpenSpec.upto utfWritesSpec)) utfWritesUptoCard

/-- THE SECOND FORM's CARD OF 'narthexlaw02.UtfReads'. -/
def utfReadsUptoCard : Claim7 := { stood := { row := utfReadsUptoRow, standIns := [], harness := (true, "5279d285f6aa3cf7d93618b3485046f869966ec7cede987baf539a34ec9be314"), looks := false }, kinds := [], alts := [], laidByText := true, laidKinds := [.data], laidTests := true, laidLooks := .later }
def UtfReadsUptoCardSaid : Prop := Claim7.holds Tryd.pinned (.plain (OpenSpec.upto utfReadsSpec)) utfReadsUptoCard

/-- THE SECOND FORM's CARD OF 'narthexlaw02.UtfTexts'. -/
def utfTextsUptoCard : Claim7 := { stood := { row := utfTextsUptoRow, standIns := [], harness := (true, "5279d285f6aa3cf7d93618b3485046f869966ec7cede987baf539a34ec9be314"), looks := false }, kinds := [], alts := [], laidByText := true, laidKinds := [.data], laidTests := true, laidLooks := .later }
def UtfTextsUptoCardSaid : Prop := Claim7.holds Tryd.pinned (.plain (OpenSpec.upto utfTextsSpec)) utfTextsUptoCard

/-- THE SECOND FORM's CARD OF 'narthexlaw03.CharsTells'. -/
def charsTellsUptoCard : Claim7 := { stood := { row := charsTellsUptoRow, standIns := [], harness := (true, "5279d285f6aa3cf7d93618b3485046f869966ec7cede987baf539a34ec9be314"), looks := false }, kinds := [], alts := [], laidByText := true, laidKinds := [.widerDeep, .widerDeep, .widerDeep], laidTests := true, laidLooks := .later }
def CharsTellsUptoCardSaid : Prop := Claim7.holds Tryd.pinned (.plain (OpenSpec.upto charsTellsSpec)) charsTellsUptoCard

/-- THE SECOND FORM's CARD OF 'narthexlaw03.CharsRanges'. -/
def charsRangesUptoCard : Claim7 := { stood := { row := charsRangesUptoRow, standIns := [], harness := (true, "5279d285f6aa3cf7d93618b3485046f869966ec7cede987baf539a34ec9be314"), looks := false }, kinds := [], alts := [], laidByText := true, laidKinds := [.widerDeep, .widerDeep, .widerDeep], laidTests := true, laidLooks := .later }
def CharsRangesUptoCardSaid : Prop := Claim7.holds Tryd.pinned (.plain (OpenSpec.upto charsRangesSpec)) charsRangesUptoCard

/-- THE SECOND FORM's CARD OF 'narthexlaw03.CharsAll'. -/
def charsAllUptoCard : Claim7 := { stood := { row := charsAllUptoRow, standIns := [], harness := (true, "5279d285f6aa3cf7d93618b3485046f869966ec7cede987baf539a34ec9be314"), looks := false }, kinds := [], alts := [], laidByText := true, laidKinds := [.data, .widerDeep, .widerDeep, .widerDeep], laidTests := true, laidLooks := .later }
def CharsAllUptoCardSaid : Prop := Claim7.holds Tryd.pinned (.plain (OpenSpec.upto charsAllSpec)) charsAllUptoCard
end Rows
end Go.Proofs.YtflljhlbnaeebaaDoor
