/-
  DERIVED. GIVEN WITH THE SEED: THE CARDS: each row of YtkijolghaolbhaaDoorRows.lean that lists a variable, with what it lists TIED to the program's text (the seventh form; the later family's looks); each row that meets fmt, with fmt's text TOLD by the authors' own Lean function (tested against real Go, not proved from fmt's source: count such statements apart). THE CARD IS WHAT COUNTS. Prove the row's statement (the work); the ties are given (YtkijolghaolbhaaDoorTie.lean); close each card by the builder's one call (the guide's Derived/Test/ToyasCard.lean, 'card_holds'). Laid BY PROGRAM, IN A SANDBOX (cutbox-door.mjs). By AI agents, Wed Nov 11 2026. No macro, syntax, notation, axiom, sorry.
-/
import Derived.Test.YtkijolghaolbhaaDoorRows
import GoSem.ClaimSeven
namespace Go.Proofs.YtkijolghaolbhaaDoor
namespace Rows

/-- THE TIED CARD OF 'narthexlaw21.UriNorms'. -/
def uriNormsCard : Claim7 := { stood := { row := uriNormsRow, standIns := [], harness := (true, "4081ae2187d821cbd6ca04141963ca91ed8696ccab1e0b93a46feeae9b51b1dd"), looks := false }, kinds := [], alts := [], laidByText := true, laidKinds := [.data, .pinned, .pinned], laidTests := true, laidLooks := .later }
def UriNormsCardSaid : Prop := Claim7.holds Tryd.pinned (.plain (OpenSpec.ofChange uriNormsSpec)) uriNormsCard

/-- THE TIED CARD OF 'narthexlaw21.UriDots'. -/
def uriDotsCard : Claim7 := { stood := { row := uriDotsRow, standIns := [], harness := (true, "4081ae2187d821cbd6ca04141963ca91ed8696ccab1e0b93a46feeae9b51b1dd"), looks := false }, kinds := [], alts := [], laidByText := true, laidKinds := [.data, .pinned, .pinned], laidTests := true, laidLooks := .later }
def UriDotsCardSaid : Prop := Claim7.holds Tryd.pinned (.plain (OpenSpec.ofChange uriDotsSpec)) uriDotsCard

/-- THE TIED CARD OF 'narthexlaw21.UriSteps'. -/
def uriStepsCard : Claim7 := { stood := { row := uriStepsRow, standIns := [], harness := (true, "4081ae2187d821cbd6ca04141963ca91ed8696ccab1e0b93a46feeae9b51b1dd"), looks := false }, kinds := [], alts := [], laidByText := true, laidKinds := [.data, .pinned, .pinned], laidTests := true, laidLooks := .later }
def UriStepsCardSaid : Prop := Claim7.holds Tryd.pinned (.plain (OpenSpec.ofChange uriStepsSpec)) uriStepsCard

/-- THE SECOND FORM's CARD OF 'narthexlaw21.UriNorms'. -/
def uriNormsUptoCard : Claim7 := { stood := { row := uriNormsUptoRow, standIns := [], harness := (true, "4081ae2187d821cbd6ca04141963ca91ed8696ccab1e0b93a46feeae9b51b1dd"), looks := false }, kinds := [], alts := [], laidByText := true, laidKinds := [.data, .pinned, .pinned], laidTests := true, laidLooks := .later }
def UriNormsUptoCardSaid : Prop := Claim7.holds Tryd.pinned (.plain (OpenSpec.upto uriNormsSpec)) uriNormsUptoCard

/-- THE SECOND FORM's CARD OF 'narthexlaw21.UriDots'. -/
def uriDotsUptoCard : Claim7 := { stood := { row := uriDotsUptoRow, standIns := [], harness := (true, "4081ae2187d821cbd6ca04141963ca91ed8696ccab1e0b93a46feeae9b51b1dd"), looks := false }, kinds := [], alts := [], laidByText := true, laidKinds := [.data, .pinned, .pinned], laidTests := true, laidLooks := .later }
def UriDotsUptoCardSaid : Prop := Claim7.holds Tryd.pinned (.plain (OpenSpec.upto uriDotsSpec)) uriDotsUptoCard

/-- THE SECOND FORM's CARD OF 'narthexlaw21.UriSteps'. -/
def uriStepsUptoCard : Claim7 := { stood := { row := uriStepsUptoRow, standIns := [], harness := (true, "4081ae2187d821cbd6ca04141963ca91ed8696ccab1e0b93a46feeae9b51b1dd"), looks := false }, kinds := [], alts := [], laidByText := true, laidKinds := [.data, .pinned, .pinned], laidTests := true, laidLooks := .later }
def UriStepsUptoCardSaid : Prop := Claim7.holds Tryd.pinned (.plain (OpenSpec.upto uriStepsSpec)) uriStepsUptoCard
end Rows
end Go.Proofs.YtkijolghaolbhaaDoor
