/-
  DERIVED. GIVEN WITH THE SEED: THE PROGRAM's TIES (one call each: nine closed facts by the kernel) AND EACH ROW's TIE, after the 31st guide's Derived/Test/Toyas{Tie, Card}.lean. No idea stands in it: it is a product of the set-up. Laid BY PROGRAM, IN A SANDBOX (cutbox-door.mjs). By AI agents, Wed Nov 11 2026. No macro, syntax, notation, axiom, sorry.
-/
import Derived.Test.YtflljhlbnaeebaaDoorRows
import Derived.LaidByTextLater
import Derived.SevenTiedAt
import Derived.LaidSub
import Derived.LaidOnce
namespace Go.Proofs.YtflljhlbnaeebaaDoor
open Go
set_option maxRecDepth 100000
theorem seatTie1 : Tryd.prog.laidByTextLater [("narthex/utf.forms", Rows.laid_narthex_utf_forms), ("narthex/chars.documents", Rows.laid_narthex_chars_documents), ("narthex/chars.starts", Rows.laid_narthex_chars_starts), ("narthex/chars.more", Rows.laid_narthex_chars_more)] [.data, .widerDeep, .widerDeep, .widerDeep] true :=
  Program.laidByTextLater_by_one 60 8 33 (by kernel_rfl) (by kernel_rfl) (by kernel_rfl) (by kernel_rfl) (by kernel_rfl) (by kernel_rfl) (fun _ _ => by kernel_rfl)
theorem noOwnUnsafe : Tryd.pinned.checked.prog.headLifts.contains "ownunsafe" = false := by kernel_rfl
theorem tie : Tryd.prog.laidByTextLater [("narthex/utf.forms", Rows.laid_narthex_utf_forms)] [.data] true :=
  Program.laidByTextLater.sub seatTie1 ["narthex/utf.forms"] (by kernel_rfl) (by kernel_rfl)
theorem utfWrites_row_tie : Rows.utfWritesRow.laidByTextAt .later Tryd.pinned [.data] true :=
  OpenClaim.laidByTextAt_later rfl rfl tie noOwnUnsafe
theorem utfReads_row_tie : Rows.utfReadsRow.laidByTextAt .later Tryd.pinned [.data] true :=
  OpenClaim.laidByTextAt_later rfl rfl tie noOwnUnsafe
theorem utfTexts_row_tie : Rows.utfTextsRow.laidByTextAt .later Tryd.pinned [.data] true :=
  OpenClaim.laidByTextAt_later rfl rfl tie noOwnUnsafe
theorem tie2 : Tryd.prog.laidByTextLater [("narthex/chars.documents", Rows.laid_narthex_chars_documents), ("narthex/chars.starts", Rows.laid_narthex_chars_starts), ("narthex/chars.more", Rows.laid_narthex_chars_more)] [.widerDeep, .widerDeep, .widerDeep] true :=
  Program.laidByTextLater.sub seatTie1 ["narthex/chars.documents", "narthex/chars.starts", "narthex/chars.more"] (by kernel_rfl) (by kernel_rfl)
theorem charsTells_row_tie : Rows.charsTellsRow.laidByTextAt .later Tryd.pinned [.widerDeep, .widerDeep, .widerDeep] true :=
  OpenClaim.laidByTextAt_later rfl rfl tie2 noOwnUnsafe
theorem charsRanges_row_tie : Rows.charsRangesRow.laidByTextAt .later Tryd.pinned [.widerDeep, .widerDeep, .widerDeep] true :=
  OpenClaim.laidByTextAt_later rfl rfl tie2 noOwnUnsafe
theorem tie3 : Tryd.prog.laidByTextLater [("narthex/utf.forms", Rows.laid_narthex_utf_forms), ("narthex/chars.documents", Rows.laid_narthex_chars_documents), ("narthex/chars.starts", Rows.laid_narthex_chars_starts), ("narthex/chars.more", Rows.laid_narthex_chars_more)] [.data, .widerDeep, .widerDeep, .widerDeep] true :=
  Program.laidByTextLater.sub seatTie1 ["narthex/utf.forms", "narthex/chars.documents", "narthex/chars.starts", "narthex/chars.more"] (by kernel_rfl) (by kernel_rfl)
theorem charsAll_row_tie : Rows.charsAllRow.laidByTextAt .later Tryd.pinned [.data, .widerDeep, .widerDeep, .widerDeep] true :=
  OpenClaim.laidByTextAt_later rfl rfl tie3 noOwnUnsafe
theorem utfWritesUpto_row_tie : Rows.utfWritesUptoRow.laidByTextAt .later Tryd.pinned [.data] true :=
  OpenClaim.laidByTextAt_later rfl rfl tie noOwnUnsafe
theorem utfReadsUpto_row_tie : Rows.utfReadsUptoRow.laidByTextAt .later Tryd.pinned [.data] true :=
  OpenClaim.laidByTextAt_later rfl rfl tie noOwnUnsafe
theorem utfTextsUpto_row_tie : Rows.utfTextsUptoRow.laidByTextAt .later Tryd.pinned [.data] true :=
  OpenClaim.laidByTextAt_later rfl rfl tie noOwnUnsafe
theorem charsTellsUpto_row_tie : Rows.charsTellsUptoRow.laidByTextAt .later Tryd.pinned [.widerDeep, .widerDeep, .widerDeep] true :=
  OpenClaim.laidByTextAt_later rfl rfl tie2 noOwnUnsafe
theorem charsRangesUpto_row_tie : Rows.charsRangesUptoRow.laidByTextAt .later Tryd.pinned [.widerDeep, .widerDeep, .widerDeep] true :=
  OpenClaim.laidByTextAt_later rfl rfl tie2 noOwnUnsafe
theorem charsAllUpto_row_tie : Rows.charsAllUptoRow.laidByTextAt .later Tryd.pinned [.data, .widerDeep, .widerDeep, .widerDeep] true :=
  OpenClaim.laidByTextAt_later rfl rfl tie3 noOwnUnsafe
end Go.Proofs.YtflljhlbnaeebaaDoor
