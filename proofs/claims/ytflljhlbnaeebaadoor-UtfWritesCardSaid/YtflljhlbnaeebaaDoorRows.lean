/-
  NARROWER THAN 'FOR EVERY INPUT', by the rows' own cells (each row's printed sentence says how): UtfWrites: laid · UtfReads: laid · UtfTexts: laid · CharsTells: laid · CharsRanges: laid · CharsAll: laid.
  DERIVED. THE GIVEN ROWS OF THIS SEAT. 6 by the template 'for every input the law returns true; each argument reads behind the call as it read before'; 0 by the template 'total and deterministic' (their statements: YtflljhlbnaeebaaDoorTotals.lean).
  GIVEN WITH THE SEED: the statements are not yours to turn. If you find one false, say at which input.
  Laid BY PROGRAM, IN A SANDBOX (cutbox-rows.mjs): the forced cells as the released guide's own fill.sh prints them over the translation 136c7d0afc4a7b55… (all of the seat's roots in one cut). By AI agents, Wed Nov 11 2026. No macro, syntax, notation, axiom, sorry.
-/
import Derived.Test.YtflljhlbnaeebaaDoorChecked
import GoSem.Claim
import GoSem.ClaimJoined
import GoSem.ClaimMapViews
import Derived.JoinedTies
import Derived.KernelRfl
namespace Go.Proofs.YtflljhlbnaeebaaDoor
/- THE CELL 'sum', in the pinned program and in every row, IS THE sha256 OF THE DUMP (.gsa) THAT YtflljhlbnaeebaaDoorProg.lean LOADS. Nothing in Lean hashes anything: it is a label: what it is worth is what the hold of that sum in a sandbox is worth. -/
noncomputable def Tryd.pinned : Pinned := { name := "ytflljhlbnaeebaadoor", sum := "136c7d0afc4a7b5504c7a5db109edb09c1b3a87fd86e28a4417a53cdcc6dcc90", checked := Tryd.checked }
namespace Rows
def none {H : Type} : Left H := { results := [], args := [] }

/- WHAT THE LISTED PACKAGE-LEVEL VARIABLES READ AS WHEN THE CALL BEGINS. Each datum BY PROGRAM (the guide's laid-datum.mjs) off the statement by which the dump's own 'gosem.cut.vars' lays the variable. In a bare row this is a premise. The card (YtflljhlbnaeebaaDoorCards.lean) ties it to the program's text. -/
def laid_narthex_utf_forms {H : Type} : DataW H := .agg [.agg [.lit (.int .u8 0), .lit (.int .u8 0), .lit (.int .i64 0)], .agg [.lit (.int .u8 0), .lit (.int .u8 127), .lit (.int .i64 0)], .agg [.lit (.int .u8 192), .lit (.int .u8 31), .lit (.int .i64 128)], .agg [.lit (.int .u8 224), .lit (.int .u8 15), .lit (.int .i64 2048)], .agg [.lit (.int .u8 240), .lit (.int .u8 7), .lit (.int .i64 65536)]]
def laid_narthex_chars_documents {H : Type} : DataW H := .agg [.agg [.lit (.int .i64 9), .lit (.int .i64 10)], .agg [.lit (.int .i64 13), .lit (.int .i64 13)], .agg [.lit (.int .i64 32), .lit (.int .i64 55295)], .agg [.lit (.int .i64 57344), .lit (.int .i64 65533)], .agg [.lit (.int .i64 65536), .lit (.int .i64 1114111)]]
def laid_narthex_chars_starts {H : Type} : DataW H := .agg [.agg [.lit (.int .i64 58), .lit (.int .i64 58)], .agg [.lit (.int .i64 65), .lit (.int .i64 90)], .agg [.lit (.int .i64 95), .lit (.int .i64 95)], .agg [.lit (.int .i64 97), .lit (.int .i64 122)], .agg [.lit (.int .i64 192), .lit (.int .i64 214)], .agg [.lit (.int .i64 216), .lit (.int .i64 246)], .agg [.lit (.int .i64 248), .lit (.int .i64 767)], .agg [.lit (.int .i64 880), .lit (.int .i64 893)], .agg [.lit (.int .i64 895), .lit (.int .i64 8191)], .agg [.lit (.int .i64 8204), .lit (.int .i64 8205)], .agg [.lit (.int .i64 8304), .lit (.int .i64 8591)], .agg [.lit (.int .i64 11264), .lit (.int .i64 12271)], .agg [.lit (.int .i64 12289), .lit (.int .i64 55295)], .agg [.lit (.int .i64 63744), .lit (.int .i64 64975)], .agg [.lit (.int .i64 65008), .lit (.int .i64 65533)], .agg [.lit (.int .i64 65536), .lit (.int .i64 983039)]]
def laid_narthex_chars_more {H : Type} : DataW H := .agg [.agg [.lit (.int .i64 45), .lit (.int .i64 46)], .agg [.lit (.int .i64 48), .lit (.int .i64 57)], .agg [.lit (.int .i64 183), .lit (.int .i64 183)], .agg [.lit (.int .i64 768), .lit (.int .i64 879)], .agg [.lit (.int .i64 8255), .lit (.int .i64 8256)]]

/-- 'narthexlaw02.UtfWrites': WHATEVER THE INPUT: true; the input reads as it did. -/
def utfWritesSpec : ChangeSpec := { name := "utfWrites", fn := fun _ => fun
  | [d] => { results := [.lit (.bool true)], args := [d] }
  | _ => none }
def utfWritesRow : OpenClaim := { program := "ytflljhlbnaeebaadoor", sum := "136c7d0afc4a7b5504c7a5db109edb09c1b3a87fd86e28a4417a53cdcc6dcc90", func := "narthex/narthexlaw02.UtfWrites", spec := "utfWrites", unfollowed := true, recurses := true, named := ["narthex/utf.forms"], apart := false, laid := [("narthex/utf.forms", laid_narthex_utf_forms)] }
def UtfWritesSaid : Prop := utfWritesRow.holds Tryd.pinned (OpenSpec.ofChange utfWritesSpec)

/-- ITS FALSE NEIGHBOUR: 'it returns false'. Refute it at one input. -/
def utfWritesWrong : ChangeSpec := { name := "utfWrites", fn := fun _ => fun
  | [d] => { results := [.lit (.bool false)], args := [d] }
  | _ => none }
def UtfWritesWrongFalsely : Prop := utfWritesRow.holds Tryd.pinned (OpenSpec.ofChange utfWritesWrong)

/-- 'narthexlaw02.UtfReads': WHATEVER THE INPUT: true; the input reads as it did. -/
def utfReadsSpec : ChangeSpec := { name := "utfReads", fn := fun _ => fun
  | [d1, d2] => { results := [.lit (.bool true)], args := [d1, d2] }
  | _ => none }
def utfReadsRow : OpenClaim := { program := "ytflljhlbnaeebaadoor", sum := "136c7d0afc4a7b5504c7a5db109edb09c1b3a87fd86e28a4417a53cdcc6dcc90", func := "narthex/narthexlaw02.UtfReads", spec := "utfReads", unfollowed := true, recurses := true, named := ["narthex/utf.forms"], apart := false, laid := [("narthex/utf.forms", laid_narthex_utf_forms)] }
def UtfReadsSaid : Prop := utfReadsRow.holds Tryd.pinned (OpenSpec.ofChange utfReadsSpec)

/-- ITS FALSE NEIGHBOUR: 'it returns false'. Refute it at one input. -/
def utfReadsWrong : ChangeSpec := { name := "utfReads", fn := fun _ => fun
  | [d1, d2] => { results := [.lit (.bool false)], args := [d1, d2] }
  | _ => none }
def UtfReadsWrongFalsely : Prop := utfReadsRow.holds Tryd.pinned (OpenSpec.ofChange utfReadsWrong)

/-- 'narthexlaw02.UtfTexts': WHATEVER THE INPUT: true; the input reads as it did. -/
def utfTextsSpec : ChangeSpec := { name := "utfTexts", fn := fun _ => fun
  | [d1, d2] => { results := [.lit (.bool true)], args := [d1, d2] }
  | _ => none }
def utfTextsRow : OpenClaim := { program := "ytflljhlbnaeebaadoor", sum := "136c7d0afc4a7b5504c7a5db109edb09c1b3a87fd86e28a4417a53cdcc6dcc90", func := "narthex/narthexlaw02.UtfTexts", spec := "utfTexts", unfollowed := true, recurses := true, named := ["narthex/utf.forms"], apart := false, laid := [("narthex/utf.forms", laid_narthex_utf_forms)] }
def UtfTextsSaid : Prop := utfTextsRow.holds Tryd.pinned (OpenSpec.ofChange utfTextsSpec)

/-- ITS FALSE NEIGHBOUR: 'it returns false'. Refute it at one input. -/
def utfTextsWrong : ChangeSpec := { name := "utfTexts", fn := fun _ => fun
  | [d1, d2] => { results := [.lit (.bool false)], args := [d1, d2] }
  | _ => none }
def UtfTextsWrongFalsely : Prop := utfTextsRow.holds Tryd.pinned (OpenSpec.ofChange utfTextsWrong)

/-- 'narthexlaw03.CharsTells': WHATEVER THE INPUT: true; the input reads as it did. -/
def charsTellsSpec : ChangeSpec := { name := "charsTells", fn := fun _ => fun
  | [d1, d2] => { results := [.lit (.bool true)], args := [d1, d2] }
  | _ => none }
def charsTellsRow : OpenClaim := { program := "ytflljhlbnaeebaadoor", sum := "136c7d0afc4a7b5504c7a5db109edb09c1b3a87fd86e28a4417a53cdcc6dcc90", func := "narthex/narthexlaw03.CharsTells", spec := "charsTells", inPlace := ["internal/bytealg.IndexByteString"], unfollowed := true, recurses := true, named := ["narthex/chars.documents", "narthex/chars.starts", "narthex/chars.more"], apart := false, laid := [("narthex/chars.documents", laid_narthex_chars_documents), ("narthex/chars.starts", laid_narthex_chars_starts), ("narthex/chars.more", laid_narthex_chars_more)] }
def CharsTellsSaid : Prop := charsTellsRow.holds Tryd.pinned (OpenSpec.ofChange charsTellsSpec)

/-- ITS FALSE NEIGHBOUR: 'it returns false'. Refute it at one input. -/
def charsTellsWrong : ChangeSpec := { name := "charsTells", fn := fun _ => fun
  | [d1, d2] => { results := [.lit (.bool false)], args := [d1, d2] }
  | _ => none }
def CharsTellsWrongFalsely : Prop := charsTellsRow.holds Tryd.pinned (OpenSpec.ofChange charsTellsWrong)

/-- 'narthexlaw03.CharsRanges': WHATEVER THE INPUT: true; the input reads as it did. -/
def charsRangesSpec : ChangeSpec := { name := "charsRanges", fn := fun _ => fun
  | [d1, d2, d3] => { results := [.lit (.bool true)], args := [d1, d2, d3] }
  | _ => none }
def charsRangesRow : OpenClaim := { program := "ytflljhlbnaeebaadoor", sum := "136c7d0afc4a7b5504c7a5db109edb09c1b3a87fd86e28a4417a53cdcc6dcc90", func := "narthex/narthexlaw03.CharsRanges", spec := "charsRanges", inPlace := ["internal/bytealg.IndexByteString"], unfollowed := true, recurses := true, named := ["narthex/chars.documents", "narthex/chars.starts", "narthex/chars.more"], apart := false, laid := [("narthex/chars.documents", laid_narthex_chars_documents), ("narthex/chars.starts", laid_narthex_chars_starts), ("narthex/chars.more", laid_narthex_chars_more)] }
def CharsRangesSaid : Prop := charsRangesRow.holds Tryd.pinned (OpenSpec.ofChange charsRangesSpec)

/-- ITS FALSE NEIGHBOUR: 'it returns false'. Refute it at one input. -/
def charsRangesWrong : ChangeSpec := { name := "charsRanges", fn := fun _ => fun
  | [d1, d2, d3] => { results := [.lit (.bool false)], args := [d1, d2, d3] }
  | _ => none }
def CharsRangesWrongFalsely : Prop := charsRangesRow.holds Tryd.pinned (OpenSpec.ofChange charsRangesWrong)

/-- 'narthexlaw03.CharsAll': WHATEVER THE INPUT: true; the input reads as it did. -/
def charsAllSpec : ChangeSpec := { name := "charsAll", fn := fun _ => fun
  | [d1, d2] => { results := [.lit (.bool true)], args := [d1, d2] }
  | _ => none }
def charsAllRow : OpenClaim := { program := "ytflljhlbnaeebaadoor", sum := "136c7d0afc4a7b5504c7a5db109edb09c1b3a87fd86e28a4417a53cdcc6dcc90", func := "narthex/narthexlaw03.CharsAll", spec := "charsAll", inPlace := ["internal/bytealg.IndexByteString"], unfollowed := true, recurses := true, named := ["narthex/chars.documents", "narthex/chars.starts", "narthex/chars.more", "narthex/utf.forms"], apart := false, laid := [("narthex/utf.forms", laid_narthex_utf_forms), ("narthex/chars.documents", laid_narthex_chars_documents), ("narthex/chars.starts", laid_narthex_chars_starts), ("narthex/chars.more", laid_narthex_chars_more)] }
def CharsAllSaid : Prop := charsAllRow.holds Tryd.pinned (OpenSpec.ofChange charsAllSpec)

/-- ITS FALSE NEIGHBOUR: 'it returns false'. Refute it at one input. -/
def charsAllWrong : ChangeSpec := { name := "charsAll", fn := fun _ => fun
  | [d1, d2] => { results := [.lit (.bool false)], args := [d1, d2] }
  | _ => none }
def CharsAllWrongFalsely : Prop := charsAllRow.holds Tryd.pinned (OpenSpec.ofChange charsAllWrong)

/- THE SECOND FORM. 'bulk': how many values and letters a reading holds, each counted each time it is reached (what is shared counts as often as it is met; a slice's spare places count too). A statement '..UptoSaid' is the law's where the arguments, and the package variables that the reading takes, are together of bulk at most 1048576: NARROWER than '..Said'. Prove '..Said' where nothing that the law and all that it calls make is longer than what came in: it says more and counts as full. Else prove '..UptoSaid'. A law counts once. -/
mutual
def uptoBulk {H : Type} : DataW H → Nat
  | .lit (.string bytes) => bytes.length + 1
  | .lit _ => 1
  | .nil => 1
  | .ptr d => uptoBulk d + 1
  | .slice elems spare => uptoBulkAll elems + uptoBulkAll spare + 1
  | .agg parts => uptoBulkAll parts + 1
  | .iface _ d => uptoBulk d + 1
  | .map entries => uptoBulkEntries entries + 1
  | .held _ => 1
def uptoBulkAll {H : Type} : List (DataW H) → Nat
  | [] => 0
  | d :: r => uptoBulk d + uptoBulkAll r
def uptoBulkEntries {H : Type} : List (Lit × DataW H) → Nat
  | [] => 0
  | x :: r => uptoBulkEntry x + uptoBulkEntries r
def uptoBulkEntry {H : Type} : Lit × DataW H → Nat
  | (.string bytes, d) => bytes.length + uptoBulk d + 1
  | (_, d) => uptoBulk d + 1
 end
def uptoSmall : (H : Type) → List (DataW H) → Bool := fun _ ds => decide (uptoBulkAll ds ≤ 1048576)
def OpenSpec.upto (s : _root_.Go.ChangeSpec) : _root_.Go.OpenSpec := { _root_.Go.OpenSpec.ofChange s with cond := some uptoSmall }

/-- 'narthexlaw02.UtfWrites', WHERE WHAT IT READS IS OF BULK AT MOST 1048576: true; the input reads as it did. -/
def utfWritesUptoRow : OpenClaim := { program := "ytflljhlbnaeebaadoor", sum := "136c7d0afc4a7b5504c7a5db109edb09c1b3a87fd86e28a4417a53cdcc6dcc90", func := "narthex/narthexlaw02.UtfWrites", spec := "utfWrites", unfollowed := true, recurses := true, named := ["narthex/utf.forms"], apart := false, laid := [("narthex/utf.forms", laid_narthex_utf_forms)], narrowed := true }
def UtfWritesUptoSaid : Prop := utfWritesUptoRow.holds Tryd.pinned (OpenSpec.upto utfWritesSpec)

/-- 'narthexlaw02.UtfReads', WHERE WHAT IT READS IS OF BULK AT MOST 1048576: true; the input reads as it did. -/
def utfReadsUptoRow : OpenClaim := { program := "ytflljhlbnaeebaadoor", sum := "136c7d0afc4a7b5504c7a5db109edb09c1b3a87fd86e28a4417a53cdcc6dcc90", func := "narthex/narthexlaw02.UtfReads", spec := "utfReads", unfollowed := true, recurses := true, named := ["narthex/utf.forms"], apart := false, laid := [("narthex/utf.forms", laid_narthex_utf_forms)], narrowed := true }
def UtfReadsUptoSaid : Prop := utfReadsUptoRow.holds Tryd.pinned (OpenSpec.upto utfReadsSpec)

/-- 'narthexlaw02.UtfTexts', WHERE WHAT IT READS IS OF BULK AT MOST 1048576: true; the input reads as it did. -/
def utfTextsUptoRow : OpenClaim := { program := "ytflljhlbnaeebaadoor", sum := "136c7d0afc4a7b5504c7a5db109edb09c1b3a87fd86e28a4417a53cdcc6dcc90", func := "narthex/narthexlaw02.UtfTexts", spec := "utfTexts", unfollowed := true, recurses := true, named := ["narthex/utf.forms"], apart := false, laid := [("narthex/utf.forms", laid_narthex_utf_forms)], narrowed := true }
def UtfTextsUptoSaid : Prop := utfTextsUptoRow.holds Tryd.pinned (OpenSpec.upto utfTextsSpec)

/-- 'narthexlaw03.CharsTells', WHERE WHAT IT READS IS OF BULK AT MOST 1048576: true; the input reads as it did. -/
def charsTellsUptoRow : OpenClaim := { program := "ytflljhlbnaeebaadoor", sum := "136c7d0afc4a7b5504c7a5db109edb09c1b3a87fd86e28a4417a53cdcc6dcc90", func := "narthex/narthexlaw03.CharsTells", spec := "charsTells", inPlace := ["internal/bytealg.IndexByteString"], unfollowed := true, recurses := true, named := ["narthex/chars.documents", "narthex/chars.starts", "narthex/chars.more"], apart := false, laid := [("narthex/chars.documents", laid_narthex_chars_documents), ("narthex/chars.starts", laid_narthex_chars_starts), ("narthex/chars.more", laid_narthex_chars_more)], narrowed := true }
def CharsTellsUptoSaid : Prop := charsTellsUptoRow.holds Tryd.pinned (OpenSpec.upto charsTellsSpec)

/-- 'narthexlaw03.CharsRanges', WHERE WHAT IT READS IS OF BULK AT MOST 1048576: true; the input reads as it did. -/
def charsRangesUptoRow : OpenClaim := { program := "ytflljhlbnaeebaadoor", sum := "136c7d0afc4a7b5504c7a5db109edb09c1b3a87fd86e28a4417a53cdcc6dcc90", func := "narthex/narthexlaw03.CharsRanges", spec := "charsRanges", inPlace := ["internal/bytealg.IndexByteString"], unfollowed := true, recurses := true, named := ["narthex/chars.documents", "narthex/chars.starts", "narthex/chars.more"], apart := false, laid := [("narthex/chars.documents", laid_narthex_chars_documents), ("narthex/chars.starts", laid_narthex_chars_starts), ("narthex/chars.more", laid_narthex_chars_more)], narrowed := true }
def CharsRangesUptoSaid : Prop := charsRangesUptoRow.holds Tryd.pinned (OpenSpec.upto charsRangesSpec)

/-- 'narthexlaw03.CharsAll', WHERE WHAT IT READS IS OF BULK AT MOST 1048576: true; the input reads as it did. -/
def charsAllUptoRow : OpenClaim := { program := "ytflljhlbnaeebaadoor", sum := "136c7d0afc4a7b5504c7a5db109edb09c1b3a87fd86e28a4417a53cdcc6dcc90", func := "narthex/narthexlaw03.CharsAll", spec := "charsAll", inPlace := ["internal/bytealg.IndexByteString"], unfollowed := true, recurses := true, named := ["narthex/chars.documents", "narthex/chars.starts", "narthex/chars.more", "narthex/utf.forms"], apart := false, laid := [("narthex/utf.forms", laid_narthex_utf_forms), ("narthex/chars.documents", laid_narthex_chars_documents), ("narthex/chars.starts", laid_narthex_chars_starts), ("narthex/chars.more", laid_narthex_chars_more)], narrowed := true }
def CharsAllUptoSaid : Prop := charsAllUptoRow.holds Tryd.pinned (OpenSpec.upto charsAllSpec)

end Rows
end Go.Proofs.YtflljhlbnaeebaaDoor
