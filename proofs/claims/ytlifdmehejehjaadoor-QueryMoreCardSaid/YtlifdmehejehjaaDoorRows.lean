/-
  NARROWER THAN 'FOR EVERY INPUT', by the rows' own cells (each row's printed sentence says how): QueryMatches: laid · QueryMore: laid · QueryReads: laid · QueryFinds: laid.
  DERIVED. THE GIVEN ROWS OF THIS SEAT. 4 by the template 'for every input the law returns true; each argument reads behind the call as it read before'; 0 by the template 'total and deterministic' (their statements: YtlifdmehejehjaaDoorTotals.lean).
  GIVEN WITH THE SEED: the statements are not yours to turn. If you find one false, say at which input.
  Laid BY PROGRAM, IN A SANDBOX (cutbox-rows.mjs): the forced cells as the released guide's own fill.sh prints them over the translation 1f0612da23b09aa7… (all of the seat's roots in one cut). By AI agents, Wed Nov 11 2026. No macro, syntax, notation, axiom, sorry.
-/
import Derived.Test.YtlifdmehejehjaaDoorChecked
import GoSem.PinnedTables
import GoSem.Claim
import GoSem.ClaimJoined
import GoSem.ClaimMapViews
import Derived.JoinedTies
import Derived.KernelRfl
namespace Go.Proofs.YtlifdmehejehjaaDoor
/- THE CELL 'sum', in the pinned program and in every row, IS THE sha256 OF THE DUMP (.gsa) THAT YtlifdmehejehjaaDoorProg.lean LOADS. Nothing in Lean hashes anything: it is a label: what it is worth is what the hold of that sum in a sandbox is worth. -/
noncomputable def Tryd.pinned : Pinned := { name := "ytlifdmehejehjaadoor", sum := "1f0612da23b09aa723cb743eb088c5e3946250f7379ff50f6c7c1b52f764f8ad", checked := Tryd.checked }
namespace Rows
def none {H : Type} : Left H := { results := [], args := [] }

/- WHAT THE LISTED PACKAGE-LEVEL VARIABLES READ AS WHEN THE CALL BEGINS. Each datum BY PROGRAM (the guide's laid-datum.mjs) off the statement by which the dump's own 'gosem.cut.vars' lays the variable. In a bare row this is a premise. The card (YtlifdmehejehjaaDoorCards.lean) ties it to the program's text. -/
def laid_unicode_utf8_acceptRanges {H : Type} : DataW H := .agg [.agg [.lit (.int .u8 128), .lit (.int .u8 191)], .agg [.lit (.int .u8 160), .lit (.int .u8 191)], .agg [.lit (.int .u8 128), .lit (.int .u8 159)], .agg [.lit (.int .u8 144), .lit (.int .u8 191)], .agg [.lit (.int .u8 128), .lit (.int .u8 143)], .agg [.lit (.int .u8 0), .lit (.int .u8 0)], .agg [.lit (.int .u8 0), .lit (.int .u8 0)], .agg [.lit (.int .u8 0), .lit (.int .u8 0)], .agg [.lit (.int .u8 0), .lit (.int .u8 0)], .agg [.lit (.int .u8 0), .lit (.int .u8 0)], .agg [.lit (.int .u8 0), .lit (.int .u8 0)], .agg [.lit (.int .u8 0), .lit (.int .u8 0)], .agg [.lit (.int .u8 0), .lit (.int .u8 0)], .agg [.lit (.int .u8 0), .lit (.int .u8 0)], .agg [.lit (.int .u8 0), .lit (.int .u8 0)], .agg [.lit (.int .u8 0), .lit (.int .u8 0)]]
def laid_narthex_utf_forms {H : Type} : DataW H := .agg [.agg [.lit (.int .u8 0), .lit (.int .u8 0), .lit (.int .i64 0)], .agg [.lit (.int .u8 0), .lit (.int .u8 127), .lit (.int .i64 0)], .agg [.lit (.int .u8 192), .lit (.int .u8 31), .lit (.int .i64 128)], .agg [.lit (.int .u8 224), .lit (.int .u8 15), .lit (.int .i64 2048)], .agg [.lit (.int .u8 240), .lit (.int .u8 7), .lit (.int .i64 65536)]]
def laid_narthex_chars_starts {H : Type} : DataW H := .agg [.agg [.lit (.int .i64 58), .lit (.int .i64 58)], .agg [.lit (.int .i64 65), .lit (.int .i64 90)], .agg [.lit (.int .i64 95), .lit (.int .i64 95)], .agg [.lit (.int .i64 97), .lit (.int .i64 122)], .agg [.lit (.int .i64 192), .lit (.int .i64 214)], .agg [.lit (.int .i64 216), .lit (.int .i64 246)], .agg [.lit (.int .i64 248), .lit (.int .i64 767)], .agg [.lit (.int .i64 880), .lit (.int .i64 893)], .agg [.lit (.int .i64 895), .lit (.int .i64 8191)], .agg [.lit (.int .i64 8204), .lit (.int .i64 8205)], .agg [.lit (.int .i64 8304), .lit (.int .i64 8591)], .agg [.lit (.int .i64 11264), .lit (.int .i64 12271)], .agg [.lit (.int .i64 12289), .lit (.int .i64 55295)], .agg [.lit (.int .i64 63744), .lit (.int .i64 64975)], .agg [.lit (.int .i64 65008), .lit (.int .i64 65533)], .agg [.lit (.int .i64 65536), .lit (.int .i64 983039)]]
def laid_narthex_chars_more {H : Type} : DataW H := .agg [.agg [.lit (.int .i64 45), .lit (.int .i64 46)], .agg [.lit (.int .i64 48), .lit (.int .i64 57)], .agg [.lit (.int .i64 183), .lit (.int .i64 183)], .agg [.lit (.int .i64 768), .lit (.int .i64 879)], .agg [.lit (.int .i64 8255), .lit (.int .i64 8256)]]
/-- One of Go's own tables, pinned by name: the form's constant. -/
def laid_unicode_utf8_first : DataW Unit := Go.Pinned.utf8First

/-- 'narthexlaw47.QueryMatches': WHATEVER THE INPUT: true; the input reads as it did. -/
def queryMatchesSpec : ChangeSpec := { name := "queryMatches", fn := fun _ => fun
  | [d1, d2] => { results := [.lit (.bool true)], args := [d1, d2] }
  | _ => none }
def queryMatchesRow : OpenClaim := { program := "ytlifdmehejehjaadoor", sum := "1f0612da23b09aa723cb743eb088c5e3946250f7379ff50f6c7c1b52f764f8ad", func := "narthex/narthexlaw47.QueryMatches", spec := "queryMatches", inPlace := ["internal/bytealg.IndexByteString", "internal/bytealg.IndexString"], unfollowed := true, recurses := true, named := ["unicode/utf8.first", "unicode/utf8.acceptRanges", "internal/bytealg.MaxLen", "narthex/chars.starts", "narthex/chars.more", "narthex/utf.forms"], apart := false, laid := [("unicode/utf8.acceptRanges", laid_unicode_utf8_acceptRanges), ("narthex/utf.forms", laid_narthex_utf_forms), ("narthex/chars.starts", laid_narthex_chars_starts), ("narthex/chars.more", laid_narthex_chars_more), ("unicode/utf8.first", laid_unicode_utf8_first)] }
def QueryMatchesSaid : Prop := queryMatchesRow.holds Tryd.pinned (OpenSpec.ofChange queryMatchesSpec)

/-- ITS FALSE NEIGHBOUR: 'it returns false'. Refute it at one input. -/
def queryMatchesWrong : ChangeSpec := { name := "queryMatches", fn := fun _ => fun
  | [d1, d2] => { results := [.lit (.bool false)], args := [d1, d2] }
  | _ => none }
def QueryMatchesWrongFalsely : Prop := queryMatchesRow.holds Tryd.pinned (OpenSpec.ofChange queryMatchesWrong)

/-- 'narthexlaw47.QueryMore': WHATEVER THE INPUT: true; the input reads as it did. -/
def queryMoreSpec : ChangeSpec := { name := "queryMore", fn := fun _ => fun
  | [d1, d2, d3] => { results := [.lit (.bool true)], args := [d1, d2, d3] }
  | _ => none }
def queryMoreRow : OpenClaim := { program := "ytlifdmehejehjaadoor", sum := "1f0612da23b09aa723cb743eb088c5e3946250f7379ff50f6c7c1b52f764f8ad", func := "narthex/narthexlaw47.QueryMore", spec := "queryMore", inPlace := ["internal/bytealg.IndexByteString", "internal/bytealg.IndexString"], unfollowed := true, recurses := true, named := ["unicode/utf8.first", "unicode/utf8.acceptRanges", "internal/bytealg.MaxLen", "narthex/chars.starts", "narthex/chars.more", "narthex/utf.forms"], apart := false, laid := [("unicode/utf8.acceptRanges", laid_unicode_utf8_acceptRanges), ("narthex/utf.forms", laid_narthex_utf_forms), ("narthex/chars.starts", laid_narthex_chars_starts), ("narthex/chars.more", laid_narthex_chars_more), ("unicode/utf8.first", laid_unicode_utf8_first)] }
def QueryMoreSaid : Prop := queryMoreRow.holds Tryd.pinned (OpenSpec.ofChange queryMoreSpec)

/-- ITS FALSE NEIGHBOUR: 'it returns false'. Refute it at one input. -/
def queryMoreWrong : ChangeSpec := { name := "queryMore", fn := fun _ => fun
  | [d1, d2, d3] => { results := [.lit (.bool false)], args := [d1, d2, d3] }
  | _ => none }
def QueryMoreWrongFalsely : Prop := queryMoreRow.holds Tryd.pinned (OpenSpec.ofChange queryMoreWrong)

/-- 'narthexlaw47.QueryReads': WHATEVER THE INPUT: true; the input reads as it did. -/
def queryReadsSpec : ChangeSpec := { name := "queryReads", fn := fun _ => fun
  | [d1, d2] => { results := [.lit (.bool true)], args := [d1, d2] }
  | _ => none }
def queryReadsRow : OpenClaim := { program := "ytlifdmehejehjaadoor", sum := "1f0612da23b09aa723cb743eb088c5e3946250f7379ff50f6c7c1b52f764f8ad", func := "narthex/narthexlaw47.QueryReads", spec := "queryReads", inPlace := ["internal/bytealg.IndexByteString", "internal/bytealg.IndexString", "internal/abi.NoEscape", "internal/bytealg.MakeNoZero"], unfollowed := true, recurses := true, named := ["unicode/utf8.first", "unicode/utf8.acceptRanges", "internal/bytealg.MaxLen", "narthex/chars.starts", "narthex/chars.more", "narthex/utf.forms"], apart := false, laid := [("unicode/utf8.acceptRanges", laid_unicode_utf8_acceptRanges), ("narthex/utf.forms", laid_narthex_utf_forms), ("narthex/chars.starts", laid_narthex_chars_starts), ("narthex/chars.more", laid_narthex_chars_more), ("unicode/utf8.first", laid_unicode_utf8_first)] }
def QueryReadsSaid : Prop := queryReadsRow.holds Tryd.pinned (OpenSpec.ofChange queryReadsSpec)

/-- ITS FALSE NEIGHBOUR: 'it returns false'. Refute it at one input. -/
def queryReadsWrong : ChangeSpec := { name := "queryReads", fn := fun _ => fun
  | [d1, d2] => { results := [.lit (.bool false)], args := [d1, d2] }
  | _ => none }
def QueryReadsWrongFalsely : Prop := queryReadsRow.holds Tryd.pinned (OpenSpec.ofChange queryReadsWrong)

/-- 'narthexlaw47.QueryFinds': WHATEVER THE INPUT: true; the input reads as it did. -/
def queryFindsSpec : ChangeSpec := { name := "queryFinds", fn := fun _ => fun
  | [d1, d2, d3] => { results := [.lit (.bool true)], args := [d1, d2, d3] }
  | _ => none }
def queryFindsRow : OpenClaim := { program := "ytlifdmehejehjaadoor", sum := "1f0612da23b09aa723cb743eb088c5e3946250f7379ff50f6c7c1b52f764f8ad", func := "narthex/narthexlaw47.QueryFinds", spec := "queryFinds", inPlace := ["internal/bytealg.IndexByteString", "internal/bytealg.IndexString", "internal/abi.NoEscape"], unfollowed := true, recurses := true, named := ["unicode/utf8.first", "unicode/utf8.acceptRanges", "internal/bytealg.MaxLen", "narthex/chars.starts", "narthex/chars.more", "narthex/utf.forms"], apart := false, laid := [("unicode/utf8.acceptRanges", laid_unicode_utf8_acceptRanges), ("narthex/utf.forms", laid_narthex_utf_forms), ("narthex/chars.starts", laid_narthex_chars_starts), ("narthex/chars.more", laid_narthex_chars_more), ("unicode/utf8.first", laid_unicode_utf8_first)] }
def QueryFindsSaid : Prop := queryFindsRow.holds Tryd.pinned (OpenSpec.ofChange queryFindsSpec)

/-- ITS FALSE NEIGHBOUR: 'it returns false'. Refute it at one input. -/
def queryFindsWrong : ChangeSpec := { name := "queryFinds", fn := fun _ => fun
  | [d1, d2, d3] => { results := [.lit (.bool false)], args := [d1, d2, d3] }
  | _ => none }
def QueryFindsWrongFalsely : Prop := queryFindsRow.holds Tryd.pinned (OpenSpec.ofChange queryFindsWrong)

/- THE SECOND FORM. 'bulk': how many values and letters a reading holds, each counted each time it is reached (what is shared counts as often as it is met; a slice's spare places count too). A statement '..UptoSaid' is the law's where the arguments, and the package variables that the reading takes, are together of bulk at most 1048576: NARROWER than '..Said'. Prove '..Said' where nothing that the law and all that it calls make is longer than what came in: it says more and counts as full. Else prove '..UptoSaid'. A law counts once. -/
mutual
def uptoBulk {H : Type} : DataW H → Nat
  | .lit (.string bytes) => bytes.length + 1
  | .lit _ => 1
  | .nil => 1
  | .ptr d => uptoBulk d + 1
  | .slice elems spare => uptoBulkAll elems + uptoBulkAll spare + 1
  | .agg parts => uptoBulkAll parts + 1
  | .iface _ d => uptoBulk d + 1
  | .map entries => uptoBulkEntries entries + 1
  | .held _ => 1
def uptoBulkAll {H : Type} : List (DataW H) → Nat
  | [] => 0
  | d :: r => uptoBulk d + uptoBulkAll r
def uptoBulkEntries {H : Type} : List (Lit × DataW H) → Nat
  | [] => 0
  | x :: r => uptoBulkEntry x + uptoBulkEntries r
def uptoBulkEntry {H : Type} : Lit × DataW H → Nat
  | (.string bytes, d) => bytes.length + uptoBulk d + 1
  | (_, d) => uptoBulk d + 1
 end
def uptoSmall : (H : Type) → List (DataW H) → Bool := fun _ ds => decide (uptoBulkAll ds ≤ 1048576)
def OpenSpec.upto (s : _root_.Go.ChangeSpec) : _root_.Go.OpenSpec := { _root_.Go.OpenSpec.ofChange s with cond := some uptoSmall }

/-- 'narthexlaw47.QueryMatches', WHERE WHAT IT READS IS OF BULK AT MOST 1048576: true; the input reads as it did. -/
def queryMatchesUptoRow : OpenClaim := { program := "ytlifdmehejehjaadoor", sum := "1f0612da23b09aa723cb743eb088c5e3946250f7379ff50f6c7c1b52f764f8ad", func := "narthex/narthexlaw47.QueryMatches", spec := "queryMatches", inPlace := ["internal/bytealg.IndexByteString", "internal/bytealg.IndexString"], unfollowed := true, recurses := true, named := ["unicode/utf8.first", "unicode/utf8.acceptRanges", "internal/bytealg.MaxLen", "narthex/chars.starts", "narthex/chars.more", "narthex/utf.forms"], apart := false, laid := [("unicode/utf8.acceptRanges", laid_unicode_utf8_acceptRanges), ("narthex/utf.forms", laid_narthex_utf_forms), ("narthex/chars.starts", laid_narthex_chars_starts), ("narthex/chars.more", laid_narthex_chars_more), ("unicode/utf8.first", laid_unicode_utf8_first)], narrowed := true }
def QueryMatchesUptoSaid : Prop := queryMatchesUptoRow.holds Tryd.pinned (OpenSpec.upto queryMatchesSpec)

/-- 'narthexlaw47.QueryMore', WHERE WHAT IT READS IS OF BULK AT MOST 1048576: true; the input reads as it did. -/
def queryMoreUptoRow : OpenClaim := { program := "ytlifdmehejehjaadoor", sum := "1f0612da23b09aa723cb743eb088c5e3946250f7379ff50f6c7c1b52f764f8ad", func := "narthex/narthexlaw47.QueryMore", spec := "queryMore", inPlace := ["internal/bytealg.IndexByteString", "internal/bytealg.IndexString"], unfollowed := true, recurses := true, named := ["unicode/utf8.first", "unicode/utf8.acceptRanges", "internal/bytealg.MaxLen", "narthex/chars.starts", "narthex/chars.more", "narthex/utf.forms"], apart := false, laid := [("unicode/utf8.acceptRanges", laid_unicode_utf8_acceptRanges), ("narthex/utf.forms", laid_narthex_utf_forms), ("narthex/chars.starts", laid_narthex_chars_starts), ("narthex/chars.more", laid_narthex_chars_more), ("unicode/utf8.first", laid_unicode_utf8_first)], narrowed := true }
def QueryMoreUptoSaid : Prop := queryMoreUptoRow.holds Tryd.pinned (OpenSpec.upto queryMoreSpec)

/-- 'narthexlaw47.QueryReads', WHERE WHAT IT READS IS OF BULK AT MOST 1048576: true; the input reads as it did. -/
def queryReadsUptoRow : OpenClaim := { program := "ytlifdmehejehjaadoor", sum := "1f0612da23b09aa723cb743eb088c5e3946250f7379ff50f6c7c1b52f764f8ad", func := "narthex/narthexlaw47.QueryReads", spec := "queryReads", inPlace := ["internal/bytealg.IndexByteString", "internal/bytealg.IndexString", "internal/abi.NoEscape", "internal/bytealg.MakeNoZero"], unfollowed := true, recurses := true, named := ["unicode/utf8.first", "unicode/utf8.acceptRanges", "internal/bytealg.MaxLen", "narthex/chars.starts", "narthex/chars.more", "narthex/utf.forms"], apart := false, laid := [("unicode/utf8.acceptRanges", laid_unicode_utf8_acceptRanges), ("narthex/utf.forms", laid_narthex_utf_forms), ("narthex/chars.starts", laid_narthex_chars_starts), ("narthex/chars.more", laid_narthex_chars_more), ("unicode/utf8.first", laid_unicode_utf8_first)], narrowed := true }
def QueryReadsUptoSaid : Prop := queryReadsUptoRow.holds Tryd.pinned (OpenSpec.upto queryReadsSpec)

/-- 'narthexlaw47.QueryFinds', WHERE WHAT IT READS IS OF BULK AT MOST 1048576: true; the input reads as it did. -/
def queryFindsUptoRow : OpenClaim := { program := "ytlifdmehejehjaadoor", sum := "1f0612da23b09aa723cb743eb088c5e3946250f7379ff50f6c7c1b52f764f8ad", func := "narthex/narthexlaw47.QueryFinds", spec := "queryFinds", inPlace := ["internal/bytealg.IndexByteString", "internal/bytealg.IndexString", "internal/abi.NoEscape"], unfollowed := true, recurses := true, named := ["unicode/utf8.first", "unicode/utf8.acceptRanges", "internal/bytealg.MaxLen", "narthex/chars.starts", "narthex/chars.more", "narthex/utf.forms"], apart := false, laid := [("unicode/utf8.acceptRanges", laid_unicode_utf8_acceptRanges), ("narthex/utf.forms", laid_narthex_utf_forms), ("narthex/chars.starts", laid_narthex_chars_starts), ("narthex/chars.more", laid_narthex_chars_more), ("unicode/utf8.first", laid_unicode_utf8_first)], narrowed := true }
def QueryFindsUptoSaid : Prop := queryFindsUptoRow.holds Tryd.pinned (OpenSpec.upto queryFindsSpec)

end Rows
end Go.Proofs.YtlifdmehejehjaaDoor
