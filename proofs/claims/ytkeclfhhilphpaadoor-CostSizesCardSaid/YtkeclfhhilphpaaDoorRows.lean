/-
  NARROWER THAN 'FOR EVERY INPUT', by the rows' own cells (each row's printed sentence says how): CostSums: laid · CostSizes: laid.
  DERIVED. THE GIVEN ROWS OF THIS SEAT. 2 by the template 'for every input the law returns true; each argument reads behind the call as it read before'; 0 by the template 'total and deterministic' (their statements: YtkeclfhhilphpaaDoorTotals.lean).
  GIVEN WITH THE SEED: the statements are not yours to turn. If you find one false, say at which input.
  Laid BY PROGRAM, IN A SANDBOX (cutbox-rows.mjs): the forced cells as the released guide's own fill.sh prints them over the translation 123916182e1e0aa5… (all of the seat's roots in one cut). By AI agents, Wed Nov 11 2026. No macro, syntax, notation, axiom, sorry.
-/
import Derived.Test.YtkeclfhhilphpaaDoorChecked
import GoSem.Claim
import GoSem.ClaimJoined
import GoSem.ClaimMapViews
import Derived.JoinedTies
import Derived.KernelRfl
namespace Go.Proofs.YtkeclfhhilphpaaDoor
/- THE CELL 'sum', in the pinned program and in every row, IS THE sha256 OF THE DUMP (.gsa) THAT YtkeclfhhilphpaaDoorProg.lean LOADS. Nothing in Lean hashes anything: it is a label: what it is worth is what the hold of that sum in a sandbox is worth. -/
noncomputable def Tryd.pinned : Pinned := { name := "ytkeclfhhilphpaadoor", sum := "123916182e1e0aa5129b9713cb2e5bfe086c502d02fd24512309c086435bdc51", checked := Tryd.checked }
namespace Rows
def none {H : Type} : Left H := { results := [], args := [] }

/- WHAT THE LISTED PACKAGE-LEVEL VARIABLES READ AS WHEN THE CALL BEGINS. Each datum BY PROGRAM (the guide's laid-datum.mjs) off the statement by which the dump's own 'gosem.cut.vars' lays the variable. In a bare row this is a premise. The card (YtkeclfhhilphpaaDoorCards.lean) ties it to the program's text. -/
def laid_narthex_utf_forms {H : Type} : DataW H := .agg [.agg [.lit (.int .u8 0), .lit (.int .u8 0), .lit (.int .i64 0)], .agg [.lit (.int .u8 0), .lit (.int .u8 127), .lit (.int .i64 0)], .agg [.lit (.int .u8 192), .lit (.int .u8 31), .lit (.int .i64 128)], .agg [.lit (.int .u8 224), .lit (.int .u8 15), .lit (.int .i64 2048)], .agg [.lit (.int .u8 240), .lit (.int .u8 7), .lit (.int .i64 65536)]]
def laid_narthex_chars_starts {H : Type} : DataW H := .agg [.agg [.lit (.int .i64 58), .lit (.int .i64 58)], .agg [.lit (.int .i64 65), .lit (.int .i64 90)], .agg [.lit (.int .i64 95), .lit (.int .i64 95)], .agg [.lit (.int .i64 97), .lit (.int .i64 122)], .agg [.lit (.int .i64 192), .lit (.int .i64 214)], .agg [.lit (.int .i64 216), .lit (.int .i64 246)], .agg [.lit (.int .i64 248), .lit (.int .i64 767)], .agg [.lit (.int .i64 880), .lit (.int .i64 893)], .agg [.lit (.int .i64 895), .lit (.int .i64 8191)], .agg [.lit (.int .i64 8204), .lit (.int .i64 8205)], .agg [.lit (.int .i64 8304), .lit (.int .i64 8591)], .agg [.lit (.int .i64 11264), .lit (.int .i64 12271)], .agg [.lit (.int .i64 12289), .lit (.int .i64 55295)], .agg [.lit (.int .i64 63744), .lit (.int .i64 64975)], .agg [.lit (.int .i64 65008), .lit (.int .i64 65533)], .agg [.lit (.int .i64 65536), .lit (.int .i64 983039)]]
def laid_narthex_chars_more {H : Type} : DataW H := .agg [.agg [.lit (.int .i64 45), .lit (.int .i64 46)], .agg [.lit (.int .i64 48), .lit (.int .i64 57)], .agg [.lit (.int .i64 183), .lit (.int .i64 183)], .agg [.lit (.int .i64 768), .lit (.int .i64 879)], .agg [.lit (.int .i64 8255), .lit (.int .i64 8256)]]
def laid_narthex_cref_known {H : Type} : DataW H := .agg [.agg [.lit (.string [108, 116]), .lit (.int .i64 60)], .agg [.lit (.string [103, 116]), .lit (.int .i64 62)], .agg [.lit (.string [97, 109, 112]), .lit (.int .i64 38)], .agg [.lit (.string [97, 112, 111, 115]), .lit (.int .i64 39)], .agg [.lit (.string [113, 117, 111, 116]), .lit (.int .i64 34)]]

/-- 'narthexlaw20.CostSums': WHATEVER THE INPUT: true; the input reads as it did. -/
def costSumsSpec : ChangeSpec := { name := "costSums", fn := fun _ => fun
  | [d1, d2, d3] => { results := [.lit (.bool true)], args := [d1, d2, d3] }
  | _ => none }
def costSumsRow : OpenClaim := { program := "ytkeclfhhilphpaadoor", sum := "123916182e1e0aa5129b9713cb2e5bfe086c502d02fd24512309c086435bdc51", func := "narthex/narthexlaw20.CostSums", spec := "costSums", inPlace := ["internal/bytealg.IndexByte"], unfollowed := true, recurses := true, named := ["narthex/chars.starts", "narthex/chars.more", "narthex/utf.forms", "narthex/cref.known"], apart := false, laid := [("narthex/utf.forms", laid_narthex_utf_forms), ("narthex/chars.starts", laid_narthex_chars_starts), ("narthex/chars.more", laid_narthex_chars_more), ("narthex/cref.known", laid_narthex_cref_known)] }
def CostSumsSaid : Prop := costSumsRow.holds Tryd.pinned (OpenSpec.ofChange costSumsSpec)

/-- ITS FALSE NEIGHBOUR: 'it returns false'. Refute it at one input. -/
def costSumsWrong : ChangeSpec := { name := "costSums", fn := fun _ => fun
  | [d1, d2, d3] => { results := [.lit (.bool false)], args := [d1, d2, d3] }
  | _ => none }
def CostSumsWrongFalsely : Prop := costSumsRow.holds Tryd.pinned (OpenSpec.ofChange costSumsWrong)

/-- 'narthexlaw20.CostSizes': WHATEVER THE INPUT: true; the input reads as it did. -/
def costSizesSpec : ChangeSpec := { name := "costSizes", fn := fun _ => fun
  | [d1, d2] => { results := [.lit (.bool true)], args := [d1, d2] }
  | _ => none }
def costSizesRow : OpenClaim := { program := "ytkeclfhhilphpaadoor", sum := "123916182e1e0aa5129b9713cb2e5bfe086c502d02fd24512309c086435bdc51", func := "narthex/narthexlaw20.CostSizes", spec := "costSizes", inPlace := ["internal/bytealg.IndexByte"], unfollowed := true, recurses := true, named := ["narthex/chars.starts", "narthex/chars.more", "narthex/utf.forms", "narthex/cref.known"], apart := false, laid := [("narthex/utf.forms", laid_narthex_utf_forms), ("narthex/chars.starts", laid_narthex_chars_starts), ("narthex/chars.more", laid_narthex_chars_more), ("narthex/cref.known", laid_narthex_cref_known)] }
def CostSizesSaid : Prop := costSizesRow.holds Tryd.pinned (OpenSpec.ofChange costSizesSpec)

/-- ITS FALSE NEIGHBOUR: 'it returns false'. Refute it at one input. -/
def costSizesWrong : ChangeSpec := { name := "costSizes", fn := fun _ => fun
  | [d1, d2] => { results := [.lit (.bool false)], args := [d1, d2] }
  | _ => none }
def CostSizesWrongFalsely : Prop := costSizesRow.holds Tryd.pinned (OpenSpec.ofChange costSizesWrong)

/- THE SECOND FORM. 'bulk': how many values and letters a reading holds, each counted each time it is reached (what is shared counts as often as it is met; a slice's spare places count too). A statement '..UptoSaid' is the law's where the arguments, and the package variables that the reading takes, are together of bulk at most 1048576: NARROWER than '..Said'. Prove '..Said' where nothing that the law and all that it calls make is longer than what came in: it says more and counts as full. Else prove '..UptoSaid'. A law counts once. -/
mutual
def uptoBulk {H : Type} : DataW H → Nat
  | .lit (.string bytes) => bytes.length + 1
  | .lit _ => 1
  | .nil => 1
  | .ptr d => uptoBulk d + 1
  | .slice elems spare => uptoBulkAll elems + uptoBulkAll spare + 1
  | .agg parts => uptoBulkAll parts + 1
  | .iface _ d => uptoBulk d + 1
  | .map entries => uptoBulkEntries entries + 1
  | .held _ => 1
def uptoBulkAll {H : Type} : List (DataW H) → Nat
  | [] => 0
  | d :: r => uptoBulk d + uptoBulkAll r
def uptoBulkEntries {H : Type} : List (Lit × DataW H) → Nat
  | [] => 0
  | x :: r => uptoBulkEntry x + uptoBulkEntries r
def uptoBulkEntry {H : Type} : Lit × DataW H → Nat
  | (.string bytes, d) => bytes.length + uptoBulk d + 1
  | (_, d) => uptoBulk d + 1
 end
def uptoSmall : (H : Type) → List (DataW H) → Bool := fun _ ds => decide (uptoBulkAll ds ≤ 1048576)
def OpenSpec.upto (s : _root_.Go.ChangeSpec) : _root_.Go.OpenSpec := { _root_.Go.OpenSpec.ofChange s with cond := some uptoSmall }

/-- 'narthexlaw20.CostSums', WHERE WHAT IT READS IS OF BULK AT MOST 1048576: true; the input reads as it did. -/
def costSumsUptoRow : OpenClaim := { program := "ytkeclfhhilphpaadoor", sum := "123916182e1e0aa5129b9713cb2e5bfe086c502d02fd24512309c086435bdc51", func := "narthex/narthexlaw20.CostSums", spec := "costSums", inPlace := ["internal/bytealg.IndexByte"], unfollowed := true, recurses := true, named := ["narthex/chars.starts", "narthex/chars.more", "narthex/utf.forms", "narthex/cref.known"], apart := false, laid := [("narthex/utf.forms", laid_narthex_utf_forms), ("narthex/chars.starts", laid_narthex_chars_starts), ("narthex/chars.more", laid_narthex_chars_more), ("narthex/cref.known", laid_narthex_cref_known)], narrowed := true }
def CostSumsUptoSaid : Prop := costSumsUptoRow.holds Tryd.pinned (OpenSpec.upto costSumsSpec)

/-- 'narthexlaw20.CostSizes', WHERE WHAT IT READS IS OF BULK AT MOST 1048576: true; the input reads as it did. -/
def costSizesUptoRow : OpenClaim := { program := "ytkeclfhhilphpaadoor", sum := "123916182e1e0aa5129b9713cb2e5bfe086c502d02fd24512309c086435bdc51", func := "narthex/narthexlaw20.CostSizes", spec := "costSizes", inPlace := ["internal/bytealg.IndexByte"], unfollowed := true, recurses := true, named := ["narthex/chars.starts", "narthex/chars.more", "narthex/utf.forms", "narthex/cref.known"], apart := false, laid := [("narthex/utf.forms", laid_narthex_utf_forms), ("narthex/chars.starts", laid_narthex_chars_starts), ("narthex/chars.more", laid_narthex_chars_more), ("narthex/cref.known", laid_narthex_cref_known)], narrowed := true }
def CostSizesUptoSaid : Prop := costSizesUptoRow.holds Tryd.pinned (OpenSpec.upto costSizesSpec)

end Rows
end Go.Proofs.YtkeclfhhilphpaaDoor
