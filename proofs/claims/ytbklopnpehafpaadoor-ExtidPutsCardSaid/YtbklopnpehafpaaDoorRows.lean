/-
  NARROWER THAN 'FOR EVERY INPUT', by the rows' own cells (each row's printed sentence says how): ExtidHeads: laid · ExtidPuts: laid.
  DERIVED. THE GIVEN ROWS OF THIS SEAT. 2 by the template 'for every input the law returns true; each argument reads behind the call as it read before'; 0 by the template 'total and deterministic' (their statements: YtbklopnpehafpaaDoorTotals.lean).
  GIVEN WITH THE SEED: the statements are not yours to turn. If you find one false, say at which input.
  Laid BY PROGRAM, IN A SANDBOX (cutbox-rows.mjs): the forced cells as the released guide's own fill.sh prints them over the translation 5594c910e0743dde… (all of the seat's roots in one cut). By AI agents, Wed Nov 11 2026. No macro, syntax, notation, axiom, sorry.
-/
import Derived.Test.YtbklopnpehafpaaDoorChecked
import GoSem.Claim
import GoSem.ClaimJoined
import GoSem.ClaimMapViews
import Derived.JoinedTies
import Derived.KernelRfl
namespace Go.Proofs.YtbklopnpehafpaaDoor
/- THE CELL 'sum', in the pinned program and in every row, IS THE sha256 OF THE DUMP (.gsa) THAT YtbklopnpehafpaaDoorProg.lean LOADS. Nothing in Lean hashes anything: it is a label: what it is worth is what the hold of that sum in a sandbox is worth. -/
noncomputable def Tryd.pinned : Pinned := { name := "ytbklopnpehafpaadoor", sum := "5594c910e0743dde6125acb01a2f305434b0d80974b53f23f87f37d74bcc22b3", checked := Tryd.checked }
namespace Rows
def none {H : Type} : Left H := { results := [], args := [] }

/- WHAT THE LISTED PACKAGE-LEVEL VARIABLES READ AS WHEN THE CALL BEGINS. Each datum BY PROGRAM (the guide's laid-datum.mjs) off the statement by which the dump's own 'gosem.cut.vars' lays the variable. In a bare row this is a premise. The card (YtbklopnpehafpaaDoorCards.lean) ties it to the program's text. -/
def laid_narthex_utf_forms {H : Type} : DataW H := .agg [.agg [.lit (.int .u8 0), .lit (.int .u8 0), .lit (.int .i64 0)], .agg [.lit (.int .u8 0), .lit (.int .u8 127), .lit (.int .i64 0)], .agg [.lit (.int .u8 192), .lit (.int .u8 31), .lit (.int .i64 128)], .agg [.lit (.int .u8 224), .lit (.int .u8 15), .lit (.int .i64 2048)], .agg [.lit (.int .u8 240), .lit (.int .u8 7), .lit (.int .i64 65536)]]
def laid_narthex_chars_starts {H : Type} : DataW H := .agg [.agg [.lit (.int .i64 58), .lit (.int .i64 58)], .agg [.lit (.int .i64 65), .lit (.int .i64 90)], .agg [.lit (.int .i64 95), .lit (.int .i64 95)], .agg [.lit (.int .i64 97), .lit (.int .i64 122)], .agg [.lit (.int .i64 192), .lit (.int .i64 214)], .agg [.lit (.int .i64 216), .lit (.int .i64 246)], .agg [.lit (.int .i64 248), .lit (.int .i64 767)], .agg [.lit (.int .i64 880), .lit (.int .i64 893)], .agg [.lit (.int .i64 895), .lit (.int .i64 8191)], .agg [.lit (.int .i64 8204), .lit (.int .i64 8205)], .agg [.lit (.int .i64 8304), .lit (.int .i64 8591)], .agg [.lit (.int .i64 11264), .lit (.int .i64 12271)], .agg [.lit (.int .i64 12289), .lit (.int .i64 55295)], .agg [.lit (.int .i64 63744), .lit (.int .i64 64975)], .agg [.lit (.int .i64 65008), .lit (.int .i64 65533)], .agg [.lit (.int .i64 65536), .lit (.int .i64 983039)]]
def laid_narthex_chars_more {H : Type} : DataW H := .agg [.agg [.lit (.int .i64 45), .lit (.int .i64 46)], .agg [.lit (.int .i64 48), .lit (.int .i64 57)], .agg [.lit (.int .i64 183), .lit (.int .i64 183)], .agg [.lit (.int .i64 768), .lit (.int .i64 879)], .agg [.lit (.int .i64 8255), .lit (.int .i64 8256)]]

/-- 'narthexlaw13.ExtidHeads': WHATEVER THE INPUT: true; the input reads as it did. -/
def extidHeadsSpec : ChangeSpec := { name := "extidHeads", fn := fun _ => fun
  | [d1, d2] => { results := [.lit (.bool true)], args := [d1, d2] }
  | _ => none }
def extidHeadsRow : OpenClaim := { program := "ytbklopnpehafpaadoor", sum := "5594c910e0743dde6125acb01a2f305434b0d80974b53f23f87f37d74bcc22b3", func := "narthex/narthexlaw13.ExtidHeads", spec := "extidHeads", inPlace := ["internal/bytealg.IndexByteString", "internal/bytealg.IndexByte"], unfollowed := true, recurses := true, named := ["narthex/utf.forms", "narthex/chars.starts", "narthex/chars.more"], apart := false, laid := [("narthex/utf.forms", laid_narthex_utf_forms), ("narthex/chars.starts", laid_narthex_chars_starts), ("narthex/chars.more", laid_narthex_chars_more)] }
def ExtidHeadsSaid : Prop := extidHeadsRow.holds Tryd.pinned (OpenSpec.ofChange extidHeadsSpec)

/-- ITS FALSE NEIGHBOUR: 'it returns false'. Refute it at one input. -/
def extidHeadsWrong : ChangeSpec := { name := "extidHeads", fn := fun _ => fun
  | [d1, d2] => { results := [.lit (.bool false)], args := [d1, d2] }
  | _ => none }
def ExtidHeadsWrongFalsely : Prop := extidHeadsRow.holds Tryd.pinned (OpenSpec.ofChange extidHeadsWrong)

/-- 'narthexlaw13.ExtidPuts': WHATEVER THE INPUT: true; the input reads as it did. -/
def extidPutsSpec : ChangeSpec := { name := "extidPuts", fn := fun _ => fun
  | [d] => { results := [.lit (.bool true)], args := [d] }
  | _ => none }
def extidPutsRow : OpenClaim := { program := "ytbklopnpehafpaadoor", sum := "5594c910e0743dde6125acb01a2f305434b0d80974b53f23f87f37d74bcc22b3", func := "narthex/narthexlaw13.ExtidPuts", spec := "extidPuts", inPlace := ["internal/bytealg.IndexByteString", "internal/bytealg.IndexByte", "internal/bytealg.IndexString"], unfollowed := true, recurses := true, named := ["narthex/utf.forms", "narthex/chars.starts", "narthex/chars.more", "internal/bytealg.MaxLen"], apart := false, laid := [("narthex/utf.forms", laid_narthex_utf_forms), ("narthex/chars.starts", laid_narthex_chars_starts), ("narthex/chars.more", laid_narthex_chars_more)] }
def ExtidPutsSaid : Prop := extidPutsRow.holds Tryd.pinned (OpenSpec.ofChange extidPutsSpec)

/-- ITS FALSE NEIGHBOUR: 'it returns false'. Refute it at one input. -/
def extidPutsWrong : ChangeSpec := { name := "extidPuts", fn := fun _ => fun
  | [d] => { results := [.lit (.bool false)], args := [d] }
  | _ => none }
def ExtidPutsWrongFalsely : Prop := extidPutsRow.holds Tryd.pinned (OpenSpec.ofChange extidPutsWrong)

/- THE SECOND FORM. 'bulk': how many values and letters a reading holds, each counted each time it is reached (what is shared counts as often as it is met; a slice's spare places count too). A statement '..UptoSaid' is the law's where the arguments, and the package variables that the reading takes, are together of bulk at most 1048576: NARROWER than '..Said'. Prove '..Said' where nothing that the law and all that it calls make is longer than what came in: it says more and counts as full. Else prove '..UptoSaid'. A law counts once. -/
mutual
def uptoBulk {H : Type} : DataW H → Nat
  | .lit (.string bytes) => bytes.length + 1
  | .lit _ => 1
  | .nil => 1
  | .ptr d => uptoBulk d + 1
  | .slice elems spare => uptoBulkAll elems + uptoBulkAll spare + 1
  | .agg parts => uptoBulkAll parts + 1
  | .iface _ d => uptoBulk d + 1
  | .map entries => uptoBulkEntries entries + 1
  | .held _ => 1
def uptoBulkAll {H : Type} : List (DataW H) → Nat
  | [] => 0
  | d :: r => uptoBulk d + uptoBulkAll r
def uptoBulkEntries {H : Type} : List (Lit × DataW H) → Nat
  | [] => 0
  | x :: r => uptoBulkEntry x + uptoBulkEntries r
def uptoBulkEntry {H : Type} : Lit × DataW H → Nat
  | (.string bytes, d) => bytes.length + uptoBulk d + 1
  | (_, d) => uptoBulk d + 1
 end
def uptoSmall : (H : Type) → List (DataW H) → Bool := fun _ ds => decide (uptoBulkAll ds ≤ 1048576)
def OpenSpec.upto (s : _root_.Go.ChangeSpec) : _root_.Go.OpenSpec := { _root_.Go.OpenSpec.ofChange s with cond := some uptoSmall }

/-- 'narthexlaw13.ExtidHeads', WHERE WHAT IT READS IS OF BULK AT MOST 1048576: true; the input reads as it did. -/
def extidHeadsUptoRow : OpenClaim := { program := "ytbklopnpehafpaadoor", sum := "5594c910e0743dde6125acb01a2f305434b0d80974b53f23f87f37d74bcc22b3", func := "narthex/narthexlaw13.ExtidHeads", spec := "extidHeads", inPlace := ["internal/bytealg.IndexByteString", "internal/bytealg.IndexByte"], unfollowed := true, recurses := true, named := ["narthex/utf.forms", "narthex/chars.starts", "narthex/chars.more"], apart := false, laid := [("narthex/utf.forms", laid_narthex_utf_forms), ("narthex/chars.starts", laid_narthex_chars_starts), ("narthex/chars.more", laid_narthex_chars_more)], narrowed := true }
def ExtidHeadsUptoSaid : Prop := extidHeadsUptoRow.holds Tryd.pinned (OpenSpec.upto extidHeadsSpec)

/-- 'narthexlaw13.ExtidPuts', WHERE WHAT IT READS IS OF BULK AT MOST 1048576: true; the input reads as it did. -/
def extidPutsUptoRow : OpenClaim := { program := "ytbklopnpehafpaadoor", sum := "5594c910e0743dde6125acb01a2f305434b0d80974b53f23f87f37d74bcc22b3", func := "narthex/narthexlaw13.ExtidPuts", spec := "extidPuts", inPlace := ["internal/bytealg.IndexByteString", "internal/bytealg.IndexByte", "internal/bytealg.IndexString"], unfollowed := true, recurses := true, named := ["narthex/utf.forms", "narthex/chars.starts", "narthex/chars.more", "internal/bytealg.MaxLen"], apart := false, laid := [("narthex/utf.forms", laid_narthex_utf_forms), ("narthex/chars.starts", laid_narthex_chars_starts), ("narthex/chars.more", laid_narthex_chars_more)], narrowed := true }
def ExtidPutsUptoSaid : Prop := extidPutsUptoRow.holds Tryd.pinned (OpenSpec.upto extidPutsSpec)

end Rows
end Go.Proofs.YtbklopnpehafpaaDoor
