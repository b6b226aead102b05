/-
  NARROWER THAN 'FOR EVERY INPUT', by the rows' own cells (each row's printed sentence says how): RefsCuts: laid · RefsFinds: laid · RefsReplaces: laid.
  DERIVED. THE GIVEN ROWS OF THIS SEAT. 3 by the template 'for every input the law returns true; each argument reads behind the call as it read before'; 0 by the template 'total and deterministic' (their statements: YtgbdkiphnghojaaDoorTotals.lean).
  GIVEN WITH THE SEED: the statements are not yours to turn. If you find one false, say at which input.
  Laid BY PROGRAM, IN A SANDBOX (cutbox-rows.mjs): the forced cells as the released guide's own fill.sh prints them over the translation 5dec825f1cc0e6a9… (all of the seat's roots in one cut). By AI agents, Wed Nov 11 2026. No macro, syntax, notation, axiom, sorry.
-/
import Derived.Test.YtgbdkiphnghojaaDoorChecked
import GoSem.Claim
import GoSem.ClaimJoined
import GoSem.ClaimMapViews
import Derived.JoinedTies
import Derived.KernelRfl
namespace Go.Proofs.YtgbdkiphnghojaaDoor
/- THE CELL 'sum', in the pinned program and in every row, IS THE sha256 OF THE DUMP (.gsa) THAT YtgbdkiphnghojaaDoorProg.lean LOADS. Nothing in Lean hashes anything: it is a label: what it is worth is what the hold of that sum in a sandbox is worth. -/
noncomputable def Tryd.pinned : Pinned := { name := "ytgbdkiphnghojaadoor", sum := "5dec825f1cc0e6a9b68a887674cb9f0327aecdd795d12ee08724dfe9ef7ca0cc", checked := Tryd.checked }
namespace Rows
def none {H : Type} : Left H := { results := [], args := [] }

/- WHAT THE LISTED PACKAGE-LEVEL VARIABLES READ AS WHEN THE CALL BEGINS. Each datum BY PROGRAM (the guide's laid-datum.mjs) off the statement by which the dump's own 'gosem.cut.vars' lays the variable. In a bare row this is a premise. The card (YtgbdkiphnghojaaDoorCards.lean) ties it to the program's text. -/
def laid_narthex_utf_forms {H : Type} : DataW H := .agg [.agg [.lit (.int .u8 0), .lit (.int .u8 0), .lit (.int .i64 0)], .agg [.lit (.int .u8 0), .lit (.int .u8 127), .lit (.int .i64 0)], .agg [.lit (.int .u8 192), .lit (.int .u8 31), .lit (.int .i64 128)], .agg [.lit (.int .u8 224), .lit (.int .u8 15), .lit (.int .i64 2048)], .agg [.lit (.int .u8 240), .lit (.int .u8 7), .lit (.int .i64 65536)]]
def laid_narthex_chars_starts {H : Type} : DataW H := .agg [.agg [.lit (.int .i64 58), .lit (.int .i64 58)], .agg [.lit (.int .i64 65), .lit (.int .i64 90)], .agg [.lit (.int .i64 95), .lit (.int .i64 95)], .agg [.lit (.int .i64 97), .lit (.int .i64 122)], .agg [.lit (.int .i64 192), .lit (.int .i64 214)], .agg [.lit (.int .i64 216), .lit (.int .i64 246)], .agg [.lit (.int .i64 248), .lit (.int .i64 767)], .agg [.lit (.int .i64 880), .lit (.int .i64 893)], .agg [.lit (.int .i64 895), .lit (.int .i64 8191)], .agg [.lit (.int .i64 8204), .lit (.int .i64 8205)], .agg [.lit (.int .i64 8304), .lit (.int .i64 8591)], .agg [.lit (.int .i64 11264), .lit (.int .i64 12271)], .agg [.lit (.int .i64 12289), .lit (.int .i64 55295)], .agg [.lit (.int .i64 63744), .lit (.int .i64 64975)], .agg [.lit (.int .i64 65008), .lit (.int .i64 65533)], .agg [.lit (.int .i64 65536), .lit (.int .i64 983039)]]
def laid_narthex_chars_more {H : Type} : DataW H := .agg [.agg [.lit (.int .i64 45), .lit (.int .i64 46)], .agg [.lit (.int .i64 48), .lit (.int .i64 57)], .agg [.lit (.int .i64 183), .lit (.int .i64 183)], .agg [.lit (.int .i64 768), .lit (.int .i64 879)], .agg [.lit (.int .i64 8255), .lit (.int .i64 8256)]]

/-- 'narthexlaw18.RefsCuts': WHATEVER THE INPUT: true; the input reads as it did. -/
def refsCutsSpec : ChangeSpec := { name := "refsCuts", fn := fun _ => fun
  | [d] => { results := [.lit (.bool true)], args := [d] }
  | _ => none }
def refsCutsRow : OpenClaim := { program := "ytgbdkiphnghojaadoor", sum := "5dec825f1cc0e6a9b68a887674cb9f0327aecdd795d12ee08724dfe9ef7ca0cc", func := "narthex/narthexlaw18.RefsCuts", spec := "refsCuts", inPlace := ["internal/bytealg.IndexByte"], unfollowed := true, recurses := true, named := ["narthex/chars.starts", "narthex/chars.more", "narthex/utf.forms"], apart := false, laid := [("narthex/utf.forms", laid_narthex_utf_forms), ("narthex/chars.starts", laid_narthex_chars_starts), ("narthex/chars.more", laid_narthex_chars_more)] }
def RefsCutsSaid : Prop := refsCutsRow.holds Tryd.pinned (OpenSpec.ofChange refsCutsSpec)

/-- ITS FALSE NEIGHBOUR: 'it returns false'. Refute it at one input. -/
def refsCutsWrong : ChangeSpec := { name := "refsCuts", fn := fun _ => fun
  | [d] => { results := [.lit (.bool false)], args := [d] }
  | _ => none }
def RefsCutsWrongFalsely : Prop := refsCutsRow.holds Tryd.pinned (OpenSpec.ofChange refsCutsWrong)

/-- 'narthexlaw18.RefsFinds': WHATEVER THE INPUT: true; the input reads as it did. -/
def refsFindsSpec : ChangeSpec := { name := "refsFinds", fn := fun _ => fun
  | [d] => { results := [.lit (.bool true)], args := [d] }
  | _ => none }
def refsFindsRow : OpenClaim := { program := "ytgbdkiphnghojaadoor", sum := "5dec825f1cc0e6a9b68a887674cb9f0327aecdd795d12ee08724dfe9ef7ca0cc", func := "narthex/narthexlaw18.RefsFinds", spec := "refsFinds", inPlace := ["internal/bytealg.IndexByte"], unfollowed := true, recurses := true, named := ["narthex/chars.starts", "narthex/chars.more", "narthex/utf.forms"], apart := false, laid := [("narthex/utf.forms", laid_narthex_utf_forms), ("narthex/chars.starts", laid_narthex_chars_starts), ("narthex/chars.more", laid_narthex_chars_more)] }
def RefsFindsSaid : Prop := refsFindsRow.holds Tryd.pinned (OpenSpec.ofChange refsFindsSpec)

/-- ITS FALSE NEIGHBOUR: 'it returns false'. Refute it at one input. -/
def refsFindsWrong : ChangeSpec := { name := "refsFinds", fn := fun _ => fun
  | [d] => { results := [.lit (.bool false)], args := [d] }
  | _ => none }
def RefsFindsWrongFalsely : Prop := refsFindsRow.holds Tryd.pinned (OpenSpec.ofChange refsFindsWrong)

/-- 'narthexlaw18.RefsReplaces': WHATEVER THE INPUT: true; the input reads as it did. -/
def refsReplacesSpec : ChangeSpec := { name := "refsReplaces", fn := fun _ => fun
  | [d1, d2, d3] => { results := [.lit (.bool true)], args := [d1, d2, d3] }
  | _ => none }
def refsReplacesRow : OpenClaim := { program := "ytgbdkiphnghojaadoor", sum := "5dec825f1cc0e6a9b68a887674cb9f0327aecdd795d12ee08724dfe9ef7ca0cc", func := "narthex/narthexlaw18.RefsReplaces", spec := "refsReplaces", inPlace := ["internal/bytealg.IndexByte", "internal/abi.NoEscape"], unfollowed := true, recurses := true, named := ["narthex/chars.starts", "narthex/chars.more", "narthex/utf.forms"], apart := false, laid := [("narthex/utf.forms", laid_narthex_utf_forms), ("narthex/chars.starts", laid_narthex_chars_starts), ("narthex/chars.more", laid_narthex_chars_more)] }
def RefsReplacesSaid : Prop := refsReplacesRow.holds Tryd.pinned (OpenSpec.ofChange refsReplacesSpec)

/-- ITS FALSE NEIGHBOUR: 'it returns false'. Refute it at one input. -/
def refsReplacesWrong : ChangeSpec := { name := "refsReplaces", fn := fun _ => fun
  | [d1, d2, d3] => { results := [.lit (.bool false)], args := [d1, d2, d3] }
  | _ => none }
def RefsReplacesWrongFalsely : Prop := refsReplacesRow.holds Tryd.pinned (OpenSpec.ofChange refsReplacesWrong)

/- THE SECOND FORM. 'bulk': how many values and letters a reading holds, each counted each time it is reached (what is shared counts as often as it is met; a slice's spare places count too). A statement '..UptoSaid' is the law's where the arguments, and the package variables that the reading takes, are together of bulk at most 1048576: NARROWER than '..Said'. Prove '..Said' where nothing that the law and all that it calls make is longer than what came in: it says more and counts as full. Else prove '..UptoSaid'. A law counts once. -/
mutual
def uptoBulk {H : Type} : DataW H → Nat
  | .lit (.string bytes) => bytes.length + 1
  | .lit _ => 1
  | .nil => 1
  | .ptr d => uptoBulk d + 1
  | .slice elems spare => uptoBulkAll elems + uptoBulkAll spare + 1
  | .agg parts => uptoBulkAll parts + 1
  | .iface _ d => uptoBulk d + 1
  | .map entries => uptoBulkEntries entries + 1
  | .held _ => 1
def uptoBulkAll {H : Type} : List (DataW H) → Nat
  | [] => 0
  | d :: r => uptoBulk d + uptoBulkAll r
def uptoBulkEntries {H : Type} : List (Lit × DataW H) → Nat
  | [] => 0
  | x :: r => uptoBulkEntry x + uptoBulkEntries r
def uptoBulkEntry {H : Type} : Lit × DataW H → Nat
  | (.string bytes, d) => bytes.length + uptoBulk d + 1
  | (_, d) => uptoBulk d + 1
 end
def uptoSmall : (H : Type) → List (DataW H) → Bool := fun _ ds => decide (uptoBulkAll ds ≤ 1048576)
def OpenSpec.upto (s : _root_.Go.ChangeSpec) : _root_.Go.OpenSpec := { _root_.Go.OpenSpec.ofChange s with cond := some uptoSmall }

/-- 'narthexlaw18.RefsCuts', WHERE WHAT IT READS IS OF BULK AT MOST 1048576: true; the input reads as it did. -/
def refsCutsUptoRow : OpenClaim := { program := "ytgbdkiphnghojaadoor", sum := "5dec825f1cc0e6a9b68a887674cb9f0327aecdd795d12ee08724dfe9ef7ca0cc", func := "narthex/narthexlaw18.RefsCuts", spec := "refsCuts", inPlace := ["internal/bytealg.IndexByte"], unfollowed := true, recurses := true, named := ["narthex/chars.starts", "narthex/chars.more", "narthex/utf.forms"], apart := false, laid := [("narthex/utf.forms", laid_narthex_utf_forms), ("narthex/chars.starts", laid_narthex_chars_starts), ("narthex/chars.more", laid_narthex_chars_more)], narrowed := true }
def RefsCutsUptoSaid : Prop := refsCutsUptoRow.holds Tryd.pinned (OpenSpec.upto refsCutsSpec)

/-- 'narthexlaw18.RefsFinds', WHERE WHAT IT READS IS OF BULK AT MOST 1048576: true; the input reads as it did. -/
def refsFindsUptoRow : OpenClaim := { program := "ytgbdkiphnghojaadoor", sum := "5dec825f1cc0e6a9b68a887674cb9f0327aecdd795d12ee08724dfe9ef7ca0cc", func := "narthex/narthexlaw18.RefsFinds", spec := "refsFinds", inPlace := ["internal/bytealg.IndexByte"], unfollowed := true, recurses := true, named := ["narthex/chars.starts", "narthex/chars.more", "narthex/utf.forms"], apart := false, laid := [("narthex/utf.forms", laid_narthex_utf_forms), ("narthex/chars.starts", laid_narthex_chars_starts), ("narthex/chars.more", laid_narthex_chars_more)], narrowed := true }
def RefsFindsUptoSaid : Prop := refsFindsUptoRow.holds Tryd.pinned (OpenSpec.upto refsFindsSpec)

/-- 'narthexlaw18.RefsReplaces', WHERE WHAT IT READS IS OF BULK AT MOST 1048576: true; the input reads as it did. -/
def refsReplacesUptoRow : OpenClaim := { program := "ytgbdkiphnghojaadoor", sum := "5dec825f1cc0e6a9b68a887674cb9f0327aecdd795d12ee08724dfe9ef7ca0cc", func := "narthex/narthexlaw18.RefsReplaces", spec := "refsReplaces", inPlace := ["internal/bytealg.IndexByte", "internal/abi.NoEscape"], unfollowed := true, recurses := true, named := ["narthex/chars.starts", "narthex/chars.more", "narthex/utf.forms"], apart := false, laid := [("narthex/utf.forms", laid_narthex_utf_forms), ("narthex/chars.starts", laid_narthex_chars_starts), ("narthex/chars.more", laid_narthex_chars_more)], narrowed := true }
def RefsReplacesUptoSaid : Prop := refsReplacesUptoRow.holds Tryd.pinned (OpenSpec.upto refsReplacesSpec)

end Rows
end Go.Proofs.YtgbdkiphnghojaaDoor
