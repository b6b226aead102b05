/-
  NARROWER THAN 'FOR EVERY INPUT', by the rows' own cells (each row's printed sentence says how): NameLong: laid · NameReads: laid · NameParts: laid.
  DERIVED. THE GIVEN ROWS OF THIS SEAT. 3 by the template 'for every input the law returns true; each argument reads behind the call as it read before'; 0 by the template 'total and deterministic' (their statements: YthcehnmkabnjfaaDoorTotals.lean).
  GIVEN WITH THE SEED: the statements are not yours to turn. If you find one false, say at which input.
  Laid BY PROGRAM, IN A SANDBOX (cutbox-rows.mjs): the forced cells as the released guide's own fill.sh prints them over the translation 76ea7f4af96e5d80… (all of the seat's roots in one cut). By AI agents, Wed Nov 11 2026. No macro, syntax, notation, axiom, sorry.
-/
import Derived.Test.YthcehnmkabnjfaaDoorChecked
import GoSem.Claim
import GoSem.ClaimJoined
import GoSem.ClaimMapViews
import Derived.JoinedTies
import Derived.KernelRfl
namespace Go.Proofs.YthcehnmkabnjfaaDoor
/- THE CELL 'sum', in the pinned program and in every row, IS THE sha256 OF THE DUMP (.gsa) THAT YthcehnmkabnjfaaDoorProg.lean LOADS. Nothing in Lean hashes anything: it is a label: what it is worth is what the hold of that sum in a sandbox is worth. -/
noncomputable def Tryd.pinned : Pinned := { name := "ythcehnmkabnjfaadoor", sum := "76ea7f4af96e5d8029a55a8fcf7afb002fa4aaf43a3a7a15c2b9d8e286f38a80", checked := Tryd.checked }
namespace Rows
def none {H : Type} : Left H := { results := [], args := [] }

/- WHAT THE LISTED PACKAGE-LEVEL VARIABLES READ AS WHEN THE CALL BEGINS. Each datum BY PROGRAM (the guide's laid-datum.mjs) off the statement by which the dump's own 'gosem.cut.vars' lays the variable. In a bare row this is a premise. The card (YthcehnmkabnjfaaDoorCards.lean) ties it to the program's text. -/
def laid_narthex_utf_forms {H : Type} : DataW H := .agg [.agg [.lit (.int .u8 0), .lit (.int .u8 0), .lit (.int .i64 0)], .agg [.lit (.int .u8 0), .lit (.int .u8 127), .lit (.int .i64 0)], .agg [.lit (.int .u8 192), .lit (.int .u8 31), .lit (.int .i64 128)], .agg [.lit (.int .u8 224), .lit (.int .u8 15), .lit (.int .i64 2048)], .agg [.lit (.int .u8 240), .lit (.int .u8 7), .lit (.int .i64 65536)]]
def laid_narthex_chars_starts {H : Type} : DataW H := .agg [.agg [.lit (.int .i64 58), .lit (.int .i64 58)], .agg [.lit (.int .i64 65), .lit (.int .i64 90)], .agg [.lit (.int .i64 95), .lit (.int .i64 95)], .agg [.lit (.int .i64 97), .lit (.int .i64 122)], .agg [.lit (.int .i64 192), .lit (.int .i64 214)], .agg [.lit (.int .i64 216), .lit (.int .i64 246)], .agg [.lit (.int .i64 248), .lit (.int .i64 767)], .agg [.lit (.int .i64 880), .lit (.int .i64 893)], .agg [.lit (.int .i64 895), .lit (.int .i64 8191)], .agg [.lit (.int .i64 8204), .lit (.int .i64 8205)], .agg [.lit (.int .i64 8304), .lit (.int .i64 8591)], .agg [.lit (.int .i64 11264), .lit (.int .i64 12271)], .agg [.lit (.int .i64 12289), .lit (.int .i64 55295)], .agg [.lit (.int .i64 63744), .lit (.int .i64 64975)], .agg [.lit (.int .i64 65008), .lit (.int .i64 65533)], .agg [.lit (.int .i64 65536), .lit (.int .i64 983039)]]
def laid_narthex_chars_more {H : Type} : DataW H := .agg [.agg [.lit (.int .i64 45), .lit (.int .i64 46)], .agg [.lit (.int .i64 48), .lit (.int .i64 57)], .agg [.lit (.int .i64 183), .lit (.int .i64 183)], .agg [.lit (.int .i64 768), .lit (.int .i64 879)], .agg [.lit (.int .i64 8255), .lit (.int .i64 8256)]]

/-- 'narthexlaw05.NameLong': WHATEVER THE INPUT: true; the input reads as it did. -/
def nameLongSpec : ChangeSpec := { name := "nameLong", fn := fun _ => fun
  | [d] => { results := [.lit (.bool true)], args := [d] }
  | _ => none }
def nameLongRow : OpenClaim := { program := "ythcehnmkabnjfaadoor", sum := "76ea7f4af96e5d8029a55a8fcf7afb002fa4aaf43a3a7a15c2b9d8e286f38a80", func := "narthex/narthexlaw05.NameLong", spec := "nameLong", inPlace := ["internal/bytealg.IndexByteString", "internal/bytealg.IndexString"], unfollowed := true, recurses := true, named := ["narthex/chars.starts", "narthex/chars.more", "narthex/utf.forms", "internal/bytealg.MaxLen"], apart := false, laid := [("narthex/utf.forms", laid_narthex_utf_forms), ("narthex/chars.starts", laid_narthex_chars_starts), ("narthex/chars.more", laid_narthex_chars_more)] }
def NameLongSaid : Prop := nameLongRow.holds Tryd.pinned (OpenSpec.ofChange nameLongSpec)

/-- ITS FALSE NEIGHBOUR: 'it returns false'. Refute it at one input. -/
def nameLongWrong : ChangeSpec := { name := "nameLong", fn := fun _ => fun
  | [d] => { results := [.lit (.bool false)], args := [d] }
  | _ => none }
def NameLongWrongFalsely : Prop := nameLongRow.holds Tryd.pinned (OpenSpec.ofChange nameLongWrong)

/-- 'narthexlaw05.NameReads': WHATEVER THE INPUT: true; the input reads as it did. -/
def nameReadsSpec : ChangeSpec := { name := "nameReads", fn := fun _ => fun
  | [d1, d2] => { results := [.lit (.bool true)], args := [d1, d2] }
  | _ => none }
def nameReadsRow : OpenClaim := { program := "ythcehnmkabnjfaadoor", sum := "76ea7f4af96e5d8029a55a8fcf7afb002fa4aaf43a3a7a15c2b9d8e286f38a80", func := "narthex/narthexlaw05.NameReads", spec := "nameReads", inPlace := ["internal/bytealg.IndexByteString", "internal/bytealg.IndexString"], unfollowed := true, recurses := true, named := ["narthex/chars.starts", "narthex/chars.more", "narthex/utf.forms", "internal/bytealg.MaxLen"], apart := false, laid := [("narthex/utf.forms", laid_narthex_utf_forms), ("narthex/chars.starts", laid_narthex_chars_starts), ("narthex/chars.more", laid_narthex_chars_more)] }
def NameReadsSaid : Prop := nameReadsRow.holds Tryd.pinned (OpenSpec.ofChange nameReadsSpec)

/-- ITS FALSE NEIGHBOUR: 'it returns false'. Refute it at one input. -/
def nameReadsWrong : ChangeSpec := { name := "nameReads", fn := fun _ => fun
  | [d1, d2] => { results := [.lit (.bool false)], args := [d1, d2] }
  | _ => none }
def NameReadsWrongFalsely : Prop := nameReadsRow.holds Tryd.pinned (OpenSpec.ofChange nameReadsWrong)

/-- 'narthexlaw05.NameParts': WHATEVER THE INPUT: true; the input reads as it did. -/
def namePartsSpec : ChangeSpec := { name := "nameParts", fn := fun _ => fun
  | [d] => { results := [.lit (.bool true)], args := [d] }
  | _ => none }
def namePartsRow : OpenClaim := { program := "ythcehnmkabnjfaadoor", sum := "76ea7f4af96e5d8029a55a8fcf7afb002fa4aaf43a3a7a15c2b9d8e286f38a80", func := "narthex/narthexlaw05.NameParts", spec := "nameParts", inPlace := ["internal/bytealg.IndexByteString", "internal/bytealg.IndexString"], unfollowed := true, recurses := true, named := ["narthex/chars.starts", "narthex/chars.more", "narthex/utf.forms", "internal/bytealg.MaxLen"], apart := false, laid := [("narthex/utf.forms", laid_narthex_utf_forms), ("narthex/chars.starts", laid_narthex_chars_starts), ("narthex/chars.more", laid_narthex_chars_more)] }
def NamePartsSaid : Prop := namePartsRow.holds Tryd.pinned (OpenSpec.ofChange namePartsSpec)

/-- ITS FALSE NEIGHBOUR: 'it returns false'. Refute it at one input. -/
def namePartsWrong : ChangeSpec := { name := "nameParts", fn := fun _ => fun
  | [d] => { results := [.lit (.bool false)], args := [d] }
  | _ => none }
def NamePartsWrongFalsely : Prop := namePartsRow.holds Tryd.pinned (OpenSpec.ofChange namePartsWrong)

/- THE SECOND FORM. 'bulk': how many values and letters a reading holds, each counted each time it is reached (what is shared counts as often as it is met; a slice's spare places count too). A statement '..UptoSaid' is the law's where the arguments, and the package variables that the reading takes, are together of bulk at most 1048576: NARROWER than '..Said'. Prove '..Said' where nothing that the law and all that it calls make is longer than what came in: it says more and counts as full. Else prove '..UptoSaid'. A law counts once. -/
mutual
def uptoBulk {H : Type} : DataW H → Nat
  | .lit (.string bytes) => bytes.length + 1
  | .lit _ => 1
  | .nil => 1
  | .ptr d => uptoBulk d + 1
  | .slice elems spare => uptoBulkAll elems + uptoBulkAll spare + 1
  | .agg parts => uptoBulkAll parts + 1
  | .iface _ d => uptoBulk d + 1
  | .map entries => uptoBulkEntries entries + 1
  | .held _ => 1
def uptoBulkAll {H : Type} : List (DataW H) → Nat
  | [] => 0
  | d :: r => uptoBulk d + uptoBulkAll r
def uptoBulkEntries {H : Type} : List (Lit × DataW H) → Nat
  | [] => 0
  | x :: r => uptoBulkEntry x + uptoBulkEntries r
def uptoBulkEntry {H : Type} : Lit × DataW H → Nat
  | (.string bytes, d) => bytes.length + uptoBulk d + 1
  | (_, d) => uptoBulk d + 1
 end
def uptoSmall : (H : Type) → List (DataW H) → Bool := fun _ ds => decide (uptoBulkAll ds ≤ 1048576)
def OpenSpec.upto (s : _root_.Go.ChangeSpec) : _root_.Go.OpenSpec := { _root_.Go.OpenSpec.ofChange s with cond := some uptoSmall }

/-- 'narthexlaw05.NameLong', WHERE WHAT IT READS IS OF BULK AT MOST 1048576: true; the input reads as it did. -/
def nameLongUptoRow : OpenClaim := { program := "ythcehnmkabnjfaadoor", sum := "76ea7f4af96e5d8029a55a8fcf7afb002fa4aaf43a3a7a15c2b9d8e286f38a80", func := "narthex/narthexlaw05.NameLong", spec := "nameLong", inPlace := ["internal/bytealg.IndexByteString", "internal/bytealg.IndexString"], unfollowed := true, recurses := true, named := ["narthex/chars.starts", "narthex/chars.more", "narthex/utf.forms", "internal/bytealg.MaxLen"], apart := false, laid := [("narthex/utf.forms", laid_narthex_utf_forms), ("narthex/chars.starts", laid_narthex_chars_starts), ("narthex/chars.more", laid_narthex_chars_more)], narrowed := true }
def NameLongUptoSaid : Prop := nameLongUptoRow.holds Tryd.pinned (OpenSpec.upto nameLongSpec)

/-- 'narthexlaw05.NameReads', WHERE WHAT IT READS IS OF BULK AT MOST 1048576: true; the input reads as it did. -/
def nameReadsUptoRow : OpenClaim := { program := "ythcehnmkabnjfaadoor", sum := "76ea7f4af96e5d8029a55a8fcf7afb002fa4aaf43a3a7a15c2b9d8e286f38a80", func := "narthex/narthexlaw05.NameReads", spec := "nameReads", inPlace := ["internal/bytealg.IndexByteString", "internal/bytealg.IndexString"], unfollowed := true, recurses := true, named := ["narthex/chars.starts", "narthex/chars.more", "narthex/utf.forms", "internal/bytealg.MaxLen"], apart := false, laid := [("narthex/utf.forms", laid_narthex_utf_forms), ("narthex/chars.starts", laid_narthex_chars_starts), ("narthex/chars.more", laid_narthex_chars_more)], narrowed := true }
def NameReadsUptoSaid : Prop := nameReadsUptoRow.holds Tryd.pinned (OpenSpec.upto nameReadsSpec)

/-- 'narthexlaw05.NameParts', WHERE WHAT IT READS IS OF BULK AT MOST 1048576: true; the input reads as it did. -/
def namePartsUptoRow : OpenClaim := { program := "ythcehnmkabnjfaadoor", sum := "76ea7f4af96e5d8029a55a8fcf7afb002fa4aaf43a3a7a15c2b9d8e286f38a80", func := "narthex/narthexlaw05.NameParts", spec := "nameParts", inPlace := ["internal/bytealg.IndexByteString", "internal/bytealg.IndexString"], unfollowed := true, recurses := true, named := ["narthex/chars.starts", "narthex/chars.more", "narthex/utf.forms", "internal/bytealg.MaxLen"], apart := false, laid := [("narthex/utf.forms", laid_narthex_utf_forms), ("narthex/chars.starts", laid_narthex_chars_starts), ("narthex/chars.more", laid_narthex_chars_more)], narrowed := true }
def NamePartsUptoSaid : Prop := namePartsUptoRow.holds Tryd.pinned (OpenSpec.upto namePartsSpec)

end Rows
end Go.Proofs.YthcehnmkabnjfaaDoor
