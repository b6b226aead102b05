/-
  No cell of these rows narrows 'for every input' (looked for: loops, veiled, ifaces, maps, wideKeys, modest, calm, conditions, laid).
  DERIVED. THE GIVEN ROWS OF THIS SEAT. 6 by the template 'for every input the law returns true; each argument reads behind the call as it read before'; 0 by the template 'total and deterministic' (their statements: YtijofagmddhmgaaTotals.lean).
  GIVEN WITH THE SEED: the statements are not yours to turn. If you find one false, say at which input.
  Laid BY PROGRAM, IN A SANDBOX (cutbox-rows.mjs): the forced cells as the released guide's own fill.sh prints them over the translation aaf644b28bc6da74… (all of the seat's roots in one cut). By AI agents, Wed Nov 11 2026. No macro, syntax, notation, axiom, sorry.
-/
import Derived.Test.YtijofagmddhmgaaChecked
import GoSem.Claim
import GoSem.ClaimJoined
import GoSem.ClaimMapViews
import Derived.JoinedTies
import Derived.KernelRfl
namespace Go.Proofs.Ytijofagmddhmgaa
/- THE CELL 'sum', in the pinned program and in every row, IS THE sha256 OF THE DUMP (.gsa) THAT YtijofagmddhmgaaProg.lean LOADS. Nothing in Lean hashes anything: it is a label: what it is worth is what the hold of that sum in a sandbox is worth. -/
noncomputable def Try.pinned : Pinned := { name := "ytijofagmddhmgaa", sum := "aaf644b28bc6da74dd84d273e030af8eaa6f3e567fd350f3b8e4956407775be5", checked := Try.checked }
namespace Rows
def none {H : Type} : Left H := { results := [], args := [] }

/-- 'narthexlaw42.DiffSpans': WHATEVER THE INPUT: true; the input reads as it did. -/
def diffSpansSpec : ChangeSpec := { name := "diffSpans", fn := fun _ => fun
  | [d] => { results := [.lit (.bool true)], args := [d] }
  | _ => none }
def diffSpansRow : OpenClaim := { program := "ytijofagmddhmgaa", sum := "aaf644b28bc6da74dd84d273e030af8eaa6f3e567fd350f3b8e4956407775be5", func := "narthex/narthexlaw42.DiffSpans", spec := "diffSpans", apart := false }
def DiffSpansSaid : Prop := diffSpansRow.holds Try.pinned (OpenSpec.ofChange diffSpansSpec)

/-- ITS FALSE NEIGHBOUR: 'it returns false'. Refute it at one input. -/
def diffSpansWrong : ChangeSpec := { name := "diffSpans", fn := fun _ => fun
  | [d] => { results := [.lit (.bool false)], args := [d] }
  | _ => none }
def DiffSpansWrongFalsely : Prop := diffSpansRow.holds Try.pinned (OpenSpec.ofChange diffSpansWrong)

/-- 'narthexlaw37.JoinAlls': WHATEVER THE INPUT: true; the input reads as it did. -/
def joinAllsSpec : ChangeSpec := { name := "joinAlls", fn := fun _ => fun
  | [d] => { results := [.lit (.bool true)], args := [d] }
  | _ => none }
def joinAllsRow : OpenClaim := { program := "ytijofagmddhmgaa", sum := "aaf644b28bc6da74dd84d273e030af8eaa6f3e567fd350f3b8e4956407775be5", func := "narthex/narthexlaw37.JoinAlls", spec := "joinAlls", inPlace := ["internal/abi.NoEscape"], unfollowed := true, recurses := true, apart := false }
def JoinAllsSaid : Prop := joinAllsRow.holds Try.pinned (OpenSpec.ofChange joinAllsSpec)

/-- ITS FALSE NEIGHBOUR: 'it returns false'. Refute it at one input. -/
def joinAllsWrong : ChangeSpec := { name := "joinAlls", fn := fun _ => fun
  | [d] => { results := [.lit (.bool false)], args := [d] }
  | _ => none }
def JoinAllsWrongFalsely : Prop := joinAllsRow.holds Try.pinned (OpenSpec.ofChange joinAllsWrong)

/-- 'narthexlaw37.JoinPuts': WHATEVER THE INPUT: true; the input reads as it did. -/
def joinPutsSpec : ChangeSpec := { name := "joinPuts", fn := fun _ => fun
  | [d1, d2] => { results := [.lit (.bool true)], args := [d1, d2] }
  | _ => none }
def joinPutsRow : OpenClaim := { program := "ytijofagmddhmgaa", sum := "aaf644b28bc6da74dd84d273e030af8eaa6f3e567fd350f3b8e4956407775be5", func := "narthex/narthexlaw37.JoinPuts", spec := "joinPuts", inPlace := ["internal/abi.NoEscape"], unfollowed := true, recurses := true, apart := false }
def JoinPutsSaid : Prop := joinPutsRow.holds Try.pinned (OpenSpec.ofChange joinPutsSpec)

/-- ITS FALSE NEIGHBOUR: 'it returns false'. Refute it at one input. -/
def joinPutsWrong : ChangeSpec := { name := "joinPuts", fn := fun _ => fun
  | [d1, d2] => { results := [.lit (.bool false)], args := [d1, d2] }
  | _ => none }
def JoinPutsWrongFalsely : Prop := joinPutsRow.holds Try.pinned (OpenSpec.ofChange joinPutsWrong)

/-- 'narthexlaw37.JoinTexts': WHATEVER THE INPUT: true; the input reads as it did. -/
def joinTextsSpec : ChangeSpec := { name := "joinTexts", fn := fun _ => fun
  | [d] => { results := [.lit (.bool true)], args := [d] }
  | _ => none }
def joinTextsRow : OpenClaim := { program := "ytijofagmddhmgaa", sum := "aaf644b28bc6da74dd84d273e030af8eaa6f3e567fd350f3b8e4956407775be5", func := "narthex/narthexlaw37.JoinTexts", spec := "joinTexts", inPlace := ["internal/abi.NoEscape"], unfollowed := true, recurses := true, apart := false }
def JoinTextsSaid : Prop := joinTextsRow.holds Try.pinned (OpenSpec.ofChange joinTextsSpec)

/-- ITS FALSE NEIGHBOUR: 'it returns false'. Refute it at one input. -/
def joinTextsWrong : ChangeSpec := { name := "joinTexts", fn := fun _ => fun
  | [d] => { results := [.lit (.bool false)], args := [d] }
  | _ => none }
def JoinTextsWrongFalsely : Prop := joinTextsRow.holds Try.pinned (OpenSpec.ofChange joinTextsWrong)

/-- 'narthexlaw42.DiffFirsts': WHATEVER THE INPUT: true; the input reads as it did. -/
def diffFirstsSpec : ChangeSpec := { name := "diffFirsts", fn := fun _ => fun
  | [d1, d2] => { results := [.lit (.bool true)], args := [d1, d2] }
  | _ => none }
def diffFirstsRow : OpenClaim := { program := "ytijofagmddhmgaa", sum := "aaf644b28bc6da74dd84d273e030af8eaa6f3e567fd350f3b8e4956407775be5", func := "narthex/narthexlaw42.DiffFirsts", spec := "diffFirsts", unfollowed := true, recurses := true, apart := false }
def DiffFirstsSaid : Prop := diffFirstsRow.holds Try.pinned (OpenSpec.ofChange diffFirstsSpec)

/-- ITS FALSE NEIGHBOUR: 'it returns false'. Refute it at one input. -/
def diffFirstsWrong : ChangeSpec := { name := "diffFirsts", fn := fun _ => fun
  | [d1, d2] => { results := [.lit (.bool false)], args := [d1, d2] }
  | _ => none }
def DiffFirstsWrongFalsely : Prop := diffFirstsRow.holds Try.pinned (OpenSpec.ofChange diffFirstsWrong)

/-- 'narthexlaw42.DiffPaths': WHATEVER THE INPUT: true; the input reads as it did. -/
def diffPathsSpec : ChangeSpec := { name := "diffPaths", fn := fun _ => fun
  | [d1, d2, d3] => { results := [.lit (.bool true)], args := [d1, d2, d3] }
  | _ => none }
def diffPathsRow : OpenClaim := { program := "ytijofagmddhmgaa", sum := "aaf644b28bc6da74dd84d273e030af8eaa6f3e567fd350f3b8e4956407775be5", func := "narthex/narthexlaw42.DiffPaths", spec := "diffPaths", inPlace := ["internal/abi.NoEscape"], apart := false }
def DiffPathsSaid : Prop := diffPathsRow.holds Try.pinned (OpenSpec.ofChange diffPathsSpec)

/-- ITS FALSE NEIGHBOUR: 'it returns false'. Refute it at one input. -/
def diffPathsWrong : ChangeSpec := { name := "diffPaths", fn := fun _ => fun
  | [d1, d2, d3] => { results := [.lit (.bool false)], args := [d1, d2, d3] }
  | _ => none }
def DiffPathsWrongFalsely : Prop := diffPathsRow.holds Try.pinned (OpenSpec.ofChange diffPathsWrong)

/- THE SECOND FORM. 'bulk': how many values and letters a reading holds, each counted each time it is reached (what is shared counts as often as it is met; a slice's spare places count too). A statement '..UptoSaid' is the law's where the arguments, and the package variables that the reading takes, are together of bulk at most 1048576: NARROWER than '..Said'. Prove '..Said' where nothing that the law and all that it calls make is longer than what came in: it says more and counts as full. Else prove '..UptoSaid'. A law counts once. -/
mutual
def uptoBulk {H : Type} : DataW H → Nat
  | .lit (.string bytes) => bytes.length + 1
  | .lit _ => 1
  | .nil => 1
  | .ptr d => uptoBulk d + 1
  | .slice elems spare => uptoBulkAll elems + uptoBulkAll spare + 1
  | .agg parts => uptoBulkAll parts + 1
  | .iface _ d => uptoBulk d + 1
  | .map entries => uptoBulkEntries entries + 1
  | .held _ => 1
def uptoBulkAll {H : Type} : List (DataW H) → Nat
  | [] => 0
  | d :: r => uptoBulk d + uptoBulkAll r
def uptoBulkEntries {H : Type} : List (Lit × DataW H) → Nat
  | [] => 0
  | x :: r => uptoBulkEntry x + uptoBulkEntries r
def uptoBulkEntry {H : Type} : Lit × DataW H → Nat
  | (.string bytes, d) => bytes.length + uptoBulk d + 1
  | (_, d) => uptoBulk d + 1
 end
def uptoSmall : (H : Type) → List (DataW H) → Bool := fun _ ds => decide (uptoBulkAll ds ≤ 1048576)
def OpenSpec.upto (s : _root_.Go.ChangeSpec) : _root_.Go.OpenSpec := { _root_.Go.OpenSpec.ofChange s with cond := some uptoSmall }

/-- 'narthexlaw42.DiffSpans', WHERE WHAT IT READS IS OF BULK AT MOST 1048576: true; the input reads as it did. -/
def diffSpansUptoRow : OpenClaim := { program := "ytijofagmddhmgaa", sum := "aaf644b28bc6da74dd84d273e030af8eaa6f3e567fd350f3b8e4956407775be5", func := "narthex/narthexlaw42.DiffSpans", spec := "diffSpans", apart := false, narrowed := true }
def DiffSpansUptoSaid : Prop := diffSpansUptoRow.holds Try.pinned (OpenSpec.upto diffSpansSpec)

/-- 'narthexlaw37.JoinAlls', WHERE WHAT IT READS IS OF BULK AT MOST 1048576: true; the input reads as it did. -/
def joinAllsUptoRow : OpenClaim := { program := "ytijofagmddhmgaa", sum := "aaf644b28bc6da74dd84d273e030af8eaa6f3e567fd350f3b8e4956407775be5", func := "narthex/narthexlaw37.JoinAlls", spec := "joinAlls", inPlace := ["internal/abi.NoEscape"], unfollowed := true, recurses := true, apart := false, narrowed := true }
def JoinAllsUptoSaid : Prop := joinAllsUptoRow.holds Try.pinned (OpenSpec.upto joinAllsSpec)

/-- 'narthexlaw37.JoinPuts', WHERE WHAT IT READS IS OF BULK AT MOST 1048576: true; the input reads as it did. -/
def joinPutsUptoRow : OpenClaim := { program := "ytijofagmddhmgaa", sum := "aaf644b28bc6da74dd84d273e030af8eaa6f3e567fd350f3b8e4956407775be5", func := "narthex/narthexlaw37.JoinPuts", spec := "joinPuts", inPlace := ["internal/abi.NoEscape"], unfollowed := true, recurses := true, apart := false, narrowed := true }
def JoinPutsUptoSaid : Prop := joinPutsUptoRow.holds Try.pinned (OpenSpec.upto joinPutsSpec)

/-- 'narthexlaw37.JoinTexts', WHERE WHAT IT READS IS OF BULK AT MOST 1048576: true; the input reads as it did. -/
def joinTextsUptoRow : OpenClaim := { program := "ytijofagmddhmgaa", sum := "aaf644b28bc6da74dd84d273e030af8eaa6f3e567fd350f3b8e4956407775be5", func := "narthex/narthexlaw37.JoinTexts", spec := "joinTexts", inPlace := ["internal/abi.NoEscape"], unfollowed := true, recurses := true, apart := false, narrowed := true }
def JoinTextsUptoSaid : Prop := joinTextsUptoRow.holds Try.pinned (OpenSpec.upto joinTextsSpec)

/-- 'narthexlaw42.DiffFirsts', WHERE WHAT IT READS IS OF BULK AT MOST 1048576: true; the input reads as it did. -/
def diffFirstsUptoRow : OpenClaim := { program := "ytijofagmddhmgaa", sum := "aaf644b28bc6da74dd84d273e030af8eaa6f3e567fd350f3b8e4956407775be5", func := "narthex/narthexlaw42.DiffFirsts", spec := "diffFirsts", unfollowed := true, recurses := true, apart := false, narrowed := true }
def DiffFirstsUptoSaid : Prop := diffFirstsUptoRow.holds Try.pinned (OpenSpec.upto diffFirstsSpec)

/-- 'narthexlaw42.DiffPaths', WHERE WHAT IT READS IS OF BULK AT MOST 1048576: true; the input reads as it did. -/
def diffPathsUptoRow : OpenClaim := { program := "ytijofagmddhmgaa", sum := "aaf644b28bc6da74dd84d273e030af8eaa6f3e567fd350f3b8e4956407775be5", func := "narthex/narthexlaw42.DiffPaths", spec := "diffPaths", inPlace := ["internal/abi.NoEscape"], apart := false, narrowed := true }
def DiffPathsUptoSaid : Prop := diffPathsUptoRow.holds Try.pinned (OpenSpec.upto diffPathsSpec)

end Rows
end Go.Proofs.Ytijofagmddhmgaa
