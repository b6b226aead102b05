/-
  No cell of these rows narrows 'for every input' (looked for: loops, veiled, ifaces, maps, wideKeys, modest, calm, conditions, laid).
  DERIVED. THE GIVEN ROWS OF THIS SEAT. 3 by the template 'for every input the law returns true; each argument reads behind the call as it read before'; 0 by the template 'total and deterministic' (their statements: YtdhgkbghlkhfeaaTotals.lean).
  GIVEN WITH THE SEED: the statements are not yours to turn. If you find one false, say at which input.
  Laid BY PROGRAM, IN A SANDBOX (cutbox-rows.mjs): the forced cells as the released guide's own fill.sh prints them over the translation 60d6ac061a218ed8… (all of the seat's roots in one cut). By AI agents, Wed Nov 11 2026. No macro, syntax, notation, axiom, sorry.
-/
import Derived.Test.YtdhgkbghlkhfeaaChecked
import GoSem.Claim
import GoSem.ClaimJoined
import GoSem.ClaimMapViews
import Derived.JoinedTies
import Derived.KernelRfl
namespace Go.Proofs.Ytdhgkbghlkhfeaa
/- THE CELL 'sum', in the pinned program and in every row, IS THE sha256 OF THE DUMP (.gsa) THAT YtdhgkbghlkhfeaaProg.lean LOADS. Nothing in Lean hashes anything: it is a label: what it is worth is what the hold of that sum in a sandbox is worth. -/
noncomputable def Try.pinned : Pinned := { name := "ytdhgkbghlkhfeaa", sum := "60d6ac061a218ed8abb0cb4347e835d5b0f70464deea803a19a8474d138c734f", checked := Try.checked }
namespace Rows
def none {H : Type} : Left H := { results := [], args := [] }

/-- 'narthexlaw42.DiffSpans': WHATEVER THE INPUT: true; the input reads as it did. -/
def diffSpansSpec : ChangeSpec := { name := "diffSpans", fn := fun _ => fun
  | [d] => { results := [.lit (.bool true)], args := [d] }
  | _ => none }
def diffSpansRow : OpenClaim := { program := "ytdhgkbghlkhfeaa", sum := "60d6ac061a218ed8abb0cb4347e835d5b0f70464deea803a19a8474d138c734f", func := "narthex/narthexlaw42.DiffSpans", spec := "diffSpans", apart := false }
def DiffSpansSaid : Prop := diffSpansRow.holds Try.pinned (OpenSpec.ofChange diffSpansSpec)

/-- ITS FALSE NEIGHBOUR: 'it returns false'. Refute it at one input. -/
def diffSpansWrong : ChangeSpec := { name := "diffSpans", fn := fun _ => fun
  | [d] => { results := [.lit (.bool false)], args := [d] }
  | _ => none }
def DiffSpansWrongFalsely : Prop := diffSpansRow.holds Try.pinned (OpenSpec.ofChange diffSpansWrong)

/-- 'narthexlaw42.DiffFirsts': WHATEVER THE INPUT: true; the input reads as it did. -/
def diffFirstsSpec : ChangeSpec := { name := "diffFirsts", fn := fun _ => fun
  | [d1, d2] => { results := [.lit (.bool true)], args := [d1, d2] }
  | _ => none }
def diffFirstsRow : OpenClaim := { program := "ytdhgkbghlkhfeaa", sum := "60d6ac061a218ed8abb0cb4347e835d5b0f70464deea803a19a8474d138c734f", func := "narthex/narthexlaw42.DiffFirsts", spec := "diffFirsts", unfollowed := true, recurses := true, apart := false }
def DiffFirstsSaid : Prop := diffFirstsRow.holds Try.pinned (OpenSpec.ofChange diffFirstsSpec)

/-- ITS FALSE NEIGHBOUR: 'it returns false'. Refute it at one input. -/
def diffFirstsWrong : ChangeSpec := { name := "diffFirsts", fn := fun _ => fun
  | [d1, d2] => { results := [.lit (.bool false)], args := [d1, d2] }
  | _ => none }
def DiffFirstsWrongFalsely : Prop := diffFirstsRow.holds Try.pinned (OpenSpec.ofChange diffFirstsWrong)

/-- 'narthexlaw42.DiffPaths': WHATEVER THE INPUT: true; the input reads as it did. -/
def diffPathsSpec : ChangeSpec := { name := "diffPaths", fn := fun _ => fun
  | [d1, d2, d3] => { results := [.lit (.bool true)], args := [d1, d2, d3] }
  | _ => none }
def diffPathsRow : OpenClaim := { program := "ytdhgkbghlkhfeaa", sum := "60d6ac061a218ed8abb0cb4347e835d5b0f70464deea803a19a8474d138c734f", func := "narthex/narthexlaw42.DiffPaths", spec := "diffPaths", inPlace := ["internal/abi.NoEscape"], apart := false }
def DiffPathsSaid : Prop := diffPathsRow.holds Try.pinned (OpenSpec.ofChange diffPathsSpec)

/-- ITS FALSE NEIGHBOUR: 'it returns false'. Refute it at one input. -/
def diffPathsWrong : ChangeSpec := { name := "diffPaths", fn := fun _ => fun
  | [d1, d2, d3] => { results := [.lit (.bool false)], args := [d1, d2, d3] }
  | _ => none }
def DiffPathsWrongFalsely : Prop := diffPathsRow.holds Try.pinned (OpenSpec.ofChange diffPathsWrong)

/- THE SECOND FORM. 'bulk': how many values and letters a reading holds, each counted each time it is reached (what is shared counts as often as it is met; a slice's spare places count too). A statement '..UptoSaid' is the law's where the arguments, and the package variables that the reading takes, are together of bulk at most 1048576: NARROWER than '..Said'. Prove '..Said' where nothing that the law and all that it calls make is longer than what came in: it says more and counts as full. Else prove '..UptoSaid'. A law counts once. -/
mutual
def uptoBulk {H : Type} : DataW H → Nat
  | .lit (.string bytes) => bytes.length + 1
  | .lit _ => 1
  | .nil => 1
  | .ptr d => uptoBulk d + 1
  | .slice elems spare => uptoBulkAll elems + uptoBulkAll spare + 1
  | .agg parts => uptoBulkAll parts + 1
  | .iface _ d => uptoBulk d + 1
  | .map entries => uptoBulkEntries entries + 1
  | .held _ => 1
def uptoBulkAll {H : Type} : List (DataW H) → Nat
  | [] => 0
  | d :: r => uptoBulk d + uptoBulkAll r
def uptoBulkEntries {H : Type} : List (Lit × DataW H) → Nat
  | [] => 0
  | x :: r => uptoBulkEntry x + uptoBulkEntries r
def uptoBulkEntry {H : Type} : Lit × DataW H → Nat
  | (.string bytes, d) => bytes.length + uptoBulk d + 1
  | (_, d) => uptoBulk d + 1
 end
def uptoSmall : (H : Type) → List (DataW H) → Bool := fun _ ds => decide (uptoBulkAll ds ≤ 1048576)
def OpenSpec.upto (s : _root_.Go.ChangeSpec) : _root_.Go.OpenSpec := { _root_.Go.OpenSpec.ofChange s with cond := some uptoSmall }

/-- 'narthexlaw42.DiffSpans', WHERE WHAT IT READS IS OF BULK AT MOST 1048576: true; the input reads as it did. -/
def diffSpansUptoRow : OpenClaim := { program := "ytdhgkbghlkhfeaa", sum := "60d6ac061a218ed8abb0cb4347e835d5b0f70464deea803a19a8474d138c734f", func := "narthex/narthexlaw42.DiffSpans", spec := "diffSpans", apart := false, narrowed := true }
def DiffSpansUptoSaid : Prop := diffSpansUptoRow.holds Try.pinned (OpenSpec.upto diffSpansSpec)

/-- 'narthexlaw42.DiffFirsts', WHERE WHAT IT READS IS OF BULK AT MOST 1048576: true; the input reads as it did. -/
def diffFirstsUptoRow : OpenClaim := { program := "ytdhgkbghlkhfeaa", sum := "60d6ac061a218ed8abb0cb4347e835d5b0f70464deea803a19a8474d138c734f", func := "narthex/narthexlaw42.DiffFirsts", spec := "diffFirsts", unfollowed := true, recurses := true, apart := false, narrowed := true }
def DiffFirstsUptoSaid : Prop := diffFirstsUptoRow.holds Try.pinned (OpenSpec.upto diffFirstsSpec)

/-- 'narthexlaw42.DiffPaths', WHERE WHAT IT READS IS OF BULK AT MOST 1048576: true; the input reads as it did. -/
def diffPathsUptoRow : OpenClaim := { program := "ytdhgkbghlkhfeaa", sum := "60d6ac061a218ed8abb0cb4347e835d5b0f70464deea803a19a8474d138c734f", func := "narthex/narthexlaw42.DiffPaths", spec := "diffPaths", inPlace := ["internal/abi.NoEscape"], apart := false, narrowed := true }
def DiffPathsUptoSaid : Prop := diffPathsUptoRow.holds Try.pinned (OpenSpec.upto diffPathsSpec)

end Rows
end Go.Proofs.Ytdhgkbghlkhfeaa
