/-
  NARROWER THAN 'FOR EVERY INPUT', by the rows' own cells (each row's printed sentence says how): DtdLists: laid · DtdKeeps: laid · DtdStays: laid.
  DERIVED. THE GIVEN ROWS OF THIS SEAT. 3 by the template 'for every input the law returns true; each argument reads behind the call as it read before'; 0 by the template 'total and deterministic' (their statements: YtapjmfgpdkghlaaDoorTotals.lean).
  GIVEN WITH THE SEED: the statements are not yours to turn. If you find one false, say at which input.
  Laid BY PROGRAM, IN A SANDBOX (cutbox-rows.mjs): the forced cells as the released guide's own fill.sh prints them over the translation b076f6ae21161ad5… (all of the seat's roots in one cut). By AI agents, Wed Nov 11 2026. No macro, syntax, notation, axiom, sorry.
-/
import Derived.Test.YtapjmfgpdkghlaaDoorChecked
import GoSem.Claim
import GoSem.ClaimJoined
import GoSem.ClaimMapViews
import Derived.JoinedTies
import Derived.KernelRfl
namespace Go.Proofs.YtapjmfgpdkghlaaDoor
/- THE CELL 'sum', in the pinned program and in every row, IS THE sha256 OF THE DUMP (.gsa) THAT YtapjmfgpdkghlaaDoorProg.lean LOADS. Nothing in Lean hashes anything: it is a label: what it is worth is what the hold of that sum in a sandbox is worth. -/
noncomputable def Tryd.pinned : Pinned := { name := "ytapjmfgpdkghlaadoor", sum := "b076f6ae21161ad5c95292db3da317568d58d07d7079386cbd9f007b2b8e7417", checked := Tryd.checked }
namespace Rows
def none {H : Type} : Left H := { results := [], args := [] }

/- WHAT THE LISTED PACKAGE-LEVEL VARIABLES READ AS WHEN THE CALL BEGINS. Each datum BY PROGRAM (the guide's laid-datum.mjs) off the statement by which the dump's own 'gosem.cut.vars' lays the variable. In a bare row this is a premise. The card (YtapjmfgpdkghlaaDoorCards.lean) ties it to the program's text. -/
def laid_narthex_cref_known {H : Type} : DataW H := .agg [.agg [.lit (.string [108, 116]), .lit (.int .i64 60)], .agg [.lit (.string [103, 116]), .lit (.int .i64 62)], .agg [.lit (.string [97, 109, 112]), .lit (.int .i64 38)], .agg [.lit (.string [97, 112, 111, 115]), .lit (.int .i64 39)], .agg [.lit (.string [113, 117, 111, 116]), .lit (.int .i64 34)]]

/-- 'narthexlaw17.DtdLists': WHATEVER THE INPUT: true; the input reads as it did. -/
def dtdListsSpec : ChangeSpec := { name := "dtdLists", fn := fun _ => fun
  | [d] => { results := [.lit (.bool true)], args := [d] }
  | _ => none }
def dtdListsRow : OpenClaim := { program := "ytapjmfgpdkghlaadoor", sum := "b076f6ae21161ad5c95292db3da317568d58d07d7079386cbd9f007b2b8e7417", func := "narthex/narthexlaw17.DtdLists", spec := "dtdLists", named := ["narthex/cref.known"], apart := false, laid := [("narthex/cref.known", laid_narthex_cref_known)] }
def DtdListsSaid : Prop := dtdListsRow.holds Tryd.pinned (OpenSpec.ofChange dtdListsSpec)

/-- ITS FALSE NEIGHBOUR: 'it returns false'. Refute it at one input. -/
def dtdListsWrong : ChangeSpec := { name := "dtdLists", fn := fun _ => fun
  | [d] => { results := [.lit (.bool false)], args := [d] }
  | _ => none }
def DtdListsWrongFalsely : Prop := dtdListsRow.holds Tryd.pinned (OpenSpec.ofChange dtdListsWrong)

/-- 'narthexlaw17.DtdKeeps': WHATEVER THE INPUT: true; the input reads as it did. -/
def dtdKeepsSpec : ChangeSpec := { name := "dtdKeeps", fn := fun _ => fun
  | [d1, d2] => { results := [.lit (.bool true)], args := [d1, d2] }
  | _ => none }
def dtdKeepsRow : OpenClaim := { program := "ytapjmfgpdkghlaadoor", sum := "b076f6ae21161ad5c95292db3da317568d58d07d7079386cbd9f007b2b8e7417", func := "narthex/narthexlaw17.DtdKeeps", spec := "dtdKeeps", named := ["narthex/cref.known"], apart := false, laid := [("narthex/cref.known", laid_narthex_cref_known)] }
def DtdKeepsSaid : Prop := dtdKeepsRow.holds Tryd.pinned (OpenSpec.ofChange dtdKeepsSpec)

/-- ITS FALSE NEIGHBOUR: 'it returns false'. Refute it at one input. -/
def dtdKeepsWrong : ChangeSpec := { name := "dtdKeeps", fn := fun _ => fun
  | [d1, d2] => { results := [.lit (.bool false)], args := [d1, d2] }
  | _ => none }
def DtdKeepsWrongFalsely : Prop := dtdKeepsRow.holds Tryd.pinned (OpenSpec.ofChange dtdKeepsWrong)

/-- 'narthexlaw17.DtdStays': WHATEVER THE INPUT: true; the input reads as it did. -/
def dtdStaysSpec : ChangeSpec := { name := "dtdStays", fn := fun _ => fun
  | [d] => { results := [.lit (.bool true)], args := [d] }
  | _ => none }
def dtdStaysRow : OpenClaim := { program := "ytapjmfgpdkghlaadoor", sum := "b076f6ae21161ad5c95292db3da317568d58d07d7079386cbd9f007b2b8e7417", func := "narthex/narthexlaw17.DtdStays", spec := "dtdStays", named := ["narthex/cref.known"], apart := false, laid := [("narthex/cref.known", laid_narthex_cref_known)] }
def DtdStaysSaid : Prop := dtdStaysRow.holds Tryd.pinned (OpenSpec.ofChange dtdStaysSpec)

/-- ITS FALSE NEIGHBOUR: 'it returns false'. Refute it at one input. -/
def dtdStaysWrong : ChangeSpec := { name := "dtdStays", fn := fun _ => fun
  | [d] => { results := [.lit (.bool false)], args := [d] }
  | _ => none }
def DtdStaysWrongFalsely : Prop := dtdStaysRow.holds Tryd.pinned (OpenSpec.ofChange dtdStaysWrong)

/- THE SECOND FORM. 'bulk': how many values and letters a reading holds, each counted each time it is reached (what is shared counts as often as it is met; a slice's spare places count too). A statement '..UptoSaid' is the law's where the arguments, and the package variables that the reading takes, are together of bulk at most 1048576: NARROWER than '..Said'. Prove '..Said' where nothing that the law and all that it calls make is longer than what came in: it says more and counts as full. Else prove '..UptoSaid'. A law counts once. -/
mutual
def uptoBulk {H : Type} : DataW H → Nat
  | .lit (.string bytes) => bytes.length + 1
  | .lit _ => 1
  | .nil => 1
  | .ptr d => uptoBulk d + 1
  | .slice elems spare => uptoBulkAll elems + uptoBulkAll spare + 1
  | .agg parts => uptoBulkAll parts + 1
  | .iface _ d => uptoBulk d + 1
  | .map entries => uptoBulkEntries entries + 1
  | .held _ => 1
def uptoBulkAll {H : Type} : List (DataW H) → Nat
  | [] => 0
  | d :: r => uptoBulk d + uptoBulkAll r
def uptoBulkEntries {H : Type} : List (Lit × DataW H) → Nat
  | [] => 0
  | x :: r => uptoBulkEntry x + uptoBulkEntries r
def uptoBulkEntry {H : Type} : Lit × DataW H → Nat
  | (.string bytes, d) => bytes.length + uptoBulk d + 1
  | (_, d) => uptoBulk d + 1
 end
def uptoSmall : (H : Type) → List (DataW H) → Bool := fun _ ds => decide (uptoBulkAll ds ≤ 1048576)
def OpenSpec.upto (s : _root_.Go.ChangeSpec) : _root_.Go.OpenSpec := { _root_.Go.OpenSpec.ofChange s with cond := some uptoSmall }

/-- 'narthexlaw17.DtdLists', WHERE WHAT IT READS IS OF BULK AT MOST 1048576: true; the input reads as it did. -/
def dtdListsUptoRow : OpenClaim := { program := "ytapjmfgpdkghlaadoor", sum := "b076f6ae21161ad5c95292db3da317568d58d07d7079386cbd9f007b2b8e7417", func := "narthex/narthexlaw17.DtdLists", spec := "dtdLists", named := ["narthex/cref.known"], apart := false, laid := [("narthex/cref.known", laid_narthex_cref_known)], narrowed := true }
def DtdListsUptoSaid : Prop := dtdListsUptoRow.holds Tryd.pinned (OpenSpec.upto dtdListsSpec)

/-- 'narthexlaw17.DtdKeeps', WHERE WHAT IT READS IS OF BULK AT MOST 1048576: true; the input reads as it did. -/
def dtdKeepsUptoRow : OpenClaim := { program := "ytapjmfgpdkghlaadoor", sum := "b076f6ae21161ad5c95292db3da317568d58d07d7079386cbd9f007b2b8e7417", func := "narthex/narthexlaw17.DtdKeeps", spec := "dtdKeeps", named := ["narthex/cref.known"], apart := false, laid := [("narthex/cref.known", laid_narthex_cref_known)], narrowed := true }
def DtdKeepsUptoSaid : Prop := dtdKeepsUptoRow.holds Tryd.pinned (OpenSpec.upto dtdKeepsSpec)

/-- 'narthexlaw17.DtdStays', WHERE WHAT IT READS IS OF BULK AT MOST 1048576: true; the input reads as it did. -/
def dtdStaysUptoRow : OpenClaim := { program := "ytapjmfgpdkghlaadoor", sum := "b076f6ae21161ad5c95292db3da317568d58d07d7079386cbd9f007b2b8e7417", func := "narthex/narthexlaw17.DtdStays", spec := "dtdStays", named := ["narthex/cref.known"], apart := false, laid := [("narthex/cref.known", laid_narthex_cref_known)], narrowed := true }
def DtdStaysUptoSaid : Prop := dtdStaysUptoRow.holds Tryd.pinned (OpenSpec.upto dtdStaysSpec)

end Rows
end Go.Proofs.YtapjmfgpdkghlaaDoor
