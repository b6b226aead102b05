/- Words that several texts share: what is told of a call that only makes memory. Nothing of the program. -/
import Derived.WalkKit
import Derived.Below
namespace Go.Proofs.YtlifdmehejehjaaDoor
open Go.RowKit
theorem addBlock (a : Addr) (n : Nat) : (a.add n).block = a.block := by unfold Addr.add; split <;> rfl
def BelB (b : Bool) (w : World) (e : Ending) (w' : World) : Prop := e = .returned (.bool b) ∧ Below w.heap.size w w'
def BelI (n : Int) (w : World) (e : Ending) (w' : World) : Prop := e = .returned (.int .i64 n) ∧ Below w.heap.size w w'
end Go.Proofs.YtlifdmehejehjaaDoor
