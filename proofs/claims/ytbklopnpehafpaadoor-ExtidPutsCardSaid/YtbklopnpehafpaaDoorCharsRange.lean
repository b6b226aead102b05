/- The contract of chars.Ranges: a new row that holds the runs of a class. Conditions: the three tables hold what the text gives them; fewer than 2^20 numbers. -/
import Derived.Test.YtbklopnpehafpaaDoorCharsTells
import Derived.Test.YtbklopnpehafpaaDoorCharsRuns
import Derived.OwnWalk
namespace Go.Proofs.YtbklopnpehafpaaDoor
open Go.RowKit Go.Shelf Go.Proofs.YtbklopnpehafpaaDoor.CharsPlain Go.Proofs.YtbklopnpehafpaaDoor.CharsRuns
theorem eql_func_nil (g : FuncId) (W : World) : (binOp .eql 55 (.func (.func g) #[] #[]) .nilFunc).run Tryd.prog W = .ok (.bool false) W := by kernel_rfl
theorem eql_nil_nil (W : World) : (binOp .eql 55 .nilFunc .nilFunc).run Tryd.prog W = .ok (.bool true) W := by kernel_rfl
/-- The cells of a row of runs. -/
def runCells (rs : List (Int × Int)) : List Value := (flat rs).map (Value.int .i64)
theorem Tryd.infoPair : (Tryd.prog.info? 84).map (fun i => (i.zero, i.size, i.bytes)) = some (some (.agg #[.int .i64 0, .int .i64 0]), 2, 16) := by kernel_rfl
theorem ownsRow_below {w w' : World} {base : Nat} {e : TypeId} {size : Nat} {v : Value} {n : Nat} {xs : List Value} (h : w.ownsRow base e size v n xs) (hb : Below w.heap.size w w') : w'.ownsRow base e size v n xs := by
  refine ⟨h.1, ?_⟩
  rcases h.2 with h2 | ⟨g, cap, cur, hv, hg, hh, r⟩
  · exact .inl h2
  · refine .inr ⟨g, cap, cur, hv, hg, ?_, r⟩
    rcases Nat.lt_or_ge g w.heap.size with hlt | hge
    · rw [hb.block g hlt]; exact hh
    · rw [Array.getElem?_eq_none hge] at hh; cases hh
theorem ownsRow_slice {w : World} {base size n : Nat} {e : TypeId} {v : Value} {xs : List Value} (h : w.ownsRow base e size v n xs) (hn : 0 < n) : ∃ g cap, v = .slice (some ⟨g, 0, none⟩) n cap := by
  rcases h.2 with ⟨_, h2⟩ | ⟨g, cap, cur, hv, _⟩
  · omega
  · exact ⟨g, cap, hv⟩
theorem wrap_diff (lo : Int) (n : Nat) (hn : n < 1048576) : IntKind.u64.wrap (IntKind.u64.wrap (lo + n) - IntKind.u64.wrap lo) < 1048576 := by
  simp [IntKind.wrap, IntKind.bits, IntKind.signed]; omega
end Go.Proofs.YtbklopnpehafpaaDoor
