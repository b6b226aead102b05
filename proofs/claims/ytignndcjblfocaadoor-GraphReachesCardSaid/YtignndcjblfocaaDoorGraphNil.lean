/- In a parameter that is a graph a row that is nil has no room. -/
import Derived.Test.YtignndcjblfocaaDoorGraphIn
import Derived.Test.YtignndcjblfocaaDoorGraphReached
namespace Go.Proofs.YtignndcjblfocaaDoor
set_option linter.unusedVariables false
open Go.RowKit Go.ChangeShapes Go.Deep Go.Proofs.YtignndcjblfocaaDoor.GraphPlain
set_option maxRecDepth 100000 in
theorem graph_nil {H : Type} {enc : TypeId × Value → H} {w : World} {base : Nat} {held : Bool} {r : Reach} {b0 : Nat} {An : Option Addr} {nn cn : Nat} {At : Option Addr} {nt ct : Nat} {d : DataW H} {ps : List MemPlace}
    (hval : Value.okWide Tryd.prog w r b0 30 (grV An nn cn At nt ct)) (hd : DataW.Trod enc Tryd.prog w base (fun _ => true) held 30 (grV An nn cn At nt ct) d ps) : GrNil w At nt := by
  obtain ⟨v0, v1, y0, y1, n, e, _, _, h0, h1⟩ := Joins.open_agg2 Tryd.underlying30 (by kernel_rfl) Tryd.cellsGr hval hd
  unfold grV at e
  have e' : v1 = .slice At nt ct := by
    have : (#[Value.slice An nn cn, Value.slice At nt ct] : Array Value) = #[v0, v1] := by injection e
    have := congrArg (fun a : Array Value => a[1]?) this
    simpa using this.symm
  subst e'
  rcases open_int_rows Tryd.underlying26 Tryd.underlying35 Tryd.underlying3 Tryd.cellsGrInts Tryd.cellsGrInt h1 with ⟨h2, _⟩ | ⟨a, len, cap, A, L, C, Z, h2, _, hl, hm, hx, hr⟩
  · simp only [List.cons.injEq, and_true] at h2
    cases h2
    intro k hk; omega
  · simp only [List.cons.injEq, and_true] at h2
    cases h2
    intro k hk a' m c hA hc
    cases hA
    obtain ⟨k0, _, _, _, _, k5, _⟩ := hr k (by omega)
    rw [k0] at hc
    have hc := Option.some.inj hc
    injection hc with e1 e2 e3
    rw [← e3]; exact k5 e1
end Go.Proofs.YtignndcjblfocaaDoor
