/- A parameter that is a prefix and what it means, as the walks read it. -/
import Derived.Test.YtbamcpnmabpacaaScArg
namespace Go.Proofs.Ytbamcpnmabpacaa
open Go.RowKit Go.ChangeShapes Go.Deep Go.WideShapes
set_option linter.unusedVariables false
set_option linter.unusedSimpArgs false
theorem bd_arg {H : Type} {enc : TypeId × Value → H} {w : World} {base : Nat} {sp : Nat → Bool} {held : Bool} {r : Reach} {b0 : Nat} {v : Value} {d : DataW H} {ps : List MemPlace}
    (hval : Value.okWide Try.prog w r b0 38 v) (hd : DataW.Trod enc Try.prog w base sp held 38 v d ps) : ∃ p s : ByteArray, v = .agg #[.string p, .string s] := by
  obtain ⟨cs, rfl, hsz⟩ := okWide_struct Try.underlying38 hval
  obtain ⟨l⟩ := cs
  match l, hsz.trans Try.cellsBd with
  | [c0, c1], _ =>
    obtain ⟨fuel, hf⟩ := hd
    obtain ⟨e, he⟩ := bd_of hf
    simp only [Value.cells, List.cons.injEq, and_true] at he
    obtain ⟨rfl, rfl⟩ := he
    exact ⟨e.p, e.s, rfl⟩
end Go.Proofs.Ytbamcpnmabpacaa
