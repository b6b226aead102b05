/- A parameter that is a name (api.Name), as the walks read it. -/
import Derived.Test.YtlifdmehejehjaaDoorProg
import Derived.Deep.Strs
import Derived.WideShapes
import Derived.ChangeShapes
import Derived.OpenShut
namespace Go.Proofs.YtlifdmehejehjaaDoor
open Go.RowKit Go.ChangeShapes Go.Deep Go.WideShapes
theorem Tryd.cellsNm : Tryd.prog.cellsOf 37 = 2 := by kernel_rfl
theorem Tryd.cellsNmS : Tryd.prog.cellsOf 9 = 1 := by kernel_rfl
set_option maxRecDepth 100000 in
theorem name_arg {H : Type} {enc : TypeId × Value → H} {w : World} {base : Nat} {sp : Nat → Bool} {held : Bool} {r : Reach} {b0 : Nat} {v : Value} {d : DataW H} {ps : List MemPlace}
    (hval : Value.okWide Tryd.prog w r b0 37 v) (hd : DataW.Trod enc Tryd.prog w base sp held 37 v d ps) :
    ∃ (s l : ByteArray), v = .agg #[.string s, .string l] := by
  obtain ⟨cs, rfl, hsz⟩ := okWide_struct Tryd.underlying37 hval
  obtain ⟨l⟩ := cs
  match l, hsz.trans Tryd.cellsNm with
  | [c0, c1], _ =>
    obtain ⟨fuel, hf⟩ := hd
    obtain ⟨xs, n, _, hx, _, hlen, hg⟩ := DataW.trod_struct Tryd.underlying37 hf
    have g0 := hg 0 _ rfl
    have g1 := hg 1 _ rfl
    match xs, hlen with
    | [y0, y1], _ =>
      simp only [Value.cells, List.getElem_toArray, List.getElem_cons_zero, List.getElem_cons_succ, Tryd.cellsNmS, List.drop_zero, List.take_succ_cons, List.take_zero, List.drop_succ_cons] at g0 g1
      obtain ⟨a, h0, _⟩ := DataW.trod_string Tryd.underlying9 g0
      obtain ⟨b, h1, _⟩ := DataW.trod_string Tryd.underlying9 g1
      simp only [List.cons.injEq, and_true] at h0 h1
      subst h0 h1
      exact ⟨a, b, rfl⟩
end Go.Proofs.YtlifdmehejehjaaDoor
