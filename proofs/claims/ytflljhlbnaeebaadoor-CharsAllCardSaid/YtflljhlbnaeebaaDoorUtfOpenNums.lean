/- A parameter of numbers, as the walks read it. -/
import Derived.Test.YtflljhlbnaeebaaDoorUtfOpen
import Derived.Test.YtflljhlbnaeebaaDoorUtfText
namespace Go.Proofs.YtflljhlbnaeebaaDoor
open Go.RowKit Go.Shelf Go.ChangeShapes
theorem open_nums {H : Type} {enc : TypeId × Value → H} {W : World} {base b0 : Nat} {sp : Nat → Bool} {held : Bool} {r : Reach} {v : Value} {d : DataW H} {ps : List MemPlace}
    (hval : Value.okWide Tryd.prog W r b0 31 v) (hd : DataW.Trod enc Tryd.prog W base sp held 31 v d ps) :
    ∃ A n cp xs, v = .slice A n cp ∧ n ≤ cp ∧ cp ≤ 9223372036854775807 ∧ NumsAt W A n xs := by
  obtain ⟨A, n, cp, rfl⟩ := Go.WideShapes.okWide_slice Tryd.underlying31 hval
  obtain ⟨fuel, hf⟩ := hd
  rcases Go.ChangeShapes.open_ints Tryd.underlying31 Tryd.underlying3 Tryd.cellsInt hf with ⟨hcs, _⟩ | ⟨x, l, c, zs, hcs, _, hl, hm, hz, _, hcell, hwz⟩
  · simp [Value.cells] at hcs
    obtain ⟨rfl, rfl, rfl⟩ := hcs
    exact ⟨none, 0, 0, [], rfl, by omega, by omega, rfl, fun k hk => by omega⟩
  · simp [Value.cells] at hcs
    obtain ⟨rfl, rfl, rfl⟩ := hcs
    have hzl : n ≤ zs.length := by rw [hz]; split <;> omega
    refine ⟨some x, n, cp, zs.take n, rfl, hl, by simpa [maxLen] using hm, by rw [List.length_take]; omega, fun k hk => ?_⟩
    have hlt : k < zs.length := by omega
    have hc := hcell k hlt
    have hblk := cell_block hc
    rw [addBlock] at hblk
    refine ⟨x, zs[k], rfl, by rw [List.getElem?_take, if_pos hk]; exact List.getElem?_eq_getElem hlt, hblk, ?_⟩
    rw [hc, List.getD_eq_getElem?_getD, List.getElem?_eq_getElem hlt]; rfl
end Go.Proofs.YtflljhlbnaeebaaDoor
