/- A parameter of bytes, as the walks read it. -/
import Derived.Test.YtlifdmehejehjaaDoorUtfTabs
import Derived.ChangeSlices
import Derived.WideShapes
namespace Go.Proofs.YtlifdmehejehjaaDoor
open Go.RowKit Go.Shelf Go.ChangeShapes
theorem cell_block {w : World} {a : Addr} {v : Value} (h : w.cell? a = some v) : a.block < w.heap.size := by
  rcases Nat.lt_or_ge a.block w.heap.size with hlt | hge
  · exact hlt
  · exfalso
    have e : w.heap[a.block]? = none := Array.getElem?_eq_none hge
    simp [World.cell?, e] at h
set_option maxRecDepth 100000 in
theorem open_bytes {H : Type} {enc : TypeId × Value → H} {W : World} {base b0 : Nat} {sp : Nat → Bool} {held : Bool} {r : Reach} {v : Value} {d : DataW H} {ps : List MemPlace}
    (hval : Value.okWide Tryd.prog W r b0 90 v) (hd : DataW.Trod enc Tryd.prog W base sp held 90 v d ps) :
    ∃ A n cp xs, v = .slice A n cp ∧ n ≤ cp ∧ cp ≤ 9223372036854775807 ∧ BytesAt W A n xs := by
  obtain ⟨A, n, cp, rfl⟩ := Go.WideShapes.okWide_slice Tryd.underlying90 hval
  obtain ⟨fuel, hf⟩ := hd
  rcases Go.ChangeShapes.open_ints Tryd.underlying90 Tryd.underlying5 Tryd.cellsU8 hf with ⟨hcs, _⟩ | ⟨x, l, c, zs, hcs, _, hl, hm, hz, _, hcell, hwz⟩
  · simp [Value.cells] at hcs
    obtain ⟨rfl, rfl, rfl⟩ := hcs
    exact ⟨none, 0, 0, [], rfl, by omega, by omega, rfl, fun k hk => by omega⟩
  · simp [Value.cells] at hcs
    obtain ⟨rfl, rfl, rfl⟩ := hcs
    have hzl : n ≤ zs.length := by rw [hz]; split <;> omega
    refine ⟨some x, n, cp, zs.take n, rfl, hl, by simpa [maxLen] using hm, by rw [List.length_take]; omega, fun k hk => ?_⟩
    have hlt : k < zs.length := by omega
    have hb := bounds_u8 (hwz zs[k] (List.getElem_mem _))
    have hc := hcell k hlt
    have hblk := cell_block hc
    rw [addBlock] at hblk
    refine ⟨x, zs[k], rfl, by rw [List.getElem?_take, if_pos hk]; exact List.getElem?_eq_getElem hlt, by omega, by omega, hblk, ?_⟩
    rw [hc, List.getD_eq_getElem?_getD, List.getElem?_eq_getElem hlt]; rfl
end Go.Proofs.YtlifdmehejehjaaDoor
