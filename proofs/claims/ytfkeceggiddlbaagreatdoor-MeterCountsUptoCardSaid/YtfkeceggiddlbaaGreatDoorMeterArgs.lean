/- A parameter of numbers, as the walks read it. -/
import Derived.Test.YtfkeceggiddlbaaGreatDoorCfgArg
import Derived.Test.YtfkeceggiddlbaaGreatDoorInts
import Derived.Test.YtfkeceggiddlbaaGreatDoorEvOpen
import Derived.ChangeSlices
namespace Go.Proofs.YtfkeceggiddlbaaGreatDoor
open Go.RowKit Go.ChangeShapes Go.Deep Go.Joins Go.WideShapes
set_option maxRecDepth 100000
theorem ints_arg {H : Type} {enc : TypeId × Value → H} {w : World} {base : Nat} {sp : Nat → Bool} {held : Bool} {r : Reach} {b0 : Nat} {v : Value} {d : DataW H} {ps : List MemPlace}
    (hval : Value.okWide Tryz.prog w r b0 25 v) (hd : DataW.Trod enc Tryz.prog w base sp held 25 v d ps) :
    ∃ (A : Option Addr) (n cp : Nat) (l : List Int), v = .slice A n cp ∧ IntsAt w A n l ∧ n ≤ cp ∧ cp ≤ 9223372036854775807 ∧ (∀ z ∈ l, z ≤ 9223372036854775807) := by
  obtain ⟨A, n, cp, rfl⟩ := Go.WideShapes.okWide_slice Tryz.underlying25 hval
  obtain ⟨fuel, hf⟩ := hd
  rcases open_ints Tryz.underlying25 Tryz.underlying3 Tryz.cellsIntC hf with ⟨h1, _⟩ | ⟨a, len, cap, zs, h1, _, hl, hm, hmm, _, hx, hb⟩
  · simp [Value.cells] at h1
    obtain ⟨rfl, rfl, rfl⟩ := h1
    exact ⟨none, 0, 0, [], rfl, ⟨rfl, fun i hi => by omega⟩, by omega, by omega, fun z hz => by cases hz⟩
  · simp [Value.cells] at h1
    obtain ⟨rfl, rfl, rfl⟩ := h1
    have hle : n ≤ zs.length := by rw [hmm]; split <;> omega
    refine ⟨some a, n, cp, zs.take n, rfl, ⟨by rw [List.length_take]; omega, fun i hi => ?_⟩, hl, by simpa [maxLen] using hm, fun z hz => (bounds_i64 (hb z (List.mem_of_mem_take hz))).2⟩
    have hc := hx i (by omega)
    have hil : i < zs.length := by omega
    refine ⟨a, zs[i], rfl, by rw [List.getElem?_take, if_pos hi, List.getElem?_eq_getElem hil], ?_, ?_⟩
    · have := World.block_lt_of_cell? _ _ hc
      rwa [addBlockT] at this
    · rw [hc, List.getD_eq_getElem?_getD, List.getElem?_eq_getElem hil]; rfl
end Go.Proofs.YtfkeceggiddlbaaGreatDoor
