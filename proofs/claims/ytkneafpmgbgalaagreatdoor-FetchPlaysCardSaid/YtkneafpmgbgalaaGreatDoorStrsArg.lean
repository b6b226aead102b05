/- A parameter of strings, as the walks read it. -/
import Derived.Test.YtkneafpmgbgalaaGreatDoorTexts
import Derived.Deep.Strs
import Derived.WalkKit
namespace Go.Proofs.YtkneafpmgbgalaaGreatDoor
open Go.RowKit Go.ChangeShapes Go.Deep
theorem Tryz.cellsArgString : Tryz.prog.cellsOf 9 = 1 := by kernel_rfl
theorem argCell_block {w : World} {a : Addr} {v : Value} (h : w.cell? a = some v) : a.block < w.heap.size := World.block_lt_of_cell? _ _ h
set_option maxRecDepth 100000 in
theorem strs_arg {H : Type} {enc : TypeId × Value → H} {w : World} {base : Nat} {sp : Nat → Bool} {held : Bool} {r : Reach} {b0 : Nat} {v : Value} {d : DataW H} {ps : List MemPlace}
    (hval : Value.okWide Tryz.prog w r b0 22 v) (hd : DataW.Trod enc Tryz.prog w base sp held 22 v d ps) :
    ∃ (A : Option Addr) (n cp : Nat) (l : List ByteArray), v = .slice A n cp ∧ TsAt w A n l ∧ n ≤ cp ∧ cp ≤ 9223372036854775807 ∧ (A = none → n = 0 ∧ cp = 0) := by
  obtain ⟨A, n, cp, rfl⟩ := Go.WideShapes.okWide_slice Tryz.underlying22 hval
  obtain ⟨fuel, hf⟩ := hd
  rcases open_strs Tryz.underlying22 Tryz.underlying9 Tryz.cellsArgString hf with ⟨h1, _⟩ | ⟨a, len, cap, m, Sx, h1, _, hl, hm, hmm, _, hx⟩
  · simp [Value.cells] at h1
    obtain ⟨rfl, rfl, rfl⟩ := h1
    exact ⟨none, 0, 0, [], rfl, ⟨rfl, fun i hi => by omega⟩, by omega, by omega, fun _ => ⟨rfl, rfl⟩⟩
  · simp [Value.cells] at h1
    obtain ⟨rfl, rfl, rfl⟩ := h1
    have hle : n ≤ m := by rw [hmm]; split <;> omega
    refine ⟨some a, n, cp, (List.range n).map Sx, rfl, ⟨by simp, fun i hi => ⟨a, Sx i, rfl, by simp [hi], ?_, (hx i (by omega)).1⟩⟩, hl, by simpa [maxLen] using hm, fun h => by cases h⟩
    have := argCell_block (hx i (by omega)).1
    rwa [addBlockT] at this
end Go.Proofs.YtkneafpmgbgalaaGreatDoor
