/- A parameter of strings, as the walks read it. -/
import Derived.Test.YtlaagmhpghehaaaDiffPath
import Derived.Test.YtlaagmhpghehaaaEvOpen
import Derived.Deep.Strs
namespace Go.Proofs.Ytlaagmhpghehaaa
open Go.RowKit Go.ChangeShapes Go.Deep
theorem strs_of {H : Type} {enc : TypeId × Value → H} {w : World} {base : Nat} {sp : Nat → Bool} {held : Bool} {r : Reach} {b0 : Nat} {v : Value} {d : DataW H} {ps : List MemPlace}
    (hval : Value.okWide Try.prog w r b0 42 v) (hd : DataW.Trod enc Try.prog w base sp held 42 v d ps) :
    ∃ (A : Option Addr) (n cp : Nat) (l : List ByteArray), v = .slice A n cp ∧ StrsAt w A n l ∧ n ≤ cp ∧ cp ≤ 9223372036854775807 := by
  obtain ⟨A, n, cp, rfl⟩ := Go.WideShapes.okWide_slice Try.underlying42 hval
  obtain ⟨fuel, hf⟩ := hd
  rcases open_strs Try.underlying42 Try.underlying9 Try.cellsEvString hf with ⟨h1, _⟩ | ⟨a, len, cap, m, Sx, h1, _, hl, hm, hmm, _, hx⟩
  · simp [Value.cells] at h1
    obtain ⟨rfl, rfl, rfl⟩ := h1
    exact ⟨none, 0, 0, [], rfl, ⟨rfl, fun i hi => by omega⟩, by omega, by omega⟩
  · simp [Value.cells] at h1
    obtain ⟨rfl, rfl, rfl⟩ := h1
    have hle : n ≤ m := by rw [hmm]; split <;> omega
    refine ⟨some a, n, cp, (List.range n).map Sx, rfl, ⟨by simp, fun i hi => ⟨a, Sx i, rfl, by simp [hi], ?_, (hx i (by omega)).1⟩⟩, hl, by simpa [maxLen] using hm⟩
    have := evCell_block (hx i (by omega)).1
    rwa [addBlock] at this
end Go.Proofs.Ytlaagmhpghehaaa
