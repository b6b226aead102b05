/- The contracts of chars.Pubid, Digit, Classes. Conditions: the three tables hold what the text gives them. -/
import Derived.Test.YthcehnmkabnjfaaDoorCharsCalls
namespace Go.Proofs.YthcehnmkabnjfaaDoor
open Go.RowKit Go.Shelf Go.Proofs.YthcehnmkabnjfaaDoor.CharsPlain
theorem sign_index (r : Int) (h1 : 32 < r) (h2 : r < 128) : decide (0 ≤ Lib.indexByte signBytes.data.toList r.toNat.toUInt8) = isSign r := by
  have h : ∀ k : Fin 128, decide (0 ≤ Lib.indexByte signBytes.data.toList k.val.toUInt8) = isSign (k.val : Int) := by decide +kernel
  have := h ⟨r.toNat, by omega⟩
  simp only [] at this
  rw [this, Int.toNat_of_nonneg (by omega)]
end Go.Proofs.YthcehnmkabnjfaaDoor
