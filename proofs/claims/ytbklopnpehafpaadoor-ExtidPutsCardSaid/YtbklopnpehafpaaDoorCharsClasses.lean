/- The contract of chars.Classes. Conditions: the three tables hold what the text gives them. -/
import Derived.Test.YtbklopnpehafpaaDoorCharsMore
namespace Go.Proofs.YtbklopnpehafpaaDoor
open Go.RowKit Go.Shelf Go.Proofs.YtbklopnpehafpaaDoor.CharsPlain
/-- The number that the first k classes make. -/
def part (r : Int) : Nat → Int
  | 0 => 0
  | k + 1 => part r k + 2 ^ k * one (isK k r)
theorem part_five (r : Int) : part r 5 = classes r := by
  show 0 + 1 * one (isChar r) + 2 * one (isBlank r) + 4 * one (isStart r) + 8 * one (isName r) + 16 * one (isPubid r) = _
  unfold classes; omega
theorem part_b (r : Int) (k : Nat) : 0 ≤ part r k ∧ part r k < 2 ^ k := by
  induction k with
  | zero => simp [part]
  | succ k ih =>
    have := one_b (isK k r)
    have h2 : (0 : Int) < 2 ^ k := Int.pow_pos (by omega)
    have e : (2 : Int) ^ (k + 1) = 2 ^ k * 2 := Int.pow_succ 2 k
    have : one (isK k r) = 0 ∨ one (isK k r) = 1 := by omega
    simp only [part]
    rcases this with h | h <;> rw [h] <;> omega
theorem or_bit (k : Nat) (hk : k < 5) (p : Int) (h : 0 ≤ p ∧ p < 2 ^ k) : bits .or .i64 p (2 ^ k) = p + 2 ^ k := by
  have H : ∀ k : Fin 5, ∀ n : Fin 16, n.val < 2 ^ k.val → bits .or .i64 (n.val : Int) (2 ^ k.val) = n.val + 2 ^ k.val := by decide +kernel
  have h16 : (2 : Int) ^ k ≤ 16 := by
    have : k = 0 ∨ k = 1 ∨ k = 2 ∨ k = 3 ∨ k = 4 := by omega
    rcases this with rfl | rfl | rfl | rfl | rfl <;> decide
  have hlt : p.toNat < 2 ^ k := by
    have : ((2 ^ k : Nat) : Int) = (2 : Int) ^ k := by simp
    omega
  have := H ⟨k, hk⟩ ⟨p.toNat, by omega⟩ hlt
  simp only [Int.toNat_of_nonneg h.1] at this
  exact this
theorem part_yes (r : Int) (k : Nat) (hk : k < 5) (h : isK k r = true) : part r (k + 1) = bits .or .i64 (part r k) (2 ^ k) := by
  rw [or_bit k hk _ (part_b r k)]
  simp only [part, h]; simp [one]
theorem part_no (r : Int) (k : Nat) (h : isK k r = false) : part r (k + 1) = part r k := by simp only [part, h]; simp [one]
end Go.Proofs.YtbklopnpehafpaaDoor
