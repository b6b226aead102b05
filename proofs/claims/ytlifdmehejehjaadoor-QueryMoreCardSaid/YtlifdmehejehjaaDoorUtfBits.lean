/- Plain facts on the bits of bytes, and on what Decode reckons. -/
import Derived.Test.YtlifdmehejehjaaDoorUtfRef
import Derived.Laws.BitsAllLaws
namespace Go.Proofs.YtlifdmehejehjaaDoor
open Go.RowKit Go.Proofs.YtlifdmehejehjaaDoor.UtfPlain
theorem ofInt64 (a : Nat) (h : a < 18446744073709551616) : (BitVec.ofInt 64 (a : Int)).toNat = a := by
  rw [BitVec.toNat_ofInt]; simp; omega
theorem or_i64 (a b : Nat) (ha : a < 4611686018427387904) (hb : b < 4611686018427387904) : bits .or .i64 (a : Int) (b : Int) = ((a ||| b : Nat) : Int) := by
  have hl : a ||| b < 2 ^ 62 := Nat.or_lt_two_pow (by omega) (by omega)
  show IntKind.i64.wrap ((BitVec.ofInt 64 (a : Int) ||| BitVec.ofInt 64 (b : Int)).toNat : Int) = _
  rw [BitVec.toNat_or, ofInt64 a (by omega), ofInt64 b (by omega)]
  simp [IntKind.wrap, IntKind.bits, IntKind.signed]; omega
theorem and_i64 (a b : Nat) (ha : a < 4611686018427387904) (hb : b < 4611686018427387904) : bits .and .i64 (a : Int) (b : Int) = ((a &&& b : Nat) : Int) := by
  have hl : a &&& b < 2 ^ 62 := Nat.and_lt_two_pow _ (by omega)
  show IntKind.i64.wrap ((BitVec.ofInt 64 (a : Int) &&& BitVec.ofInt 64 (b : Int)).toNat : Int) = _
  rw [BitVec.toNat_and, ofInt64 a (by omega), ofInt64 b (by omega)]
  simp [IntKind.wrap, IntKind.bits, IntKind.signed]; omega
/-- Six bits more. -/
theorem or_six (r x : Int) (h0 : 0 ≤ r) (h1 : r < 8388608) (h2 : 0 ≤ x) (h3 : x < 64) : bits .or .i64 (r * 64) x = r * 64 + x := by
  obtain ⟨a, rfl⟩ := Int.eq_ofNat_of_zero_le h0
  obtain ⟨b, rfl⟩ := Int.eq_ofNat_of_zero_le h2
  have e : ((a : Int) * 64) = ((a * 64 : Nat) : Int) := by simp
  rw [e, or_i64 _ _ (by omega) (by omega)]
  have h := Nat.shiftLeft_add_eq_or_of_lt (i := 6) (b := b) (by omega : b < 2 ^ 6) a
  rw [Nat.shiftLeft_eq] at h
  rw [show a * 64 = a * 2 ^ 6 from rfl, ← h]; simp
theorem and_six (r : Int) (h0 : 0 ≤ r) (h1 : r < 4611686018427387904) : bits .and .i64 r 63 = r % 64 := by
  obtain ⟨a, rfl⟩ := Int.eq_ofNat_of_zero_le h0
  rw [show (63 : Int) = ((63 : Nat) : Int) from rfl, and_i64 _ _ (by omega) (by omega)]
  rw [show (63 : Nat) = 2 ^ 6 - 1 from rfl, Nat.and_two_pow_sub_one_eq_mod]; simp
theorem byte_facts : ∀ k : Fin 256, (bits .and .u8 (k.val : Int) 192 = 128 ↔ 128 ≤ k.val ∧ k.val ≤ 191) ∧ (128 ≤ k.val ∧ k.val ≤ 191 → bits .and .u8 (k.val : Int) 63 = k.val - 128) ∧
    (k.val < 128 → bits .and .u8 (k.val : Int) 127 = k.val) ∧ (192 ≤ k.val ∧ k.val < 224 → bits .and .u8 (k.val : Int) 31 = k.val - 192) ∧
    (224 ≤ k.val ∧ k.val < 240 → bits .and .u8 (k.val : Int) 15 = k.val - 224) ∧ (240 ≤ k.val ∧ k.val < 248 → bits .and .u8 (k.val : Int) 7 = k.val - 240) := by decide +kernel
theorem byte_fact (c : Int) (h0 : 0 ≤ c) (h1 : c ≤ 255) : (bits .and .u8 c 192 = 128 ↔ 128 ≤ c ∧ c ≤ 191) ∧ (128 ≤ c ∧ c ≤ 191 → bits .and .u8 c 63 = c - 128) ∧
    (c < 128 → bits .and .u8 c 127 = c) ∧ (192 ≤ c ∧ c < 224 → bits .and .u8 c 31 = c - 192) ∧
    (224 ≤ c ∧ c < 240 → bits .and .u8 c 15 = c - 224) ∧ (240 ≤ c ∧ c < 248 → bits .and .u8 c 7 = c - 240) := by
  obtain ⟨a, rfl⟩ := Int.eq_ofNat_of_zero_le h0
  have h := byte_facts ⟨a, by omega⟩
  simp only at h
  refine ⟨?_, ?_, ?_, ?_, ?_, ?_⟩
  · rw [h.1]; omega
  · intro k; exact h.2.1 (by omega)
  · intro k; exact h.2.2.1 (by omega)
  · intro k; exact h.2.2.2.1 (by omega)
  · intro k; exact h.2.2.2.2.1 (by omega)
  · intro k; exact h.2.2.2.2.2 (by omega)
end Go.Proofs.YtlifdmehejehjaaDoor
