/- The contract of utf.Encode. Condition: the table of forms holds what the text gives it. -/
import Derived.Test.YtbklopnpehafpaaDoorUtfURunes
import Derived.LoopN
namespace Go.Proofs.YtbklopnpehafpaaDoor
open Go.RowKit Go.Proofs.YtbklopnpehafpaaDoor.UtfPlain
theorem or_facts : ∀ k : Fin 64, bits .or .u8 128 (k.val : Int) = 128 + k.val ∧ (k.val < 32 → bits .or .u8 192 (k.val : Int) = 192 + k.val) ∧ (k.val < 16 → bits .or .u8 224 (k.val : Int) = 224 + k.val) ∧ (k.val < 8 → bits .or .u8 240 (k.val : Int) = 240 + k.val) := by decide +kernel
theorem or_fact (x : Int) (h0 : 0 ≤ x) (h1 : x < 64) : bits .or .u8 128 x = 128 + x ∧ (x < 32 → bits .or .u8 192 x = 192 + x) ∧ (x < 16 → bits .or .u8 224 x = 224 + x) ∧ (x < 8 → bits .or .u8 240 x = 240 + x) := by
  obtain ⟨a, rfl⟩ := Int.eq_ofNat_of_zero_le h0
  have h := or_facts ⟨a, by omega⟩
  simp only at h
  exact ⟨h.1, fun k => h.2.1 (by omega), fun k => h.2.2.1 (by omega), fun k => h.2.2.2 (by omega)⟩
theorem or_zeros : ∀ k : Fin 128, bits .or .u8 0 (k.val : Int) = k.val := by decide +kernel
theorem or_zero (r : Int) (h0 : 0 ≤ r) (h1 : r < 128) : bits .or .u8 0 r = r := by
  obtain ⟨a, rfl⟩ := Int.eq_ofNat_of_zero_le h0
  exact or_zeros ⟨a, by omega⟩
/-- What Encode tells: the bytes, and 0; or nil and 6. -/
def TellEnc (r : Int) (w : World) (e : Ending) (w' : World) : Prop :=
  ∃ A c, e = .returned (.tuple #[.slice A (if isR r = true then sizeR r else 0) c, .int .i64 (if isR r = true then 0 else 6)]) ∧
    (isR r = true → w'.ownsRow w.heap.size 5 1 (.slice A (sizeR r) c) (sizeR r) (byteCells (encL r))) ∧ Below w.heap.size w w'
theorem enc_end (r : Int) (w : World) (n : Nat) (xs : List Int) (hR : isR r = true) (hn : sizeR r = n) (hx : encL r = xs) (hl : n ≤ 4) :
    TellEnc r w (.returned (.tuple #[.slice (some ⟨w.heap.size, 0, none⟩) n n, .int .i64 0])) (w.alloc (.cells (byteCells xs).toArray 5)) := by
  have hlen : xs.length = n := by rw [← hx, encL_length, hn]
  refine ⟨some ⟨w.heap.size, 0, none⟩, n, ?_, ?_, (Below.refl _ _).alloc (Nat.le_refl _) _⟩
  · rw [if_pos hR, if_pos hR, hn]
  · intro _
    obtain ⟨A, c, h1, h2, _⟩ := madeBytes_lit xs w (by omega)
    rw [hlen] at h1 h2
    cases h1
    rw [hn, hx]
    exact h2
end Go.Proofs.YtbklopnpehafpaaDoor
