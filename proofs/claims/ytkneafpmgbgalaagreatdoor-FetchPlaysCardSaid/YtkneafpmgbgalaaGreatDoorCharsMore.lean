/- The contracts of chars.Pubid, Digit, Classes. Conditions: the three tables hold what the text gives them. -/
import Derived.Test.YtkneafpmgbgalaaGreatDoorCharsCalls
namespace Go.Proofs.YtkneafpmgbgalaaGreatDoor
open Go.RowKit Go.Shelf Go.Proofs.YtkneafpmgbgalaaGreatDoor.CharsPlain
theorem sign_index (r : Int) (h1 : 32 < r) (h2 : r < 128) : decide (0 ≤ Lib.indexByte signBytes.data.toList r.toNat.toUInt8) = isSign r := by
  have h : ∀ k : Fin 128, decide (0 ≤ Lib.indexByte signBytes.data.toList k.val.toUInt8) = isSign (k.val : Int) := by decide +kernel
  have := h ⟨r.toNat, by omega⟩
  simp only [] at this
  rw [this, Int.toNat_of_nonneg (by omega)]
set_option maxHeartbeats 1000000 in
theorem digit_any (r b : Int) (w : World) : Calls Tryz.prog 86 #[.int .i64 r, .int .i64 b] w (RetI (digit r b) w) := by
  by_cases hb : b = 10 ∨ b = 16
  · have B := Lib.hid hb
    have hb1 : 10 ≤ b := by omega
    have hb2 : b ≤ 16 := by omega
    have hd : ((b != 10) = false) ∨ ((b != 10) = true ∧ (b != 16) = false) := by rcases hb with rfl | rfl <;> simp
    clear hb
    have hr : r < 48 ∨ (48 ≤ r ∧ r ≤ 57) ∨ (57 < r ∧ r < 65) ∨ (65 ≤ r ∧ r ≤ 70) ∨ (70 < r ∧ r < 97) ∨ (97 ≤ r ∧ r ≤ 102) ∨ 102 < r := by omega
    rcases hd with t1 | ⟨t1, t2⟩
    all_goals
      rcases hr with h1 | ⟨h1, h2⟩ | ⟨h1, h2⟩ | ⟨h1, h2⟩ | ⟨h1, h2⟩ | ⟨h1, h2⟩ | h1
      all_goals
        (try have q1 : decide (r ≤ 57) = false := by simp; omega)
        (try have q2 : decide (r ≤ 70) = false := by simp; omega)
        (try have q3 : decide (r ≤ 102) = false := by simp; omega)
        go_enter Tryz.func86, Tryz.ntmps86
        go_wp2
        all_goals
          go_ret
          exact ⟨ret_int (by have := B.out; unfold digit; omega), rfl⟩
  · have t1 : (b != 10) = true := by simp; omega
    have t2 : (b != 16) = true := by simp; omega
    have e : digit r b = -1 := by unfold digit; rw [if_neg hb]
    rw [e]
    clear hb e
    go_enter Tryz.func86, Tryz.ntmps86
    go_wp2
    all_goals
      go_ret
      exact ⟨rfl, rfl⟩
end Go.Proofs.YtkneafpmgbgalaaGreatDoor
