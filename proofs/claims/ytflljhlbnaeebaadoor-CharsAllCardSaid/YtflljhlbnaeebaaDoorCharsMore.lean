/- The contracts of chars.Pubid, Digit, Classes. Conditions: the three tables hold what the text gives them. -/
import Derived.Test.YtflljhlbnaeebaaDoorCharsCalls
namespace Go.Proofs.YtflljhlbnaeebaaDoor
open Go.RowKit Go.Shelf Go.Proofs.YtflljhlbnaeebaaDoor.CharsPlain
theorem sign_index (r : Int) (h1 : 32 < r) (h2 : r < 128) : decide (0 ≤ Lib.indexByte signBytes.data.toList r.toNat.toUInt8) = isSign r := by
  have h : ∀ k : Fin 128, decide (0 ≤ Lib.indexByte signBytes.data.toList k.val.toUInt8) = isSign (k.val : Int) := by decide +kernel
  have := h ⟨r.toNat, by omega⟩
  simp only [] at this
  rw [this, Int.toNat_of_nonneg (by omega)]
set_option maxHeartbeats 1000000 in
theorem pubid_any (r : Int) (w : World) : Calls Tryd.prog 28 #[.int .i64 r] w (RetB (isPubid r) w) := by
  cases hs : isLetter r with
  | true =>
    have e : isPubid r = true := by simp [isPubid, hs]
    have HS := Lib.hid hs
    rw [e]
    clear hs e
    go_enter Tryd.func28, Tryd.ntmps28
    go_wp2_with fail
    refine (letter_any _ _).mono ?_; rintro e w' ⟨rfl, rfl⟩
    rw [HS.out]
    go_wp2
    go_ret
    exact ⟨rfl, rfl⟩
  | false =>
    have HS := Lib.hid hs
    have hn : r = 32 ∨ r = 13 ∨ r = 10 ∨ (32 < r ∧ r < 128) ∨ (r < 32 ∧ r ≠ 13 ∧ r ≠ 10) ∨ 128 ≤ r := by omega
    clear hs
    rcases hn with rfl | rfl | rfl | ⟨h1, h2⟩ | ⟨h1, h2, h3⟩ | h1
    · go_enter Tryd.func28, Tryd.ntmps28
      go_wp2_with fail
      refine (letter_any _ _).mono ?_; rintro e w' ⟨rfl, rfl⟩
      rw [HS.out]
      go_wp2
      go_ret
      exact ⟨rfl, rfl⟩
    · go_enter Tryd.func28, Tryd.ntmps28
      go_wp2_with fail
      refine (letter_any _ _).mono ?_; rintro e w' ⟨rfl, rfl⟩
      rw [HS.out]
      go_wp2
      go_ret
      exact ⟨rfl, rfl⟩
    · go_enter Tryd.func28, Tryd.ntmps28
      go_wp2_with fail
      refine (letter_any _ _).mono ?_; rintro e w' ⟨rfl, rfl⟩
      rw [HS.out]
      go_wp2
      go_ret
      exact ⟨rfl, rfl⟩
    · have e : isPubid r = isSign r := by simp [isPubid, HS.out]; omega
      have hsi := sign_index r h1 h2
      have E := Lib.hid hsi
      rw [e]
      clear e hsi
      have t1 : (r == 32) = false := by simp; omega
      have t2 : (r == 13) = false := by simp; omega
      have t3 : (r == 10) = false := by simp; omega
      have t4 : decide (32 < r) = true := by simp; omega
      have t5 : decide (r < 128) = true := by simp; omega
      go_enter Tryd.func28, Tryd.ntmps28
      go_wp2_with fail
      refine (letter_any _ _).mono ?_; rintro e w' ⟨rfl, rfl⟩
      rw [HS.out]
      go_wp2_with fail
      refine (Tryd.strings_IndexByte signBytes r w).mono ?_; rintro e w' ⟨rfl, rfl⟩
      generalize Lib.indexByte signBytes.data.toList r.toNat.toUInt8 = q at E
      go_wp2
      all_goals
        go_ret
        exact ⟨ret_bool E.out, rfl⟩
    · have e : isPubid r = false := by
        rw [Bool.eq_false_iff]; intro h
        simp only [isPubid, HS.out, Bool.or_eq_true, decide_eq_true_eq] at h
        rcases h with (h | h) | h
        · cases h
        · omega
        · have := sign_lt r h; omega
      rw [e]
      clear e
      have t1 : (r == 32) = false := by simp; omega
      have t2 : (r == 13) = false := by simp; omega
      have t3 : (r == 10) = false := by simp; omega
      have t4 : decide (32 < r) = false := by simp; omega
      go_enter Tryd.func28, Tryd.ntmps28
      go_wp2_with fail
      refine (letter_any _ _).mono ?_; rintro e w' ⟨rfl, rfl⟩
      rw [HS.out]
      go_wp2
      go_ret
      exact ⟨rfl, rfl⟩
    · have e : isPubid r = false := by
        rw [Bool.eq_false_iff]; intro h
        simp only [isPubid, HS.out, Bool.or_eq_true, decide_eq_true_eq] at h
        rcases h with (h | h) | h
        · cases h
        · omega
        · have := sign_lt r h; omega
      rw [e]
      clear e
      have t1 : (r == 32) = false := by simp; omega
      have t2 : (r == 13) = false := by simp; omega
      have t3 : (r == 10) = false := by simp; omega
      have t4 : decide (32 < r) = true := by simp; omega
      have t5 : decide (r < 128) = false := by simp; omega
      go_enter Tryd.func28, Tryd.ntmps28
      go_wp2_with fail
      refine (letter_any _ _).mono ?_; rintro e w' ⟨rfl, rfl⟩
      rw [HS.out]
      go_wp2
      go_ret
      exact ⟨rfl, rfl⟩
set_option maxHeartbeats 1000000 in
theorem digit_any (r b : Int) (w : World) : Calls Tryd.prog 32 #[.int .i64 r, .int .i64 b] w (RetI (digit r b) w) := by
  by_cases hb : b = 10 ∨ b = 16
  · have B := Lib.hid hb
    have hb1 : 10 ≤ b := by omega
    have hb2 : b ≤ 16 := by omega
    have hd : ((b != 10) = false) ∨ ((b != 10) = true ∧ (b != 16) = false) := by rcases hb with rfl | rfl <;> simp
    clear hb
    have hr : r < 48 ∨ (48 ≤ r ∧ r ≤ 57) ∨ (57 < r ∧ r < 65) ∨ (65 ≤ r ∧ r ≤ 70) ∨ (70 < r ∧ r < 97) ∨ (97 ≤ r ∧ r ≤ 102) ∨ 102 < r := by omega
    rcases hd with t1 | ⟨t1, t2⟩
    all_goals
      rcases hr with h1 | ⟨h1, h2⟩ | ⟨h1, h2⟩ | ⟨h1, h2⟩ | ⟨h1, h2⟩ | ⟨h1, h2⟩ | h1
      all_goals
        (try have q1 : decide (r ≤ 57) = false := by simp; omega)
        (try have q2 : decide (r ≤ 70) = false := by simp; omega)
        (try have q3 : decide (r ≤ 102) = false := by simp; omega)
        go_enter Tryd.func32, Tryd.ntmps32
        go_wp2
        all_goals
          go_ret
          exact ⟨ret_int (by have := B.out; unfold digit; omega), rfl⟩
  · have t1 : (b != 10) = true := by simp; omega
    have t2 : (b != 16) = true := by simp; omega
    have e : digit r b = -1 := by unfold digit; rw [if_neg hb]
    rw [e]
    clear hb e
    go_enter Tryd.func32, Tryd.ntmps32
    go_wp2
    all_goals
      go_ret
      exact ⟨rfl, rfl⟩
end Go.Proofs.YtflljhlbnaeebaaDoor
