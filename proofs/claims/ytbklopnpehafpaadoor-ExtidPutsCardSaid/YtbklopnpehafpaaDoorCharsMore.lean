/- The contracts of chars.Pubid, Digit, Classes. Conditions: the three tables hold what the text gives them. -/
import Derived.Test.YtbklopnpehafpaaDoorCharsCalls
namespace Go.Proofs.YtbklopnpehafpaaDoor
open Go.RowKit Go.Shelf Go.Proofs.YtbklopnpehafpaaDoor.CharsPlain
theorem sign_index (r : Int) (h1 : 32 < r) (h2 : r < 128) : decide (0 ≤ Lib.indexByte signBytes.data.toList r.toNat.toUInt8) = isSign r := by
  have h : ∀ k : Fin 128, decide (0 ≤ Lib.indexByte signBytes.data.toList k.val.toUInt8) = isSign (k.val : Int) := by decide +kernel
  have := h ⟨r.toNat, by omega⟩
  simp only [] at this
  rw [this, Int.toNat_of_nonneg (by omega)]
set_option maxHeartbeats 1000000 in
theorem pubid_any (r : Int) (w : World) : Calls Tryd.prog 21 #[.int .i64 r] w (RetB (isPubid r) w) := by
  cases hs : isLetter r with
  | true =>
    have e : isPubid r = true := by simp [isPubid, hs]
    have HS := Lib.hid hs
    rw [e]
    clear hs e
    go_enter Tryd.func21, Tryd.ntmps21
    go_wp2_with fail
    refine (letter_any _ _).mono ?_; rintro e w' ⟨rfl, rfl⟩
    rw [HS.out]
    go_wp2
    go_ret
    exact ⟨rfl, rfl⟩
  | false =>
    have HS := Lib.hid hs
    have hn : r = 32 ∨ r = 13 ∨ r = 10 ∨ (32 < r ∧ r < 128) ∨ (r < 32 ∧ r ≠ 13 ∧ r ≠ 10) ∨ 128 ≤ r := by omega
    clear hs
    rcases hn with rfl | rfl | rfl | ⟨h1, h2⟩ | ⟨h1, h2, h3⟩ | h1
    · go_enter Tryd.func21, Tryd.ntmps21
      go_wp2_with fail
      refine (letter_any _ _).mono ?_; rintro e w' ⟨rfl, rfl⟩
      rw [HS.out]
      go_wp2
      go_ret
      exact ⟨rfl, rfl⟩
    · go_enter Tryd.func21, Tryd.ntmps21
      go_wp2_with fail
      refine (letter_any _ _).mono ?_; rintro e w' ⟨rfl, rfl⟩
      rw [HS.out]
      go_wp2
      go_ret
      exact ⟨rfl, rfl⟩
    · go_enter Tryd.func21, Tryd.ntmps21
      go_wp2_with fail
      refine (letter_any _ _).mono ?_; rintro e w' ⟨rfl, rfl⟩
      rw [HS.out]
      go_wp2
      go_ret
      exact ⟨rfl, rfl⟩
    · have e : isPubid r = isSign r := by simp [isPubid, HS.out]; omega
      have hsi := sign_index r h1 h2
      have E := Lib.hid hsi
      rw [e]
      clear e hsi
      have t1 : (r == 32) = false := by simp; omega
      have t2 : (r == 13) = false := by simp; omega
      have t3 : (r == 10) = false := by simp; omega
      have t4 : decide (32 < r) = true := by simp; omega
      have t5 : decide (r < 128) = true := by simp; omega
      go_enter Tryd.func21, Tryd.ntmps21
      go_wp2_with fail
      refine (letter_any _ _).mono ?_; rintro e w' ⟨rfl, rfl⟩
      rw [HS.out]
      go_wp2_with fail
      refine (Tryd.strings_IndexByte signBytes r w).mono ?_; rintro e w' ⟨rfl, rfl⟩
      generalize Lib.indexByte signBytes.data.toList r.toNat.toUInt8 = q at E
      go_wp2
      all_goals
        go_ret
        exact ⟨ret_bool E.out, rfl⟩
    · have e : isPubid r = false := by
        rw [Bool.eq_false_iff]; intro h
        simp only [isPubid, HS.out, Bool.or_eq_true, decide_eq_true_eq] at h
        rcases h with (h | h) | h
        · cases h
        · omega
        · have := sign_lt r h; omega
      rw [e]
      clear e
      have t1 : (r == 32) = false := by simp; omega
      have t2 : (r == 13) = false := by simp; omega
      have t3 : (r == 10) = false := by simp; omega
      have t4 : decide (32 < r) = false := by simp; omega
      go_enter Tryd.func21, Tryd.ntmps21
      go_wp2_with fail
      refine (letter_any _ _).mono ?_; rintro e w' ⟨rfl, rfl⟩
      rw [HS.out]
      go_wp2
      go_ret
      exact ⟨rfl, rfl⟩
    · have e : isPubid r = false := by
        rw [Bool.eq_false_iff]; intro h
        simp only [isPubid, HS.out, Bool.or_eq_true, decide_eq_true_eq] at h
        rcases h with (h | h) | h
        · cases h
        · omega
        · have := sign_lt r h; omega
      rw [e]
      clear e
      have t1 : (r == 32) = false := by simp; omega
      have t2 : (r == 13) = false := by simp; omega
      have t3 : (r == 10) = false := by simp; omega
      have t4 : decide (32 < r) = true := by simp; omega
      have t5 : decide (r < 128) = false := by simp; omega
      go_enter Tryd.func21, Tryd.ntmps21
      go_wp2_with fail
      refine (letter_any _ _).mono ?_; rintro e w' ⟨rfl, rfl⟩
      rw [HS.out]
      go_wp2
      go_ret
      exact ⟨rfl, rfl⟩
end Go.Proofs.YtbklopnpehafpaaDoor
