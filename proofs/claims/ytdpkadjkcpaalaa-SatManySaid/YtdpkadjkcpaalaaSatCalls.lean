/- The contracts of the functions of layer 1 (sat) and of its reference, over the plain arithmetic of SatPlain. Conditions: integer arguments fit int64. -/
import Derived.Test.YtdpkadjkcpaalaaSatPlain
import Derived.Test.YtdpkadjkcpaalaaProg
import Derived.Test.YtdpkadjkcpaalaaShelf
import Derived.WalkKit
import Derived.Outline
import Derived.WalkLawsBesides
import Derived.Lib.Hide
namespace Go.Proofs.Ytdpkadjkcpaalaa
open Go.RowKit Go.Proofs.Ytdpkadjkcpaalaa.SatPlain
theorem ret_int {k : IntKind} {a b : Int} (h : a = b) : Ending.returned (.int k a) = .returned (.int k b) := by rw [h]
/-- 'returns the number n, and the world is as it was'. -/
def RetI (n : Int) (w : World) (e : Ending) (w' : World) : Prop := e = .returned (.int .i64 n) ∧ w = w'

theorem hold_any (a : Int) (w : World) : Calls Try.prog 6 #[.int .i64 a] w (RetI (holdS a) w) := by
  go_enter Try.func6, Try.ntmps6
  go_wp2
  all_goals
    go_ret
    exact ⟨ret_int (by unfold holdS; omega), rfl⟩
theorem rhold_any (a : Int) (w : World) : Calls Try.prog 7 #[.int .i64 a] w (RetI (holdS a) w) := by
  go_enter Try.func7, Try.ntmps7
  go_wp2
  all_goals
    go_ret
    exact ⟨ret_int (by unfold holdS; omega), rfl⟩
theorem cap_any (w : World) : Calls Try.prog 20 #[] w (RetI cap w) := by
  go_enter Try.func20, Try.ntmps20
  go_wp2
  go_ret
  exact ⟨rfl, rfl⟩
set_option maxHeartbeats 400000 in
theorem add_any (a b : Int) (w : World) (ha : a ≤ 9223372036854775807) (hb : b ≤ 9223372036854775807) :
    Calls Try.prog 8 #[.int .i64 a, .int .i64 b] w (RetI (addS a b) w) := by
  have h1 := holdS_b a ha
  have h2 := holdS_b b hb
  go_enter Try.func8, Try.ntmps8
  go_wp2_with (go_at_call 6; refine (hold_any _ _).mono ?_; rintro e w' ⟨rfl, rfl⟩)
  all_goals
    go_ret
    exact ⟨ret_int (by unfold addS cap; omega), rfl⟩
set_option maxHeartbeats 400000 in
theorem radd_any (a b : Int) (w : World) (ha : a ≤ 9223372036854775807) (hb : b ≤ 9223372036854775807) :
    Calls Try.prog 9 #[.int .i64 a, .int .i64 b] w (RetI (addS a b) w) := by
  have h1 := holdS_b a ha
  have h2 := holdS_b b hb
  go_enter Try.func9, Try.ntmps9
  go_wp2_with (go_at_call 7; refine (rhold_any _ _).mono ?_; rintro e w' ⟨rfl, rfl⟩)
  all_goals
    go_ret
    exact ⟨ret_int (by unfold addS cap; omega), rfl⟩
set_option maxHeartbeats 400000 in
theorem sub_any (a b : Int) (w : World) (ha : a ≤ 9223372036854775807) (hb : b ≤ 9223372036854775807) :
    Calls Try.prog 10 #[.int .i64 a, .int .i64 b] w (RetI (subS a b) w) := by
  have h1 := holdS_b a ha
  have h2 := holdS_b b hb
  go_enter Try.func10, Try.ntmps10
  go_wp2_with (go_at_call 6; refine (hold_any _ _).mono ?_; rintro e w' ⟨rfl, rfl⟩)
  all_goals
    go_ret
    exact ⟨ret_int (by unfold subS; omega), rfl⟩
set_option maxHeartbeats 400000 in
theorem rsub_any (a b : Int) (w : World) (ha : a ≤ 9223372036854775807) (hb : b ≤ 9223372036854775807) :
    Calls Try.prog 11 #[.int .i64 a, .int .i64 b] w (RetI (subS a b) w) := by
  have h1 := holdS_b a ha
  have h2 := holdS_b b hb
  go_enter Try.func11, Try.ntmps11
  go_wp2_with (go_at_call 7; refine (rhold_any _ _).mono ?_; rintro e w' ⟨rfl, rfl⟩)
  all_goals
    go_ret
    exact ⟨ret_int (by unfold subS; unfold holdS at *; omega), rfl⟩
/-- The two words of a product, over the integers. -/
theorem mul64_any (x y : Int) (w : World) (hx : 0 ≤ x ∧ x ≤ 9223372036854775807) (hy : 0 ≤ y ∧ y ≤ 9223372036854775807) :
    Calls Try.prog 19 #[.int .u64 x, .int .u64 y] w fun e w' => e = .returned (.tuple #[.int .u64 (x * y / 18446744073709551616), .int .u64 (x * y % 18446744073709551616)]) ∧ w = w' := by
  obtain ⟨m, rfl⟩ := Int.eq_ofNat_of_zero_le hx.1
  obtain ⟨n, rfl⟩ := Int.eq_ofNat_of_zero_le hy.1
  refine (Try.bits_Mul64 m n (by omega) (by omega) w).mono ?_
  rintro e w' ⟨rfl, rfl⟩
  refine ⟨?_, rfl⟩
  simp
/-- What a product's words are, for the walk. -/
theorem mul_words (x y : Int) (hx : 0 ≤ x) (hy : 0 ≤ y) :
    ∃ h l : Int, x * y / 18446744073709551616 = h ∧ x * y % 18446744073709551616 = l ∧ 0 ≤ h ∧ 0 ≤ l ∧ l ≤ 18446744073709551615 ∧
      (h = 0 → min (x * y) cap = min l cap) ∧ (h ≠ 0 → min (x * y) cap = cap) := by
  have hp := Int.mul_nonneg hx hy
  exact ⟨_, _, rfl, rfl, by omega, by omega, by omega, fun h => by unfold cap; omega, fun h => by unfold cap; omega⟩
theorem mul64_at (x y h l : Int) (w : World) (hx : 0 ≤ x ∧ x ≤ 9223372036854775807) (hy : 0 ≤ y ∧ y ≤ 9223372036854775807)
    (e1 : Hid (x * y / 18446744073709551616 = h)) (e2 : Hid (x * y % 18446744073709551616 = l)) :
    Calls Try.prog 19 #[.int .u64 x, .int .u64 y] w fun e w' => e = .returned (.tuple #[.int .u64 h, .int .u64 l]) ∧ w = w' := by
  have a1 := e1.out
  have a2 := e2.out
  subst a1 a2
  exact mul64_any x y w hx hy
set_option maxHeartbeats 400000 in
theorem mul_any (a b : Int) (w : World) (ha : a ≤ 9223372036854775807) (hb : b ≤ 9223372036854775807) :
    Calls Try.prog 12 #[.int .i64 a, .int .i64 b] w (RetI (mulS a b) w) := by
  have h1 := holdS_b a ha
  have h2 := holdS_b b hb
  obtain ⟨h, l, e1', e2', p1, p2, p3, q1', q2'⟩ := mul_words (holdS a) (holdS b) h1.1 h2.1
  have e1 := Lib.hid e1'
  have e2 := Lib.hid e2'
  have q1 := Lib.hid q1'
  have q2 := Lib.hid q2'
  clear e1' e2' q1' q2'
  by_cases h0 : h = 0
  · have t0 : (h != 0) = false := by simp [h0]
    have H0 := Lib.hid h0
    clear h0
    go_enter Try.func12, Try.ntmps12
    go_wp2_with (first | (go_at_call 6; refine (hold_any _ _).mono ?_; rintro e w' ⟨rfl, rfl⟩) | (go_at_call 19; refine (mul64_at _ _ h l _ h1 h2 e1 e2).mono ?_; rintro e w' ⟨rfl, rfl⟩))
    all_goals
      go_ret
      exact ⟨ret_int (by unfold mulS; rw [q1.out H0.out]; unfold cap; omega), rfl⟩
  · have t0 : (h != 0) = true := by simp [h0]
    have H0 := Lib.hid h0
    clear h0
    go_enter Try.func12, Try.ntmps12
    go_wp2_with (first | (go_at_call 6; refine (hold_any _ _).mono ?_; rintro e w' ⟨rfl, rfl⟩) | (go_at_call 19; refine (mul64_at _ _ h l _ h1 h2 e1 e2).mono ?_; rintro e w' ⟨rfl, rfl⟩))
    all_goals
      go_ret
      exact ⟨ret_int (by unfold mulS; rw [q2.out H0.out]; rfl), rfl⟩
end Go.Proofs.Ytdpkadjkcpaalaa
