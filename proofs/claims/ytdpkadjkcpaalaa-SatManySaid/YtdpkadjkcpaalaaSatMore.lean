/- The contracts of layer 1 (sat) that loop: the reference's product, both powers. Conditions: integer arguments fit int64. -/
import Derived.Test.YtdpkadjkcpaalaaSatCalls
namespace Go.Proofs.Ytdpkadjkcpaalaa
open Go.RowKit Go.Proofs.Ytdpkadjkcpaalaa.SatPlain
set_option maxHeartbeats 400000 in
theorem rmul_any (a b : Int) (w : World) (ha : a ≤ 9223372036854775807) (hb : b ≤ 9223372036854775807) :
    Calls Try.prog 13 #[.int .i64 a, .int .i64 b] w (RetI (mulS a b) w) := by
  have h1 := holdS_b a ha
  have h2 := holdS_b b hb
  go_enter Try.func13, Try.ntmps13
  go_wp2_with (go_at_call 7; refine (rhold_any _ _).mono ?_; rintro e w' ⟨rfl, rfl⟩)
  go_loop [7, 8] (fun s i => ∃ k : Nat, k ≤ 63 ∧ i = .int .i64 ((k : Int) - 1) ∧ s = .int .i64 (bitS (holdS a) (holdS b) k)) (fun _ i => (intOf i + 1).toNat)
  case atStart => exact ⟨63, by omega, rfl, by rw [bitS_top _ _ h1.1 h1.2]⟩
  case round =>
    obtain ⟨k, hk, rfl, rfl⟩ := hrel
    have hs := bitS_b (holdS a) (holdS b) k h1.1 h2.1
    by_cases hz : 1 ≤ k
    · obtain ⟨m, rfl⟩ : ∃ m, k = m + 1 := ⟨k - 1, by omega⟩
      have hx : 0 ≤ holdS a / 2 ^ m := Int.ediv_nonneg h1.1 (Int.le_of_lt (Int.pow_pos (by omega)))
      have hd := addS_b (bitS (holdS a) (holdS b) (m + 1)) (bitS (holdS a) (holdS b) (m + 1))
      by_cases hb1 : (holdS a / 2 ^ m) % 2 = 1
      · have t1 : ((holdS a / 2 ^ m) % 2 == 1) = true := by simp [hb1]
        have E := Lib.hid (bitS_odd (holdS a) (holdS b) m h1.1 h2.1 hb1)
        clear hb1
        go_wp2_with fail
        refine (radd_any _ _ _ (by omega) (by omega)).mono ?_; rintro e w' ⟨rfl, rfl⟩
        go_wp2_with fail
        refine (radd_any _ _ _ (by omega) (by omega)).mono ?_; rintro e w' ⟨rfl, rfl⟩
        go_wp2
        go_round
        case rel => exact ⟨m, by omega, rfl, by rw [E.out]⟩
        case measure => simp [intOf]
      · have t1 : ((holdS a / 2 ^ m) % 2 == 1) = false := by simp [hb1]
        have E := Lib.hid (bitS_even (holdS a) (holdS b) m h1.1 h2.1 (by omega))
        clear hb1
        go_wp2_with fail
        refine (radd_any _ _ _ (by omega) (by omega)).mono ?_; rintro e w' ⟨rfl, rfl⟩
        go_wp2
        go_round
        case rel => exact ⟨m, by omega, rfl, by rw [E.out]⟩
        case measure => simp [intOf]
    · obtain rfl : k = 0 := by omega
      go_wp2
      go_ret
      exact ⟨ret_int (by rw [bitS_zero]; rfl), rfl⟩

set_option maxHeartbeats 400000 in
theorem pow_any (a n : Int) (w : World) (ha : a ≤ 9223372036854775807) (hn : n ≤ 9223372036854775807) :
    Calls Try.prog 17 #[.int .i64 a, .int .i64 n] w (RetI (powS a (holdS n).toNat) w) := by
  have h2 := holdS_b n hn
  go_enter Try.func17, Try.ntmps17
  go_wp2_with (go_at_call 6; refine (hold_any _ _).mono ?_; rintro e w' ⟨rfl, rfl⟩)
  go_loop [0, 1, 5] (fun x m o => ∃ (a' : Int) (k : Nat) (o' : Int), a' ≤ 9223372036854775807 ∧ k ≤ 9223372036854775807 ∧ 0 ≤ o' ∧ o' ≤ 9223372036854775807 ∧ x = .int .i64 a' ∧ m = .int .i64 k ∧ o = .int .i64 o' ∧ Hid (mulS o' (powS a' k) = powS a (holdS n).toNat)) (fun _ m _ => (intOf m).toNat)
  case atStart =>
    refine ⟨a, (holdS n).toNat, 1, ha, by omega, by omega, by omega, rfl, ?_, rfl, ?_⟩
    · rw [Int.toNat_of_nonneg h2.1]
    · exact mulS_one _ (powS_b _ _).1 (powS_b _ _).2
  case round =>
    obtain ⟨a', k, o', ha', hk, ho1, ho2, rfl, rfl, rfl, HE⟩ := hrel
    by_cases hz : k = 0
    · subst hz
      go_wp2
      go_ret
      refine ⟨ret_int ?_, rfl⟩
      rw [← HE.out, powS_zero, mulS_comm, mulS_one _ ho1 ho2]
    · by_cases hp : k % 2 = 1
      · have t1 : (((k : Int)) % 2 == 1) = true := by rw [beq_iff_eq]; omega
        have hm := mulS_b a' a'
        have hm2 := mulS_b o' a'
        have E : Hid (mulS (mulS o' a') (powS (mulS a' a') (k / 2)) = powS a (holdS n).toNat) := by
          show _ = _
          rw [← sq_odd, show 2 * (k / 2) + 1 = k from by omega]; exact HE.out
        have hk2 : 1 ≤ k := by omega
        clear HE hp hz
        go_wp2_with fail
        refine (mul_any _ _ _ (by omega) (by omega)).mono ?_; rintro e w' ⟨rfl, rfl⟩
        go_wp2_with fail
        refine (mul_any _ _ _ (by omega) (by omega)).mono ?_; rintro e w' ⟨rfl, rfl⟩
        go_wp2
        go_round
        case rel => exact ⟨_, k / 2, _, hm.2, by omega, hm2.1, hm2.2, rfl, by simp, rfl, E⟩
        case measure => simp [intOf]; omega
      · have t1 : (((k : Int)) % 2 == 1) = false := by rw [beq_eq_false_iff_ne]; omega
        have hm := mulS_b a' a'
        have E : Hid (mulS o' (powS (mulS a' a') (k / 2)) = powS a (holdS n).toNat) := by
          show _ = _
          rw [← sq_even, show 2 * (k / 2) = k from by omega]; exact HE.out
        have hk2 : 1 ≤ k := by omega
        clear HE hp hz
        go_wp2_with fail
        refine (mul_any _ _ _ (by omega) (by omega)).mono ?_; rintro e w' ⟨rfl, rfl⟩
        go_wp2
        go_round
        case rel => exact ⟨_, k / 2, _, hm.2, by omega, ho1, ho2, rfl, by simp, rfl, E⟩
        case measure => simp [intOf]; omega

set_option maxHeartbeats 400000 in
theorem rpow_any (a n : Int) (w : World) (ha : a ≤ 9223372036854775807) (hn : n ≤ 9223372036854775807) :
    Calls Try.prog 18 #[.int .i64 a, .int .i64 n] w (RetI (powS a (holdS n).toNat) w) := by
  have h2 := holdS_b n hn
  have h3 : (holdS n).toNat = n.toNat := by unfold holdS; omega
  rw [h3]
  clear h3
  go_enter Try.func18, Try.ntmps18
  go_wp2
  go_loop [5, 6] (fun s i => ∃ k : Nat, k ≤ n.toNat ∧ i = .int .i64 k ∧ s = .int .i64 (powS a k)) (fun _ i => n.toNat - (intOf i).toNat)
  case atStart => exact ⟨0, by omega, rfl, rfl⟩
  case round =>
    obtain ⟨k, hk, rfl, rfl⟩ := hrel
    have hp := powS_b a k
    have hq := powS_b a (k + 1)
    by_cases hz : (k : Int) < n
    · by_cases hs : mulS (powS a k) a = powS a k
      · have t1 : (mulS (powS a k) a == powS a k) = true := by simp [hs]
        have E := Lib.hid (powS_stop a k hs (n.toNat - k))
        clear hs
        go_wp2_with fail
        refine (rmul_any _ _ _ (by omega) (by omega)).mono ?_; rintro e w' ⟨rfl, rfl⟩
        go_wp2
        go_ret
        exact ⟨ret_int (by rw [← E.out, show k + (n.toNat - k) = n.toNat from by omega]), rfl⟩
      · have t1 : (mulS (powS a k) a == powS a k) = false := by simp [hs]
        have E := Lib.hid (powS_succ a k)
        clear hs
        go_wp2_with fail
        refine (rmul_any _ _ _ (by omega) (by omega)).mono ?_; rintro e w' ⟨rfl, rfl⟩
        go_wp2
        go_round
        case rel => exact ⟨k + 1, by omega, by go_num, by rw [E.out]⟩
        case measure => simp [intOf]; omega
    · go_wp2
      go_ret
      exact ⟨ret_int (by rw [show n.toNat = k from by omega]), rfl⟩
end Go.Proofs.Ytdpkadjkcpaalaa
