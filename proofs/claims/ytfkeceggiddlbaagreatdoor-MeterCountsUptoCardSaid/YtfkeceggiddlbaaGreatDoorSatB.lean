/- The contracts of layer 1 (sat) and of its reference, for texts that have RetI and IntsAt already (made of SatCalls, SatMore, SatSums). Conditions: integer arguments fit int64. -/
import Derived.Test.YtfkeceggiddlbaaGreatDoorSatPlain
import Derived.Test.YtfkeceggiddlbaaGreatDoorCharsRef
import Derived.Test.YtfkeceggiddlbaaGreatDoorInts
import Derived.Test.YtfkeceggiddlbaaGreatDoorShelf
import Derived.WalkKit
import Derived.Outline
import Derived.WalkLawsBesides
import Derived.Lib.Hide
import Derived.Deep.QuietTactic
import Derived.BigQuiet
namespace Go.Proofs.YtfkeceggiddlbaaGreatDoor
open Go.RowKit Go.Proofs.YtfkeceggiddlbaaGreatDoor.SatPlain
theorem hold_any (a : Int) (w : World) : Calls Tryz.prog 38 #[.int .i64 a] w (RetI (holdS a) w) := by
  go_enter Tryz.func38, Tryz.ntmps38
  go_wp2
  all_goals
    go_ret
    exact ⟨ret_int (by unfold holdS; omega), rfl⟩
theorem rhold_any (a : Int) (w : World) : Calls Tryz.prog 37 #[.int .i64 a] w (RetI (holdS a) w) := by
  go_enter Tryz.func37, Tryz.ntmps37
  go_wp2
  all_goals
    go_ret
    exact ⟨ret_int (by unfold holdS; omega), rfl⟩
set_option maxHeartbeats 400000 in
theorem add_any (a b : Int) (w : World) (ha : a ≤ 9223372036854775807) (hb : b ≤ 9223372036854775807) :
    Calls Tryz.prog 27 #[.int .i64 a, .int .i64 b] w (RetI (addS a b) w) := by
  have h1 := holdS_b a ha
  have h2 := holdS_b b hb
  go_enter Tryz.func27, Tryz.ntmps27
  go_wp2_with (go_at_call 38; refine (hold_any _ _).mono ?_; rintro e w' ⟨rfl, rfl⟩)
  all_goals
    go_ret
    exact ⟨ret_int (by unfold addS cap; omega), rfl⟩
set_option maxHeartbeats 400000 in
theorem radd_any (a b : Int) (w : World) (ha : a ≤ 9223372036854775807) (hb : b ≤ 9223372036854775807) :
    Calls Tryz.prog 25 #[.int .i64 a, .int .i64 b] w (RetI (addS a b) w) := by
  have h1 := holdS_b a ha
  have h2 := holdS_b b hb
  go_enter Tryz.func25, Tryz.ntmps25
  go_wp2_with (go_at_call 37; refine (rhold_any _ _).mono ?_; rintro e w' ⟨rfl, rfl⟩)
  all_goals
    go_ret
    exact ⟨ret_int (by unfold addS cap; omega), rfl⟩
/-- The two words of a product, over the integers. -/
theorem mul64_any (x y : Int) (w : World) (hx : 0 ≤ x ∧ x ≤ 9223372036854775807) (hy : 0 ≤ y ∧ y ≤ 9223372036854775807) :
    Calls Tryz.prog 43 #[.int .u64 x, .int .u64 y] w fun e w' => e = .returned (.tuple #[.int .u64 (x * y / 18446744073709551616), .int .u64 (x * y % 18446744073709551616)]) ∧ w = w' := by
  obtain ⟨m, rfl⟩ := Int.eq_ofNat_of_zero_le hx.1
  obtain ⟨n, rfl⟩ := Int.eq_ofNat_of_zero_le hy.1
  refine (Tryz.bits_Mul64 m n (by omega) (by omega) w).mono ?_
  rintro e w' ⟨rfl, rfl⟩
  refine ⟨?_, rfl⟩
  simp
/-- What a product's words are, for the walk. -/
theorem mul_words (x y : Int) (hx : 0 ≤ x) (hy : 0 ≤ y) :
    ∃ h l : Int, x * y / 18446744073709551616 = h ∧ x * y % 18446744073709551616 = l ∧ 0 ≤ h ∧ 0 ≤ l ∧ l ≤ 18446744073709551615 ∧
      (h = 0 → min (x * y) cap = min l cap) ∧ (h ≠ 0 → min (x * y) cap = cap) := by
  have hp := Int.mul_nonneg hx hy
  exact ⟨_, _, rfl, rfl, by omega, by omega, by omega, fun h => by unfold cap; omega, fun h => by unfold cap; omega⟩
theorem mul64_at (x y h l : Int) (w : World) (hx : 0 ≤ x ∧ x ≤ 9223372036854775807) (hy : 0 ≤ y ∧ y ≤ 9223372036854775807)
    (e1 : Hid (x * y / 18446744073709551616 = h)) (e2 : Hid (x * y % 18446744073709551616 = l)) :
    Calls Tryz.prog 43 #[.int .u64 x, .int .u64 y] w fun e w' => e = .returned (.tuple #[.int .u64 h, .int .u64 l]) ∧ w = w' := by
  have a1 := e1.out
  have a2 := e2.out
  subst a1 a2
  exact mul64_any x y w hx hy
set_option maxHeartbeats 400000 in
theorem mul_any (a b : Int) (w : World) (ha : a ≤ 9223372036854775807) (hb : b ≤ 9223372036854775807) :
    Calls Tryz.prog 33 #[.int .i64 a, .int .i64 b] w (RetI (mulS a b) w) := by
  have h1 := holdS_b a ha
  have h2 := holdS_b b hb
  obtain ⟨h, l, e1', e2', p1, p2, p3, q1', q2'⟩ := mul_words (holdS a) (holdS b) h1.1 h2.1
  have e1 := Lib.hid e1'
  have e2 := Lib.hid e2'
  have q1 := Lib.hid q1'
  have q2 := Lib.hid q2'
  clear e1' e2' q1' q2'
  by_cases h0 : h = 0
  · have t0 : (h != 0) = false := by simp [h0]
    have H0 := Lib.hid h0
    clear h0
    go_enter Tryz.func33, Tryz.ntmps33
    go_wp2_with (first | (go_at_call 38; refine (hold_any _ _).mono ?_; rintro e w' ⟨rfl, rfl⟩) | (go_at_call 43; refine (mul64_at _ _ h l _ h1 h2 e1 e2).mono ?_; rintro e w' ⟨rfl, rfl⟩))
    all_goals
      go_ret
      exact ⟨ret_int (by unfold mulS; rw [q1.out H0.out]; unfold cap; omega), rfl⟩
  · have t0 : (h != 0) = true := by simp [h0]
    have H0 := Lib.hid h0
    clear h0
    go_enter Tryz.func33, Tryz.ntmps33
    go_wp2_with (first | (go_at_call 38; refine (hold_any _ _).mono ?_; rintro e w' ⟨rfl, rfl⟩) | (go_at_call 43; refine (mul64_at _ _ h l _ h1 h2 e1 e2).mono ?_; rintro e w' ⟨rfl, rfl⟩))
    all_goals
      go_ret
      exact ⟨ret_int (by unfold mulS; rw [q2.out H0.out]; rfl), rfl⟩
set_option maxHeartbeats 400000 in
theorem rmul_any (a b : Int) (w : World) (ha : a ≤ 9223372036854775807) (hb : b ≤ 9223372036854775807) :
    Calls Tryz.prog 35 #[.int .i64 a, .int .i64 b] w (RetI (mulS a b) w) := by
  have h1 := holdS_b a ha
  have h2 := holdS_b b hb
  go_enter Tryz.func35, Tryz.ntmps35
  go_wp2_with (go_at_call 37; refine (rhold_any _ _).mono ?_; rintro e w' ⟨rfl, rfl⟩)
  go_loop [7, 8] (fun s i => ∃ k : Nat, k ≤ 63 ∧ i = .int .i64 ((k : Int) - 1) ∧ s = .int .i64 (bitS (holdS a) (holdS b) k)) (fun _ i => (intOf i + 1).toNat)
  case atStart => exact ⟨63, by omega, rfl, by rw [bitS_top _ _ h1.1 h1.2]⟩
  case round =>
    obtain ⟨k, hk, rfl, rfl⟩ := hrel
    have hs := bitS_b (holdS a) (holdS b) k h1.1 h2.1
    by_cases hz : 1 ≤ k
    · obtain ⟨m, rfl⟩ : ∃ m, k = m + 1 := ⟨k - 1, by omega⟩
      have hx : 0 ≤ holdS a / 2 ^ m := Int.ediv_nonneg h1.1 (Int.le_of_lt (Int.pow_pos (by omega)))
      have hd := addS_b (bitS (holdS a) (holdS b) (m + 1)) (bitS (holdS a) (holdS b) (m + 1))
      by_cases hb1 : (holdS a / 2 ^ m) % 2 = 1
      · have t1 : ((holdS a / 2 ^ m) % 2 == 1) = true := by simp [hb1]
        have E := Lib.hid (bitS_odd (holdS a) (holdS b) m h1.1 h2.1 hb1)
        clear hb1
        go_wp2_with fail
        refine (radd_any _ _ _ (by omega) (by omega)).mono ?_; rintro e w' ⟨rfl, rfl⟩
        go_wp2_with fail
        refine (radd_any _ _ _ (by omega) (by omega)).mono ?_; rintro e w' ⟨rfl, rfl⟩
        go_wp2
        go_round
        case rel => exact ⟨m, by omega, rfl, by rw [E.out]⟩
        case measure => simp [intOf]
      · have t1 : ((holdS a / 2 ^ m) % 2 == 1) = false := by simp [hb1]
        have E := Lib.hid (bitS_even (holdS a) (holdS b) m h1.1 h2.1 (by omega))
        clear hb1
        go_wp2_with fail
        refine (radd_any _ _ _ (by omega) (by omega)).mono ?_; rintro e w' ⟨rfl, rfl⟩
        go_wp2
        go_round
        case rel => exact ⟨m, by omega, rfl, by rw [E.out]⟩
        case measure => simp [intOf]
    · obtain rfl : k = 0 := by omega
      go_wp2
      go_ret
      exact ⟨ret_int (by rw [bitS_zero]; rfl), rfl⟩

theorem take_succ' {α : Type} {l : List α} {k : Nat} {z : α} (h : l[k]? = some z) : l.take (k + 1) = l.take k ++ [z] := by
  rw [List.take_add_one, h]; rfl
theorem sum_take_succ {zs : List Int} {k : Nat} {z : Int} (h : zs[k]? = some z) : sumS (zs.take (k + 1)) = addS (sumS (zs.take k)) z := by
  rw [take_succ' h, sumS_snoc]
set_option maxHeartbeats 400000 in
theorem sum_any (A : Option Addr) (n c : Nat) (zs : List Int) (w : World) (hn : n ≤ 9223372036854775807) (hr : IntsAt w A n zs) (hbd : ∀ z ∈ zs, -9223372036854775808 ≤ z ∧ z ≤ 9223372036854775807) :
    Calls Tryz.prog 32 #[.slice A n c] w (RetI (sumS zs) w) := by
  have HR := Lib.hid hr
  have HBD := Lib.hid hbd
  clear hr hbd
  go_enter Tryz.func32, Tryz.ntmps32
  go_wp2
  go_loop [3, 5, 8] (fun s _ i => ∃ k : Nat, k ≤ n ∧ i = .int .i64 k ∧ s = .int .i64 (sumS (zs.take k))) (fun _ _ i => n - (intOf i).toNat)
  case atStart => exact ⟨0, by omega, rfl, rfl⟩
  case round =>
    obtain ⟨k, hk, rfl, rfl⟩ := hrel
    by_cases hz : k < n
    · obtain ⟨a, z, rfl, hz1, _, hc⟩ := HR.out.2 k hz
      obtain ⟨hz2, hz3⟩ := HBD.out z (List.mem_of_getElem? hz1)
      have hs := sumS_b (zs.take k)
      have E := Lib.hid (sum_take_succ hz1)
      clear hz1
      go_wp2_with fail
      refine (add_any _ _ _ (by omega) (by omega)).mono ?_; rintro e w' ⟨rfl, rfl⟩
      go_wp2
      go_round
      case rel => exact ⟨k + 1, by omega, by go_num, by rw [E.out]⟩
      case measure => simp [intOf]; omega
    · go_wp2
      go_ret
      exact ⟨ret_int (by rw [List.take_of_length_le (by have := HR.out.1; omega)]), rfl⟩
set_option maxHeartbeats 400000 in
theorem rsum_any (A : Option Addr) (n c : Nat) (zs : List Int) (w : World) (hn : n ≤ 9223372036854775807) (hr : IntsAt w A n zs) (hbd : ∀ z ∈ zs, -9223372036854775808 ≤ z ∧ z ≤ 9223372036854775807) :
    Calls Tryz.prog 34 #[.slice A n c] w (RetI (sumS zs) w) := by
  have HR := Lib.hid hr
  have HBD := Lib.hid hbd
  clear hr hbd
  go_enter Tryz.func34, Tryz.ntmps34
  go_wp2
  go_loop [3, 4] (fun s i => ∃ k : Nat, k ≤ n ∧ i = .int .i64 k ∧ s = .int .i64 (sumS (zs.take k))) (fun _ i => n - (intOf i).toNat)
  case atStart => exact ⟨0, by omega, rfl, rfl⟩
  case round =>
    obtain ⟨k, hk, rfl, rfl⟩ := hrel
    by_cases hz : k < n
    · obtain ⟨a, z, rfl, hz1, _, hc⟩ := HR.out.2 k hz
      obtain ⟨hz2, hz3⟩ := HBD.out z (List.mem_of_getElem? hz1)
      have hs := sumS_b (zs.take k)
      have E := Lib.hid (sum_take_succ hz1)
      clear hz1
      go_wp2_with fail
      refine (radd_any _ _ _ (by omega) (by omega)).mono ?_; rintro e w' ⟨rfl, rfl⟩
      go_wp2
      go_round
      case rel => exact ⟨k + 1, by omega, by go_num, by rw [E.out]⟩
      case measure => simp [intOf]; omega
    · go_wp2
      go_ret
      exact ⟨ret_int (by rw [List.take_of_length_le (by have := HR.out.1; omega)]), rfl⟩
end Go.Proofs.YtfkeceggiddlbaaGreatDoor
