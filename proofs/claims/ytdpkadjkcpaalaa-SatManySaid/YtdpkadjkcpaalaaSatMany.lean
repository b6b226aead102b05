/- The walk of the law SatMany: it returns true for any slice of int64 values and any two numbers. -/
import Derived.Test.YtdpkadjkcpaalaaSatSums
namespace Go.Proofs.Ytdpkadjkcpaalaa
open Go.RowKit Go.Proofs.Ytdpkadjkcpaalaa.SatPlain
set_option maxHeartbeats 400000 in
theorem many_any (A : Option Addr) (len c : Nat) (zs : List Int) (a n : Int) (w : World) (hlen : len ≤ c) (hcm : c ≤ 9223372036854775807) (hr : IntsAt w A len zs)
    (ha : a ≤ 9223372036854775807) (hn : n ≤ 9223372036854775807) :
    Calls Try.prog 5 #[.slice A len c, .int .i64 a, .int .i64 n] w fun e w' => e = .returned (.bool true) ∧ ∃ m, w' = w.drewN m := by
  have HR := Lib.hid hr
  clear hr
  by_cases h100 : 100 < len
  · go_enter Try.func5, Try.ntmps5
    go_wp2_with fail
    refine (live_any _).mono ?_; rintro e w' ⟨rfl, rfl⟩
    go_wp2_with fail
    go_ret
    exact ⟨rfl, 0, rfl⟩
  · go_enter Try.func5, Try.ntmps5
    go_wp2
    go_loopw [7] (fun i wr => (∃ k : Nat, k ≤ len + 1 ∧ i = .int .i64 k) ∧ ∃ m, wr = w.drewN m) (fun i _ => len + 1 - (intOf i).toNat)
    case atStart => exact ⟨⟨0, by omega, rfl⟩, 0, rfl⟩
    case round =>
      obtain ⟨⟨k, hk, rfl⟩, m, rfl⟩ := hrel
      by_cases hz : k ≤ len
      · have t1 : (addS (sumS (zs.take k)) (sumS (zs.drop k)) != sumS zs) = false := by rw [← sumS_append, List.take_append_drop]; simp
        have b1 := sumS_b (zs.take k)
        have b2 := sumS_b (zs.drop k)
        have i1 : (k : Int) ≤ (len : Int) := by omega
        have i2 : (k : Int) ≤ (c : Int) := by omega
        have i3 : (len : Int) ≤ (c : Int) := by omega
        have i4 : (0 : Int) ≤ (k : Int) := by omega
        go_wp2_with fail
        go_quiet ((first | (go_at_call 15; exact quietI (sum_any _ _ _ _ _ (by omega) ((HR.out.take hz).drewN _))) | (go_at_call 15; exact quietI (sum_any _ _ _ _ _ (by omega) ((HR.out.drop hz hlen).drewN _))) | (go_at_call 16; exact quietI (rsum_any _ _ _ _ _ (by omega) (HR.out.drewN _))) | (go_at_call 8; exact quietI (add_any _ _ _ (by omega) (by omega)))))
        go_wp2
        go_roundw
        case rel => exact ⟨⟨k + 1, by omega, by go_num⟩, _, rfl⟩
        case measure => simp [intOf]; omega
      · have hk2 : k = len + 1 := by omega
        subst hk2
        have t1 : (sumS zs == sumS zs) = true := by simp
        have t2 : (powS a (holdS n).toNat == powS a (holdS n).toNat) = true := by simp
        go_wp2_with fail
        refine (sum_any _ _ _ zs _ (by omega) (HR.out.drewN _)).mono ?_; rintro e w' ⟨rfl, rfl⟩
        go_wp2_with fail
        refine (rsum_any _ _ _ zs _ (by omega) (HR.out.drewN _)).mono ?_; rintro e w' ⟨rfl, rfl⟩
        go_wp2_with fail
        refine (pow_any _ _ _ ha hn).mono ?_; rintro e w' ⟨rfl, rfl⟩
        go_wp2_with fail
        refine (rpow_any _ _ _ ha hn).mono ?_; rintro e w' ⟨rfl, rfl⟩
        go_wp2_with fail
        refine (live_any _).mono ?_; rintro e w' ⟨rfl, rfl⟩
        go_wp2_with fail
        go_ret
        exact ⟨rfl, _, rfl⟩
end Go.Proofs.Ytdpkadjkcpaalaa
